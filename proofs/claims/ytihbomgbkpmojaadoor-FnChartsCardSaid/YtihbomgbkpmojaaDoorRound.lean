/- A chart's text is read back as the chart: the plain law. -/
import Derived.Test.YtihbomgbkpmojaaDoorProg
import Derived.Test.YtihbomgbkpmojaaDoorKit
import Derived.Test.YtihbomgbkpmojaaDoorCharts
import Derived.Test.YtihbomgbkpmojaaDoorDec
import Derived.Test.YtihbomgbkpmojaaDoorNum
import Derived.Test.YtihbomgbkpmojaaDoorText
import Derived.Test.YtihbomgbkpmojaaDoorRC
import Derived.Test.YtihbomgbkpmojaaDoorRC2
namespace Go.Proofs.YtihbomgbkpmojaaDoor
open Go.RowKit Go.WideShapes Go.ChangeShapes Go.Joins Go.Deep Go.Sort
set_option linter.unusedVariables false
set_option linter.unusedSimpArgs false
theorem val_dec (u : Nat) : valL 0 (Lib.decDigits u) = u := by
  induction u using Nat.strongRecOn with
  | _ u ih =>
    by_cases h : u < 10
    · rw [Lib.decDigits_one h, valL_cons, valL_nil, UInt8.toNat_ofNat']
      omega
    · rw [Lib.decDigits, dif_neg h, valL_snoc, ih (u / 10) (by omega), UInt8.toNat_ofNat']
      omega
theorem itoa_nat {v : Int} (h : 0 ≤ v) : Lib.itoa v = Lib.decDigits v.toNat := by
  unfold Lib.itoa; rw [if_neg (by omega)]
theorem len_dec : ∀ (k u : Nat), u < 10 ^ (k + 1) → (Lib.decDigits u).length ≤ k + 1
  | 0, u, h => by rw [Lib.decDigits_one (by simpa using h)]; simp
  | k + 1, u, h => by
    by_cases h1 : u < 10
    · rw [Lib.decDigits_one h1]; simp
    · rw [Lib.decDigits, dif_neg h1, List.length_append]
      have := len_dec k (u / 10) (by rw [Nat.pow_succ] at h; omega)
      simp
      omega
theorem rd_own {v : Int} (h : 0 ≤ v) (h1 : v ≤ 50000) : rd (Lib.itoa v) = some v := by
  have e : evalS (Lib.itoa v) = v := by
    rw [itoa_nat h, evalS_pos (dec_head _), val_dec]; omega
  have hl : (magL (Lib.itoa v)).length ≤ 18 := by
    rw [itoa_nat h, magL_pos (dec_head _)]
    have := len_dec 17 v.toNat (by have : (50000 : Nat) < 10 ^ 18 := by decide
                                   omega)
    omega
  have := rd_yes (l := Lib.itoa v) hl (by rw [e])
  rwa [e] at this
theorem dig_not {c : UInt8} {l : List UInt8} (hl : l.all digB = true) (hc : digB c = false) : c ∉ l := fun h => by
  have := List.all_eq_true.1 hl c h
  rw [hc] at this; cases this
theorem step_data (s : Int × Int) : (stepS s).data.toList = Lib.itoa s.1 ++ 58 :: Lib.itoa s.2 := by
  unfold stepS decS
  rw [ByteArray.data_append, ByteArray.data_append]
  simp
theorem step_back {x y : Int} (h : 1 ≤ x ∧ x ≤ 1000 ∧ 0 ≤ y ∧ y ≤ 50000) : stepOf (stepS (x, y)).data.toList = some (x, y) := by
  rw [step_data]
  have n1 : (58 : UInt8) ∉ Lib.itoa x := by rw [itoa_nat (by omega)]; exact dig_not (dec_digits _) (by decide)
  have n2 : (58 : UInt8) ∉ Lib.itoa y := by rw [itoa_nat (by omega)]; exact dig_not (dec_digits _) (by decide)
  unfold stepOf
  rw [split_first n1, split_none n2]
  show both (rd (Lib.itoa x)) (rd (Lib.itoa y)) = _
  rw [rd_own (by omega) (by omega), rd_own (by omega) (by omega)]
  rfl
theorem step_space {x y : Int} (h : 1 ≤ x ∧ x ≤ 1000 ∧ 0 ≤ y ∧ y ≤ 50000) : (32 : UInt8) ∉ (stepS (x, y)).data.toList := by
  rw [step_data]
  simp only [List.mem_append, List.mem_cons, not_or]
  refine ⟨?_, by decide, ?_⟩
  · rw [itoa_nat (by show (0 : Int) ≤ x; omega)]; exact dig_not (dec_digits _) (by decide)
  · rw [itoa_nat (by show (0 : Int) ≤ y; omega)]; exact dig_not (dec_digits _) (by decide)
theorem text_data {L : List (Int × Int)} (h : L ≠ []) : (textS L).data.toList = interB 32 (L.map fun s => (stepS s).data.toList) := by
  unfold textS
  cases L with
  | nil => exact absurd rfl h
  | cons s r =>
    show ((r.map stepS).foldl _ (stepS s)).data.toList = _
    rw [fold_data]
    show _ = (stepS s).data.toList ++ (r.map fun s => (stepS s).data.toList).flatMap (fun y => 32 :: y)
    rw [List.flatMap_map, List.flatMap_map]
theorem allO_back {f : List UInt8 → Option (Int × Int)} {g : Int × Int → List UInt8} : ∀ {L : List (Int × Int)}, (∀ s ∈ L, f (g s) = some s) → allO f (L.map g) = some L
  | [], _ => rfl
  | s :: r, h => by
    rw [List.map_cons, allO_cons (h s (by simp)), allO_back (fun t ht => h t (by simp [ht]))]
    rfl
theorem round_trip {L : List (Int × Int)} (hc : chartB L = true) : rcO (textS L) = some L := by
  have hb : ∀ s ∈ L, 1 ≤ s.1 ∧ s.1 ≤ 1000 ∧ 0 ≤ s.2 ∧ s.2 ≤ 50000 := fun s hs => by
    obtain ⟨k, hk, e⟩ := List.getElem_of_mem hs
    exact chart_at' hc (k := k) (x := s.1) (y := s.2) (by rw [List.getElem?_eq_getElem hk, e])
  have hne : L ≠ [] := fun e => by
    have := (chart_len' hc).1
    rw [e] at this; simp at this
  refine rcO_good ?_ hc
  rw [rc_words, text_data hne, split_inter (by simpa using hne) (fun x hx => by
    obtain ⟨s, hs, rfl⟩ := List.mem_map.1 hx
    exact step_space (x := s.1) (y := s.2) (hb s hs))]
  exact allO_back (fun s hs => step_back (x := s.1) (y := s.2) (hb s hs))
end Go.Proofs.YtihbomgbkpmojaaDoor
