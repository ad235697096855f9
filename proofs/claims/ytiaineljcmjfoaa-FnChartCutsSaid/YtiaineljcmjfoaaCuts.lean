/- Charts that are reduced, lessened by a hook, or the lesser ones of two: the plain law. -/
import Derived.Test.YtiaineljcmjfoaaProg
import Derived.Test.YtiaineljcmjfoaaKit
import Derived.Test.YtiaineljcmjfoaaMem
import Derived.Test.YtiaineljcmjfoaaCodeRes
import Derived.Test.YtiaineljcmjfoaaLists
import Derived.Test.YtiaineljcmjfoaaSteps
import Derived.Test.YtiaineljcmjfoaaCharts
import Derived.Test.YtiaineljcmjfoaaFinds
import Derived.Test.YtiaineljcmjfoaaLoads2
import Derived.Test.YtiaineljcmjfoaaLoads3
import Derived.Test.YtiaineljcmjfoaaRadius
import Derived.Test.YtiaineljcmjfoaaChartFacts
import Derived.Test.YtiaineljcmjfoaaReduce
import Derived.Test.YtiaineljcmjfoaaReduce2
import Derived.Test.YtiaineljcmjfoaaLesser
namespace Go.Proofs.Ytiaineljcmjfoaa
open Go.RowKit Go.WideShapes Go.ChangeShapes Go.Joins Go.Deep Go.Sort

/-! ### a chart out of its steps -/
theorem chain_of : ∀ {L : List (Int × Int)} {p : Option (Int × Int)}, (∀ s ∈ L, stepB s = true) → L.Pairwise (fun s t => linkB s t = true) → (∀ q, p = some q → ∀ s ∈ L, linkB q s = true) → chainB p L = true
  | [], _, _, _, _ => rfl
  | s :: r, p, h1, h2, h3 => by
    rw [List.pairwise_cons] at h2
    have hs := h1 s (List.mem_cons_self ..)
    have hn : nextB p s = true := by
      cases p with
      | none => exact hs
      | some q =>
        have := h3 q rfl s (List.mem_cons_self ..)
        simp [nextB, hs, this]
    have ih : chainB (some s) r = true := chain_of (fun t ht => h1 t (List.mem_cons_of_mem _ ht)) h2.2 (fun q e t ht => by injection e with e; subst e; exact h2.1 t ht)
    simp [chainB, hn, ih]
theorem chart_of {L : List (Int × Int)} (h1 : ∀ s ∈ L, stepB s = true) (h2 : L.Pairwise fun s t => linkB s t = true) (h3 : 1 ≤ L.length) (h4 : L.length ≤ 20) : chartB L = true := by
  unfold chartB
  rw [chain_of h1 h2 (fun q e => by cases e), inB_true (by omega) (by omega)]; rfl
theorem chart_pairs {L : List (Int × Int)} (h : chartB L = true) : L.Pairwise fun s t => linkB s t = true := by
  rw [List.pairwise_iff_getElem]
  intro i j hi hj hij
  have e1 : L[i]? = some (L[i].1, L[i].2) := List.getElem?_eq_getElem hi
  have e2 : L[j]? = some (L[j].1, L[j].2) := List.getElem?_eq_getElem hj
  have hp : j - 1 < L.length := by omega
  have e3 : L[j - 1]? = some (L[j - 1].1, L[j - 1].2) := List.getElem?_eq_getElem hp
  have a := chart_link h (by omega) e3 e2
  have b := chart_mono' h (show i ≤ j - 1 by omega) e1 e3
  simp only [linkB, Bool.and_eq_true, decide_eq_true_iff]
  omega
theorem chart_mem {L : List (Int × Int)} (h : chartB L = true) {s : Int × Int} (hs : s ∈ L) : 1 ≤ s.1 ∧ s.1 ≤ 1000 ∧ 0 ≤ s.2 ∧ s.2 ≤ 50000 := by
  obtain ⟨k, hk, e⟩ := List.getElem_of_mem hs
  exact chart_at h (k := k) (x := s.1) (y := s.2) (by rw [List.getElem?_eq_getElem hk, e])
theorem step_ok {x y : Int} (h : 1 ≤ x ∧ x ≤ 1000 ∧ 0 ≤ y ∧ y ≤ 50000) : stepB (x, y) = true := by
  unfold stepB; rw [inB_true (by exact h.1) (by exact h.2.1), inB_true (by exact h.2.2.1) (by exact h.2.2.2)]; rfl
theorem map_chart {L : List (Int × Int)} (h : chartB L = true) {f : Int → Int} (f0 : ∀ y, 0 ≤ y → y ≤ 50000 → 0 ≤ f y ∧ f y ≤ 50000) (f1 : ∀ y z, y ≤ z → f y ≤ f z) : chartB (L.map fun s => (s.1, f s.2)) = true := by
  have hl := chart_len h
  refine chart_of ?_ ?_ (by rw [List.length_map]; omega) (by rw [List.length_map]; omega)
  · intro t ht
    obtain ⟨s, hs, rfl⟩ := List.mem_map.1 ht
    have b := chart_mem h hs
    have c := f0 s.2 b.2.2.1 b.2.2.2
    exact step_ok ⟨b.1, b.2.1, c.1, c.2⟩
  · rw [List.pairwise_map]
    refine (chart_pairs h).imp fun {s t} hst => ?_
    simp only [linkB, Bool.and_eq_true, decide_eq_true_iff] at hst ⊢
    exact ⟨hst.1, f1 _ _ hst.2⟩
theorem part_bounds {y p : Int} (y0 : 0 ≤ y) (y1 : y ≤ 50000) (p0 : 1 ≤ p) (p1 : p ≤ 100) : 0 ≤ y * p / 100 ∧ y * p / 100 ≤ y ∧ 100 * (y * p / 100) ≤ p * y ∧ p * y < 100 * (y * p / 100 + 1) ∧ 0 ≤ p * y ∧ p * y ≤ 5000000 := by
  have m := mul_bd (a := y) (b := p) (A := 50000) (B := 100) (by omega) (by omega) (by omega) (by omega)
  have h0 : 0 ≤ y * p := Int.mul_nonneg y0 (by omega)
  have h1 : y * p ≤ y * 100 := Int.mul_le_mul_of_nonneg_left p1 y0
  rw [Int.mul_comm p y]
  omega
theorem reduce_chart {L : List (Int × Int)} (h : chartB L = true) {p : Int} (p0 : 1 ≤ p) (p1 : p ≤ 100) : chartB (reduceL p L) = true := by
  refine map_chart h (f := fun y => y * p / 100) (fun y y0 y1 => ?_) (fun y z hyz => ?_)
  · have := part_bounds y0 y1 p0 p1
    show 0 ≤ y * p / 100 ∧ y * p / 100 ≤ 50000
    omega
  · have : y * p ≤ z * p := Int.mul_le_mul_of_nonneg_right hyz (by omega)
    show y * p / 100 ≤ z * p / 100
    omega
theorem less_chart {L : List (Int × Int)} (h : chartB L = true) {p : Int} (p0 : 0 ≤ p) : chartB (lessL p L) = true := by
  refine map_chart h (f := fun y => maxZ 0 (y - p)) (fun y y0 y1 => ?_) (fun y z hyz => ?_)
  · show 0 ≤ maxZ 0 (y - p) ∧ maxZ 0 (y - p) ≤ 50000
    unfold maxZ; split <;> omega
  · show maxZ 0 (y - p) ≤ maxZ 0 (z - p)
    unfold maxZ; split <;> split <;> omega
theorem reduceL_length (p : Int) (L : List (Int × Int)) : (reduceL p L).length = L.length := by simp [reduceL]
theorem lessL_length (p : Int) (L : List (Int × Int)) : (lessL p L).length = L.length := by simp [lessL]
theorem reduceL_at {p : Int} {L : List (Int × Int)} {k : Nat} {x y : Int} (h : L[k]? = some (x, y)) : (reduceL p L)[k]? = some (x, y * p / 100) := by simp [reduceL, h]
theorem lessL_at {p : Int} {L : List (Int × Int)} {k : Nat} {x y : Int} (h : L[k]? = some (x, y)) : (lessL p L)[k]? = some (x, maxZ 0 (y - p)) := by simp [lessL, h]

/-! ### the lesser of two -/
theorem lesser_chart {L M : List (Int × Int)} (h0 : chartB L = true) (h1 : chartB M = true) (h : (lesserL L M).length ≤ 20) : chartB (lesserL L M) = true := by
  have l := lastBoth_bounds h0 h1
  have hm : lastBoth L M ≤ lastR L ∧ lastBoth L M ≤ lastR M := by unfold lastBoth minZ; split <;> omega
  have ld : ∀ r : Int, r ≤ lastBoth L M → 0 ≤ minZ (loadV L r) (loadV M r) ∧ minZ (loadV L r) (loadV M r) ≤ 50000 := by
    intro r hr
    rcases loadV_bounds h0 r with ⟨_, e⟩ | ⟨a0, a1, _⟩
    · have := find_upto_last h0 (show r ≤ lastR L by omega); omega
    · rcases loadV_bounds h1 r with ⟨_, e⟩ | ⟨b0, b1, _⟩
      · have := find_upto_last h1 (show r ≤ lastR M by omega); omega
      · unfold minZ; split <;> omega
  refine chart_of ?_ ?_ (by rw [lesserL_length]; exact common_some h0 h1) h
  · intro t ht
    unfold lesserL at ht
    obtain ⟨r, hr, rfl⟩ := List.mem_map.1 ht
    have b := commonTo_mem.1 hr
    have c := ld r (by omega)
    exact step_ok ⟨b.1, by omega, c.1, c.2⟩
  · unfold lesserL
    rw [List.pairwise_map]
    refine List.Pairwise.imp_of_mem (fun {r s} hr hs hrs => ?_) (commonTo_rising L M _)
    have b := commonTo_mem.1 hr
    have c := commonTo_mem.1 hs
    have m1 := load_mono h0 (show r ≤ s by omega) (show s ≤ lastR L by omega)
    have m2 := load_mono h1 (show r ≤ s by omega) (show s ≤ lastR M by omega)
    show (decide (r < s) && decide (minZ (loadV L s) (loadV M s) ≤ minZ (loadV L r) (loadV M r))) = true
    rw [Bool.and_eq_true]
    refine ⟨decide_eq_true hrs, decide_eq_true ?_⟩
    unfold minZ; split <;> split <;> omega
theorem lesser_few {L M : List (Int × Int)} (h0 : chartB L = true) (h1 : chartB M = true) : (lesserL L M).length ≤ L.length + M.length := by
  have l := lastBoth_bounds h0 h1
  have e := radii_law h0 h1 (m := (lastBoth L M).toNat)
  rw [lesserL_length, ← e]
  have h2 : (Lib.compact (sorted (radiiTo (((lastBoth L M).toNat : Nat) : Int) (L ++ M)))).length ≤ (sorted (radiiTo (((lastBoth L M).toNat : Nat) : Int) (L ++ M))).length := by
    unfold Lib.compact Lib.compactUpTo
    rw [List.length_map]
    exact Nat.le_trans (List.length_filter_le _ _) (by simp)
  have h3 : (sorted (radiiTo (((lastBoth L M).toNat : Nat) : Int) (L ++ M))).length = (radiiTo (((lastBoth L M).toNat : Nat) : Int) (L ++ M)).length := List.length_mergeSort _
  have h4 := radiiTo_length (((lastBoth L M).toNat : Nat) : Int) (L ++ M)
  rw [List.length_append] at h4
  omega
theorem lesser_at {L M : List (Int × Int)} (h0 : chartB L = true) (h1 : chartB M = true) {k : Nat} (hk : k < (lesserL L M).length) : ∃ r : Int, (lesserL L M)[k]? = some (r, minZ (loadV L r) (loadV M r)) ∧ 1 ≤ r ∧ r ≤ 1000 ∧ r ≤ lastR L ∧ r ≤ lastR M := by
  have l := lastBoth_bounds h0 h1
  have hm : lastBoth L M ≤ lastR L ∧ lastBoth L M ≤ lastR M := by unfold lastBoth minZ; split <;> omega
  have hk' : k < (commonTo L M (lastBoth L M).toNat).length := by rw [← lesserL_length]; exact hk
  obtain ⟨r, hr⟩ : ∃ r, (commonTo L M (lastBoth L M).toNat)[k]? = some r := ⟨_, List.getElem?_eq_getElem hk'⟩
  have b := commonTo_mem.1 (List.mem_of_getElem? hr)
  exact ⟨r, by unfold lesserL; rw [List.getElem?_map, hr]; rfl, b.1, by omega, by omega, by omega⟩

/-! ### the greatest moment is one of the chart's -/
def hitB (m : Int) (L : List (Int × Int)) : Bool := L.any fun s => decide (s.1 * s.2 = m)
theorem hit_step {m : Int} {L : List (Int × Int)} {k : Nat} {x y : Int} (h : L[k]? = some (x, y)) : hitB m (L.take (k + 1)) = (hitB m (L.take k) || decide (x * y = m)) := by
  unfold hitB
  rw [List.take_add_one, h, List.any_append]
  simp
theorem gm_take {L : List (Int × Int)} (h : chartB L = true) : ∀ k : Nat, (∀ (j : Nat) x y, j < k → L[j]? = some (x, y) → x * y ≤ gmTo (L.take k)) ∧ (gmTo (L.take k) = 0 ∨ hitB (gmTo (L.take k)) (L.take k) = true)
  | 0 => ⟨fun j x y hj _ => absurd hj (by omega), .inl (by simp [gmTo])⟩
  | k + 1 => by
    obtain ⟨i1, i2⟩ := gm_take h k
    cases hk : L[k]? with
    | none =>
      have e : L.take (k + 1) = L.take k := by rw [List.take_add_one, hk]; simp
      rw [e]
      refine ⟨fun j x y hj hx => ?_, i2⟩
      by_cases ej : j = k
      · subst ej; rw [hk] at hx; cases hx
      · exact i1 j x y (by omega) hx
    | some s =>
      obtain ⟨p, q⟩ := s
      have eg := gm_step hk
      refine ⟨fun j x y hj hx => ?_, ?_⟩
      · by_cases ej : j = k
        · subst ej
          rw [hk] at hx
          injection hx with hx
          injection hx with e1 e2
          subst e1 e2
          rw [eg]; unfold maxZ; split <;> omega
        · have := i1 j x y (by omega) hx
          rw [eg]; unfold maxZ; split <;> omega
      · rw [hit_step hk, eg]
        by_cases hlt : gmTo (L.take k) < p * q
        · rw [maxZ_lt hlt]
          right; simp
        · rw [maxZ_ge hlt]
          rcases i2 with e | e
          · exact .inl e
          · right; rw [e]; rfl
theorem gm_most {L : List (Int × Int)} (h : chartB L = true) {k : Nat} {x y : Int} (hk : L[k]? = some (x, y)) : x * y ≤ gmTo L := by
  have hl : k < L.length := (List.getElem?_eq_some_iff.1 hk).1
  have := (gm_take h L.length).1 k x y hl hk
  rwa [List.take_of_length_le (Nat.le_refl _)] at this
theorem gm_hit {L : List (Int × Int)} (h : chartB L = true) : hitB (gmTo L) L = true := by
  have := (gm_take h L.length).2
  rw [List.take_of_length_le (Nat.le_refl _)] at this
  rcases this with e | e
  · obtain ⟨x, y, hx⟩ := chart_first h
    have b := chart_at h hx
    have hm := gm_most h hx
    have hp : 0 ≤ x * y := Int.mul_nonneg (by omega) (by omega)
    have e2 : x * y = gmTo L := by omega
    unfold hitB
    rw [List.any_eq_true]
    exact ⟨(x, y), List.mem_of_getElem? hx, by simpa using e2⟩
  · exact e
end Go.Proofs.Ytiaineljcmjfoaa
