/- Numbers in decimal: the plain law; the reference's walk; the program's by the library's contract. -/
import Derived.Test.YtihbomgbkpmojaaDoorProg
import Derived.Test.YtihbomgbkpmojaaDoorKit
import Derived.Test.YtihbomgbkpmojaaDoorMem
import Derived.Test.YtihbomgbkpmojaaDoorStrs
import Derived.Test.YtihbomgbkpmojaaDoorShelf
import Derived.Laws.IdiomStrings
import Derived.Laws.Concat
import Derived.Lib.ItoaNum
import Derived.Lib.ItoaMem
import Derived.Lib.LaidTab
namespace Go.Proofs.YtihbomgbkpmojaaDoor
open Go.RowKit Go.WideShapes Go.ChangeShapes Go.Joins Go.Deep Go.Sort
set_option linter.unusedVariables false
set_option linter.unusedSimpArgs false

/-! ### the plain law -/
theorem mtL_dec : ∀ (f k : Nat), 0 < k → k < 10 ^ f → mtL f k = Lib.decDigits k
  | 0, k, h0, h => by simp at h; omega
  | f + 1, k, h0, h => by
    rw [mtL_succ f k h0]
    by_cases h1 : k < 10
    · rw [show k / 10 = 0 by omega, mtL_zero, Lib.decDigits_one h1, show k % 10 = k by omega]
      rfl
    · rw [Lib.decDigits, dif_neg h1, mtL_dec f (k / 10) (by omega) (by rw [Nat.pow_succ] at h; omega)]
/-- bytes as cells -/
def bts (l : List UInt8) : List Value := l.map fun b => Value.int .u8 (b.toNat : Int)
theorem bts_length (l : List UInt8) : (bts l).length = l.length := by simp [bts]
theorem info8 : (Tryd.prog.info? 5).map (fun i => (i.zero, i.size, i.bytes)) = some (some (Value.int .u8 0), 1, 1) := by kernel_rfl
theorem bts_one (j : Nat) : Value.int .u8 (48 + ((j % 10 : Nat) : Int)) :: [] = bts [UInt8.ofNat (48 + j % 10)] := by
  unfold bts
  rw [List.map_cons, u8_digit]
  simp
def decS (n : Int) : ByteArray := ⟨(Lib.itoa n).toArray⟩
theorem tmod_neg (u : Nat) : (-(u : Int)).tmod 10 = -((u % 10 : Nat) : Int) := by
  rw [Int.neg_tmod]; rfl
theorem tdiv_neg (u : Nat) : (-(u : Int)).tdiv 10 = -((u / 10 : Nat) : Int) := by
  rw [Int.neg_tdiv]; rfl
theorem back_conv {w : World} {base g m c : Nat} {l : List UInt8} (h : w.ownsRow base 5 1 (.slice (some ⟨g, 0, none⟩) m c) m (bts l)) : (convert 37 9 (.slice (some ⟨g, 0, none⟩) m c)).run Tryd.prog w = .ok (.string ⟨l.toArray⟩) w := by
  have hm : l.length = m := by have := h.1; rw [bts_length] at this; omega
  subst hm
  refine run_convert_bytes_back _ _ _ _ _ _ l Tryd.underlying37 Tryd.underlying5 Tryd.underlying9 (fun j hj => ?_)
  have := h.cells (g := g) rfl j (.int .u8 (l[j].toNat : Int)) (by simp [bts, hj])
  exact this
theorem itoa_zero : Lib.itoa 0 = [48] := by
  unfold Lib.itoa
  rw [if_neg (by omega)]
  exact Lib.decDigits_one (by omega)
set_option maxRecDepth 100000 in
set_option maxHeartbeats 1000000 in
theorem l01Dec_pos (n : Nat) (w : World) (hn : n ≤ 9223372036854775807) : Calls Tryd.prog 30 #[.int .i64 n] w fun e w' => e = .returned (.string (decS n)) ∧ Below w.heap.size w w' := by
  obtain ⟨i0, hi0, hz0, hz1, hz2⟩ := info_parts info8
  have n0 : (0 : Int) ≤ (n : Int) := Int.natCast_nonneg _
  have n1 : (n : Int) ≤ 9223372036854775807 := by omega
  go_enter Tryd.func30, Tryd.ntmps30
  go_wp2
  go_loopw [3, 4, 5] (fun o x _ wr => ∃ (f j g m c : Nat) (acc : List UInt8), x = .int .i64 j ∧ o = .slice (some ⟨g, 0, none⟩) m c ∧ j ≤ 9223372036854775807 ∧ m + f = 20 ∧ Below w.heap.size w wr ∧ Hid (wr.ownsRow w.heap.size 5 1 (.slice (some ⟨g, 0, none⟩) m c) m (bts acc)) ∧ Hid (j < 10 ^ f ∧ mtL f j ++ acc = mtL 20 n)) (fun _ x _ _ => (intOf x).toNat)
  case atStart => exact ⟨20, n, w.heap.size, 0, 0, [], rfl, rfl, hn, rfl, below_alloc1 _ _, (by show World.ownsRow _ _ _ _ _ _ _; simpa [bts] using World.ownsRow_lit (base := w.heap.size) (e := 5) (size := 1) w #[] 0 (Nat.le_refl _) (by unfold maxLen; omega) rfl), ⟨by omega, by simp⟩⟩
  case round =>
    obtain ⟨f, j, g, m, c, acc, rfl, rfl, hj, hm, HB, HO, HA⟩ := hrel
    have z := HB.size
    have i0' : (0 : Int) ≤ (j : Int) := Int.natCast_nonneg _
    have i1' : (j : Int) ≤ 9223372036854775807 := by omega
    by_cases h0 : 0 < j
    · obtain ⟨f', rfl⟩ : ∃ f', f = f' + 1 := ⟨f - 1, by
        have := HA.out.1
        cases f with
        | zero => simp at this; omega
        | succ f => rfl⟩
      have HA' : Hid (j / 10 < 10 ^ f' ∧ mtL f' (j / 10) ++ ([UInt8.ofNat (48 + j % 10)] ++ acc) = mtL 20 n) := by
        refine ⟨?_, ?_⟩
        · have := HA.out.1; rw [Nat.pow_succ] at this; omega
        · rw [← HA.out.2, mtL_succ _ _ h0]; simp
      have d0 : ((j : Int) != 0) = true := by rw [bne_iff_ne]; omega
      have m0 : 0 ≤ (j : Int) % 10 := Int.emod_nonneg _ (by decide)
      have m1 : (j : Int) % 10 ≤ 9 := by omega
      have nb : (1 + m) * 1 ≤ 140737488355328 := by omega
      have nm : 1 + m ≤ maxLen := by unfold maxLen; omega
      have HL := Lib.hid (World.ownsRow_lit (base := wr.heap.size) (e := 5) (size := 1) wr #[.int .u8 (48 + (j : Int) % 10)] 1 (Nat.le_refl _) (by unfold maxLen; omega) rfl)
      have HC := Lib.hid ((HO.out.alloc (.cells #[.int .u8 (48 + (j : Int) % 10)] 5)).cells (g := g) rfl)
      go_wp2_with (at_builtin; refine wpList_append_own _ rfl _ _ 37 rfl wr.heap.size 5 i0 _ 1 1 Tryd.underlying37 hi0 hz0 hz1 hz2 rfl (by omega) _ _ _ rfl HL.out ⟨g, 0, none⟩ m c (bts acc) rfl (by have := HO.out.1; omega) HC.out (by simp [bts, Value.oneCell']) nm nb (by simp) ?_; intro v' w3 hown' hgrow _)
      obtain ⟨gg, cap2, hv2, _, _⟩ := hown'.form (by omega)
      have HB3 : Below w.heap.size w w3 := (HB.alloc z _).grown hgrow (by simp; omega) (fun k hk => Nat.le_trans z (HL.out.lt k hk).1)
      have HO3 : Hid (w3.ownsRow w.heap.size 5 1 (.slice (some ⟨gg, 0, none⟩) (m + 1) cap2) (m + 1) (bts ([UInt8.ofNat (48 + j % 10)] ++ acc))) := by
        show World.ownsRow _ _ _ _ _ _ _
        have h3 := hown'
        rw [hv2] at h3
        have e : (#[Value.int .u8 (48 + (j : Int) % 10)] : Array Value).toList ++ bts acc = bts ([UInt8.ofNat (48 + j % 10)] ++ acc) := by
          have := bts_one j
          rw [show ((j % 10 : Nat) : Int) = (j : Int) % 10 by omega] at this
          show [Value.int .u8 (48 + (j : Int) % 10)] ++ bts acc = _
          rw [this]
          simp [bts]
        rw [e, Nat.add_comm 1 m] at h3
        obtain ⟨q1, q2⟩ := h3
        refine ⟨q1, ?_⟩
        rcases q2 with q | ⟨a, b, d, q, qb, r⟩
        · exact .inl q
        · exact .inr ⟨a, b, d, q, by omega, r⟩
      rw [Nat.add_comm 1 m] at hv2
      clear hown' hgrow HL HC HA HO
      go_wp2
      exact ⟨⟨f', j / 10, gg, m + 1, cap2, [UInt8.ofNat (48 + j % 10)] ++ acc, by go_num, hv2, by omega, by omega, HB3, HO3, HA'⟩, by simp [intOf]; omega⟩
    · obtain rfl : j = 0 := by omega
      have hcv := back_conv HO.out
      have hlen : acc.length = m := by have := HO.out.1; rw [bts_length] at this; omega
      have HLn := Lib.hid hlen
      clear hlen
      have E : Hid (acc = mtL 20 n) := by have := HA.out.2; rw [mtL_zero, List.nil_append] at this; exact this
      by_cases hn0 : n = 0
      · have e0 : acc = [] := by rw [E.out, hn0, mtL_zero]
        obtain rfl : m = 0 := by rw [← HLn.out, e0]; rfl
        have R : Hid (decS (n : Int) = ⟨#[48]⟩) := by show decS _ = _; rw [hn0]; unfold decS; rw [show ((0 : Nat) : Int) = 0 from rfl, itoa_zero]
        clear hn0 e0
        go_wp2
        go_ret
        exact ⟨by rw [R.out]; rfl, HB⟩
      · have e1 : acc = Lib.decDigits n := by rw [E.out, mtL_dec 20 n (by omega) (by omega)]
        have hm1 : 0 < m := by rw [← HLn.out, e1, Lib.decDigits_length]; exact Lib.nDigits_pos n
        have R : Hid (decS (n : Int) = ⟨acc.toArray⟩) := by show decS _ = _; unfold decS; rw [Lib.itoa_nonneg, e1]
        have d1 : ((m : Int) == 0) = false := by rw [beq_eq_false_iff_ne]; omega
        clear e1 hn0
        go_wp2
        go_ret
        exact ⟨by rw [R.out]; rfl, HB⟩
end Go.Proofs.YtihbomgbkpmojaaDoor
