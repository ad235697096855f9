/- Numbers in decimal: the reference's walk at negative numbers, and at all; the program's by the library's contract; their law. -/
import Derived.Test.YtihbomgbkpmojaaDoorProg
import Derived.Test.YtihbomgbkpmojaaDoorKit
import Derived.Test.YtihbomgbkpmojaaDoorMem
import Derived.Test.YtihbomgbkpmojaaDoorStrs
import Derived.Test.YtihbomgbkpmojaaDoorShelf
import Derived.Test.YtihbomgbkpmojaaDoorDec
namespace Go.Proofs.YtihbomgbkpmojaaDoor
open Go.RowKit Go.WideShapes Go.ChangeShapes Go.Joins Go.Deep Go.Sort
set_option linter.unusedVariables false
set_option linter.unusedSimpArgs false
set_option maxRecDepth 100000 in
set_option maxHeartbeats 1000000 in
theorem l01Dec_neg (n : Nat) (w : World) (hp : 0 < n) (hn : n ≤ 9223372036854775808) : Calls Tryd.prog 30 #[.int .i64 (-(n : Int))] w fun e w' => e = .returned (.string (decS (-(n : Int)))) ∧ Below w.heap.size w w' := by
  obtain ⟨i0, hi0, hz0, hz1, hz2⟩ := info_parts info8
  have n0 : -(n : Int) < 0 := by omega
  have n1 : -9223372036854775808 ≤ -(n : Int) := by omega
  go_enter Tryd.func30, Tryd.ntmps30
  go_wp2
  go_loopw [3, 4, 5] (fun o x _ wr => ∃ (f j g m c : Nat) (acc : List UInt8), x = .int .i64 (-(j : Int)) ∧ o = .slice (some ⟨g, 0, none⟩) m c ∧ j ≤ 9223372036854775808 ∧ m + f = 20 ∧ Below w.heap.size w wr ∧ Hid (wr.ownsRow w.heap.size 5 1 (.slice (some ⟨g, 0, none⟩) m c) m (bts acc)) ∧ Hid (j < 10 ^ f ∧ mtL f j ++ acc = mtL 20 n)) (fun _ x _ _ => (intOf x).natAbs)
  case atStart => exact ⟨20, n, w.heap.size, 0, 0, [], rfl, rfl, hn, rfl, below_alloc1 _ _, (by show World.ownsRow _ _ _ _ _ _ _; simpa [bts] using World.ownsRow_lit (base := w.heap.size) (e := 5) (size := 1) w #[] 0 (Nat.le_refl _) (by unfold maxLen; omega) rfl), ⟨by omega, by simp⟩⟩
  case round =>
    obtain ⟨f, j, g, m, c, acc, rfl, rfl, hj, hm, HB, HO, HA⟩ := hrel
    have z := HB.size
    have i0' : -(j : Int) ≤ 0 := by omega
    have i1' : -9223372036854775808 ≤ -(j : Int) := by omega
    by_cases h0 : 0 < j
    · obtain ⟨f', rfl⟩ : ∃ f', f = f' + 1 := ⟨f - 1, by
        have := HA.out.1
        cases f with
        | zero => simp at this; omega
        | succ f => rfl⟩
      have HA' : Hid (j / 10 < 10 ^ f' ∧ mtL f' (j / 10) ++ ([UInt8.ofNat (48 + j % 10)] ++ acc) = mtL 20 n) := by
        refine ⟨?_, ?_⟩
        · have := HA.out.1; rw [Nat.pow_succ] at this; omega
        · rw [← HA.out.2, mtL_succ _ _ h0]; simp
      have d0 : (-(j : Int) != 0) = true := by rw [bne_iff_ne]; omega
      have nb : (1 + m) * 1 ≤ 140737488355328 := by omega
      have nm : 1 + m ≤ maxLen := by unfold maxLen; omega
      have B1 := Lib.hid (bts_one j)
      have tm := tmod_neg j
      have td := tdiv_neg j
      have hq : j / 10 ≤ 922337203685477580 := by omega
      have hr9 : j % 10 ≤ 9 := by omega
      have ME : Hid (j / 10 < j) := by show _ < _; omega
      generalize j % 10 = r at tm hr9 B1 HA'
      generalize j / 10 = q at td hq HA' ME
      clear HA
      by_cases hr0 : r = 0
      · obtain rfl : r = 0 := hr0
        rw [show (-((0 : Nat) : Int)) = 0 from rfl] at tm
        have HL := Lib.hid (World.ownsRow_lit (base := wr.heap.size) (e := 5) (size := 1) wr #[.int .u8 (48)] 1 (Nat.le_refl _) (by unfold maxLen; omega) rfl)
        have HC := Lib.hid ((HO.out.alloc (.cells #[.int .u8 (48)] 5)).cells (g := g) rfl)
        go_wp2_with (at_builtin; refine wpList_append_own _ rfl _ _ 37 rfl wr.heap.size 5 i0 _ 1 1 Tryd.underlying37 hi0 hz0 hz1 hz2 rfl (by omega) _ _ _ rfl HL.out ⟨g, 0, none⟩ m c (bts acc) rfl (by have := HO.out.1; omega) HC.out (by simp [bts, Value.oneCell']) nm nb (by simp) ?_; intro v' w3 hown' hgrow _)
        obtain ⟨gg, cap2, hv2, _, _⟩ := hown'.form (by omega)
        have HB3 : Below w.heap.size w w3 := (HB.alloc z _).grown hgrow (by simp; omega) (fun k hk => Nat.le_trans z (HL.out.lt k hk).1)
        have HO3 : Hid (w3.ownsRow w.heap.size 5 1 (.slice (some ⟨gg, 0, none⟩) (m + 1) cap2) (m + 1) (bts ([UInt8.ofNat (48 + 0)] ++ acc))) := by
          show World.ownsRow _ _ _ _ _ _ _
          have h3 := hown'
          rw [hv2] at h3
          have e : (#[Value.int .u8 (48)] : Array Value).toList ++ bts acc = bts ([UInt8.ofNat (48 + 0)] ++ acc) := by
            have := B1.out
            rw [show (48 + ((0 : Nat) : Int)) = 48 from rfl] at this
            show [Value.int .u8 (48)] ++ bts acc = _
            rw [this]
            simp [bts]
          rw [e, Nat.add_comm 1 m] at h3
          obtain ⟨q1, q2⟩ := h3
          refine ⟨q1, ?_⟩
          rcases q2 with q | ⟨a, b, d, q, qb, r⟩
          · exact .inl q
          · exact .inr ⟨a, b, d, q, by omega, r⟩
        rw [Nat.add_comm 1 m] at hv2
        clear hown' hgrow HL HC HO
        go_wp2
        exact ⟨⟨f', q, gg, m + 1, cap2, [UInt8.ofNat (48 + 0)] ++ acc, rfl, hv2, by omega, by omega, HB3, HO3, HA'⟩, by have := ME.out; simp [intOf]; omega⟩
      · have HL := Lib.hid (World.ownsRow_lit (base := wr.heap.size) (e := 5) (size := 1) wr #[.int .u8 (48 + (r : Int))] 1 (Nat.le_refl _) (by unfold maxLen; omega) rfl)
        have HC := Lib.hid ((HO.out.alloc (.cells #[.int .u8 (48 + (r : Int))] 5)).cells (g := g) rfl)
        go_wp2_with (at_builtin; refine wpList_append_own _ rfl _ _ 37 rfl wr.heap.size 5 i0 _ 1 1 Tryd.underlying37 hi0 hz0 hz1 hz2 rfl (by omega) _ _ _ rfl HL.out ⟨g, 0, none⟩ m c (bts acc) rfl (by have := HO.out.1; omega) HC.out (by simp [bts, Value.oneCell']) nm nb (by simp) ?_; intro v' w3 hown' hgrow _)
        obtain ⟨gg, cap2, hv2, _, _⟩ := hown'.form (by omega)
        have HB3 : Below w.heap.size w w3 := (HB.alloc z _).grown hgrow (by simp; omega) (fun k hk => Nat.le_trans z (HL.out.lt k hk).1)
        have HO3 : Hid (w3.ownsRow w.heap.size 5 1 (.slice (some ⟨gg, 0, none⟩) (m + 1) cap2) (m + 1) (bts ([UInt8.ofNat (48 + r)] ++ acc))) := by
          show World.ownsRow _ _ _ _ _ _ _
          have h3 := hown'
          rw [hv2] at h3
          have e : (#[Value.int .u8 (48 + (r : Int))] : Array Value).toList ++ bts acc = bts ([UInt8.ofNat (48 + r)] ++ acc) := by
            have := B1.out
            show [Value.int .u8 (48 + (r : Int))] ++ bts acc = _
            rw [this]
            simp [bts]
          rw [e, Nat.add_comm 1 m] at h3
          obtain ⟨q1, q2⟩ := h3
          refine ⟨q1, ?_⟩
          rcases q2 with q | ⟨a, b, d, q, qb, r⟩
          · exact .inl q
          · exact .inr ⟨a, b, d, q, by omega, r⟩
        rw [Nat.add_comm 1 m] at hv2
        clear hown' hgrow HL HC HO
        go_wp2
        exact ⟨⟨f', q, gg, m + 1, cap2, [UInt8.ofNat (48 + r)] ++ acc, rfl, hv2, by omega, by omega, HB3, HO3, HA'⟩, by have := ME.out; simp [intOf]; omega⟩
    · obtain rfl : j = 0 := by omega
      have hcv := back_conv HO.out
      have hlen : acc.length = m := by have := HO.out.1; rw [bts_length] at this; omega
      have HLn := Lib.hid hlen
      clear hlen
      have E : Hid (acc = mtL 20 n) := by have := HA.out.2; rw [mtL_zero, List.nil_append] at this; exact this
      have e1 : acc = Lib.decDigits n := by rw [E.out, mtL_dec 20 n (by omega) (by omega)]
      have hm1 : 0 < m := by rw [← HLn.out, e1, Lib.decDigits_length]; exact Lib.nDigits_pos n
      obtain ⟨rr, hr, hadd⟩ : ∃ rr : ByteArray, rr = decS (-(n : Int)) ∧ ∀ wr : World, (Op.stringOp .add ⟨#[45]⟩ ⟨acc.toArray⟩).run Tryd.prog wr = .ok (.string rr) wr := ⟨_, rfl, fun wr => by
        have e2 : (ByteArray.mk acc.toArray).size = acc.length := by simp [ByteArray.size]
        have e3 : (ByteArray.mk #[45]).size = 1 := rfl
        rw [run_string_add_sum wr _ _ (by rw [e2, e3, HLn.out]; omega)]
        have e : (ByteArray.mk #[45]) ++ (ByteArray.mk acc.toArray) = decS (-(n : Int)) := by
          unfold decS
          rw [Lib.itoa_neg n (by omega), ← e1]
          apply ByteArray.ext
          rw [ByteArray.data_append]
          apply Array.toList_inj.1
          simp
        rw [e]⟩
      have HR := Lib.hid hr
      have d1 : ((m : Int) == 0) = false := by rw [beq_eq_false_iff_ne]; omega
      clear e1 hr
      go_wp2
      go_ret
      exact ⟨by rw [HR.out]; rfl, HB⟩
theorem l01Dec_any (n : Int) (w : World) (h0 : -9223372036854775808 ≤ n) (h1 : n ≤ 9223372036854775807) : Calls Tryd.prog 30 #[.int .i64 n] w fun e w' => e = .returned (.string (decS n)) ∧ Below w.heap.size w w' := by
  by_cases h : 0 ≤ n
  · obtain ⟨m, rfl⟩ : ∃ m : Nat, n = m := ⟨n.toNat, by omega⟩
    exact l01Dec_pos m w (by omega)
  · obtain ⟨m, rfl⟩ : ∃ m : Nat, n = -(m : Int) := ⟨n.natAbs, by omega⟩
    exact l01Dec_neg m w (by omega) (by omega)
end Go.Proofs.YtihbomgbkpmojaaDoor
