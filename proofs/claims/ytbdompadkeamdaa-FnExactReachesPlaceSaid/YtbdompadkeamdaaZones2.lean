/- Zones: the walks of the test of a zone on both sides. -/
import Derived.Test.YtbdompadkeamdaaProg
import Derived.Test.YtbdompadkeamdaaKit
import Derived.Test.YtbdompadkeamdaaBasics
import Derived.Test.YtbdompadkeamdaaMem
import Derived.Test.YtbdompadkeamdaaCodeRes
import Derived.Test.YtbdompadkeamdaaLists
import Derived.Test.YtbdompadkeamdaaPts
import Derived.Test.YtbdompadkeamdaaZonePlain
import Derived.Test.YtbdompadkeamdaaZones
import Derived.StillTailTactics
namespace Go.Proofs.Ytbdompadkeamdaa
open Go.RowKit Go.WideShapes Go.ChangeShapes Go.Joins Go.Deep Go.Sort
set_option linter.unusedVariables false
set_option linter.unusedSimpArgs false

theorem Steps.far {w : World} {B n : Nat} {A : Option Addr} {L : List (Int × Int)} (h : Steps w B A n L) (d : Nat) (os : Array Obj) : Steps (grow (redrawn w d) os) B A n L :=
  ⟨h.1, fun hn => by
    obtain ⟨b, o, e, hb, hc⟩ := h.2 hn
    exact ⟨b, o, e, hb, fun j s hj => ⟨cell_regrown (hc j s hj).1 d os, cell_regrown (hc j s hj).2 d os⟩⟩⟩
theorem turn_here {L : List (Int × Int)} {k j : Nat} {n : Nat} (hL : L.length = n) (hk : k < n) (h0 : ∀ i, i < k → sideB L i = true) (hj : j < n) (h : leftB L k j = false) : turnsB L = false := by
  subst hL
  exact allN_false hk (allN_false hj h)
theorem turn_next {L : List (Int × Int)} {k j : Nat} {n : Nat} (hL : L.length = n) (h0 : ∀ i, i < k → sideB L i = true) (h1 : ∀ i, i < j → leftB L k i = true) (hj : ¬ j < n) : ∀ i, i < k + 1 → sideB L i = true := by
  subst hL
  exact upto_next h0 (allN_true fun i hi => h1 i (by omega))
theorem turn_end {L : List (Int × Int)} {k : Nat} {n : Nat} (hL : L.length = n) (h0 : ∀ i, i < k → sideB L i = true) (hk : ¬ k < n) : turnsB L = true := by
  subst hL
  exact allN_true fun i hi => h0 i (by omega)

set_option maxHeartbeats 2000000 in
theorem l05Turns_any (A : Option Addr) (n c : Nat) (L : List (Int × Int)) (w : World) (h : Steps w w.heap.size A n L) (hn : n ≤ maxLen) (hp : placesB L = true) :
    Calls Try.prog 84 #[.slice A n c] w fun en w' => en = .returned (.bool (turnsB L)) ∧ Below w.heap.size w w' := by
  have hn' := hn
  unfold maxLen at hn
  have H := Lib.hid h
  have HP := Lib.hid hp
  clear h hp
  go_enter Try.func84, Try.ntmps84
  go_wp2
  go_loopw [3, 4] (fun i _ wr => ∃ k : Nat, k ≤ n ∧ i = .int .i64 k ∧ Below w.heap.size w wr ∧ Hid (∀ i, i < k → sideB L i = true)) (fun i _ _ => n - (intOf i).toNat)
  case atStart => exact ⟨0, Nat.zero_le _, rfl, Below.refl _ _, fun i hi => absurd hi (by omega)⟩
  case round =>
    obtain ⟨k, hk, rfl, HB, HK⟩ := hrel
    by_cases hlt : k < n
    · obtain ⟨wo, rfl⟩ : ∃ wo : World, wo = wr := ⟨_, rfl⟩
      go_wp2
      go_loopw [4] (fun i wr => ∃ j : Nat, j ≤ n ∧ i = .int .i64 j ∧ Below w.heap.size w wr ∧ Hid (∀ i, i < j → leftB L k i = true)) (fun i _ => n - (intOf i).toNat)
      case atStart => exact ⟨0, Nat.zero_le _, rfl, HB, fun i hi => absurd hi (by omega)⟩
      case round =>
        obtain ⟨j, hj, rfl, HB, HJ⟩ := hrel
        have i1 : (0 : Int) ≤ (k : Int) := Int.natCast_nonneg _
        have i2 : (k : Int) < (n : Int) := by omega
        have i3 : (0 : Int) ≤ (j : Int) := Int.natCast_nonneg _
        by_cases hjn : j < n
        · have i4 : (j : Int) < (n : Int) := by omega
          obtain ⟨m, hm, em1, em2⟩ := mod_form hlt
          have i5 : (1 : Int) ≤ (n : Int) := by omega
          have v1 := IntWalk.i64_in ((k : Int) + 1) (by omega)
          by_cases hjk : j = k
          · have t1 : ((j : Int) != (k : Int)) = false := by rw [bne_eq_false_iff_eq]; omega
            have E := Lib.hid (upto_next HJ.out (show leftB L k j = true by rw [hjk]; exact left_same))
            clear hjk em1
            go_wp2_with fail
            go_quiet (fail)
            go_wp2
            exact ⟨⟨j + 1, by omega, by go_num, below_drewN HB _, E⟩, by simp [intOf]; omega⟩
          · have t1 : ((j : Int) != (k : Int)) = true := by rw [bne_iff_ne]; omega
            by_cases hjm : j = m
            · have t2 : ((j : Int) != (m : Int)) = false := by rw [bne_eq_false_iff_eq]; omega
              have E := Lib.hid (upto_next HJ.out (show leftB L k j = true by exact left_next (by rw [H.out.1, em1]; exact hjm)))
              clear hjk hjm em1
              go_wp2_with fail
              go_quiet (fail)
              go_wp2
              exact ⟨⟨j + 1, by omega, by go_num, below_drewN HB _, E⟩, by simp [intOf]; omega⟩
            · have t2 : ((j : Int) != (m : Int)) = true := by rw [bne_iff_ne]; omega
              obtain ⟨b, o, x, y, rfl, _, hx, hc1, hc2⟩ := (H.out.below HB).at_ hlt
              obtain ⟨b', o', x', y', eA, _, hx', hc1', hc2'⟩ := (H.out.below HB).at_ hjn
              obtain ⟨rfl, rfl⟩ : b = b' ∧ o = o' := by simpa using eA
              have pk := places_at HP.out hx
              have pj := places_at HP.out hx'
              have pm := places_get HP.out (show (k + 1) % n < L.length by rw [H.out.1, em1]; exact hm)
              obtain ⟨⟨u, v⟩, huv⟩ : ∃ p, ptAt L ((k + 1) % n) = p := ⟨_, rfl⟩
              rw [huv] at pm
              have LX := left_cross (L := L) (k := k) (i := j) (by omega) (by rw [H.out.1, em1]; exact hjm) (ptAt_of hx) (q := (u, v)) (by rw [H.out.1]; exact huv) (ptAt_of hx')
              have S1 := (H.out.below HB).more HB.size
              have HN := Lib.hid (fun d os => l05Next_any (some ⟨b, o, none⟩) n c L k u v (grow (redrawn wr d) os) (S1.next (below_regrown wr d os)) hn' hlt huv)
              have cr := crossV_bound pk pm pj
              have f1 := cell_regrown hc1
              have f2 := cell_regrown hc2
              have f3 := cell_regrown hc1'
              have f4 := cell_regrown hc2'
              clear eA hx hx' huv hc1 hc2 hc1' hc2' hjk hjm em1
              by_cases hcr : crossV x y u v x' y' ≤ 0
              · have t3 : decide (crossV x y u v x' y' ≤ 0) = true := by simpa using hcr
                have E := Lib.hid (turn_here H.out.1 hlt HK.out hjn (by rw [LX]; simp; omega))
                clear LX S1
                go_wp2_with fail
                refine wp_region_quiet_below (by kernel_rfl) (by kernel_rfl) ?_
                repeat (first | go_big_quiet_step (first | exact Calls.regrown_of (HN.out _ _) | exact Calls.regrown_of (l05Cross_any _ _ _ _ _ _ _ pk pm pj)) | quiet_step (first | exact Calls.regrown_of (HN.out _ _) | exact Calls.regrown_of (l05Cross_any _ _ _ _ _ _ _ pk pm pj)))
                refine wpQuiet_nil ?_
                intro w1 hw1
                have hb1 := class_below hw1
                have B1 := HB.trans (hb1.mono HB.size)
                clear f1 f2 f3 f4 hw1 hb1
                go_wp2
                go_ret
                exact ⟨ret_bool E.out.symm, B1⟩
              · have t3 : decide (crossV x y u v x' y' ≤ 0) = false := by simpa using hcr
                have E := Lib.hid (upto_next HJ.out (show leftB L k j = true by rw [LX]; simp; omega))
                clear LX S1
                go_wp2_with fail
                refine wp_region_quiet_below (by kernel_rfl) (by kernel_rfl) ?_
                repeat (first | go_big_quiet_step (first | exact Calls.regrown_of (HN.out _ _) | exact Calls.regrown_of (l05Cross_any _ _ _ _ _ _ _ pk pm pj)) | quiet_step (first | exact Calls.regrown_of (HN.out _ _) | exact Calls.regrown_of (l05Cross_any _ _ _ _ _ _ _ pk pm pj)))
                refine wpQuiet_nil ?_
                intro w1 hw1
                have hb1 := class_below hw1
                have B1 := HB.trans (hb1.mono HB.size)
                clear f1 f2 f3 f4 hw1 hb1
                go_wp2
                exact ⟨⟨j + 1, by omega, by go_num, B1, E⟩, by simp [intOf]; omega⟩
        · have E := Lib.hid (turn_next H.out.1 HK.out HJ.out hjn)
          go_wp2
          exact ⟨⟨k + 1, by omega, by go_num, HB, E⟩, by simp [intOf]; omega⟩
    · have E := Lib.hid (turn_end H.out.1 HK.out hlt)
      go_wp2
      go_ret
      exact ⟨ret_bool E.out.symm, HB⟩
end Go.Proofs.Ytbdompadkeamdaa
