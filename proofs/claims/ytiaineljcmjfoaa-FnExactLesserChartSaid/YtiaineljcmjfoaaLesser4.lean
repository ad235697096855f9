/- The lesser of two charts: the law. -/
import Derived.Test.YtiaineljcmjfoaaProg
import Derived.Test.YtiaineljcmjfoaaKit
import Derived.Test.YtiaineljcmjfoaaBasics
import Derived.Test.YtiaineljcmjfoaaMem
import Derived.Test.YtiaineljcmjfoaaCodeRes
import Derived.Test.YtiaineljcmjfoaaLists
import Derived.Test.YtiaineljcmjfoaaSteps
import Derived.Test.YtiaineljcmjfoaaCharts
import Derived.Test.YtiaineljcmjfoaaChartLaws
import Derived.Test.YtiaineljcmjfoaaFinds
import Derived.Test.YtiaineljcmjfoaaLoads
import Derived.Test.YtiaineljcmjfoaaLoads2
import Derived.Test.YtiaineljcmjfoaaLoads3
import Derived.Test.YtiaineljcmjfoaaRadius
import Derived.Test.YtiaineljcmjfoaaReduce
import Derived.Test.YtiaineljcmjfoaaReduce2
import Derived.Test.YtiaineljcmjfoaaMarks
import Derived.Test.YtiaineljcmjfoaaDisj
import Derived.Test.YtiaineljcmjfoaaReduce3
import Derived.Test.YtiaineljcmjfoaaLesser
import Derived.Test.YtiaineljcmjfoaaLesser2
import Derived.Test.YtiaineljcmjfoaaConcat
import Derived.Test.YtiaineljcmjfoaaRadii
import Derived.Test.YtiaineljcmjfoaaLesser3
namespace Go.Proofs.Ytiaineljcmjfoaa
open Go.RowKit Go.WideShapes Go.ChangeShapes Go.Joins Go.Deep Go.Sort
set_option linter.unusedVariables false
set_option linter.unusedSimpArgs false
set_option maxHeartbeats 8000000 in
theorem FnExactLesserChart_walk (w : World) (A : Option Addr) (n c : Nat) (L : List (Int × Int)) (hn : n ≤ maxLen) (SS0 : Steps w w.heap.size A n L) (A' : Option Addr) (n' c' : Nat) (L' : List (Int × Int)) (hn' : n' ≤ maxLen) (ST0 : Steps w w.heap.size A' n' L') : Calls Try.prog 11 #[.slice A n c, .slice A' n' c'] w fun e w' => e = .returned (.bool true) ∧ Below w.heap.size w w' := by
  obtain ⟨M, hM⟩ : ∃ M, M = lesserOut L L' := ⟨_, rfl⟩
  have hlen : M.length ≤ 20 := by rw [hM]; exact lesserOut_length L L'
  obtain ⟨y, hy⟩ : ∃ y, y = lesserCode L L' := ⟨_, rfl⟩
  have H1 : Hid (∀ A n c A' n' c' w, Steps w w.heap.size A n L → Steps w w.heap.size A' n' L' → n ≤ maxLen → n' ≤ maxLen → Calls Try.prog 34 #[.slice A n c, .slice A' n' c'] w (RetList w M y)) := fun A n c A' n' c' w h h' hn hn' => by rw [hM, hy]; exact spec_lesser_any A A' n c n' c' L L' w h h' hn hn'
  have H2 : Hid (∀ A n c A' n' c' w, Steps w w.heap.size A n L → Steps w w.heap.size A' n' L' → n ≤ maxLen → n' ≤ maxLen → Calls Try.prog 35 #[.slice A n c, .slice A' n' c'] w (RetList w M y)) := fun A n c A' n' c' w h h' hn hn' => by rw [hM, hy]; exact impl_lesser_any A A' n c n' c' L L' w h h' hn hn'
  clear hM hy
  obtain ⟨m, hm⟩ : ∃ m : Nat, m = M.length := ⟨_, rfl⟩
  have HM := Lib.hid hm
  unfold RetList at H1 H2
  rw [← hm] at H1 H2 hlen
  clear hm
  by_cases hs : (n : Int) ≤ 1048576
  · by_cases hs' : (n' : Int) ≤ 1048576 - n
    · have B0 := Below.refl w.heap.size w
      clear hn hn'
      go_enter Try.func11, Try.ntmps11
      go_wp2_with fail
      refine (sz_in (by omega) _ _ _ (by omega) (by omega) (by unfold maxLen; omega)).mono ?_
      rintro e w' ⟨rfl, rfl⟩
      go_wp2_with fail
      refine (sz_in (by omega) _ _ _ (by omega) (by omega) (by unfold maxLen; omega)).mono ?_
      rintro e w' ⟨rfl, rfl⟩
      go_wp2_with fail
      refine (toSteps_any _ _ _ _ _ SS0 (by omega)).mono ?_
      rintro e w1 ⟨Aa, rfl, Oa1, hb1⟩
      have Qa : ∀ k, (Value.slice Aa n n).ownBlock = some k → w.heap.size ≤ k := fun k hk => Nat.le_trans B0.size (Oa1.lt k hk).1
      have Qa := Lib.hid Qa
      have SS1 := SS0.next hb1
      have ST1 := ST0.next hb1
      have B1 := B0.trans (hb1.mono B0.size)
      clear hb1 B0 SS0 ST0
      go_wp2_with fail
      refine (toSteps_any _ _ _ _ _ ST1 (by omega)).mono ?_
      rintro e w2 ⟨Ae, rfl, Oe2, hb2⟩
      have Qe : ∀ k, (Value.slice Ae n' n').ownBlock = some k → w.heap.size ≤ k := fun k hk => Nat.le_trans B1.size (Oe2.lt k hk).1
      have Qe := Lib.hid Qe
      have SS2 := SS1.next hb2
      have ST2 := ST1.next hb2
      have Oa2 := own_below Oa1 hb2
      have B2 := B1.trans (hb2.mono B1.size)
      clear hb2 B1 SS1 ST1 Oa1
      go_wp2_with fail
      refine (H1.out _ _ _ _ _ _ _ (steps_own Oa2) (steps_own Oe2) (by unfold maxLen; omega) (by unfold maxLen; omega)).mono ?_
      rintro e w3 ⟨Av, cv, rfl, Ov3, hb3⟩
      have Qv : ∀ k, (Value.slice Av m cv).ownBlock = some k → w.heap.size ≤ k := fun k hk => Nat.le_trans B2.size (Ov3.lt k hk).1
      have Qv := Lib.hid Qv
      have SS3 := SS2.next hb3
      have ST3 := ST2.next hb3
      have B3 := B2.trans (hb3.mono B2.size)
      clear hb3 B2 SS2 ST2 Oa2 Oe2
      go_wp2_with fail
      refine (toSteps_any _ _ _ _ _ SS3 (by omega)).mono ?_
      rintro e w4 ⟨Ab, rfl, Ob4, hb4⟩
      have PS_b := Lib.hid (SS3.apart Ob4)
      have PT_b := Lib.hid (ST3.apart Ob4)
      have Pv_b := Lib.hid (apart_early Ov3 Ob4)
      have Qb : ∀ k, (Value.slice Ab n n).ownBlock = some k → w.heap.size ≤ k := fun k hk => Nat.le_trans B3.size (Ob4.lt k hk).1
      have Qb := Lib.hid Qb
      have SS4 := SS3.next hb4
      have ST4 := ST3.next hb4
      have Ov4 := own_below Ov3 hb4
      have B4 := B3.trans (hb4.mono B3.size)
      clear hb4 B3 SS3 ST3 Ov3
      go_wp2_with fail
      refine (toSteps_any _ _ _ _ _ ST4 (by omega)).mono ?_
      rintro e w5 ⟨Ad, rfl, Od5, hb5⟩
      have PS_d := Lib.hid (SS4.apart Od5)
      have PT_d := Lib.hid (ST4.apart Od5)
      have Pv_d := Lib.hid (apart_early Ov4 Od5)
      have Pd_b := Lib.hid (apart_late Ob4 Od5)
      have Qd : ∀ k, (Value.slice Ad n' n').ownBlock = some k → w.heap.size ≤ k := fun k hk => Nat.le_trans B4.size (Od5.lt k hk).1
      have Qd := Lib.hid Qd
      have SS5 := SS4.next hb5
      have ST5 := ST4.next hb5
      have Ov5 := own_below Ov4 hb5
      have Ob5 := own_below Ob4 hb5
      have B5 := B4.trans (hb5.mono B4.size)
      clear hb5 B4 SS4 ST4 Ov4 Ob4
      go_wp2_with fail
      refine (H2.out _ _ _ _ _ _ _ (steps_own Ob5) (steps_own Od5) (by unfold maxLen; omega) (by unfold maxLen; omega)).mono ?_
      rintro e w6 ⟨Ag, cg, rfl, Og6, hb6⟩
      have PS_g := Lib.hid (SS5.apart Og6)
      have PT_g := Lib.hid (ST5.apart Og6)
      have Pv_g := Lib.hid (apart_early Ov5 Og6)
      have Pg_b := Lib.hid (apart_late Ob5 Og6)
      have Pg_d := Lib.hid (apart_late Od5 Og6)
      have Qg : ∀ k, (Value.slice Ag m cg).ownBlock = some k → w.heap.size ≤ k := fun k hk => Nat.le_trans B5.size (Og6.lt k hk).1
      have Qg := Lib.hid Qg
      have SS6 := SS5.next hb6
      have ST6 := ST5.next hb6
      have Ov6 := own_below Ov5 hb6
      have Ob6 := own_below Ob5 hb6
      have Od6 := own_below Od5 hb6
      have B6 := B5.trans (hb6.mono B5.size)
      clear hb6 B5 SS5 ST5 Ov5 Ob5 Od5
      go_wp2_with fail
      refine (eqChartStepS_same _ _ _ _ _ _ _ (steps_own Og6) (steps_own Ov6) (by unfold maxLen; omega)).mono ?_
      rintro e w7 ⟨rfl, hb7⟩
      have SS7 := SS6.next hb7
      have ST7 := ST6.next hb7
      have Ov7 := own_below Ov6 hb7
      have Ob7 := own_below Ob6 hb7
      have Od7 := own_below Od6 hb7
      have Og7 := own_below Og6 hb7
      have B7 := B6.trans (hb7.mono B6.size)
      clear hb7 B6 SS6 ST6 Ov6 Ob6 Od6 Og6
      go_wp2_with fail
      refine (toSteps_any _ _ _ _ _ SS7 (by omega)).mono ?_
      rintro e w8 ⟨Af, rfl, Of8, hb8⟩
      have Qf : ∀ k, (Value.slice Af n n).ownBlock = some k → w.heap.size ≤ k := fun k hk => Nat.le_trans B7.size (Of8.lt k hk).1
      have Qf := Lib.hid Qf
      have SS8 := SS7.next hb8
      have ST8 := ST7.next hb8
      have Ov8 := own_below Ov7 hb8
      have Ob8 := own_below Ob7 hb8
      have Od8 := own_below Od7 hb8
      have Og8 := own_below Og7 hb8
      have B8 := B7.trans (hb8.mono B7.size)
      clear hb8 B7 SS7 ST7 Ov7 Ob7 Od7 Og7
      go_wp2_with fail
      refine (eqChartStepS_same _ _ _ _ _ _ _ (steps_own Ob8) (steps_own Of8) (by unfold maxLen; omega)).mono ?_
      rintro e w9 ⟨rfl, hb9⟩
      have SS9 := SS8.next hb9
      have ST9 := ST8.next hb9
      have Ov9 := own_below Ov8 hb9
      have Ob9 := own_below Ob8 hb9
      have Od9 := own_below Od8 hb9
      have Og9 := own_below Og8 hb9
      have B9 := B8.trans (hb9.mono B8.size)
      clear hb9 B8 SS8 ST8 Ov8 Ob8 Od8 Og8 Of8
      go_wp2_with fail
      refine (toSteps_any _ _ _ _ _ ST9 (by omega)).mono ?_
      rintro e w10 ⟨Ah, rfl, Oh10, hb10⟩
      have Qh : ∀ k, (Value.slice Ah n' n').ownBlock = some k → w.heap.size ≤ k := fun k hk => Nat.le_trans B9.size (Oh10.lt k hk).1
      have Qh := Lib.hid Qh
      have SS10 := SS9.next hb10
      have ST10 := ST9.next hb10
      have Ov10 := own_below Ov9 hb10
      have Ob10 := own_below Ob9 hb10
      have Od10 := own_below Od9 hb10
      have Og10 := own_below Og9 hb10
      have B10 := B9.trans (hb10.mono B9.size)
      clear hb10 B9 SS9 ST9 Ov9 Ob9 Od9 Og9
      go_wp2_with fail
      refine (eqChartStepS_same _ _ _ _ _ _ _ (steps_own Od10) (steps_own Oh10) (by unfold maxLen; omega)).mono ?_
      rintro e w11 ⟨rfl, hb11⟩
      have SS11 := SS10.next hb11
      have ST11 := ST10.next hb11
      have Ov11 := own_below Ov10 hb11
      have Ob11 := own_below Ob10 hb11
      have Od11 := own_below Od10 hb11
      have Og11 := own_below Og10 hb11
      have B11 := B10.trans (hb11.mono B10.size)
      clear hb11 B10 SS10 ST10 Ov10 Ob10 Od10 Og10 Oh10
      go_wp2_with fail
      refine (markSteps_any _ _ _ _ _ 1 _ Ob11 (by omega) (by omega) (by omega)).mono ?_
      rintro e w12 ⟨rfl, Ob12, hg12⟩
      have SS12 := SS11.marked hg12 PS_b.out
      have ST12 := ST11.marked hg12 PT_b.out
      have Ov12 := Ov11.kept hg12 Pv_b.out
      have Od12 := Od11.kept hg12 Pd_b.out
      have Og12 := Og11.kept hg12 Pg_b.out
      have B12 := grown_below B11 hg12 B11.size Qb.out
      clear hg12 B11 SS11 ST11 Ov11 Ob11 Od11 Og11
      clear Ob12
      go_wp2_with fail
      refine (markSteps_any _ _ _ _ _ _ _ Od12 (by omega) (by omega) (by omega)).mono ?_
      rintro e w13 ⟨rfl, Od13, hg13⟩
      have SS13 := SS12.marked hg13 PS_d.out
      have ST13 := ST12.marked hg13 PT_d.out
      have Ov13 := Ov12.kept hg13 Pv_d.out
      have Og13 := Og12.kept hg13 Pg_d.out
      have B13 := grown_below B12 hg13 B12.size Qd.out
      clear hg13 B12 SS12 ST12 Ov12 Od12 Og12
      clear Od13
      go_wp2_with fail
      refine (eqChartStepS_same _ _ _ _ _ _ _ (steps_own Og13) (steps_own Ov13) (by unfold maxLen; omega)).mono ?_
      rintro e w14 ⟨rfl, hb14⟩
      have SS14 := SS13.next hb14
      have ST14 := ST13.next hb14
      have Ov14 := own_below Ov13 hb14
      have Og14 := own_below Og13 hb14
      have B14 := B13.trans (hb14.mono B13.size)
      clear hb14 B13 SS13 ST13 Ov13 Og13
      go_wp2_with fail
      refine (markSteps_any _ _ _ _ _ 1 _ Og14 (by omega) (by omega) (by omega)).mono ?_
      rintro e w15 ⟨rfl, Og15, hg15⟩
      have SS15 := SS14.marked hg15 PS_g.out
      have ST15 := ST14.marked hg15 PT_g.out
      have Ov15 := Ov14.kept hg15 Pv_g.out
      have B15 := grown_below B14 hg15 B14.size Qg.out
      clear hg15 B14 SS14 ST14 Ov14 Og14
      go_wp2_with fail
      refine (heldSteps_any _ _ _ 1 _ (steps_own Og15) (by omega) (by omega) (by omega)).mono ?_
      rintro e w' ⟨rfl, rfl⟩
      go_wp2_with fail
      refine (toSteps_any _ _ _ _ _ SS15 (by omega)).mono ?_
      rintro e w16 ⟨Aj, rfl, Oj16, hb16⟩
      have Qj : ∀ k, (Value.slice Aj n n).ownBlock = some k → w.heap.size ≤ k := fun k hk => Nat.le_trans B15.size (Oj16.lt k hk).1
      have Qj := Lib.hid Qj
      have SS16 := SS15.next hb16
      have ST16 := ST15.next hb16
      have Ov16 := own_below Ov15 hb16
      have Og16 := own_below Og15 hb16
      have B16 := B15.trans (hb16.mono B15.size)
      clear hb16 B15 SS15 ST15 Ov15 Og15
      go_wp2_with fail
      refine (toSteps_any _ _ _ _ _ ST16 (by omega)).mono ?_
      rintro e w17 ⟨Ak, rfl, Ok17, hb17⟩
      have Qk : ∀ k, (Value.slice Ak n' n').ownBlock = some k → w.heap.size ≤ k := fun k hk => Nat.le_trans B16.size (Ok17.lt k hk).1
      have Qk := Lib.hid Qk
      have SS17 := SS16.next hb17
      have ST17 := ST16.next hb17
      have Ov17 := own_below Ov16 hb17
      have Og17 := own_below Og16 hb17
      have Oj17 := own_below Oj16 hb17
      have B17 := B16.trans (hb17.mono B16.size)
      clear hb17 B16 SS16 ST16 Ov16 Og16 Oj16
      go_wp2_with fail
      refine (H2.out _ _ _ _ _ _ _ (steps_own Oj17) (steps_own Ok17) (by unfold maxLen; omega) (by unfold maxLen; omega)).mono ?_
      rintro e w18 ⟨Al, cl, rfl, Ol18, hb18⟩
      have Ql : ∀ k, (Value.slice Al m cl).ownBlock = some k → w.heap.size ≤ k := fun k hk => Nat.le_trans B17.size (Ol18.lt k hk).1
      have Ql := Lib.hid Ql
      have SS18 := SS17.next hb18
      have ST18 := ST17.next hb18
      have Ov18 := own_below Ov17 hb18
      have Og18 := own_below Og17 hb18
      have B18 := B17.trans (hb18.mono B17.size)
      clear hb18 B17 SS17 ST17 Ov17 Og17 Oj17 Ok17
      go_wp2_with fail
      refine (eqChartStepS_same _ _ _ _ _ _ _ (steps_own Ol18) (steps_own Ov18) (by unfold maxLen; omega)).mono ?_
      rintro e w19 ⟨rfl, hb19⟩
      have SS19 := SS18.next hb19
      have ST19 := ST18.next hb19
      have Ov19 := own_below Ov18 hb19
      have Og19 := own_below Og18 hb19
      have B19 := B18.trans (hb19.mono B18.size)
      clear hb19 B18 SS18 ST18 Ov18 Og18 Ol18
      go_wp2_with fail
      refine (heldSteps_any _ _ _ 1 _ (steps_own Og19) (by omega) (by omega) (by omega)).mono ?_
      rintro e w' ⟨rfl, rfl⟩
      go_wp2
      go_ret
      exact ⟨rfl, B19⟩
    · clear hlen
      go_enter Try.func11, Try.ntmps11
      go_wp2_with fail
      refine (sz_in (by omega) _ _ _ (by omega) (by omega) (by unfold maxLen; omega)).mono ?_
      rintro e w' ⟨rfl, rfl⟩
      go_wp2_with fail
      refine (sz_out (by omega) _ _ _ (by omega) (by omega) hn').mono ?_
      rintro e w' ⟨rfl, rfl⟩
      go_wp2
      go_ret
      exact ⟨rfl, Below.refl _ _⟩
  · clear hlen
    go_enter Try.func11, Try.ntmps11
    go_wp2_with fail
    refine (sz_out (by omega) _ _ _ (by omega) (by omega) hn).mono ?_
    rintro e w' ⟨rfl, rfl⟩
    go_wp2
    go_ret
    exact ⟨rfl, Below.refl _ _⟩
end Go.Proofs.Ytiaineljcmjfoaa
