/- A chart read from its text: the law. -/
import Derived.Test.YtihbomgbkpmojaaDoorProg
import Derived.Test.YtihbomgbkpmojaaDoorKit
import Derived.Test.YtihbomgbkpmojaaDoorMem
import Derived.Test.YtihbomgbkpmojaaDoorLists
import Derived.Test.YtihbomgbkpmojaaDoorSteps
import Derived.Test.YtihbomgbkpmojaaDoorApart
import Derived.Test.YtihbomgbkpmojaaDoorMarks
import Derived.Test.YtihbomgbkpmojaaDoorLaid
import Derived.Test.YtihbomgbkpmojaaDoorRC
import Derived.Test.YtihbomgbkpmojaaDoorRC2
import Derived.Test.YtihbomgbkpmojaaDoorRC3
namespace Go.Proofs.YtihbomgbkpmojaaDoor
open Go.RowKit Go.WideShapes Go.ChangeShapes Go.Joins Go.Deep Go.Sort
set_option linter.unusedVariables false
set_option linter.unusedSimpArgs false
theorem rcO_len (s : ByteArray) : (outO (rcO s)).length ≤ 20 := by
  unfold rcO
  cases h : rcSpec s.data.toList with
  | none => exact Nat.zero_le _
  | some L =>
    unfold rcSpec at h
    cases ha : allO stepOf (splitB 32 s.data.toList) with
    | none => rw [ha] at h; cases h
    | some L' =>
      rw [ha] at h
      simp only at h
      split at h
      · rename_i hc
        injection h with h
        subst h
        exact (chart_len' hc).2
      · cases h
set_option maxHeartbeats 4000000 in
theorem FnExactReadChart_walk (w : World) (TE : (TabAt w ∧ ErrsAt w) ∧ MaxAt w) (s : ByteArray) (hs : s.size ≤ maxLen) : Calls Tryd.prog 6 #[.string s] w fun e w' => e = .returned (.bool true) ∧ Below w.heap.size w w' := by
  by_cases hl : s.size ≤ 1048576
  · have hlen := rcO_len s
    have H1 : Hid (∀ w, Calls Tryd.prog 17 #[.string s] w (RetCS w (rcO s))) := fun w => specReadChart_any s w hl
    have H2 : Hid (∀ w, (TabAt w ∧ ErrsAt w) → MaxAt w → Calls Tryd.prog 18 #[.string s] w (RetCS w (rcO s))) := fun w T M => implReadChart_any s w hl T M
    unfold RetCS at H1 H2
    generalize outO (rcO s) = M at hlen H1 H2
    generalize (rcO s).isSome = y at H1 H2
    have HT := Lib.hid TE
    have B0 := Below.refl w.heap.size w
    clear hs TE
    go_enter Tryd.func6, Tryd.ntmps6
    go_wp2_with fail
    refine (H1.out _).mono ?_
    rintro e w1 ⟨Av, m, cv, hm, rfl, Ov1, hb1⟩
    have HM := Lib.hid hm
    rw [← hm] at hlen
    clear hm
    have B1 := B0.trans (hb1.mono B0.size)
    clear hb1 B0
    go_wp2_with fail
    refine (H2.out _ ⟨HT.out.1.1.on B1, HT.out.1.2.on B1⟩ (HT.out.2.on B1)).mono ?_
    rintro e w2 ⟨Ag, m2, cg, hm2, rfl, Og2, hb2⟩
    have e2 : m2 = m := hm2.trans HM.out.symm
    subst e2
    clear hm2
    have Pv_g := Lib.hid (apart_early Ov1 Og2)
    have Qg : ∀ k, (Value.slice Ag m2 cg).ownBlock = some k → w.heap.size ≤ k := fun k hk => Nat.le_trans B1.size (Og2.lt k hk).1
    have Qg := Lib.hid Qg
    have Ov2 := own_below Ov1 hb2
    have B2 := B1.trans (hb2.mono B1.size)
    clear hb2 B1 Ov1
    go_wp2_with fail
    refine (eqChartStepS_same _ _ _ _ _ _ _ (steps_own Og2) (steps_own Ov2) (by unfold maxLen; omega)).mono ?_
    rintro e w3 ⟨rfl, hb3⟩
    have Ov3 := own_below Ov2 hb3
    have Og3 := own_below Og2 hb3
    have B3 := B2.trans (hb3.mono B2.size)
    clear hb3 B2 Ov2 Og2
    go_wp2_with fail
    refine (markSteps_any _ _ _ _ _ 1 _ Og3 (by omega) (by omega) (by omega)).mono ?_
    rintro e w4 ⟨rfl, Og4, hg4⟩
    have Ov4 := Ov3.kept hg4 Pv_g.out
    have B4 := grown_below B3 hg4 B3.size Qg.out
    clear hg4 B3 Ov3 Og3
    go_wp2_with fail
    refine (heldSteps_any _ _ _ 1 _ (steps_own Og4) (by omega) (by omega) (by omega)).mono ?_
    rintro e w' ⟨rfl, rfl⟩
    have T4 := HT.out.1.1.on B4
    have E4 := HT.out.1.2.on B4
    have M4 := HT.out.2.on B4
    go_wp2_with fail
    refine (H2.out _ ⟨T4, E4⟩ M4).mono ?_
    rintro e w6 ⟨Ah, m3, ch, hm3, rfl, Oh6, hb6⟩
    have e3 : m3 = m2 := hm3.trans HM.out.symm
    subst e3
    clear hm3 T4 E4 M4
    have Ov6 := own_below Ov4 hb6
    have Og6 := own_below Og4 hb6
    have B6 := B4.trans (hb6.mono B4.size)
    clear hb6 B4 Ov4 Og4
    go_wp2_with fail
    refine (eqChartStepS_same _ _ _ _ _ _ _ (steps_own Oh6) (steps_own Ov6) (by unfold maxLen; omega)).mono ?_
    rintro e w7 ⟨rfl, hb7⟩
    have Og7 := own_below Og6 hb7
    have B7 := B6.trans (hb7.mono B6.size)
    clear hb7 B6 Ov6 Og6 Oh6
    go_wp2_with fail
    refine (heldSteps_any _ _ _ 1 _ (steps_own Og7) (by omega) (by omega) (by omega)).mono ?_
    rintro e w' ⟨rfl, rfl⟩
    go_wp2
    go_ret
    exact ⟨rfl, B7⟩
  · unfold maxLen at hs
    clear TE
    go_enter Tryd.func6, Tryd.ntmps6
    go_wp2
    go_ret
    exact ⟨rfl, Below.refl _ _⟩
end Go.Proofs.YtihbomgbkpmojaaDoor
