/- The law of the ways of turning. -/
import Derived.Test.YtofoihohendjgaaProg
import Derived.Test.YtofoihohendjgaaKit
import Derived.Test.YtofoihohendjgaaBasics
import Derived.Test.YtofoihohendjgaaDirs
import Derived.Test.YtofoihohendjgaaMem
import Derived.Test.YtofoihohendjgaaInts
import Derived.Test.YtofoihohendjgaaApart
import Derived.Test.YtofoihohendjgaaCodeRes
import Derived.Test.YtofoihohendjgaaWay
namespace Go.Proofs.Ytofoihohendjgaa
open Go.RowKit Go.WideShapes Go.ChangeShapes Go.Joins Go.Deep Go.Sort
set_option linter.unusedVariables false
set_option linter.unusedSimpArgs false

def wayM (f b : Int) : List Int := if inB f 0 23 && inB b (-1000) 1000 then (if 0 ≤ b then wayL f 1 b.toNat else wayL f (-1) (-b).toNat) else []
def wayC (f b : Int) : Int := if inB f 0 23 && inB b (-1000) 1000 then 0 else 2
theorem way_bad {f b : Int} (h : (inB f 0 23 && inB b (-1000) 1000) = false) : wayM f b = [] ∧ wayC f b = 2 := by unfold wayM wayC; rw [h]; exact ⟨rfl, rfl⟩
theorem way_pos {f b : Int} (h : inB f 0 23 = true) (h' : inB b (-1000) 1000 = true) (b0 : 0 ≤ b) : wayM f b = wayL f 1 b.toNat ∧ wayC f b = 0 := by
  unfold wayM wayC; rw [h, h', if_pos b0]; exact ⟨rfl, rfl⟩
theorem way_neg {f b : Int} (h : inB f 0 23 = true) (h' : inB b (-1000) 1000 = true) (b0 : b < 0) : wayM f b = wayL f (-1) (-b).toNat ∧ wayC f b = 0 := by
  unfold wayM wayC; rw [h, h', if_neg (show ¬ 0 ≤ b by omega)]; exact ⟨rfl, rfl⟩
theorem wayM_len (f b : Int) : (wayM f b).length ≤ 1001 := by
  cases h : (inB f 0 23 && inB b (-1000) 1000)
  · rw [(way_bad h).1]; exact Nat.zero_le _
  · simp only [Bool.and_eq_true] at h
    have hb := inB_of h.2
    by_cases b0 : 0 ≤ b
    · rw [(way_pos h.1 h.2 b0).1, wayL_length]; omega
    · rw [(way_neg h.1 h.2 (by omega)).1, wayL_length]; omega
set_option maxHeartbeats 1000000 in
theorem implWayOf_any (f b : Int) (w : World) : Calls Try.prog 19 #[.int .i64 f, .int .i64 b] w (RetInts w (wayM f b) (wayC f b)) := by
  cases h1 : inB f 0 23
  · obtain ⟨e1, e2⟩ := way_bad (f := f) (b := b) (by rw [h1]; rfl)
    rw [e1, e2]
    clear e1 e2
    go_enter Try.func19, Try.ntmps19
    go_wp2_with (first | (go_at_call 31; refine (isDirection_any _ _).mono ?_; rintro e w' ⟨rfl, rfl⟩) | (go_at_call 35; refine (within_any _ _ _ _).mono ?_; rintro e w' ⟨rfl, rfl⟩))
    go_ret2
    exact RetInts.none_ (Below.refl _ _)
  · cases h2 : inB b (-1000) 1000
    · obtain ⟨e1, e2⟩ := way_bad (f := f) (b := b) (by rw [h1, h2]; rfl)
      rw [e1, e2]
      clear e1 e2
      go_enter Try.func19, Try.ntmps19
      go_wp2_with (first | (go_at_call 31; refine (isDirection_any _ _).mono ?_; rintro e w' ⟨rfl, rfl⟩) | (go_at_call 35; refine (within_any _ _ _ _).mono ?_; rintro e w' ⟨rfl, rfl⟩))
      go_ret2
      exact RetInts.none_ (Below.refl _ _)
    · by_cases b0 : 0 ≤ b
      · obtain ⟨e1, e2⟩ := way_pos h1 h2 b0
        rw [e1, e2]
        exact implWay_pos f b b.toNat w h1 h2 b0 (by omega)
      · have b0' : b < 0 := by omega
        obtain ⟨e1, e2⟩ := way_neg h1 h2 b0'
        rw [e1, e2]
        exact implWay_neg f b (-b).toNat w h1 h2 b0' (by omega)
set_option maxHeartbeats 1000000 in
theorem specWayOf_any (f b : Int) (w : World) : Calls Try.prog 18 #[.int .i64 f, .int .i64 b] w (RetInts w (wayM f b) (wayC f b)) := by
  cases h1 : inB f 0 23
  · obtain ⟨e1, e2⟩ := way_bad (f := f) (b := b) (by rw [h1]; rfl)
    rw [e1, e2]
    clear e1 e2
    go_enter Try.func18, Try.ntmps18
    go_wp2_with (first | (go_at_call 29; refine (l02Dir_any _ _).mono ?_; rintro e w' ⟨rfl, rfl⟩) | (go_at_call 33; refine (l00In_any _ _ _ _).mono ?_; rintro e w' ⟨rfl, rfl⟩))
    go_ret2
    exact RetInts.none_ (Below.refl _ _)
  · cases h2 : inB b (-1000) 1000
    · obtain ⟨e1, e2⟩ := way_bad (f := f) (b := b) (by rw [h1, h2]; rfl)
      rw [e1, e2]
      clear e1 e2
      go_enter Try.func18, Try.ntmps18
      go_wp2_with (first | (go_at_call 29; refine (l02Dir_any _ _).mono ?_; rintro e w' ⟨rfl, rfl⟩) | (go_at_call 33; refine (l00In_any _ _ _ _).mono ?_; rintro e w' ⟨rfl, rfl⟩))
      go_ret2
      exact RetInts.none_ (Below.refl _ _)
    · by_cases b0 : 0 ≤ b
      · obtain ⟨e1, e2⟩ := way_pos h1 h2 b0
        rw [e1, e2]
        have HC := Lib.hid (specWay_pos f b b.toNat w h1 h2 b0 (by omega))
        have HL := Lib.hid (wayL_length f 1 b.toNat)
        generalize b.toNat = n at HC HL ⊢
        clear e1 e2
        go_enter Try.func18, Try.ntmps18
        go_wp2_with (first | (go_at_call 29; refine (l02Dir_any _ _).mono ?_; rintro e w' ⟨rfl, rfl⟩) | (go_at_call 33; refine (l00In_any _ _ _ _).mono ?_; rintro e w' ⟨rfl, rfl⟩) | (go_at_call 37; refine HC.out.mono ?_; rintro e w1 ⟨A, c, rfl, ho, hb⟩))
        go_ret2
        exact RetInts.mk HL.out ho hb
      · have b0' : b < 0 := by omega
        obtain ⟨e1, e2⟩ := way_neg h1 h2 b0'
        rw [e1, e2]
        have HC := Lib.hid (specWay_neg f b (-b).toNat w h1 h2 b0' (by omega))
        have HL := Lib.hid (wayL_length f (-1) (-b).toNat)
        generalize (-b).toNat = n at HC HL ⊢
        clear e1 e2
        go_enter Try.func18, Try.ntmps18
        go_wp2_with (first | (go_at_call 29; refine (l02Dir_any _ _).mono ?_; rintro e w' ⟨rfl, rfl⟩) | (go_at_call 33; refine (l00In_any _ _ _ _).mono ?_; rintro e w' ⟨rfl, rfl⟩) | (go_at_call 37; refine HC.out.mono ?_; rintro e w1 ⟨A, c, rfl, ho, hb⟩))
        go_ret2
        exact RetInts.mk HL.out ho hb
set_option maxHeartbeats 4000000 in
theorem FnExactWayOf_walk (f : Int) (_wf : (Lit.int .i64 f).wf = true) (b : Int) (_wb : (Lit.int .i64 b).wf = true) (w : World) : Calls Try.prog 7 #[.int .i64 f, .int .i64 b] w fun e w' => e = .returned (.bool true) ∧ Below w.heap.size w w' := by
  clear _wf _wb
  have hlen := wayM_len f b
  have H1 : Hid (∀ w, Calls Try.prog 18 #[.int .i64 f, .int .i64 b] w (RetInts w (wayM f b) (wayC f b))) := fun w => specWayOf_any f b w
  have H2 : Hid (∀ w, Calls Try.prog 19 #[.int .i64 f, .int .i64 b] w (RetInts w (wayM f b) (wayC f b))) := fun w => implWayOf_any f b w
  generalize wayM f b = M at hlen H1 H2
  generalize wayC f b = y at H1 H2
  obtain ⟨m, hm⟩ : ∃ m : Nat, m = M.length := ⟨_, rfl⟩
  unfold RetInts at H1 H2
  rw [← hm] at H1 H2 hlen
  clear hm
  have B0 := Below.refl w.heap.size w
  go_enter Try.func7, Try.ntmps7
  go_wp2_with fail
  refine (H1.out _).mono ?_
  rintro e w1 ⟨Av, cv, rfl, Ov1, hb1⟩
  have Qv : ∀ k, (Value.slice Av m cv).ownBlock = some k → w.heap.size ≤ k := fun k hk => Nat.le_trans B0.size (Ov1.lt k hk).1
  have Qv := Lib.hid Qv
  have B1 := B0.trans (hb1.mono B0.size)
  clear hb1 B0
  go_wp2_with fail
  refine (H2.out _).mono ?_
  rintro e w2 ⟨Ag, cg, rfl, Og2, hb2⟩
  have Pv_g := Lib.hid (apart_early Ov1 Og2)
  have Qg : ∀ k, (Value.slice Ag m cg).ownBlock = some k → w.heap.size ≤ k := fun k hk => Nat.le_trans B1.size (Og2.lt k hk).1
  have Qg := Lib.hid Qg
  have Ov2 := own_below Ov1 hb2
  have B2 := B1.trans (hb2.mono B1.size)
  clear hb2 B1 Ov1
  go_wp2_with fail
  refine (eqInt64S_same _ _ _ _ _ _ _ _ _ (reads_own Og2) (reads_own Ov2) (by unfold maxLen; omega)).mono ?_
  rintro e w3 ⟨rfl, hb3⟩
  have Ov3 := own_below Ov2 hb3
  have Og3 := own_below Og2 hb3
  have B3 := B2.trans (hb3.mono B2.size)
  clear hb3 B2 Ov2 Og2
  go_wp2_with fail
  refine (markInt64S_any _ _ _ _ _ 1 _ Og3 (by omega) (by omega) (by omega)).mono ?_
  rintro e w4 ⟨rfl, Og4, hg4⟩
  have Ov4 := Ov3.kept hg4 Pv_g.out
  have B4 := grown_below B3 hg4 B3.size Qg.out
  clear hg4 B3 Ov3 Og3
  go_wp2_with fail
  refine (heldInt64S_any _ _ _ _ 1 _ (reads_own Og4) (by unfold maxLen; omega) (by omega) (by omega) (by omega)).mono ?_
  rintro e w' ⟨rfl, rfl⟩
  go_wp2_with fail
  refine (H2.out _).mono ?_
  rintro e w5 ⟨Ah, ch, rfl, Oh5, hb5⟩
  have Qh : ∀ k, (Value.slice Ah m ch).ownBlock = some k → w.heap.size ≤ k := fun k hk => Nat.le_trans B4.size (Oh5.lt k hk).1
  have Qh := Lib.hid Qh
  have Ov5 := own_below Ov4 hb5
  have Og5 := own_below Og4 hb5
  have B5 := B4.trans (hb5.mono B4.size)
  clear hb5 B4 Ov4 Og4
  go_wp2_with fail
  refine (eqInt64S_same _ _ _ _ _ _ _ _ _ (reads_own Oh5) (reads_own Ov5) (by unfold maxLen; omega)).mono ?_
  rintro e w6 ⟨rfl, hb6⟩
  have Ov6 := own_below Ov5 hb6
  have Og6 := own_below Og5 hb6
  have B6 := B5.trans (hb6.mono B5.size)
  clear hb6 B5 Ov5 Og5 Oh5
  go_wp2_with fail
  refine (heldInt64S_any _ _ _ _ 1 _ (reads_own Og6) (by unfold maxLen; omega) (by omega) (by omega) (by omega)).mono ?_
  rintro e w' ⟨rfl, rfl⟩
  go_wp2
  go_ret
  exact ⟨rfl, B6⟩
end Go.Proofs.Ytofoihohendjgaa
