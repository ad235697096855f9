/- Walks of the distances of two places and of their laws; of the laws of turns and roots. -/
import Derived.Test.YtofoihohendjgaaProg
import Derived.Test.YtofoihohendjgaaKit
import Derived.Test.YtofoihohendjgaaBasics
import Derived.Test.YtofoihohendjgaaDirs
namespace Go.Proofs.Ytofoihohendjgaa
open Go.RowKit Go.WideShapes Go.ChangeShapes Go.Joins Go.Deep Go.Sort
set_option linter.unusedVariables false

/-! ### two places -/
set_option maxHeartbeats 400000 in
theorem implSquareBetween_any (ax ay bx cy : Int) (w : World) : Calls Try.prog 11 #[.agg #[.int .i64 ax, .int .i64 ay], .agg #[.int .i64 bx, .int .i64 cy]] w fun e w' => e = .returned (pairV (placeB ax ay && placeB bx cy) (sqD ax ay bx cy) 1) ∧ Below w.heap.size w w' := by
  cases h1 : placeB ax ay
  · rw [Bool.false_and, pairV_false]
    go_enter Try.func11, Try.ntmps11
    go_wp2_with fail
    refine (implValidPlace_any _ _ _).mono ?_
    rintro e w1 ⟨rfl, hb1⟩
    have KA1 := ((Blk.new w _ _).alloc _).on hb1
    have KB1 := (Blk.new2 w _ _ _).on hb1
    have B1 := (below_alloc2 w _ _).trans (hb1.mono (below_alloc2 w _ _).size)
    clear hb1
    obtain ⟨a0, a1⟩ := KA1.two
    obtain ⟨b0, b1⟩ := KB1.two
    go_wp2
    go_ret2
    exact ⟨rfl, B1⟩
  · skip
    cases h2 : placeB bx cy
    · rw [Bool.true_and, pairV_false]
      go_enter Try.func11, Try.ntmps11
      go_wp2_with fail
      refine (implValidPlace_any _ _ _).mono ?_
      rintro e w1 ⟨rfl, hb1⟩
      have KA1 := ((Blk.new w _ _).alloc _).on hb1
      have KB1 := (Blk.new2 w _ _ _).on hb1
      have B1 := (below_alloc2 w _ _).trans (hb1.mono (below_alloc2 w _ _).size)
      clear hb1
      obtain ⟨a0, a1⟩ := KA1.two
      obtain ⟨b0, b1⟩ := KB1.two
      go_wp2_with fail
      refine (implValidPlace_any _ _ _).mono ?_
      rintro e w2 ⟨rfl, hb2⟩
      clear a0 a1 b0 b1
      have KA2 := KA1.on hb2
      have KB2 := KB1.on hb2
      have B2 := B1.trans (hb2.mono B1.size)
      clear hb2 B1 KA1 KB1
      obtain ⟨a0, a1⟩ := KA2.two
      obtain ⟨b0, b1⟩ := KB2.two
      go_wp2
      go_ret2
      exact ⟨rfl, B2⟩
    · rw [Bool.true_and, pairV_true]
      have q1 := placeB_iff.1 h1
      have q2 := placeB_iff.1 h2
      go_enter Try.func11, Try.ntmps11
      go_wp2_with fail
      refine (implValidPlace_any _ _ _).mono ?_
      rintro e w1 ⟨rfl, hb1⟩
      have KA1 := ((Blk.new w _ _).alloc _).on hb1
      have KB1 := (Blk.new2 w _ _ _).on hb1
      have B1 := (below_alloc2 w _ _).trans (hb1.mono (below_alloc2 w _ _).size)
      clear hb1
      obtain ⟨a0, a1⟩ := KA1.two
      obtain ⟨b0, b1⟩ := KB1.two
      go_wp2_with fail
      refine (implValidPlace_any _ _ _).mono ?_
      rintro e w2 ⟨rfl, hb2⟩
      clear a0 a1 b0 b1
      have KA2 := KA1.on hb2
      have KB2 := KB1.on hb2
      have B2 := B1.trans (hb2.mono B1.size)
      clear hb2 B1 KA1 KB1
      obtain ⟨a0, a1⟩ := KA2.two
      obtain ⟨b0, b1⟩ := KB2.two
      go_wp2_with fail
      refine (square_any _ _ _ _ _ (by omega) (by omega) (by omega) (by omega) (by omega) (by omega) (by omega) (by omega)).mono ?_
      rintro e w3 ⟨rfl, hb3⟩
      clear a0 a1 b0 b1
      have KA3 := KA2.on hb3
      have KB3 := KB2.on hb3
      have B3 := B2.trans (hb3.mono B2.size)
      clear hb3 B2 KA2 KB2
      obtain ⟨a0, a1⟩ := KA3.two
      obtain ⟨b0, b1⟩ := KB3.two
      go_wp2
      go_ret2
      exact ⟨rfl, B3⟩
set_option maxHeartbeats 400000 in
theorem specSquareBetween_any (ax ay bx cy : Int) (w : World) : Calls Try.prog 9 #[.agg #[.int .i64 ax, .int .i64 ay], .agg #[.int .i64 bx, .int .i64 cy]] w fun e w' => e = .returned (pairV (placeB ax ay && placeB bx cy) (sqD ax ay bx cy) 1) ∧ Below w.heap.size w w' := by
  cases h1 : placeB ax ay
  · rw [Bool.false_and, pairV_false]
    go_enter Try.func9, Try.ntmps9
    go_wp2_with fail
    refine (l02Ok_any _ _ _).mono ?_
    rintro e w1 ⟨rfl, hb1⟩
    have KA1 := ((Blk.new w _ _).alloc _).on hb1
    have KB1 := (Blk.new2 w _ _ _).on hb1
    have B1 := (below_alloc2 w _ _).trans (hb1.mono (below_alloc2 w _ _).size)
    clear hb1
    obtain ⟨a0, a1⟩ := KA1.two
    obtain ⟨b0, b1⟩ := KB1.two
    go_wp2
    go_ret2
    exact ⟨rfl, B1⟩
  · skip
    cases h2 : placeB bx cy
    · rw [Bool.true_and, pairV_false]
      go_enter Try.func9, Try.ntmps9
      go_wp2_with fail
      refine (l02Ok_any _ _ _).mono ?_
      rintro e w1 ⟨rfl, hb1⟩
      have KA1 := ((Blk.new w _ _).alloc _).on hb1
      have KB1 := (Blk.new2 w _ _ _).on hb1
      have B1 := (below_alloc2 w _ _).trans (hb1.mono (below_alloc2 w _ _).size)
      clear hb1
      obtain ⟨a0, a1⟩ := KA1.two
      obtain ⟨b0, b1⟩ := KB1.two
      go_wp2_with fail
      refine (l02Ok_any _ _ _).mono ?_
      rintro e w2 ⟨rfl, hb2⟩
      clear a0 a1 b0 b1
      have KA2 := KA1.on hb2
      have KB2 := KB1.on hb2
      have B2 := B1.trans (hb2.mono B1.size)
      clear hb2 B1 KA1 KB1
      obtain ⟨a0, a1⟩ := KA2.two
      obtain ⟨b0, b1⟩ := KB2.two
      go_wp2
      go_ret2
      exact ⟨rfl, B2⟩
    · rw [Bool.true_and, pairV_true]
      have q1 := placeB_iff.1 h1
      have q2 := placeB_iff.1 h2
      go_enter Try.func9, Try.ntmps9
      go_wp2_with fail
      refine (l02Ok_any _ _ _).mono ?_
      rintro e w1 ⟨rfl, hb1⟩
      have KA1 := ((Blk.new w _ _).alloc _).on hb1
      have KB1 := (Blk.new2 w _ _ _).on hb1
      have B1 := (below_alloc2 w _ _).trans (hb1.mono (below_alloc2 w _ _).size)
      clear hb1
      obtain ⟨a0, a1⟩ := KA1.two
      obtain ⟨b0, b1⟩ := KB1.two
      go_wp2_with fail
      refine (l02Ok_any _ _ _).mono ?_
      rintro e w2 ⟨rfl, hb2⟩
      clear a0 a1 b0 b1
      have KA2 := KA1.on hb2
      have KB2 := KB1.on hb2
      have B2 := B1.trans (hb2.mono B1.size)
      clear hb2 B1 KA1 KB1
      obtain ⟨a0, a1⟩ := KA2.two
      obtain ⟨b0, b1⟩ := KB2.two
      go_wp2_with fail
      refine (l02Square_any _ _ _ _ _ (by omega) (by omega) (by omega) (by omega) (by omega) (by omega) (by omega) (by omega)).mono ?_
      rintro e w3 ⟨rfl, hb3⟩
      clear a0 a1 b0 b1
      have KA3 := KA2.on hb3
      have KB3 := KB2.on hb3
      have B3 := B2.trans (hb3.mono B2.size)
      clear hb3 B2 KA2 KB2
      obtain ⟨a0, a1⟩ := KA3.two
      obtain ⟨b0, b1⟩ := KB3.two
      go_wp2
      go_ret2
      exact ⟨rfl, B3⟩
set_option maxHeartbeats 400000 in
theorem implRadiusBetween_any (ax ay bx cy : Int) (w : World) : Calls Try.prog 17 #[.agg #[.int .i64 ax, .int .i64 ay], .agg #[.int .i64 bx, .int .i64 cy]] w fun e w' => e = .returned (pairV (placeB ax ay && placeB bx cy) (rootV (sqD ax ay bx cy)) 1) ∧ Below w.heap.size w w' := by
  have H := Lib.hid fun w => implSquareBetween_any ax ay bx cy w
  cases h : placeB ax ay && placeB bx cy
  · rw [pairV_false]
    have H0 : Hid (∀ w, Calls Try.prog 11 #[.agg #[.int .i64 ax, .int .i64 ay], .agg #[.int .i64 bx, .int .i64 cy]] w fun e w' => e = .returned (.tuple #[.int .i64 0, .int .i64 1]) ∧ Below w.heap.size w w') := fun w => by have := H.out w; rw [h, pairV_false] at this; exact this
    clear H h
    go_enter Try.func17, Try.ntmps17
    go_wp2_with fail
    refine (H0.out _).mono ?_
    rintro e w1 ⟨rfl, hb1⟩
    have KA1 := ((Blk.new w _ _).alloc _).on hb1
    have KB1 := (Blk.new2 w _ _ _).on hb1
    have B1 := (below_alloc2 w _ _).trans (hb1.mono (below_alloc2 w _ _).size)
    clear hb1
    go_wp2
    go_ret2
    exact ⟨rfl, B1⟩
  · rw [pairV_true]
    have H0 : Hid (∀ w, Calls Try.prog 11 #[.agg #[.int .i64 ax, .int .i64 ay], .agg #[.int .i64 bx, .int .i64 cy]] w fun e w' => e = .returned (.tuple #[.int .i64 (sqD ax ay bx cy), .int .i64 0]) ∧ Below w.heap.size w w') := fun w => by have := H.out w; rw [h, pairV_true] at this; exact this
    have q := sqD_bound (by simp only [Bool.and_eq_true] at h; exact h.1) (by simp only [Bool.and_eq_true] at h; exact h.2) (ax := ax) (ay := ay) (bx := bx) (y := cy)
    obtain ⟨q1, q2⟩ := q
    clear H h
    go_enter Try.func17, Try.ntmps17
    go_wp2_with fail
    refine (H0.out _).mono ?_
    rintro e w1 ⟨rfl, hb1⟩
    have KA1 := ((Blk.new w _ _).alloc _).on hb1
    have KB1 := (Blk.new2 w _ _ _).on hb1
    have B1 := (below_alloc2 w _ _).trans (hb1.mono (below_alloc2 w _ _).size)
    clear hb1
    go_wp2_with (first | (go_at_call 36; refine (rootUp_any _ _ (by omega) (by omega)).mono ?_; rintro e w' ⟨rfl, rfl⟩))
    go_ret2
    exact ⟨rfl, B1⟩
set_option maxHeartbeats 400000 in
theorem specRadiusBetween_any (ax ay bx cy : Int) (w : World) : Calls Try.prog 16 #[.agg #[.int .i64 ax, .int .i64 ay], .agg #[.int .i64 bx, .int .i64 cy]] w fun e w' => e = .returned (pairV (placeB ax ay && placeB bx cy) (rootV (sqD ax ay bx cy)) 1) ∧ Below w.heap.size w w' := by
  cases h1 : placeB ax ay
  · rw [Bool.false_and, pairV_false]
    go_enter Try.func16, Try.ntmps16
    go_wp2_with fail
    refine (l02Ok_any _ _ _).mono ?_
    rintro e w1 ⟨rfl, hb1⟩
    have KA1 := ((Blk.new w _ _).alloc _).on hb1
    have KB1 := (Blk.new2 w _ _ _).on hb1
    have B1 := (below_alloc2 w _ _).trans (hb1.mono (below_alloc2 w _ _).size)
    clear hb1
    obtain ⟨a0, a1⟩ := KA1.two
    obtain ⟨b0, b1⟩ := KB1.two
    go_wp2
    go_ret2
    exact ⟨rfl, B1⟩
  · skip
    cases h2 : placeB bx cy
    · rw [Bool.true_and, pairV_false]
      go_enter Try.func16, Try.ntmps16
      go_wp2_with fail
      refine (l02Ok_any _ _ _).mono ?_
      rintro e w1 ⟨rfl, hb1⟩
      have KA1 := ((Blk.new w _ _).alloc _).on hb1
      have KB1 := (Blk.new2 w _ _ _).on hb1
      have B1 := (below_alloc2 w _ _).trans (hb1.mono (below_alloc2 w _ _).size)
      clear hb1
      obtain ⟨a0, a1⟩ := KA1.two
      obtain ⟨b0, b1⟩ := KB1.two
      go_wp2_with fail
      refine (l02Ok_any _ _ _).mono ?_
      rintro e w2 ⟨rfl, hb2⟩
      clear a0 a1 b0 b1
      have KA2 := KA1.on hb2
      have KB2 := KB1.on hb2
      have B2 := B1.trans (hb2.mono B1.size)
      clear hb2 B1 KA1 KB1
      obtain ⟨a0, a1⟩ := KA2.two
      obtain ⟨b0, b1⟩ := KB2.two
      go_wp2
      go_ret2
      exact ⟨rfl, B2⟩
    · rw [Bool.true_and, pairV_true]
      obtain ⟨s1, s2⟩ := sqD_bound h1 h2
      have q1 := placeB_iff.1 h1
      have q2 := placeB_iff.1 h2
      go_enter Try.func16, Try.ntmps16
      go_wp2_with fail
      refine (l02Ok_any _ _ _).mono ?_
      rintro e w1 ⟨rfl, hb1⟩
      have KA1 := ((Blk.new w _ _).alloc _).on hb1
      have KB1 := (Blk.new2 w _ _ _).on hb1
      have B1 := (below_alloc2 w _ _).trans (hb1.mono (below_alloc2 w _ _).size)
      clear hb1
      obtain ⟨a0, a1⟩ := KA1.two
      obtain ⟨b0, b1⟩ := KB1.two
      go_wp2_with fail
      refine (l02Ok_any _ _ _).mono ?_
      rintro e w2 ⟨rfl, hb2⟩
      clear a0 a1 b0 b1
      have KA2 := KA1.on hb2
      have KB2 := KB1.on hb2
      have B2 := B1.trans (hb2.mono B1.size)
      clear hb2 B1 KA1 KB1
      obtain ⟨a0, a1⟩ := KA2.two
      obtain ⟨b0, b1⟩ := KB2.two
      go_wp2_with fail
      refine (l02Square_any _ _ _ _ _ (by omega) (by omega) (by omega) (by omega) (by omega) (by omega) (by omega) (by omega)).mono ?_
      rintro e w3 ⟨rfl, hb3⟩
      clear a0 a1 b0 b1
      have KA3 := KA2.on hb3
      have KB3 := KB2.on hb3
      have B3 := B2.trans (hb3.mono B2.size)
      clear hb3 B2 KA2 KB2
      obtain ⟨a0, a1⟩ := KA3.two
      obtain ⟨b0, b1⟩ := KB3.two
      go_wp2_with (first | (go_at_call 34; refine (l02Root_any _ _ (by omega) (by omega)).mono ?_; rintro e w' ⟨rfl, rfl⟩))
      go_ret2
      exact ⟨rfl, B3⟩
set_option maxHeartbeats 400000 in
theorem FnExactSquareBetween_walk (ax : Int) (_wax : (Lit.int .i64 ax).wf = true) (ay : Int) (_way : (Lit.int .i64 ay).wf = true) (bx : Int) (_wbx : (Lit.int .i64 bx).wf = true) (cy : Int) (_wby : (Lit.int .i64 cy).wf = true) (w : World) : Calls Try.prog 3 #[.agg #[.int .i64 ax, .int .i64 ay], .agg #[.int .i64 bx, .int .i64 cy]] w fun e w' => e = .returned (.bool true) ∧ Below w.heap.size w w' := by
  clear _wax _way _wbx _wby
  obtain ⟨x, y, E⟩ := pairV_form (placeB ax ay && placeB bx cy) (sqD ax ay bx cy) 1
  have C1 : ∀ w, Calls Try.prog 9 #[.agg #[.int .i64 ax, .int .i64 ay], .agg #[.int .i64 bx, .int .i64 cy]] w fun e w' => e = .returned (.tuple #[.int .i64 x, .int .i64 y]) ∧ Below w.heap.size w w' := fun w => by rw [← E]; exact specSquareBetween_any ax ay bx cy w
  have C2 : ∀ w, Calls Try.prog 11 #[.agg #[.int .i64 ax, .int .i64 ay], .agg #[.int .i64 bx, .int .i64 cy]] w fun e w' => e = .returned (.tuple #[.int .i64 x, .int .i64 y]) ∧ Below w.heap.size w w' := fun w => by rw [← E]; exact implSquareBetween_any ax ay bx cy w
  have H1 := Lib.hid C1
  have H2 := Lib.hid C2
  clear C1 C2 E
  go_enter Try.func3, Try.ntmps3
  go_wp2_with fail
  refine name_world (f := fun w => (Code.region _ _ _).wp _ _ _ w) ?_
  intro W hW
  have KA0 : Blk W (w.heap.size) 23 #[.int .i64 ax, .int .i64 ay] := by rw [hW]; exact ((Blk.new w _ _).alloc _)
  have KB0 : Blk W (w.heap.size + 1) 23 #[.int .i64 bx, .int .i64 cy] := by rw [hW]; exact (Blk.new2 w _ _ _)
  have B0 : Below w.heap.size w W := by rw [hW]; exact (below_alloc2 w _ _)
  clear hW
  obtain ⟨fa0, fa1⟩ := KA0.far_two
  obtain ⟨fb0, fb1⟩ := KB0.far_two
  refine wp_region_quiet_below (by kernel_rfl) (by kernel_rfl) ?_
  repeat (quiet_step (first | exact Calls.regrown_of (toPoint_any _ _ _) | exact Calls.regrown_of (H1.out _)))
  refine wpQuiet_nil ?_
  intro w1 hw1
  have hb1 := class_below hw1
  have KA1 := KA0.on hb1
  have KB1 := KB0.on hb1
  have B1 := B0.trans (hb1.mono B0.size)
  clear hw1 hb1 B0 KA0 fa0 fa1 KB0 fb0 fb1
  go_wp2_with fail
  obtain ⟨fa0, fa1⟩ := KA1.far_two
  obtain ⟨fb0, fb1⟩ := KB1.far_two
  refine wp_region_quiet_below (by kernel_rfl) (by kernel_rfl) ?_
  repeat (quiet_step (first | exact Calls.regrown_of (toPoint_any _ _ _) | exact Calls.regrown_of (H2.out _)))
  refine wpQuiet_nil ?_
  intro w2 hw2
  have hb2 := class_below hw2
  have KA2 := KA1.on hb2
  have KB2 := KB1.on hb2
  have B2 := B1.trans (hb2.mono B1.size)
  clear hw2 hb2 B1 KA1 fa0 fa1 KB1 fb0 fb1
  go_wp2
  go_ret
  exact ⟨rfl, B2⟩
set_option maxHeartbeats 400000 in
theorem FnExactRadiusBetween_walk (ax : Int) (_wax : (Lit.int .i64 ax).wf = true) (ay : Int) (_way : (Lit.int .i64 ay).wf = true) (bx : Int) (_wbx : (Lit.int .i64 bx).wf = true) (cy : Int) (_wby : (Lit.int .i64 cy).wf = true) (w : World) : Calls Try.prog 6 #[.agg #[.int .i64 ax, .int .i64 ay], .agg #[.int .i64 bx, .int .i64 cy]] w fun e w' => e = .returned (.bool true) ∧ Below w.heap.size w w' := by
  clear _wax _way _wbx _wby
  obtain ⟨x, y, E⟩ := pairV_form (placeB ax ay && placeB bx cy) (rootV (sqD ax ay bx cy)) 1
  have C1 : ∀ w, Calls Try.prog 16 #[.agg #[.int .i64 ax, .int .i64 ay], .agg #[.int .i64 bx, .int .i64 cy]] w fun e w' => e = .returned (.tuple #[.int .i64 x, .int .i64 y]) ∧ Below w.heap.size w w' := fun w => by rw [← E]; exact specRadiusBetween_any ax ay bx cy w
  have C2 : ∀ w, Calls Try.prog 17 #[.agg #[.int .i64 ax, .int .i64 ay], .agg #[.int .i64 bx, .int .i64 cy]] w fun e w' => e = .returned (.tuple #[.int .i64 x, .int .i64 y]) ∧ Below w.heap.size w w' := fun w => by rw [← E]; exact implRadiusBetween_any ax ay bx cy w
  have H1 := Lib.hid C1
  have H2 := Lib.hid C2
  clear C1 C2 E
  go_enter Try.func6, Try.ntmps6
  go_wp2_with fail
  refine name_world (f := fun w => (Code.region _ _ _).wp _ _ _ w) ?_
  intro W hW
  have KA0 : Blk W (w.heap.size) 23 #[.int .i64 ax, .int .i64 ay] := by rw [hW]; exact ((Blk.new w _ _).alloc _)
  have KB0 : Blk W (w.heap.size + 1) 23 #[.int .i64 bx, .int .i64 cy] := by rw [hW]; exact (Blk.new2 w _ _ _)
  have B0 : Below w.heap.size w W := by rw [hW]; exact (below_alloc2 w _ _)
  clear hW
  obtain ⟨fa0, fa1⟩ := KA0.far_two
  obtain ⟨fb0, fb1⟩ := KB0.far_two
  refine wp_region_quiet_below (by kernel_rfl) (by kernel_rfl) ?_
  repeat (quiet_step (first | exact Calls.regrown_of (toPoint_any _ _ _) | exact Calls.regrown_of (H1.out _)))
  refine wpQuiet_nil ?_
  intro w1 hw1
  have hb1 := class_below hw1
  have KA1 := KA0.on hb1
  have KB1 := KB0.on hb1
  have B1 := B0.trans (hb1.mono B0.size)
  clear hw1 hb1 B0 KA0 fa0 fa1 KB0 fb0 fb1
  go_wp2_with fail
  obtain ⟨fa0, fa1⟩ := KA1.far_two
  obtain ⟨fb0, fb1⟩ := KB1.far_two
  refine wp_region_quiet_below (by kernel_rfl) (by kernel_rfl) ?_
  repeat (quiet_step (first | exact Calls.regrown_of (toPoint_any _ _ _) | exact Calls.regrown_of (H2.out _)))
  refine wpQuiet_nil ?_
  intro w2 hw2
  have hb2 := class_below hw2
  have KA2 := KA1.on hb2
  have KB2 := KB1.on hb2
  have B2 := B1.trans (hb2.mono B1.size)
  clear hw2 hb2 B1 KA1 fa0 fa1 KB1 fb0 fb1
  go_wp2
  go_ret
  exact ⟨rfl, B2⟩
theorem FnExactTurnBetween_walk (a : Int) (_wa : (Lit.int .i64 a).wf = true) (b : Int) (_wb : (Lit.int .i64 b).wf = true) (w : World) : Calls Try.prog 4 #[.int .i64 a, .int .i64 b] w fun e w' => e = .returned (.bool true) ∧ Below w.heap.size w w' := by
  obtain ⟨x, y, E⟩ := pairV_form (inB a 0 23 && inB b 0 23) (turnV a b) 2
  have C1 : ∀ w, Calls Try.prog 12 #[.int .i64 a, .int .i64 b] w fun e w' => e = .returned (.tuple #[.int .i64 x, .int .i64 y]) ∧ w = w' := fun w => by rw [← E]; exact specTurnBetween_any a b w
  have C2 : ∀ w, Calls Try.prog 13 #[.int .i64 a, .int .i64 b] w fun e w' => e = .returned (.tuple #[.int .i64 x, .int .i64 y]) ∧ w = w' := fun w => by rw [← E]; exact implTurnBetween_any a b w
  have H1 := Lib.hid C1
  have H2 := Lib.hid C2
  clear C1 C2 E _wa _wb
  go_enter Try.func4, Try.ntmps4
  go_wp2_with (first | (go_at_call 12; refine (H1.out _).mono ?_; rintro e w' ⟨rfl, rfl⟩) | (go_at_call 13; refine (H2.out _).mono ?_; rintro e w' ⟨rfl, rfl⟩))
  go_ret
  exact ⟨rfl, Below.refl _ _⟩
theorem FnExactRootUp_walk (n : Int) (_wn : (Lit.int .i64 n).wf = true) (w : World) : Calls Try.prog 5 #[.int .i64 n] w fun e w' => e = .returned (.bool true) ∧ Below w.heap.size w w' := by
  obtain ⟨x, y, E⟩ := pairV_form (inB n 0 1000000000000) (rootV n) 2
  have C1 : ∀ w, Calls Try.prog 14 #[.int .i64 n] w fun e w' => e = .returned (.tuple #[.int .i64 x, .int .i64 y]) ∧ w = w' := fun w => by rw [← E]; exact specRootUp_any n w
  have C2 : ∀ w, Calls Try.prog 15 #[.int .i64 n] w fun e w' => e = .returned (.tuple #[.int .i64 x, .int .i64 y]) ∧ w = w' := fun w => by rw [← E]; exact implRootUp_any n w
  have H1 := Lib.hid C1
  have H2 := Lib.hid C2
  clear C1 C2 E _wn
  go_enter Try.func5, Try.ntmps5
  go_wp2_with (first | (go_at_call 14; refine (H1.out _).mono ?_; rintro e w' ⟨rfl, rfl⟩) | (go_at_call 15; refine (H2.out _).mono ?_; rintro e w' ⟨rfl, rfl⟩))
  go_ret
  exact ⟨rfl, Below.refl _ _⟩
end Go.Proofs.Ytofoihohendjgaa
