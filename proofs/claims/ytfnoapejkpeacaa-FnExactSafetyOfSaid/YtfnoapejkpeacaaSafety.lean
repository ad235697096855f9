/- The safety of a base. -/
import Derived.Test.YtfnoapejkpeacaaProg
import Derived.Test.YtfnoapejkpeacaaKit
import Derived.Test.YtfnoapejkpeacaaBasics
import Derived.Test.YtfnoapejkpeacaaBases
import Derived.Test.YtfnoapejkpeacaaCodeRes
import Derived.Test.YtfnoapejkpeacaaMoments
import Derived.Test.YtfnoapejkpeacaaBaseLaws
import Derived.Test.YtfnoapejkpeacaaMem
import Derived.Test.YtfnoapejkpeacaaTail
import Derived.Test.YtfnoapejkpeacaaFrac
import Derived.IntWalk
namespace Go.Proofs.Ytfnoapejkpeacaa
open Go.RowKit Go.WideShapes Go.ChangeShapes Go.Joins Go.Deep Go.Sort
set_option linter.unusedVariables false
set_option linter.unusedSimpArgs false
theorem safe_bounds {side mass ball jm ja ct ca load radius : Int} (h : baseB side mass ball jm ja ct ca = true) (l : inB load 0 50000 = true) (r : inB radius 0 1000 = true) : 0 ≤ totalZ mass ball jm ct load * side ∧ totalZ mass ball jm ct load * side ≤ 2050000 * 200 := by
  have t := total_bounds h l
  have s := baseB_of h
  exact mul_bd (by omega) (by omega) (by omega) (by omega)
def resSafetyOf (side mass ball jm ja ct ca load radius : Int) : Value := codeRes (baseB side mass ball jm ja ct ca) (inB load 0 50000 && inB radius 0 1000) (if absZ (momentZ jm ja ct ca load radius) = 0 then .tuple #[.agg #[.int .i64 (0), .int .i64 (0)], .int .i64 6] else .tuple #[.agg #[.int .i64 (numZ (totalZ mass ball jm ct load * side) (2 * absZ (momentZ jm ja ct ca load radius))), .int .i64 (denZ (totalZ mass ball jm ct load * side) (2 * absZ (momentZ jm ja ct ca load radius)))], .int .i64 0]) (.agg #[.int .i64 0, .int .i64 0])
set_option maxHeartbeats 1000000 in
theorem implSafetyOf_any (side mass ball jm ja ct ca load radius : Int) (w : World) : Calls Try.prog 23 #[.agg #[.int .i64 side, .int .i64 mass, .int .i64 ball, .int .i64 jm, .int .i64 ja, .int .i64 ct, .int .i64 ca], .int .i64 load, .int .i64 radius] w fun e w' => e = .returned (resSafetyOf side mass ball jm ja ct ca load radius) ∧ Below w.heap.size w w' := by
  cases h0 : baseB side mass ball jm ja ct ca
  · have E : resSafetyOf side mass ball jm ja ct ca load radius = .tuple #[.agg #[.int .i64 0, .int .i64 0], .int .i64 1] := by unfold resSafetyOf codeRes; simp [h0]
    rw [E]; clear E
    have C : ∀ w, Calls Try.prog 39 #[.agg #[.int .i64 side, .int .i64 mass, .int .i64 ball, .int .i64 jm, .int .i64 ja, .int .i64 ct, .int .i64 ca], .int .i64 load, .int .i64 radius, .int .i64 100] w fun e w' => e = .returned (.int .i64 1) ∧ Below w.heap.size w w' := fun w => by have := baseCode_any side mass ball jm ja ct ca load radius 100 w; simpa [codeV, in_p100, h0] using this
    have HC := Lib.hid C
    clear C
    clear h0
    go_enter Try.func23, Try.ntmps23
    go_wp2_with fail
    refine (HC.out _).mono ?_
    rintro e w1 ⟨rfl, hb1⟩
    have KA1 := ((Blk.new w _ _).alloc _).on hb1
    have KR1 := (Blk.new2 w _ _ _).on hb1
    have B1 := (below_alloc2 w _ _).trans (hb1.mono (below_alloc2 w _ _).size)
    clear hb1
    obtain ⟨r0, r1⟩ := KR1.two
    have fz0 := KR1.frozen 0
    have fz1 := KR1.frozen 1
    have KZ : Blk ((w1.setCell { block := w.heap.size + 1, off := 0 } (Value.int IntKind.i64 (0))).setCell { block := w.heap.size + 1, off := 1 } (Value.int IntKind.i64 (0))) (w.heap.size + 1) 35 #[.int .i64 (0), .int .i64 (0)] := (KR1.set_ 0 _).set_ 1 _
    have BZ : Below w.heap.size w ((w1.setCell { block := w.heap.size + 1, off := 0 } (Value.int IntKind.i64 (0))).setCell { block := w.heap.size + 1, off := 1 } (Value.int IntKind.i64 (0))) := (B1.setCell (p := ⟨w.heap.size + 1, 0, none⟩) (Nat.le_succ _) _).setCell (p := ⟨w.heap.size + 1, 1, none⟩) (Nat.le_succ _) _
    have HK := Lib.hid KZ
    have HB2 := Lib.hid BZ
    clear KZ BZ B1 KA1 KR1
    go_wp2
    obtain ⟨z0, z1⟩ := HK.out.two
    exact bodyPost_ret (v := .tuple #[.agg #[.int .i64 (0), .int .i64 (0)], .int .i64 1]) (by simp [results, Try.results23, go_sem, z0, z1]) rfl ⟨rfl, HB2.out⟩
  · skip
    cases h1 : inB load 0 50000
    · have E : resSafetyOf side mass ball jm ja ct ca load radius = .tuple #[.agg #[.int .i64 0, .int .i64 0], .int .i64 2] := by unfold resSafetyOf codeRes; simp [h0, h1]
      rw [E]; clear E
      have C : ∀ w, Calls Try.prog 39 #[.agg #[.int .i64 side, .int .i64 mass, .int .i64 ball, .int .i64 jm, .int .i64 ja, .int .i64 ct, .int .i64 ca], .int .i64 load, .int .i64 radius, .int .i64 100] w fun e w' => e = .returned (.int .i64 2) ∧ Below w.heap.size w w' := fun w => by have := baseCode_any side mass ball jm ja ct ca load radius 100 w; simpa [codeV, in_p100, h0, h1] using this
      have HC := Lib.hid C
      clear C
      clear h0 h1
      go_enter Try.func23, Try.ntmps23
      go_wp2_with fail
      refine (HC.out _).mono ?_
      rintro e w1 ⟨rfl, hb1⟩
      have KA1 := ((Blk.new w _ _).alloc _).on hb1
      have KR1 := (Blk.new2 w _ _ _).on hb1
      have B1 := (below_alloc2 w _ _).trans (hb1.mono (below_alloc2 w _ _).size)
      clear hb1
      obtain ⟨r0, r1⟩ := KR1.two
      have fz0 := KR1.frozen 0
      have fz1 := KR1.frozen 1
      have KZ : Blk ((w1.setCell { block := w.heap.size + 1, off := 0 } (Value.int IntKind.i64 (0))).setCell { block := w.heap.size + 1, off := 1 } (Value.int IntKind.i64 (0))) (w.heap.size + 1) 35 #[.int .i64 (0), .int .i64 (0)] := (KR1.set_ 0 _).set_ 1 _
      have BZ : Below w.heap.size w ((w1.setCell { block := w.heap.size + 1, off := 0 } (Value.int IntKind.i64 (0))).setCell { block := w.heap.size + 1, off := 1 } (Value.int IntKind.i64 (0))) := (B1.setCell (p := ⟨w.heap.size + 1, 0, none⟩) (Nat.le_succ _) _).setCell (p := ⟨w.heap.size + 1, 1, none⟩) (Nat.le_succ _) _
      have HK := Lib.hid KZ
      have HB2 := Lib.hid BZ
      clear KZ BZ B1 KA1 KR1
      go_wp2
      obtain ⟨z0, z1⟩ := HK.out.two
      exact bodyPost_ret (v := .tuple #[.agg #[.int .i64 (0), .int .i64 (0)], .int .i64 2]) (by simp [results, Try.results23, go_sem, z0, z1]) rfl ⟨rfl, HB2.out⟩
    · skip
      cases h2 : inB radius 0 1000
      · have E : resSafetyOf side mass ball jm ja ct ca load radius = .tuple #[.agg #[.int .i64 0, .int .i64 0], .int .i64 2] := by unfold resSafetyOf codeRes; simp [h0, h1, h2]
        rw [E]; clear E
        have C : ∀ w, Calls Try.prog 39 #[.agg #[.int .i64 side, .int .i64 mass, .int .i64 ball, .int .i64 jm, .int .i64 ja, .int .i64 ct, .int .i64 ca], .int .i64 load, .int .i64 radius, .int .i64 100] w fun e w' => e = .returned (.int .i64 2) ∧ Below w.heap.size w w' := fun w => by have := baseCode_any side mass ball jm ja ct ca load radius 100 w; simpa [codeV, in_p100, h0, h1, h2] using this
        have HC := Lib.hid C
        clear C
        clear h0 h1 h2
        go_enter Try.func23, Try.ntmps23
        go_wp2_with fail
        refine (HC.out _).mono ?_
        rintro e w1 ⟨rfl, hb1⟩
        have KA1 := ((Blk.new w _ _).alloc _).on hb1
        have KR1 := (Blk.new2 w _ _ _).on hb1
        have B1 := (below_alloc2 w _ _).trans (hb1.mono (below_alloc2 w _ _).size)
        clear hb1
        obtain ⟨r0, r1⟩ := KR1.two
        have fz0 := KR1.frozen 0
        have fz1 := KR1.frozen 1
        have KZ : Blk ((w1.setCell { block := w.heap.size + 1, off := 0 } (Value.int IntKind.i64 (0))).setCell { block := w.heap.size + 1, off := 1 } (Value.int IntKind.i64 (0))) (w.heap.size + 1) 35 #[.int .i64 (0), .int .i64 (0)] := (KR1.set_ 0 _).set_ 1 _
        have BZ : Below w.heap.size w ((w1.setCell { block := w.heap.size + 1, off := 0 } (Value.int IntKind.i64 (0))).setCell { block := w.heap.size + 1, off := 1 } (Value.int IntKind.i64 (0))) := (B1.setCell (p := ⟨w.heap.size + 1, 0, none⟩) (Nat.le_succ _) _).setCell (p := ⟨w.heap.size + 1, 1, none⟩) (Nat.le_succ _) _
        have HK := Lib.hid KZ
        have HB2 := Lib.hid BZ
        clear KZ BZ B1 KA1 KR1
        go_wp2
        obtain ⟨z0, z1⟩ := HK.out.two
        exact bodyPost_ret (v := .tuple #[.agg #[.int .i64 (0), .int .i64 (0)], .int .i64 2]) (by simp [results, Try.results23, go_sem, z0, z1]) rfl ⟨rfl, HB2.out⟩
      · by_cases hg0 : absZ (momentZ jm ja ct ca load radius) = 0
        · have E : resSafetyOf side mass ball jm ja ct ca load radius = .tuple #[.agg #[.int .i64 (0), .int .i64 (0)], .int .i64 6] := by unfold resSafetyOf; rw [h0, h1, h2, Bool.true_and, codeRes_tt, if_pos hg0]
          rw [E]; clear E
          have X0 := Lib.hid h0
          have X1 := Lib.hid h1
          have X2 := Lib.hid h2
          obtain ⟨m1, m2⟩ := moment_bounds h0 h1 h2
          obtain ⟨t1, t2⟩ := total_bounds h0 h1
          have C : ∀ w, Calls Try.prog 39 #[.agg #[.int .i64 side, .int .i64 mass, .int .i64 ball, .int .i64 jm, .int .i64 ja, .int .i64 ct, .int .i64 ca], .int .i64 load, .int .i64 radius, .int .i64 100] w fun e w' => e = .returned (.int .i64 0) ∧ Below w.heap.size w w' := fun w => by have := baseCode_any side mass ball jm ja ct ca load radius 100 w; simpa [codeV, in_p100, h0, h1, h2] using this
          have HC := Lib.hid C
          clear C
          obtain ⟨e1, e2⟩ := abs_bounds h0 h1 h2
          have sb := safe_bounds h0 h1 h2
          obtain ⟨e3, e4⟩ := sb
          clear h0 h1 h2
          go_enter Try.func23, Try.ntmps23
          go_wp2_with fail
          refine (HC.out _).mono ?_
          rintro e w1 ⟨rfl, hb1⟩
          have KA1 := ((Blk.new w _ _).alloc _).on hb1
          have KR1 := (Blk.new2 w _ _ _).on hb1
          have B1 := (below_alloc2 w _ _).trans (hb1.mono (below_alloc2 w _ _).size)
          clear hb1
          obtain ⟨a0, a1, a2, a3, a4, a5, a6⟩ := KA1.seven
          go_wp2_with fail
          refine (moment_any _ _ _ _ _ _ _ _ _ _ X0.out X1.out X2.out).mono ?_
          rintro e w2 ⟨rfl, hb2⟩
          clear a0 a1 a2 a3 a4 a5 a6
          have KA2 := KA1.on hb2
          have KR2 := KR1.on hb2
          have B2 := B1.trans (hb2.mono B1.size)
          clear hb2 B1 KA1 KR1
          obtain ⟨a0, a1, a2, a3, a4, a5, a6⟩ := KA2.seven
          go_wp2_with fail
          refine (abs_any _ _ (by omega) (by omega)).mono ?_
          rintro e w' ⟨rfl, rfl⟩
          clear a0 a1 a2 a3 a4 a5 a6
          obtain ⟨r0, r1⟩ := KR2.two
          have fz0 := KR2.frozen 0
          have fz1 := KR2.frozen 1
          have KZ : Blk ((w2.setCell { block := w.heap.size + 1, off := 0 } (Value.int IntKind.i64 (0))).setCell { block := w.heap.size + 1, off := 1 } (Value.int IntKind.i64 (0))) (w.heap.size + 1) 35 #[.int .i64 (0), .int .i64 (0)] := (KR2.set_ 0 _).set_ 1 _
          have BZ : Below w.heap.size w ((w2.setCell { block := w.heap.size + 1, off := 0 } (Value.int IntKind.i64 (0))).setCell { block := w.heap.size + 1, off := 1 } (Value.int IntKind.i64 (0))) := (B2.setCell (p := ⟨w.heap.size + 1, 0, none⟩) (Nat.le_succ _) _).setCell (p := ⟨w.heap.size + 1, 1, none⟩) (Nat.le_succ _) _
          have HK := Lib.hid KZ
          have HB2 := Lib.hid BZ
          clear KZ BZ B2 KA2 KR2
          go_wp2
          obtain ⟨z0, z1⟩ := HK.out.two
          exact bodyPost_ret (v := .tuple #[.agg #[.int .i64 (0), .int .i64 (0)], .int .i64 6]) (by simp [results, Try.results23, go_sem, z0, z1]) rfl ⟨rfl, HB2.out⟩
        · have E : resSafetyOf side mass ball jm ja ct ca load radius = .tuple #[.agg #[.int .i64 (numZ (totalZ mass ball jm ct load * side) (2 * absZ (momentZ jm ja ct ca load radius))), .int .i64 (denZ (totalZ mass ball jm ct load * side) (2 * absZ (momentZ jm ja ct ca load radius)))], .int .i64 0] := by unfold resSafetyOf; rw [h0, h1, h2, Bool.true_and, codeRes_tt, if_neg hg0]
          rw [E]; clear E
          have X0 := Lib.hid h0
          have X1 := Lib.hid h1
          have X2 := Lib.hid h2
          obtain ⟨m1, m2⟩ := moment_bounds h0 h1 h2
          obtain ⟨t1, t2⟩ := total_bounds h0 h1
          have C : ∀ w, Calls Try.prog 39 #[.agg #[.int .i64 side, .int .i64 mass, .int .i64 ball, .int .i64 jm, .int .i64 ja, .int .i64 ct, .int .i64 ca], .int .i64 load, .int .i64 radius, .int .i64 100] w fun e w' => e = .returned (.int .i64 0) ∧ Below w.heap.size w w' := fun w => by have := baseCode_any side mass ball jm ja ct ca load radius 100 w; simpa [codeV, in_p100, h0, h1, h2] using this
          have HC := Lib.hid C
          clear C
          obtain ⟨e1, e2⟩ := abs_bounds h0 h1 h2
          have sb := safe_bounds h0 h1 h2
          obtain ⟨e3, e4⟩ := sb
          have CE : ∀ w, Calls Try.prog 47 #[.int .i64 (IntKind.i64.wrap (totalZ mass ball jm ct load * side)), .int .i64 (IntKind.i64.wrap (2 * absZ (momentZ jm ja ct ca load radius)))] w fun e w' => e = .returned (.agg #[.int .i64 (numZ (totalZ mass ball jm ct load * side) (2 * absZ (momentZ jm ja ct ca load radius))), .int .i64 (denZ (totalZ mass ball jm ct load * side) (2 * absZ (momentZ jm ja ct ca load radius)))]) ∧ Below w.heap.size w w' := fun w => by rw [IntWalk.i64_in _ (by omega), IntWalk.i64_in _ (by omega)]; exact reduced_any _ _ w (by omega) (by omega) (by omega) (by omega)
          have HCE := Lib.hid CE
          clear CE
          clear h0 h1 h2
          go_enter Try.func23, Try.ntmps23
          go_wp2_with fail
          refine (HC.out _).mono ?_
          rintro e w1 ⟨rfl, hb1⟩
          have KA1 := ((Blk.new w _ _).alloc _).on hb1
          have KR1 := (Blk.new2 w _ _ _).on hb1
          have B1 := (below_alloc2 w _ _).trans (hb1.mono (below_alloc2 w _ _).size)
          clear hb1
          obtain ⟨a0, a1, a2, a3, a4, a5, a6⟩ := KA1.seven
          go_wp2_with fail
          refine (moment_any _ _ _ _ _ _ _ _ _ _ X0.out X1.out X2.out).mono ?_
          rintro e w2 ⟨rfl, hb2⟩
          clear a0 a1 a2 a3 a4 a5 a6
          have KA2 := KA1.on hb2
          have KR2 := KR1.on hb2
          have B2 := B1.trans (hb2.mono B1.size)
          clear hb2 B1 KA1 KR1
          obtain ⟨a0, a1, a2, a3, a4, a5, a6⟩ := KA2.seven
          go_wp2_with fail
          refine (abs_any _ _ (by omega) (by omega)).mono ?_
          rintro e w' ⟨rfl, rfl⟩
          go_wp2_with fail
          obtain ⟨f0, f1, f2, f3, f4, f5, f6⟩ := KA2.far_seven
          clear a0 a1 a2 a3 a4 a5 a6
          refine wp_region_below_tail 9 (by kernel_rfl) (by kernel_rfl) ?_
          simp only [List.take_succ_cons, List.take_zero, List.drop_succ_cons, List.drop_zero]
          repeat (quiet_step (first | exact Calls.regrown_of (total_any _ _ _ _ _ _ _ _ _ X0.out X1.out) | exact Calls.regrown_of (HCE.out _)))
          refine wpQuiet_nil ?_
          intro w3 hw3
          have hb3 := class_below hw3
          have KA3 := KA2.on hb3
          have KR3 := KR2.on hb3
          have B3 := B2.trans (hb3.mono B2.size)
          clear hw3 hb3 B2 KA2 KR2 f0 f1 f2 f3 f4 f5 f6
          obtain ⟨r0, r1⟩ := KR3.two
          have fz0 := KR3.frozen 0
          have fz1 := KR3.frozen 1
          have KZ : Blk ((w3.setCell { block := w.heap.size + 1, off := 0 } (Value.int IntKind.i64 (numZ (totalZ mass ball jm ct load * side) (2 * absZ (momentZ jm ja ct ca load radius))))).setCell { block := w.heap.size + 1, off := 1 } (Value.int IntKind.i64 (denZ (totalZ mass ball jm ct load * side) (2 * absZ (momentZ jm ja ct ca load radius))))) (w.heap.size + 1) 35 #[.int .i64 (numZ (totalZ mass ball jm ct load * side) (2 * absZ (momentZ jm ja ct ca load radius))), .int .i64 (denZ (totalZ mass ball jm ct load * side) (2 * absZ (momentZ jm ja ct ca load radius)))] := (KR3.set_ 0 _).set_ 1 _
          have BZ : Below w.heap.size w ((w3.setCell { block := w.heap.size + 1, off := 0 } (Value.int IntKind.i64 (numZ (totalZ mass ball jm ct load * side) (2 * absZ (momentZ jm ja ct ca load radius))))).setCell { block := w.heap.size + 1, off := 1 } (Value.int IntKind.i64 (denZ (totalZ mass ball jm ct load * side) (2 * absZ (momentZ jm ja ct ca load radius))))) := (B3.setCell (p := ⟨w.heap.size + 1, 0, none⟩) (Nat.le_succ _) _).setCell (p := ⟨w.heap.size + 1, 1, none⟩) (Nat.le_succ _) _
          have HK := Lib.hid KZ
          have HB2 := Lib.hid BZ
          clear KZ BZ B3 KA3 KR3
          go_wp2
          obtain ⟨z0, z1⟩ := HK.out.two
          exact bodyPost_ret (v := .tuple #[.agg #[.int .i64 (numZ (totalZ mass ball jm ct load * side) (2 * absZ (momentZ jm ja ct ca load radius))), .int .i64 (denZ (totalZ mass ball jm ct load * side) (2 * absZ (momentZ jm ja ct ca load radius)))], .int .i64 0]) (by simp [results, Try.results23, go_sem, z0, z1]) rfl ⟨rfl, HB2.out⟩
set_option maxHeartbeats 1000000 in
theorem specSafetyOf_any (side mass ball jm ja ct ca load radius : Int) (w : World) : Calls Try.prog 22 #[.agg #[.int .i64 side, .int .i64 mass, .int .i64 ball, .int .i64 jm, .int .i64 ja, .int .i64 ct, .int .i64 ca], .int .i64 load, .int .i64 radius] w fun e w' => e = .returned (resSafetyOf side mass ball jm ja ct ca load radius) ∧ Below w.heap.size w w' := by
  cases h0 : baseB side mass ball jm ja ct ca
  · have E : resSafetyOf side mass ball jm ja ct ca load radius = .tuple #[.agg #[.int .i64 0, .int .i64 0], .int .i64 1] := by unfold resSafetyOf codeRes; simp [h0]
    rw [E]; clear E
    have C : ∀ w g, Blk w g 26 #[.int .i64 side, .int .i64 mass, .int .i64 ball, .int .i64 jm, .int .i64 ja, .int .i64 ct, .int .i64 ca] → Calls Try.prog 37 #[.pointer (some ⟨g, 0, none⟩), .int .i64 load, .int .i64 radius] w fun e w' => e = .returned (.int .i64 1) ∧ Below w.heap.size w w' := fun w g hk => same_below (by have := l06Code_any side mass ball jm ja ct ca load radius g w hk.seven.1 hk.seven.2.1 hk.seven.2.2.1 hk.seven.2.2.2.1 hk.seven.2.2.2.2.1 hk.seven.2.2.2.2.2.1 hk.seven.2.2.2.2.2.2; simpa [codeV, h0] using this)
    have HC := Lib.hid C
    clear C
    clear h0
    go_enter Try.func22, Try.ntmps22
    go_wp2_with fail
    refine (HC.out _ _ ((Blk.new w _ _).alloc _)).mono ?_
    rintro e w1 ⟨rfl, hb1⟩
    have KA1 := ((Blk.new w _ _).alloc _).on hb1
    have KR1 := (Blk.new2 w _ _ _).on hb1
    have B1 := (below_alloc2 w _ _).trans (hb1.mono (below_alloc2 w _ _).size)
    clear hb1
    obtain ⟨r0, r1⟩ := KR1.two
    have fz0 := KR1.frozen 0
    have fz1 := KR1.frozen 1
    have KZ : Blk ((w1.setCell { block := w.heap.size + 1, off := 0 } (Value.int IntKind.i64 (0))).setCell { block := w.heap.size + 1, off := 1 } (Value.int IntKind.i64 (0))) (w.heap.size + 1) 35 #[.int .i64 (0), .int .i64 (0)] := (KR1.set_ 0 _).set_ 1 _
    have BZ : Below w.heap.size w ((w1.setCell { block := w.heap.size + 1, off := 0 } (Value.int IntKind.i64 (0))).setCell { block := w.heap.size + 1, off := 1 } (Value.int IntKind.i64 (0))) := (B1.setCell (p := ⟨w.heap.size + 1, 0, none⟩) (Nat.le_succ _) _).setCell (p := ⟨w.heap.size + 1, 1, none⟩) (Nat.le_succ _) _
    have HK := Lib.hid KZ
    have HB2 := Lib.hid BZ
    clear KZ BZ B1 KA1 KR1
    go_wp2
    obtain ⟨z0, z1⟩ := HK.out.two
    exact bodyPost_ret (v := .tuple #[.agg #[.int .i64 (0), .int .i64 (0)], .int .i64 1]) (by simp [results, Try.results22, go_sem, z0, z1]) rfl ⟨rfl, HB2.out⟩
  · skip
    cases h1 : inB load 0 50000
    · have E : resSafetyOf side mass ball jm ja ct ca load radius = .tuple #[.agg #[.int .i64 0, .int .i64 0], .int .i64 2] := by unfold resSafetyOf codeRes; simp [h0, h1]
      rw [E]; clear E
      have C : ∀ w g, Blk w g 26 #[.int .i64 side, .int .i64 mass, .int .i64 ball, .int .i64 jm, .int .i64 ja, .int .i64 ct, .int .i64 ca] → Calls Try.prog 37 #[.pointer (some ⟨g, 0, none⟩), .int .i64 load, .int .i64 radius] w fun e w' => e = .returned (.int .i64 2) ∧ Below w.heap.size w w' := fun w g hk => same_below (by have := l06Code_any side mass ball jm ja ct ca load radius g w hk.seven.1 hk.seven.2.1 hk.seven.2.2.1 hk.seven.2.2.2.1 hk.seven.2.2.2.2.1 hk.seven.2.2.2.2.2.1 hk.seven.2.2.2.2.2.2; simpa [codeV, h0, h1] using this)
      have HC := Lib.hid C
      clear C
      clear h0 h1
      go_enter Try.func22, Try.ntmps22
      go_wp2_with fail
      refine (HC.out _ _ ((Blk.new w _ _).alloc _)).mono ?_
      rintro e w1 ⟨rfl, hb1⟩
      have KA1 := ((Blk.new w _ _).alloc _).on hb1
      have KR1 := (Blk.new2 w _ _ _).on hb1
      have B1 := (below_alloc2 w _ _).trans (hb1.mono (below_alloc2 w _ _).size)
      clear hb1
      obtain ⟨r0, r1⟩ := KR1.two
      have fz0 := KR1.frozen 0
      have fz1 := KR1.frozen 1
      have KZ : Blk ((w1.setCell { block := w.heap.size + 1, off := 0 } (Value.int IntKind.i64 (0))).setCell { block := w.heap.size + 1, off := 1 } (Value.int IntKind.i64 (0))) (w.heap.size + 1) 35 #[.int .i64 (0), .int .i64 (0)] := (KR1.set_ 0 _).set_ 1 _
      have BZ : Below w.heap.size w ((w1.setCell { block := w.heap.size + 1, off := 0 } (Value.int IntKind.i64 (0))).setCell { block := w.heap.size + 1, off := 1 } (Value.int IntKind.i64 (0))) := (B1.setCell (p := ⟨w.heap.size + 1, 0, none⟩) (Nat.le_succ _) _).setCell (p := ⟨w.heap.size + 1, 1, none⟩) (Nat.le_succ _) _
      have HK := Lib.hid KZ
      have HB2 := Lib.hid BZ
      clear KZ BZ B1 KA1 KR1
      go_wp2
      obtain ⟨z0, z1⟩ := HK.out.two
      exact bodyPost_ret (v := .tuple #[.agg #[.int .i64 (0), .int .i64 (0)], .int .i64 2]) (by simp [results, Try.results22, go_sem, z0, z1]) rfl ⟨rfl, HB2.out⟩
    · skip
      cases h2 : inB radius 0 1000
      · have E : resSafetyOf side mass ball jm ja ct ca load radius = .tuple #[.agg #[.int .i64 0, .int .i64 0], .int .i64 2] := by unfold resSafetyOf codeRes; simp [h0, h1, h2]
        rw [E]; clear E
        have C : ∀ w g, Blk w g 26 #[.int .i64 side, .int .i64 mass, .int .i64 ball, .int .i64 jm, .int .i64 ja, .int .i64 ct, .int .i64 ca] → Calls Try.prog 37 #[.pointer (some ⟨g, 0, none⟩), .int .i64 load, .int .i64 radius] w fun e w' => e = .returned (.int .i64 2) ∧ Below w.heap.size w w' := fun w g hk => same_below (by have := l06Code_any side mass ball jm ja ct ca load radius g w hk.seven.1 hk.seven.2.1 hk.seven.2.2.1 hk.seven.2.2.2.1 hk.seven.2.2.2.2.1 hk.seven.2.2.2.2.2.1 hk.seven.2.2.2.2.2.2; simpa [codeV, h0, h1, h2] using this)
        have HC := Lib.hid C
        clear C
        clear h0 h1 h2
        go_enter Try.func22, Try.ntmps22
        go_wp2_with fail
        refine (HC.out _ _ ((Blk.new w _ _).alloc _)).mono ?_
        rintro e w1 ⟨rfl, hb1⟩
        have KA1 := ((Blk.new w _ _).alloc _).on hb1
        have KR1 := (Blk.new2 w _ _ _).on hb1
        have B1 := (below_alloc2 w _ _).trans (hb1.mono (below_alloc2 w _ _).size)
        clear hb1
        obtain ⟨r0, r1⟩ := KR1.two
        have fz0 := KR1.frozen 0
        have fz1 := KR1.frozen 1
        have KZ : Blk ((w1.setCell { block := w.heap.size + 1, off := 0 } (Value.int IntKind.i64 (0))).setCell { block := w.heap.size + 1, off := 1 } (Value.int IntKind.i64 (0))) (w.heap.size + 1) 35 #[.int .i64 (0), .int .i64 (0)] := (KR1.set_ 0 _).set_ 1 _
        have BZ : Below w.heap.size w ((w1.setCell { block := w.heap.size + 1, off := 0 } (Value.int IntKind.i64 (0))).setCell { block := w.heap.size + 1, off := 1 } (Value.int IntKind.i64 (0))) := (B1.setCell (p := ⟨w.heap.size + 1, 0, none⟩) (Nat.le_succ _) _).setCell (p := ⟨w.heap.size + 1, 1, none⟩) (Nat.le_succ _) _
        have HK := Lib.hid KZ
        have HB2 := Lib.hid BZ
        clear KZ BZ B1 KA1 KR1
        go_wp2
        obtain ⟨z0, z1⟩ := HK.out.two
        exact bodyPost_ret (v := .tuple #[.agg #[.int .i64 (0), .int .i64 (0)], .int .i64 2]) (by simp [results, Try.results22, go_sem, z0, z1]) rfl ⟨rfl, HB2.out⟩
      · by_cases hg0 : absZ (momentZ jm ja ct ca load radius) = 0
        · have E : resSafetyOf side mass ball jm ja ct ca load radius = .tuple #[.agg #[.int .i64 (0), .int .i64 (0)], .int .i64 6] := by unfold resSafetyOf; rw [h0, h1, h2, Bool.true_and, codeRes_tt, if_pos hg0]
          rw [E]; clear E
          have X0 := Lib.hid h0
          have X1 := Lib.hid h1
          have X2 := Lib.hid h2
          obtain ⟨m1, m2⟩ := moment_bounds h0 h1 h2
          obtain ⟨t1, t2⟩ := total_bounds h0 h1
          have C : ∀ w g, Blk w g 26 #[.int .i64 side, .int .i64 mass, .int .i64 ball, .int .i64 jm, .int .i64 ja, .int .i64 ct, .int .i64 ca] → Calls Try.prog 37 #[.pointer (some ⟨g, 0, none⟩), .int .i64 load, .int .i64 radius] w fun e w' => e = .returned (.int .i64 0) ∧ Below w.heap.size w w' := fun w g hk => same_below (by have := l06Code_any side mass ball jm ja ct ca load radius g w hk.seven.1 hk.seven.2.1 hk.seven.2.2.1 hk.seven.2.2.2.1 hk.seven.2.2.2.2.1 hk.seven.2.2.2.2.2.1 hk.seven.2.2.2.2.2.2; simpa [codeV, h0, h1, h2] using this)
          have HC := Lib.hid C
          clear C
          obtain ⟨e1, e2⟩ := abs_bounds h0 h1 h2
          have sb := safe_bounds h0 h1 h2
          obtain ⟨e3, e4⟩ := sb
          clear h0 h1 h2
          go_enter Try.func22, Try.ntmps22
          go_wp2_with fail
          refine (HC.out _ _ ((Blk.new w _ _).alloc _)).mono ?_
          rintro e w1 ⟨rfl, hb1⟩
          have KA1 := ((Blk.new w _ _).alloc _).on hb1
          have KR1 := (Blk.new2 w _ _ _).on hb1
          have B1 := (below_alloc2 w _ _).trans (hb1.mono (below_alloc2 w _ _).size)
          clear hb1
          obtain ⟨a0, a1, a2, a3, a4, a5, a6⟩ := KA1.seven
          go_wp2_with fail
          refine (l06Moment_any _ _ _ _ _ _ _ _ _ w.heap.size _ X0.out X1.out X2.out a0 a1 a2 a3 a4 a5 a6).mono ?_
          rintro e w2 ⟨rfl, hb2⟩
          clear a0 a1 a2 a3 a4 a5 a6
          have KA2 := KA1.on hb2
          have KR2 := KR1.on hb2
          have B2 := B1.trans (hb2.mono B1.size)
          clear hb2 B1 KA1 KR1
          obtain ⟨a0, a1, a2, a3, a4, a5, a6⟩ := KA2.seven
          go_wp2_with fail
          refine (l06Size_any _ _ (by omega) (by omega)).mono ?_
          rintro e w' ⟨rfl, rfl⟩
          clear a0 a1 a2 a3 a4 a5 a6
          obtain ⟨r0, r1⟩ := KR2.two
          have fz0 := KR2.frozen 0
          have fz1 := KR2.frozen 1
          have KZ : Blk ((w2.setCell { block := w.heap.size + 1, off := 0 } (Value.int IntKind.i64 (0))).setCell { block := w.heap.size + 1, off := 1 } (Value.int IntKind.i64 (0))) (w.heap.size + 1) 35 #[.int .i64 (0), .int .i64 (0)] := (KR2.set_ 0 _).set_ 1 _
          have BZ : Below w.heap.size w ((w2.setCell { block := w.heap.size + 1, off := 0 } (Value.int IntKind.i64 (0))).setCell { block := w.heap.size + 1, off := 1 } (Value.int IntKind.i64 (0))) := (B2.setCell (p := ⟨w.heap.size + 1, 0, none⟩) (Nat.le_succ _) _).setCell (p := ⟨w.heap.size + 1, 1, none⟩) (Nat.le_succ _) _
          have HK := Lib.hid KZ
          have HB2 := Lib.hid BZ
          clear KZ BZ B2 KA2 KR2
          go_wp2
          obtain ⟨z0, z1⟩ := HK.out.two
          exact bodyPost_ret (v := .tuple #[.agg #[.int .i64 (0), .int .i64 (0)], .int .i64 6]) (by simp [results, Try.results22, go_sem, z0, z1]) rfl ⟨rfl, HB2.out⟩
        · have E : resSafetyOf side mass ball jm ja ct ca load radius = .tuple #[.agg #[.int .i64 (numZ (totalZ mass ball jm ct load * side) (2 * absZ (momentZ jm ja ct ca load radius))), .int .i64 (denZ (totalZ mass ball jm ct load * side) (2 * absZ (momentZ jm ja ct ca load radius)))], .int .i64 0] := by unfold resSafetyOf; rw [h0, h1, h2, Bool.true_and, codeRes_tt, if_neg hg0]
          rw [E]; clear E
          have X0 := Lib.hid h0
          have X1 := Lib.hid h1
          have X2 := Lib.hid h2
          obtain ⟨m1, m2⟩ := moment_bounds h0 h1 h2
          obtain ⟨t1, t2⟩ := total_bounds h0 h1
          have C : ∀ w g, Blk w g 26 #[.int .i64 side, .int .i64 mass, .int .i64 ball, .int .i64 jm, .int .i64 ja, .int .i64 ct, .int .i64 ca] → Calls Try.prog 37 #[.pointer (some ⟨g, 0, none⟩), .int .i64 load, .int .i64 radius] w fun e w' => e = .returned (.int .i64 0) ∧ Below w.heap.size w w' := fun w g hk => same_below (by have := l06Code_any side mass ball jm ja ct ca load radius g w hk.seven.1 hk.seven.2.1 hk.seven.2.2.1 hk.seven.2.2.2.1 hk.seven.2.2.2.2.1 hk.seven.2.2.2.2.2.1 hk.seven.2.2.2.2.2.2; simpa [codeV, h0, h1, h2] using this)
          have HC := Lib.hid C
          clear C
          obtain ⟨e1, e2⟩ := abs_bounds h0 h1 h2
          have sb := safe_bounds h0 h1 h2
          obtain ⟨e3, e4⟩ := sb
          have CE : ∀ w, Calls Try.prog 46 #[.int .i64 (IntKind.i64.wrap (totalZ mass ball jm ct load * side)), .int .i64 (IntKind.i64.wrap (2 * absZ (momentZ jm ja ct ca load radius)))] w fun e w' => e = .returned (.agg #[.int .i64 (numZ (totalZ mass ball jm ct load * side) (2 * absZ (momentZ jm ja ct ca load radius))), .int .i64 (denZ (totalZ mass ball jm ct load * side) (2 * absZ (momentZ jm ja ct ca load radius)))]) ∧ Below w.heap.size w w' := fun w => by rw [IntWalk.i64_in _ (by omega), IntWalk.i64_in _ (by omega)]; exact l06Make_any _ _ w (by omega) (by omega) (by omega) (by omega)
          have HCE := Lib.hid CE
          clear CE
          clear h0 h1 h2
          go_enter Try.func22, Try.ntmps22
          go_wp2_with fail
          refine (HC.out _ _ ((Blk.new w _ _).alloc _)).mono ?_
          rintro e w1 ⟨rfl, hb1⟩
          have KA1 := ((Blk.new w _ _).alloc _).on hb1
          have KR1 := (Blk.new2 w _ _ _).on hb1
          have B1 := (below_alloc2 w _ _).trans (hb1.mono (below_alloc2 w _ _).size)
          clear hb1
          obtain ⟨a0, a1, a2, a3, a4, a5, a6⟩ := KA1.seven
          go_wp2_with fail
          refine (l06Moment_any _ _ _ _ _ _ _ _ _ w.heap.size _ X0.out X1.out X2.out a0 a1 a2 a3 a4 a5 a6).mono ?_
          rintro e w2 ⟨rfl, hb2⟩
          clear a0 a1 a2 a3 a4 a5 a6
          have KA2 := KA1.on hb2
          have KR2 := KR1.on hb2
          have B2 := B1.trans (hb2.mono B1.size)
          clear hb2 B1 KA1 KR1
          obtain ⟨a0, a1, a2, a3, a4, a5, a6⟩ := KA2.seven
          go_wp2_with fail
          refine (l06Size_any _ _ (by omega) (by omega)).mono ?_
          rintro e w' ⟨rfl, rfl⟩
          have CT : ∀ d os, Calls Try.prog 41 #[.pointer (some ⟨w.heap.size, 0, none⟩), .int .i64 load] (grow (redrawn w2 d) os) fun e w' => e = .returned (.int .i64 (totalZ mass ball jm ct load)) ∧ Below (grow (redrawn w2 d) os).heap.size (grow (redrawn w2 d) os) w' := fun d os => l06Total_any side mass ball jm ja ct ca load w.heap.size _ X0.out X1.out (cell_regrown a0 d os) (cell_regrown a1 d os) (cell_regrown a2 d os) (cell_regrown a3 d os) (cell_regrown a4 d os) (cell_regrown a5 d os) (cell_regrown a6 d os)
          have HT := Lib.hid CT
          clear CT
          go_wp2_with fail
          obtain ⟨f0, f1, f2, f3, f4, f5, f6⟩ := KA2.far_seven
          clear a0 a1 a2 a3 a4 a5 a6
          refine wp_region_below_tail 8 (by kernel_rfl) (by kernel_rfl) ?_
          simp only [List.take_succ_cons, List.take_zero, List.drop_succ_cons, List.drop_zero]
          repeat (quiet_step (first | exact Calls.regrown_of (HT.out _ _) | exact Calls.regrown_of (HCE.out _)))
          refine wpQuiet_nil ?_
          intro w3 hw3
          have hb3 := class_below hw3
          have KA3 := KA2.on hb3
          have KR3 := KR2.on hb3
          have B3 := B2.trans (hb3.mono B2.size)
          clear hw3 hb3 B2 KA2 KR2 f0 f1 f2 f3 f4 f5 f6
          obtain ⟨r0, r1⟩ := KR3.two
          have fz0 := KR3.frozen 0
          have fz1 := KR3.frozen 1
          have KZ : Blk ((w3.setCell { block := w.heap.size + 1, off := 0 } (Value.int IntKind.i64 (numZ (totalZ mass ball jm ct load * side) (2 * absZ (momentZ jm ja ct ca load radius))))).setCell { block := w.heap.size + 1, off := 1 } (Value.int IntKind.i64 (denZ (totalZ mass ball jm ct load * side) (2 * absZ (momentZ jm ja ct ca load radius))))) (w.heap.size + 1) 35 #[.int .i64 (numZ (totalZ mass ball jm ct load * side) (2 * absZ (momentZ jm ja ct ca load radius))), .int .i64 (denZ (totalZ mass ball jm ct load * side) (2 * absZ (momentZ jm ja ct ca load radius)))] := (KR3.set_ 0 _).set_ 1 _
          have BZ : Below w.heap.size w ((w3.setCell { block := w.heap.size + 1, off := 0 } (Value.int IntKind.i64 (numZ (totalZ mass ball jm ct load * side) (2 * absZ (momentZ jm ja ct ca load radius))))).setCell { block := w.heap.size + 1, off := 1 } (Value.int IntKind.i64 (denZ (totalZ mass ball jm ct load * side) (2 * absZ (momentZ jm ja ct ca load radius))))) := (B3.setCell (p := ⟨w.heap.size + 1, 0, none⟩) (Nat.le_succ _) _).setCell (p := ⟨w.heap.size + 1, 1, none⟩) (Nat.le_succ _) _
          have HK := Lib.hid KZ
          have HB2 := Lib.hid BZ
          clear KZ BZ B3 KA3 KR3
          go_wp2
          obtain ⟨z0, z1⟩ := HK.out.two
          exact bodyPost_ret (v := .tuple #[.agg #[.int .i64 (numZ (totalZ mass ball jm ct load * side) (2 * absZ (momentZ jm ja ct ca load radius))), .int .i64 (denZ (totalZ mass ball jm ct load * side) (2 * absZ (momentZ jm ja ct ca load radius)))], .int .i64 0]) (by simp [results, Try.results22, go_sem, z0, z1]) rfl ⟨rfl, HB2.out⟩
set_option maxHeartbeats 1000000 in
theorem FnExactSafetyOf_walk (side : Int) (_wside : (Lit.int .i64 side).wf = true) (mass : Int) (_wmass : (Lit.int .i64 mass).wf = true) (ball : Int) (_wball : (Lit.int .i64 ball).wf = true) (jm : Int) (_wjm : (Lit.int .i64 jm).wf = true) (ja : Int) (_wja : (Lit.int .i64 ja).wf = true) (ct : Int) (_wct : (Lit.int .i64 ct).wf = true) (ca : Int) (_wca : (Lit.int .i64 ca).wf = true) (load : Int) (_wload : (Lit.int .i64 load).wf = true) (radius : Int) (_wradius : (Lit.int .i64 radius).wf = true) (w : World) : Calls Try.prog 7 #[.agg #[.int .i64 side, .int .i64 mass, .int .i64 ball, .int .i64 jm, .int .i64 ja, .int .i64 ct, .int .i64 ca], .int .i64 load, .int .i64 radius] w fun e w' => e = .returned (.bool true) ∧ Below w.heap.size w w' := by
  clear _wside _wmass _wball _wjm _wja _wct _wca _wload _wradius
  have F : ∃ x z y : Int, resSafetyOf side mass ball jm ja ct ca load radius = .tuple #[.agg #[.int .i64 x, .int .i64 z], .int .i64 y] := by unfold resSafetyOf codeRes; repeat (first | exact ⟨_, _, _, rfl⟩ | split)
  obtain ⟨x, z, y, F⟩ := F
  have C : ∀ w, Calls Try.prog 22 #[.agg #[.int .i64 side, .int .i64 mass, .int .i64 ball, .int .i64 jm, .int .i64 ja, .int .i64 ct, .int .i64 ca], .int .i64 load, .int .i64 radius] w fun e w' => e = .returned (.tuple #[.agg #[.int .i64 x, .int .i64 z], .int .i64 y]) ∧ Below w.heap.size w w' := fun w => by rw [← F]; exact specSafetyOf_any side mass ball jm ja ct ca load radius w
  have H1 := Lib.hid C
  clear C
  have C : ∀ w, Calls Try.prog 23 #[.agg #[.int .i64 side, .int .i64 mass, .int .i64 ball, .int .i64 jm, .int .i64 ja, .int .i64 ct, .int .i64 ca], .int .i64 load, .int .i64 radius] w fun e w' => e = .returned (.tuple #[.agg #[.int .i64 x, .int .i64 z], .int .i64 y]) ∧ Below w.heap.size w w' := fun w => by rw [← F]; exact implSafetyOf_any side mass ball jm ja ct ca load radius w
  have H2 := Lib.hid C
  clear C
  clear F
  go_enter Try.func7, Try.ntmps7
  go_wp2_with fail
  refine (toBase_any _ _ _ _ _ _ _ _).mono ?_
  rintro e w1 ⟨rfl, hb1⟩
  have KA1 := (Blk.new w _ _).on hb1
  have B1 := (below_alloc1 w _).trans (hb1.mono (below_alloc1 w _).size)
  clear hb1
  go_wp2_with fail
  refine (H1.out _).mono ?_
  rintro e w2 ⟨rfl, hb2⟩
  have KA2 := KA1.on hb2
  have B2 := B1.trans (hb2.mono B1.size)
  clear hb2 B1 KA1
  obtain ⟨a0, a1, a2, a3, a4, a5, a6⟩ := KA2.seven
  clear a0 a1 a2 a3 a4 a5 a6
  have A0 : ∀ o, (w2.alloc o).cell? ⟨w.heap.size, 0, none⟩ = _ := fun o => (KA2.alloc o).seven.1
  have A1 : ∀ o, (w2.alloc o).cell? ⟨w.heap.size, 1, none⟩ = _ := fun o => (KA2.alloc o).seven.2.1
  have A2 : ∀ o, (w2.alloc o).cell? ⟨w.heap.size, 2, none⟩ = _ := fun o => (KA2.alloc o).seven.2.2.1
  have A3 : ∀ o, (w2.alloc o).cell? ⟨w.heap.size, 3, none⟩ = _ := fun o => (KA2.alloc o).seven.2.2.2.1
  have A4 : ∀ o, (w2.alloc o).cell? ⟨w.heap.size, 4, none⟩ = _ := fun o => (KA2.alloc o).seven.2.2.2.2.1
  have A5 : ∀ o, (w2.alloc o).cell? ⟨w.heap.size, 5, none⟩ = _ := fun o => (KA2.alloc o).seven.2.2.2.2.2.1
  have A6 : ∀ o, (w2.alloc o).cell? ⟨w.heap.size, 6, none⟩ = _ := fun o => (KA2.alloc o).seven.2.2.2.2.2.2
  go_wp2_with fail
  refine (toBase_any _ _ _ _ _ _ _ _).mono ?_
  rintro e w3 ⟨rfl, hb3⟩
  have KF3 := (Blk.new w2 35 #[.int .i64 x, .int .i64 z]).on hb3
  have B3 := (B2.alloc B2.size (.cells #[.int .i64 x, .int .i64 z] 35)).trans (hb3.mono (B2.alloc B2.size _).size)
  clear hb3 B2 KA2 A0 A1 A2 A3 A4 A5 A6
  go_wp2_with fail
  refine (H2.out _).mono ?_
  rintro e w4 ⟨rfl, hb4⟩
  have KF4 := KF3.on hb4
  have B4 := B3.trans (hb4.mono B3.size)
  clear hb4 B3 KF3
  have F0 : ∀ o, (w4.alloc o).cell? ⟨w2.heap.size, 0, none⟩ = _ := fun o => (KF4.alloc o).two.1
  have F1 : ∀ o, (w4.alloc o).cell? ⟨w2.heap.size, 1, none⟩ = _ := fun o => (KF4.alloc o).two.2
  go_wp2_with (first | (go_at_call 21; refine (eqFraction_any _ _ _).mono ?_; rintro e w5 ⟨rfl, hb5⟩))
  go_ret
  exact ⟨rfl, (B4.alloc B4.size _).trans (hb5.mono (B4.alloc B4.size _).size)⟩
end Go.Proofs.Ytfnoapejkpeacaa
