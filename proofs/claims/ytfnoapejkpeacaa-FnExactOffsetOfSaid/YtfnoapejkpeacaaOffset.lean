/- The offset of a base. -/
import Derived.Test.YtfnoapejkpeacaaProg
import Derived.Test.YtfnoapejkpeacaaKit
import Derived.Test.YtfnoapejkpeacaaBasics
import Derived.Test.YtfnoapejkpeacaaBases
import Derived.Test.YtfnoapejkpeacaaCodeRes
import Derived.Test.YtfnoapejkpeacaaMoments
import Derived.Test.YtfnoapejkpeacaaBaseLaws
import Derived.Test.YtfnoapejkpeacaaMem
import Derived.Test.YtfnoapejkpeacaaTail
import Derived.Test.YtfnoapejkpeacaaFrac
import Derived.IntWalk
namespace Go.Proofs.Ytfnoapejkpeacaa
open Go.RowKit Go.WideShapes Go.ChangeShapes Go.Joins Go.Deep Go.Sort
set_option linter.unusedVariables false
set_option linter.unusedSimpArgs false
def resOffsetOf (side mass ball jm ja ct ca load radius : Int) : Value := codeRes (baseB side mass ball jm ja ct ca) (inB load 0 50000 && inB radius 0 1000) (.tuple #[.agg #[.int .i64 (numZ (momentZ jm ja ct ca load radius) (totalZ mass ball jm ct load)), .int .i64 (denZ (momentZ jm ja ct ca load radius) (totalZ mass ball jm ct load))], .int .i64 0]) (.agg #[.int .i64 0, .int .i64 0])
set_option maxHeartbeats 1000000 in
theorem implOffsetOf_any (side mass ball jm ja ct ca load radius : Int) (w : World) : Calls Try.prog 20 #[.agg #[.int .i64 side, .int .i64 mass, .int .i64 ball, .int .i64 jm, .int .i64 ja, .int .i64 ct, .int .i64 ca], .int .i64 load, .int .i64 radius] w fun e w' => e = .returned (resOffsetOf side mass ball jm ja ct ca load radius) ∧ Below w.heap.size w w' := by
  cases h0 : baseB side mass ball jm ja ct ca
  · have E : resOffsetOf side mass ball jm ja ct ca load radius = .tuple #[.agg #[.int .i64 0, .int .i64 0], .int .i64 1] := by unfold resOffsetOf codeRes; simp [h0]
    rw [E]; clear E
    have C : ∀ w, Calls Try.prog 39 #[.agg #[.int .i64 side, .int .i64 mass, .int .i64 ball, .int .i64 jm, .int .i64 ja, .int .i64 ct, .int .i64 ca], .int .i64 load, .int .i64 radius, .int .i64 100] w fun e w' => e = .returned (.int .i64 1) ∧ Below w.heap.size w w' := fun w => by have := baseCode_any side mass ball jm ja ct ca load radius 100 w; simpa [codeV, in_p100, h0] using this
    have HC := Lib.hid C
    clear C
    clear h0
    go_enter Try.func20, Try.ntmps20
    go_wp2_with fail
    refine (HC.out _).mono ?_
    rintro e w1 ⟨rfl, hb1⟩
    have KA1 := ((Blk.new w _ _).alloc _).on hb1
    have KR1 := (Blk.new2 w _ _ _).on hb1
    have B1 := (below_alloc2 w _ _).trans (hb1.mono (below_alloc2 w _ _).size)
    clear hb1
    obtain ⟨r0, r1⟩ := KR1.two
    have fz0 := KR1.frozen 0
    have fz1 := KR1.frozen 1
    have KZ : Blk ((w1.setCell { block := w.heap.size + 1, off := 0 } (Value.int IntKind.i64 (0))).setCell { block := w.heap.size + 1, off := 1 } (Value.int IntKind.i64 (0))) (w.heap.size + 1) 35 #[.int .i64 (0), .int .i64 (0)] := (KR1.set_ 0 _).set_ 1 _
    have BZ : Below w.heap.size w ((w1.setCell { block := w.heap.size + 1, off := 0 } (Value.int IntKind.i64 (0))).setCell { block := w.heap.size + 1, off := 1 } (Value.int IntKind.i64 (0))) := (B1.setCell (p := ⟨w.heap.size + 1, 0, none⟩) (Nat.le_succ _) _).setCell (p := ⟨w.heap.size + 1, 1, none⟩) (Nat.le_succ _) _
    have HK := Lib.hid KZ
    have HB2 := Lib.hid BZ
    clear KZ BZ B1 KA1 KR1
    go_wp2
    obtain ⟨z0, z1⟩ := HK.out.two
    exact bodyPost_ret (v := .tuple #[.agg #[.int .i64 (0), .int .i64 (0)], .int .i64 1]) (by simp [results, Try.results20, go_sem, z0, z1]) rfl ⟨rfl, HB2.out⟩
  · skip
    cases h1 : inB load 0 50000
    · have E : resOffsetOf side mass ball jm ja ct ca load radius = .tuple #[.agg #[.int .i64 0, .int .i64 0], .int .i64 2] := by unfold resOffsetOf codeRes; simp [h0, h1]
      rw [E]; clear E
      have C : ∀ w, Calls Try.prog 39 #[.agg #[.int .i64 side, .int .i64 mass, .int .i64 ball, .int .i64 jm, .int .i64 ja, .int .i64 ct, .int .i64 ca], .int .i64 load, .int .i64 radius, .int .i64 100] w fun e w' => e = .returned (.int .i64 2) ∧ Below w.heap.size w w' := fun w => by have := baseCode_any side mass ball jm ja ct ca load radius 100 w; simpa [codeV, in_p100, h0, h1] using this
      have HC := Lib.hid C
      clear C
      clear h0 h1
      go_enter Try.func20, Try.ntmps20
      go_wp2_with fail
      refine (HC.out _).mono ?_
      rintro e w1 ⟨rfl, hb1⟩
      have KA1 := ((Blk.new w _ _).alloc _).on hb1
      have KR1 := (Blk.new2 w _ _ _).on hb1
      have B1 := (below_alloc2 w _ _).trans (hb1.mono (below_alloc2 w _ _).size)
      clear hb1
      obtain ⟨r0, r1⟩ := KR1.two
      have fz0 := KR1.frozen 0
      have fz1 := KR1.frozen 1
      have KZ : Blk ((w1.setCell { block := w.heap.size + 1, off := 0 } (Value.int IntKind.i64 (0))).setCell { block := w.heap.size + 1, off := 1 } (Value.int IntKind.i64 (0))) (w.heap.size + 1) 35 #[.int .i64 (0), .int .i64 (0)] := (KR1.set_ 0 _).set_ 1 _
      have BZ : Below w.heap.size w ((w1.setCell { block := w.heap.size + 1, off := 0 } (Value.int IntKind.i64 (0))).setCell { block := w.heap.size + 1, off := 1 } (Value.int IntKind.i64 (0))) := (B1.setCell (p := ⟨w.heap.size + 1, 0, none⟩) (Nat.le_succ _) _).setCell (p := ⟨w.heap.size + 1, 1, none⟩) (Nat.le_succ _) _
      have HK := Lib.hid KZ
      have HB2 := Lib.hid BZ
      clear KZ BZ B1 KA1 KR1
      go_wp2
      obtain ⟨z0, z1⟩ := HK.out.two
      exact bodyPost_ret (v := .tuple #[.agg #[.int .i64 (0), .int .i64 (0)], .int .i64 2]) (by simp [results, Try.results20, go_sem, z0, z1]) rfl ⟨rfl, HB2.out⟩
    · skip
      cases h2 : inB radius 0 1000
      · have E : resOffsetOf side mass ball jm ja ct ca load radius = .tuple #[.agg #[.int .i64 0, .int .i64 0], .int .i64 2] := by unfold resOffsetOf codeRes; simp [h0, h1, h2]
        rw [E]; clear E
        have C : ∀ w, Calls Try.prog 39 #[.agg #[.int .i64 side, .int .i64 mass, .int .i64 ball, .int .i64 jm, .int .i64 ja, .int .i64 ct, .int .i64 ca], .int .i64 load, .int .i64 radius, .int .i64 100] w fun e w' => e = .returned (.int .i64 2) ∧ Below w.heap.size w w' := fun w => by have := baseCode_any side mass ball jm ja ct ca load radius 100 w; simpa [codeV, in_p100, h0, h1, h2] using this
        have HC := Lib.hid C
        clear C
        clear h0 h1 h2
        go_enter Try.func20, Try.ntmps20
        go_wp2_with fail
        refine (HC.out _).mono ?_
        rintro e w1 ⟨rfl, hb1⟩
        have KA1 := ((Blk.new w _ _).alloc _).on hb1
        have KR1 := (Blk.new2 w _ _ _).on hb1
        have B1 := (below_alloc2 w _ _).trans (hb1.mono (below_alloc2 w _ _).size)
        clear hb1
        obtain ⟨r0, r1⟩ := KR1.two
        have fz0 := KR1.frozen 0
        have fz1 := KR1.frozen 1
        have KZ : Blk ((w1.setCell { block := w.heap.size + 1, off := 0 } (Value.int IntKind.i64 (0))).setCell { block := w.heap.size + 1, off := 1 } (Value.int IntKind.i64 (0))) (w.heap.size + 1) 35 #[.int .i64 (0), .int .i64 (0)] := (KR1.set_ 0 _).set_ 1 _
        have BZ : Below w.heap.size w ((w1.setCell { block := w.heap.size + 1, off := 0 } (Value.int IntKind.i64 (0))).setCell { block := w.heap.size + 1, off := 1 } (Value.int IntKind.i64 (0))) := (B1.setCell (p := ⟨w.heap.size + 1, 0, none⟩) (Nat.le_succ _) _).setCell (p := ⟨w.heap.size + 1, 1, none⟩) (Nat.le_succ _) _
        have HK := Lib.hid KZ
        have HB2 := Lib.hid BZ
        clear KZ BZ B1 KA1 KR1
        go_wp2
        obtain ⟨z0, z1⟩ := HK.out.two
        exact bodyPost_ret (v := .tuple #[.agg #[.int .i64 (0), .int .i64 (0)], .int .i64 2]) (by simp [results, Try.results20, go_sem, z0, z1]) rfl ⟨rfl, HB2.out⟩
      · have E : resOffsetOf side mass ball jm ja ct ca load radius = .tuple #[.agg #[.int .i64 (numZ (momentZ jm ja ct ca load radius) (totalZ mass ball jm ct load)), .int .i64 (denZ (momentZ jm ja ct ca load radius) (totalZ mass ball jm ct load))], .int .i64 0] := by unfold resOffsetOf; rw [h0, h1, h2, Bool.true_and, codeRes_tt]
        rw [E]; clear E
        have X0 := Lib.hid h0
        have X1 := Lib.hid h1
        have X2 := Lib.hid h2
        obtain ⟨m1, m2⟩ := moment_bounds h0 h1 h2
        obtain ⟨t1, t2⟩ := total_bounds h0 h1
        have C : ∀ w, Calls Try.prog 39 #[.agg #[.int .i64 side, .int .i64 mass, .int .i64 ball, .int .i64 jm, .int .i64 ja, .int .i64 ct, .int .i64 ca], .int .i64 load, .int .i64 radius, .int .i64 100] w fun e w' => e = .returned (.int .i64 0) ∧ Below w.heap.size w w' := fun w => by have := baseCode_any side mass ball jm ja ct ca load radius 100 w; simpa [codeV, in_p100, h0, h1, h2] using this
        have HC := Lib.hid C
        clear C
        clear h0 h1 h2
        go_enter Try.func20, Try.ntmps20
        go_wp2_with fail
        refine (HC.out _).mono ?_
        rintro e w1 ⟨rfl, hb1⟩
        have KA1 := ((Blk.new w _ _).alloc _).on hb1
        have KR1 := (Blk.new2 w _ _ _).on hb1
        have B1 := (below_alloc2 w _ _).trans (hb1.mono (below_alloc2 w _ _).size)
        clear hb1
        obtain ⟨a0, a1, a2, a3, a4, a5, a6⟩ := KA1.seven
        go_wp2_with fail
        obtain ⟨f0, f1, f2, f3, f4, f5, f6⟩ := KA1.far_seven
        clear a0 a1 a2 a3 a4 a5 a6
        refine wp_region_below_tail 8 (by kernel_rfl) (by kernel_rfl) ?_
        simp only [List.take_succ_cons, List.take_zero, List.drop_succ_cons, List.drop_zero]
        repeat (quiet_step (first | exact Calls.regrown_of (total_any _ _ _ _ _ _ _ _ _ X0.out X1.out) | exact Calls.regrown_of (moment_any _ _ _ _ _ _ _ _ _ _ X0.out X1.out X2.out) | exact Calls.regrown_of (reduced_any _ _ _ (by omega) (by omega) (by omega) (by omega))))
        refine wpQuiet_nil ?_
        intro w2 hw2
        have hb2 := class_below hw2
        have KA2 := KA1.on hb2
        have KR2 := KR1.on hb2
        have B2 := B1.trans (hb2.mono B1.size)
        clear hw2 hb2 B1 KA1 KR1 f0 f1 f2 f3 f4 f5 f6
        obtain ⟨r0, r1⟩ := KR2.two
        have fz0 := KR2.frozen 0
        have fz1 := KR2.frozen 1
        have KZ : Blk ((w2.setCell { block := w.heap.size + 1, off := 0 } (Value.int IntKind.i64 (numZ (momentZ jm ja ct ca load radius) (totalZ mass ball jm ct load)))).setCell { block := w.heap.size + 1, off := 1 } (Value.int IntKind.i64 (denZ (momentZ jm ja ct ca load radius) (totalZ mass ball jm ct load)))) (w.heap.size + 1) 35 #[.int .i64 (numZ (momentZ jm ja ct ca load radius) (totalZ mass ball jm ct load)), .int .i64 (denZ (momentZ jm ja ct ca load radius) (totalZ mass ball jm ct load))] := (KR2.set_ 0 _).set_ 1 _
        have BZ : Below w.heap.size w ((w2.setCell { block := w.heap.size + 1, off := 0 } (Value.int IntKind.i64 (numZ (momentZ jm ja ct ca load radius) (totalZ mass ball jm ct load)))).setCell { block := w.heap.size + 1, off := 1 } (Value.int IntKind.i64 (denZ (momentZ jm ja ct ca load radius) (totalZ mass ball jm ct load)))) := (B2.setCell (p := ⟨w.heap.size + 1, 0, none⟩) (Nat.le_succ _) _).setCell (p := ⟨w.heap.size + 1, 1, none⟩) (Nat.le_succ _) _
        have HK := Lib.hid KZ
        have HB2 := Lib.hid BZ
        clear KZ BZ B2 KA2 KR2
        go_wp2
        obtain ⟨z0, z1⟩ := HK.out.two
        exact bodyPost_ret (v := .tuple #[.agg #[.int .i64 (numZ (momentZ jm ja ct ca load radius) (totalZ mass ball jm ct load)), .int .i64 (denZ (momentZ jm ja ct ca load radius) (totalZ mass ball jm ct load))], .int .i64 0]) (by simp [results, Try.results20, go_sem, z0, z1]) rfl ⟨rfl, HB2.out⟩
set_option maxHeartbeats 1000000 in
theorem specOffsetOf_any (side mass ball jm ja ct ca load radius : Int) (w : World) : Calls Try.prog 19 #[.agg #[.int .i64 side, .int .i64 mass, .int .i64 ball, .int .i64 jm, .int .i64 ja, .int .i64 ct, .int .i64 ca], .int .i64 load, .int .i64 radius] w fun e w' => e = .returned (resOffsetOf side mass ball jm ja ct ca load radius) ∧ Below w.heap.size w w' := by
  cases h0 : baseB side mass ball jm ja ct ca
  · have E : resOffsetOf side mass ball jm ja ct ca load radius = .tuple #[.agg #[.int .i64 0, .int .i64 0], .int .i64 1] := by unfold resOffsetOf codeRes; simp [h0]
    rw [E]; clear E
    have C : ∀ w g, Blk w g 26 #[.int .i64 side, .int .i64 mass, .int .i64 ball, .int .i64 jm, .int .i64 ja, .int .i64 ct, .int .i64 ca] → Calls Try.prog 37 #[.pointer (some ⟨g, 0, none⟩), .int .i64 load, .int .i64 radius] w fun e w' => e = .returned (.int .i64 1) ∧ Below w.heap.size w w' := fun w g hk => same_below (by have := l06Code_any side mass ball jm ja ct ca load radius g w hk.seven.1 hk.seven.2.1 hk.seven.2.2.1 hk.seven.2.2.2.1 hk.seven.2.2.2.2.1 hk.seven.2.2.2.2.2.1 hk.seven.2.2.2.2.2.2; simpa [codeV, h0] using this)
    have HC := Lib.hid C
    clear C
    clear h0
    go_enter Try.func19, Try.ntmps19
    go_wp2_with fail
    refine (HC.out _ _ ((Blk.new w _ _).alloc _)).mono ?_
    rintro e w1 ⟨rfl, hb1⟩
    have KA1 := ((Blk.new w _ _).alloc _).on hb1
    have KR1 := (Blk.new2 w _ _ _).on hb1
    have B1 := (below_alloc2 w _ _).trans (hb1.mono (below_alloc2 w _ _).size)
    clear hb1
    obtain ⟨r0, r1⟩ := KR1.two
    have fz0 := KR1.frozen 0
    have fz1 := KR1.frozen 1
    have KZ : Blk ((w1.setCell { block := w.heap.size + 1, off := 0 } (Value.int IntKind.i64 (0))).setCell { block := w.heap.size + 1, off := 1 } (Value.int IntKind.i64 (0))) (w.heap.size + 1) 35 #[.int .i64 (0), .int .i64 (0)] := (KR1.set_ 0 _).set_ 1 _
    have BZ : Below w.heap.size w ((w1.setCell { block := w.heap.size + 1, off := 0 } (Value.int IntKind.i64 (0))).setCell { block := w.heap.size + 1, off := 1 } (Value.int IntKind.i64 (0))) := (B1.setCell (p := ⟨w.heap.size + 1, 0, none⟩) (Nat.le_succ _) _).setCell (p := ⟨w.heap.size + 1, 1, none⟩) (Nat.le_succ _) _
    have HK := Lib.hid KZ
    have HB2 := Lib.hid BZ
    clear KZ BZ B1 KA1 KR1
    go_wp2
    obtain ⟨z0, z1⟩ := HK.out.two
    exact bodyPost_ret (v := .tuple #[.agg #[.int .i64 (0), .int .i64 (0)], .int .i64 1]) (by simp [results, Try.results19, go_sem, z0, z1]) rfl ⟨rfl, HB2.out⟩
  · skip
    cases h1 : inB load 0 50000
    · have E : resOffsetOf side mass ball jm ja ct ca load radius = .tuple #[.agg #[.int .i64 0, .int .i64 0], .int .i64 2] := by unfold resOffsetOf codeRes; simp [h0, h1]
      rw [E]; clear E
      have C : ∀ w g, Blk w g 26 #[.int .i64 side, .int .i64 mass, .int .i64 ball, .int .i64 jm, .int .i64 ja, .int .i64 ct, .int .i64 ca] → Calls Try.prog 37 #[.pointer (some ⟨g, 0, none⟩), .int .i64 load, .int .i64 radius] w fun e w' => e = .returned (.int .i64 2) ∧ Below w.heap.size w w' := fun w g hk => same_below (by have := l06Code_any side mass ball jm ja ct ca load radius g w hk.seven.1 hk.seven.2.1 hk.seven.2.2.1 hk.seven.2.2.2.1 hk.seven.2.2.2.2.1 hk.seven.2.2.2.2.2.1 hk.seven.2.2.2.2.2.2; simpa [codeV, h0, h1] using this)
      have HC := Lib.hid C
      clear C
      clear h0 h1
      go_enter Try.func19, Try.ntmps19
      go_wp2_with fail
      refine (HC.out _ _ ((Blk.new w _ _).alloc _)).mono ?_
      rintro e w1 ⟨rfl, hb1⟩
      have KA1 := ((Blk.new w _ _).alloc _).on hb1
      have KR1 := (Blk.new2 w _ _ _).on hb1
      have B1 := (below_alloc2 w _ _).trans (hb1.mono (below_alloc2 w _ _).size)
      clear hb1
      obtain ⟨r0, r1⟩ := KR1.two
      have fz0 := KR1.frozen 0
      have fz1 := KR1.frozen 1
      have KZ : Blk ((w1.setCell { block := w.heap.size + 1, off := 0 } (Value.int IntKind.i64 (0))).setCell { block := w.heap.size + 1, off := 1 } (Value.int IntKind.i64 (0))) (w.heap.size + 1) 35 #[.int .i64 (0), .int .i64 (0)] := (KR1.set_ 0 _).set_ 1 _
      have BZ : Below w.heap.size w ((w1.setCell { block := w.heap.size + 1, off := 0 } (Value.int IntKind.i64 (0))).setCell { block := w.heap.size + 1, off := 1 } (Value.int IntKind.i64 (0))) := (B1.setCell (p := ⟨w.heap.size + 1, 0, none⟩) (Nat.le_succ _) _).setCell (p := ⟨w.heap.size + 1, 1, none⟩) (Nat.le_succ _) _
      have HK := Lib.hid KZ
      have HB2 := Lib.hid BZ
      clear KZ BZ B1 KA1 KR1
      go_wp2
      obtain ⟨z0, z1⟩ := HK.out.two
      exact bodyPost_ret (v := .tuple #[.agg #[.int .i64 (0), .int .i64 (0)], .int .i64 2]) (by simp [results, Try.results19, go_sem, z0, z1]) rfl ⟨rfl, HB2.out⟩
    · skip
      cases h2 : inB radius 0 1000
      · have E : resOffsetOf side mass ball jm ja ct ca load radius = .tuple #[.agg #[.int .i64 0, .int .i64 0], .int .i64 2] := by unfold resOffsetOf codeRes; simp [h0, h1, h2]
        rw [E]; clear E
        have C : ∀ w g, Blk w g 26 #[.int .i64 side, .int .i64 mass, .int .i64 ball, .int .i64 jm, .int .i64 ja, .int .i64 ct, .int .i64 ca] → Calls Try.prog 37 #[.pointer (some ⟨g, 0, none⟩), .int .i64 load, .int .i64 radius] w fun e w' => e = .returned (.int .i64 2) ∧ Below w.heap.size w w' := fun w g hk => same_below (by have := l06Code_any side mass ball jm ja ct ca load radius g w hk.seven.1 hk.seven.2.1 hk.seven.2.2.1 hk.seven.2.2.2.1 hk.seven.2.2.2.2.1 hk.seven.2.2.2.2.2.1 hk.seven.2.2.2.2.2.2; simpa [codeV, h0, h1, h2] using this)
        have HC := Lib.hid C
        clear C
        clear h0 h1 h2
        go_enter Try.func19, Try.ntmps19
        go_wp2_with fail
        refine (HC.out _ _ ((Blk.new w _ _).alloc _)).mono ?_
        rintro e w1 ⟨rfl, hb1⟩
        have KA1 := ((Blk.new w _ _).alloc _).on hb1
        have KR1 := (Blk.new2 w _ _ _).on hb1
        have B1 := (below_alloc2 w _ _).trans (hb1.mono (below_alloc2 w _ _).size)
        clear hb1
        obtain ⟨r0, r1⟩ := KR1.two
        have fz0 := KR1.frozen 0
        have fz1 := KR1.frozen 1
        have KZ : Blk ((w1.setCell { block := w.heap.size + 1, off := 0 } (Value.int IntKind.i64 (0))).setCell { block := w.heap.size + 1, off := 1 } (Value.int IntKind.i64 (0))) (w.heap.size + 1) 35 #[.int .i64 (0), .int .i64 (0)] := (KR1.set_ 0 _).set_ 1 _
        have BZ : Below w.heap.size w ((w1.setCell { block := w.heap.size + 1, off := 0 } (Value.int IntKind.i64 (0))).setCell { block := w.heap.size + 1, off := 1 } (Value.int IntKind.i64 (0))) := (B1.setCell (p := ⟨w.heap.size + 1, 0, none⟩) (Nat.le_succ _) _).setCell (p := ⟨w.heap.size + 1, 1, none⟩) (Nat.le_succ _) _
        have HK := Lib.hid KZ
        have HB2 := Lib.hid BZ
        clear KZ BZ B1 KA1 KR1
        go_wp2
        obtain ⟨z0, z1⟩ := HK.out.two
        exact bodyPost_ret (v := .tuple #[.agg #[.int .i64 (0), .int .i64 (0)], .int .i64 2]) (by simp [results, Try.results19, go_sem, z0, z1]) rfl ⟨rfl, HB2.out⟩
      · have E : resOffsetOf side mass ball jm ja ct ca load radius = .tuple #[.agg #[.int .i64 (numZ (momentZ jm ja ct ca load radius) (totalZ mass ball jm ct load)), .int .i64 (denZ (momentZ jm ja ct ca load radius) (totalZ mass ball jm ct load))], .int .i64 0] := by unfold resOffsetOf; rw [h0, h1, h2, Bool.true_and, codeRes_tt]
        rw [E]; clear E
        have X0 := Lib.hid h0
        have X1 := Lib.hid h1
        have X2 := Lib.hid h2
        obtain ⟨m1, m2⟩ := moment_bounds h0 h1 h2
        obtain ⟨t1, t2⟩ := total_bounds h0 h1
        have C : ∀ w g, Blk w g 26 #[.int .i64 side, .int .i64 mass, .int .i64 ball, .int .i64 jm, .int .i64 ja, .int .i64 ct, .int .i64 ca] → Calls Try.prog 37 #[.pointer (some ⟨g, 0, none⟩), .int .i64 load, .int .i64 radius] w fun e w' => e = .returned (.int .i64 0) ∧ Below w.heap.size w w' := fun w g hk => same_below (by have := l06Code_any side mass ball jm ja ct ca load radius g w hk.seven.1 hk.seven.2.1 hk.seven.2.2.1 hk.seven.2.2.2.1 hk.seven.2.2.2.2.1 hk.seven.2.2.2.2.2.1 hk.seven.2.2.2.2.2.2; simpa [codeV, h0, h1, h2] using this)
        have HC := Lib.hid C
        clear C
        clear h0 h1 h2
        go_enter Try.func19, Try.ntmps19
        go_wp2_with fail
        refine (HC.out _ _ ((Blk.new w _ _).alloc _)).mono ?_
        rintro e w1 ⟨rfl, hb1⟩
        have KA1 := ((Blk.new w _ _).alloc _).on hb1
        have KR1 := (Blk.new2 w _ _ _).on hb1
        have B1 := (below_alloc2 w _ _).trans (hb1.mono (below_alloc2 w _ _).size)
        clear hb1
        obtain ⟨a0, a1, a2, a3, a4, a5, a6⟩ := KA1.seven
        go_wp2_with fail
        refine (l06Moment_any _ _ _ _ _ _ _ _ _ w.heap.size _ X0.out X1.out X2.out a0 a1 a2 a3 a4 a5 a6).mono ?_
        rintro e w2 ⟨rfl, hb2⟩
        clear a0 a1 a2 a3 a4 a5 a6
        have KA2 := KA1.on hb2
        have KR2 := KR1.on hb2
        have B2 := B1.trans (hb2.mono B1.size)
        clear hb2 B1 KA1 KR1
        obtain ⟨a0, a1, a2, a3, a4, a5, a6⟩ := KA2.seven
        go_wp2_with fail
        refine (l06Total_any _ _ _ _ _ _ _ _ w.heap.size _ X0.out X1.out a0 a1 a2 a3 a4 a5 a6).mono ?_
        rintro e w3 ⟨rfl, hb3⟩
        clear a0 a1 a2 a3 a4 a5 a6
        have KA3 := KA2.on hb3
        have KR3 := KR2.on hb3
        have B3 := B2.trans (hb3.mono B2.size)
        clear hb3 B2 KA2 KR2
        obtain ⟨a0, a1, a2, a3, a4, a5, a6⟩ := KA3.seven
        go_wp2_with fail
        refine (l06Make_any _ _ _ (by omega) (by omega) (by omega) (by omega)).mono ?_
        rintro e w4 ⟨rfl, hb4⟩
        clear a0 a1 a2 a3 a4 a5 a6
        have KA4 := KA3.on hb4
        have KR4 := KR3.on hb4
        have B4 := B3.trans (hb4.mono B3.size)
        clear hb4 B3 KA3 KR3
        obtain ⟨r0, r1⟩ := KR4.two
        have fz0 := KR4.frozen 0
        have fz1 := KR4.frozen 1
        have KZ : Blk ((w4.setCell { block := w.heap.size + 1, off := 0 } (Value.int IntKind.i64 (numZ (momentZ jm ja ct ca load radius) (totalZ mass ball jm ct load)))).setCell { block := w.heap.size + 1, off := 1 } (Value.int IntKind.i64 (denZ (momentZ jm ja ct ca load radius) (totalZ mass ball jm ct load)))) (w.heap.size + 1) 35 #[.int .i64 (numZ (momentZ jm ja ct ca load radius) (totalZ mass ball jm ct load)), .int .i64 (denZ (momentZ jm ja ct ca load radius) (totalZ mass ball jm ct load))] := (KR4.set_ 0 _).set_ 1 _
        have BZ : Below w.heap.size w ((w4.setCell { block := w.heap.size + 1, off := 0 } (Value.int IntKind.i64 (numZ (momentZ jm ja ct ca load radius) (totalZ mass ball jm ct load)))).setCell { block := w.heap.size + 1, off := 1 } (Value.int IntKind.i64 (denZ (momentZ jm ja ct ca load radius) (totalZ mass ball jm ct load)))) := (B4.setCell (p := ⟨w.heap.size + 1, 0, none⟩) (Nat.le_succ _) _).setCell (p := ⟨w.heap.size + 1, 1, none⟩) (Nat.le_succ _) _
        have HK := Lib.hid KZ
        have HB2 := Lib.hid BZ
        clear KZ BZ B4 KA4 KR4
        go_wp2
        obtain ⟨z0, z1⟩ := HK.out.two
        exact bodyPost_ret (v := .tuple #[.agg #[.int .i64 (numZ (momentZ jm ja ct ca load radius) (totalZ mass ball jm ct load)), .int .i64 (denZ (momentZ jm ja ct ca load radius) (totalZ mass ball jm ct load))], .int .i64 0]) (by simp [results, Try.results19, go_sem, z0, z1]) rfl ⟨rfl, HB2.out⟩
set_option maxHeartbeats 1000000 in
theorem FnExactOffsetOf_walk (side : Int) (_wside : (Lit.int .i64 side).wf = true) (mass : Int) (_wmass : (Lit.int .i64 mass).wf = true) (ball : Int) (_wball : (Lit.int .i64 ball).wf = true) (jm : Int) (_wjm : (Lit.int .i64 jm).wf = true) (ja : Int) (_wja : (Lit.int .i64 ja).wf = true) (ct : Int) (_wct : (Lit.int .i64 ct).wf = true) (ca : Int) (_wca : (Lit.int .i64 ca).wf = true) (load : Int) (_wload : (Lit.int .i64 load).wf = true) (radius : Int) (_wradius : (Lit.int .i64 radius).wf = true) (w : World) : Calls Try.prog 6 #[.agg #[.int .i64 side, .int .i64 mass, .int .i64 ball, .int .i64 jm, .int .i64 ja, .int .i64 ct, .int .i64 ca], .int .i64 load, .int .i64 radius] w fun e w' => e = .returned (.bool true) ∧ Below w.heap.size w w' := by
  clear _wside _wmass _wball _wjm _wja _wct _wca _wload _wradius
  have F : ∃ x z y : Int, resOffsetOf side mass ball jm ja ct ca load radius = .tuple #[.agg #[.int .i64 x, .int .i64 z], .int .i64 y] := by unfold resOffsetOf codeRes; repeat (first | exact ⟨_, _, _, rfl⟩ | split)
  obtain ⟨x, z, y, F⟩ := F
  have C : ∀ w, Calls Try.prog 19 #[.agg #[.int .i64 side, .int .i64 mass, .int .i64 ball, .int .i64 jm, .int .i64 ja, .int .i64 ct, .int .i64 ca], .int .i64 load, .int .i64 radius] w fun e w' => e = .returned (.tuple #[.agg #[.int .i64 x, .int .i64 z], .int .i64 y]) ∧ Below w.heap.size w w' := fun w => by rw [← F]; exact specOffsetOf_any side mass ball jm ja ct ca load radius w
  have H1 := Lib.hid C
  clear C
  have C : ∀ w, Calls Try.prog 20 #[.agg #[.int .i64 side, .int .i64 mass, .int .i64 ball, .int .i64 jm, .int .i64 ja, .int .i64 ct, .int .i64 ca], .int .i64 load, .int .i64 radius] w fun e w' => e = .returned (.tuple #[.agg #[.int .i64 x, .int .i64 z], .int .i64 y]) ∧ Below w.heap.size w w' := fun w => by rw [← F]; exact implOffsetOf_any side mass ball jm ja ct ca load radius w
  have H2 := Lib.hid C
  clear C
  clear F
  go_enter Try.func6, Try.ntmps6
  go_wp2_with fail
  refine (toBase_any _ _ _ _ _ _ _ _).mono ?_
  rintro e w1 ⟨rfl, hb1⟩
  have KA1 := (Blk.new w _ _).on hb1
  have B1 := (below_alloc1 w _).trans (hb1.mono (below_alloc1 w _).size)
  clear hb1
  go_wp2_with fail
  refine (H1.out _).mono ?_
  rintro e w2 ⟨rfl, hb2⟩
  have KA2 := KA1.on hb2
  have B2 := B1.trans (hb2.mono B1.size)
  clear hb2 B1 KA1
  obtain ⟨a0, a1, a2, a3, a4, a5, a6⟩ := KA2.seven
  clear a0 a1 a2 a3 a4 a5 a6
  have A0 : ∀ o, (w2.alloc o).cell? ⟨w.heap.size, 0, none⟩ = _ := fun o => (KA2.alloc o).seven.1
  have A1 : ∀ o, (w2.alloc o).cell? ⟨w.heap.size, 1, none⟩ = _ := fun o => (KA2.alloc o).seven.2.1
  have A2 : ∀ o, (w2.alloc o).cell? ⟨w.heap.size, 2, none⟩ = _ := fun o => (KA2.alloc o).seven.2.2.1
  have A3 : ∀ o, (w2.alloc o).cell? ⟨w.heap.size, 3, none⟩ = _ := fun o => (KA2.alloc o).seven.2.2.2.1
  have A4 : ∀ o, (w2.alloc o).cell? ⟨w.heap.size, 4, none⟩ = _ := fun o => (KA2.alloc o).seven.2.2.2.2.1
  have A5 : ∀ o, (w2.alloc o).cell? ⟨w.heap.size, 5, none⟩ = _ := fun o => (KA2.alloc o).seven.2.2.2.2.2.1
  have A6 : ∀ o, (w2.alloc o).cell? ⟨w.heap.size, 6, none⟩ = _ := fun o => (KA2.alloc o).seven.2.2.2.2.2.2
  go_wp2_with fail
  refine (toBase_any _ _ _ _ _ _ _ _).mono ?_
  rintro e w3 ⟨rfl, hb3⟩
  have KF3 := (Blk.new w2 35 #[.int .i64 x, .int .i64 z]).on hb3
  have B3 := (B2.alloc B2.size (.cells #[.int .i64 x, .int .i64 z] 35)).trans (hb3.mono (B2.alloc B2.size _).size)
  clear hb3 B2 KA2 A0 A1 A2 A3 A4 A5 A6
  go_wp2_with fail
  refine (H2.out _).mono ?_
  rintro e w4 ⟨rfl, hb4⟩
  have KF4 := KF3.on hb4
  have B4 := B3.trans (hb4.mono B3.size)
  clear hb4 B3 KF3
  have F0 : ∀ o, (w4.alloc o).cell? ⟨w2.heap.size, 0, none⟩ = _ := fun o => (KF4.alloc o).two.1
  have F1 : ∀ o, (w4.alloc o).cell? ⟨w2.heap.size, 1, none⟩ = _ := fun o => (KF4.alloc o).two.2
  go_wp2_with (first | (go_at_call 21; refine (eqFraction_any _ _ _).mono ?_; rintro e w5 ⟨rfl, hb5⟩))
  go_ret
  exact ⟨rfl, (B4.alloc B4.size _).trans (hb5.mono (B4.alloc B4.size _).size)⟩
end Go.Proofs.Ytfnoapejkpeacaa
