/- The pressure under a base. -/
import Derived.Test.YtfnoapejkpeacaaProg
import Derived.Test.YtfnoapejkpeacaaKit
import Derived.Test.YtfnoapejkpeacaaBasics
import Derived.Test.YtfnoapejkpeacaaBases
import Derived.Test.YtfnoapejkpeacaaCodeRes
import Derived.Test.YtfnoapejkpeacaaMoments
import Derived.Test.YtfnoapejkpeacaaBaseLaws
import Derived.Test.YtfnoapejkpeacaaMem
import Derived.Test.YtfnoapejkpeacaaTail
import Derived.Test.YtfnoapejkpeacaaFrac
import Derived.Test.YtfnoapejkpeacaaFrac2
import Derived.IntWalk
import Derived.BigQuiet
namespace Go.Proofs.Ytfnoapejkpeacaa
open Go.RowKit Go.WideShapes Go.ChangeShapes Go.Joins Go.Deep Go.Sort
set_option linter.unusedVariables false
set_option linter.unusedSimpArgs false
theorem press_bounds {side mass ball jm ja ct ca load radius : Int} (h : baseB side mass ball jm ja ct ca = true) (l : inB load 0 50000 = true) (r : inB radius 0 1000 = true) : ∃ W m : Int, totalZ mass ball jm ct load = W ∧ absZ (momentZ jm ja ct ca load radius) = m ∧ 1 ≤ W ∧ W ≤ 2050000 ∧ 0 ≤ m ∧ m ≤ 550000000 ∧ 10 ≤ side ∧ side ≤ 200 ∧ side * W = W * side ∧ 10 ≤ W * side ∧ W * side ≤ 2050000 * 200 ∧ 0 < side * side * side ∧ side * side * side ≤ 200 * 200 * 200 ∧ 0 ≤ side * side ∧ side * side ≤ 200 * 200 ∧ 0 ≤ 4 * W * W ∧ 4 * W * W ≤ 8200000 * 2050000 := by
  obtain ⟨t1, t2⟩ := total_bounds h l
  obtain ⟨e1, e2⟩ := abs_bounds h l r
  have s := baseB_of h
  have a := mul_bd (a := totalZ mass ball jm ct load) (b := side) (A := 2050000) (B := 200) (by omega) (by omega) (by omega) (by omega)
  have b := mul_bd (a := side) (b := side) (A := 200) (B := 200) (by omega) (by omega) (by omega) (by omega)
  have c := mul_bd (a := side * side) (b := side) (A := 200 * 200) (B := 200) b.1 b.2 (by omega) (by omega)
  have d := mul_bd (a := 4 * totalZ mass ball jm ct load) (b := totalZ mass ball jm ct load) (A := 8200000) (B := 2050000) (by omega) (by omega) (by omega) (by omega)
  have p : 0 < side * side * side := Int.mul_pos (Int.mul_pos (by omega) (by omega)) (by omega)
  have q : 10 ≤ totalZ mass ball jm ct load * side := by
    have := Int.mul_le_mul (show 1 ≤ totalZ mass ball jm ct load from t1) (show 10 ≤ side by omega) (by omega) (by omega)
    omega
  exact ⟨_, _, rfl, rfl, t1, t2, e1, e2, s.1, s.2.1, Int.mul_comm _ _, q, a.2, p, c.2, b.1, b.2, d.1, d.2⟩
def resPressureOf (side mass ball jm ja ct ca load radius : Int) : Value := codeRes (baseB side mass ball jm ja ct ca) (inB load 0 50000 && inB radius 0 1000) (if 6 * absZ (momentZ jm ja ct ca load radius) ≤ side * totalZ mass ball jm ct load then .tuple #[.agg #[.int .i64 (numZ (totalZ mass ball jm ct load * side + 6 * absZ (momentZ jm ja ct ca load radius)) (side * side * side)), .int .i64 (denZ (totalZ mass ball jm ct load * side + 6 * absZ (momentZ jm ja ct ca load radius)) (side * side * side))], .int .i64 0] else if side * totalZ mass ball jm ct load ≤ 2 * absZ (momentZ jm ja ct ca load radius) then .tuple #[.agg #[.int .i64 (0), .int .i64 (0)], .int .i64 10] else .tuple #[.agg #[.int .i64 (numZ (4 * totalZ mass ball jm ct load * totalZ mass ball jm ct load) (3 * side * (side * totalZ mass ball jm ct load - 2 * absZ (momentZ jm ja ct ca load radius)))), .int .i64 (denZ (4 * totalZ mass ball jm ct load * totalZ mass ball jm ct load) (3 * side * (side * totalZ mass ball jm ct load - 2 * absZ (momentZ jm ja ct ca load radius))))], .int .i64 0]) (.agg #[.int .i64 0, .int .i64 0])
set_option maxHeartbeats 1000000 in
theorem implPressureOf_any (side mass ball jm ja ct ca load radius : Int) (w : World) : Calls Try.prog 29 #[.agg #[.int .i64 side, .int .i64 mass, .int .i64 ball, .int .i64 jm, .int .i64 ja, .int .i64 ct, .int .i64 ca], .int .i64 load, .int .i64 radius] w fun e w' => e = .returned (resPressureOf side mass ball jm ja ct ca load radius) ∧ Below w.heap.size w w' := by
  cases h0 : baseB side mass ball jm ja ct ca
  · have E : resPressureOf side mass ball jm ja ct ca load radius = .tuple #[.agg #[.int .i64 0, .int .i64 0], .int .i64 1] := by unfold resPressureOf codeRes; simp [h0]
    rw [E]; clear E
    have C : ∀ w, Calls Try.prog 39 #[.agg #[.int .i64 side, .int .i64 mass, .int .i64 ball, .int .i64 jm, .int .i64 ja, .int .i64 ct, .int .i64 ca], .int .i64 load, .int .i64 radius, .int .i64 100] w fun e w' => e = .returned (.int .i64 1) ∧ Below w.heap.size w w' := fun w => by have := baseCode_any side mass ball jm ja ct ca load radius 100 w; simpa [codeV, in_p100, h0] using this
    have HC := Lib.hid C
    clear C
    clear h0
    go_enter Try.func29, Try.ntmps29
    go_wp2_with fail
    refine (HC.out _).mono ?_
    rintro e w1 ⟨rfl, hb1⟩
    have KA1 := ((Blk.new w _ _).alloc _).on hb1
    have KR1 := (Blk.new2 w _ _ _).on hb1
    have B1 := (below_alloc2 w _ _).trans (hb1.mono (below_alloc2 w _ _).size)
    clear hb1
    obtain ⟨r0, r1⟩ := KR1.two
    have fz0 := KR1.frozen 0
    have fz1 := KR1.frozen 1
    have KZ : Blk ((w1.setCell { block := w.heap.size + 1, off := 0 } (Value.int IntKind.i64 (0))).setCell { block := w.heap.size + 1, off := 1 } (Value.int IntKind.i64 (0))) (w.heap.size + 1) 35 #[.int .i64 (0), .int .i64 (0)] := (KR1.set_ 0 _).set_ 1 _
    have BZ : Below w.heap.size w ((w1.setCell { block := w.heap.size + 1, off := 0 } (Value.int IntKind.i64 (0))).setCell { block := w.heap.size + 1, off := 1 } (Value.int IntKind.i64 (0))) := (B1.setCell (p := ⟨w.heap.size + 1, 0, none⟩) (Nat.le_succ _) _).setCell (p := ⟨w.heap.size + 1, 1, none⟩) (Nat.le_succ _) _
    have HK := Lib.hid KZ
    have HB2 := Lib.hid BZ
    clear KZ BZ B1 KA1 KR1
    go_wp2
    obtain ⟨z0, z1⟩ := HK.out.two
    exact bodyPost_ret (v := .tuple #[.agg #[.int .i64 (0), .int .i64 (0)], .int .i64 1]) (by simp [results, Try.results29, go_sem, z0, z1]) rfl ⟨rfl, HB2.out⟩
  · skip
    cases h1 : inB load 0 50000
    · have E : resPressureOf side mass ball jm ja ct ca load radius = .tuple #[.agg #[.int .i64 0, .int .i64 0], .int .i64 2] := by unfold resPressureOf codeRes; simp [h0, h1]
      rw [E]; clear E
      have C : ∀ w, Calls Try.prog 39 #[.agg #[.int .i64 side, .int .i64 mass, .int .i64 ball, .int .i64 jm, .int .i64 ja, .int .i64 ct, .int .i64 ca], .int .i64 load, .int .i64 radius, .int .i64 100] w fun e w' => e = .returned (.int .i64 2) ∧ Below w.heap.size w w' := fun w => by have := baseCode_any side mass ball jm ja ct ca load radius 100 w; simpa [codeV, in_p100, h0, h1] using this
      have HC := Lib.hid C
      clear C
      clear h0 h1
      go_enter Try.func29, Try.ntmps29
      go_wp2_with fail
      refine (HC.out _).mono ?_
      rintro e w1 ⟨rfl, hb1⟩
      have KA1 := ((Blk.new w _ _).alloc _).on hb1
      have KR1 := (Blk.new2 w _ _ _).on hb1
      have B1 := (below_alloc2 w _ _).trans (hb1.mono (below_alloc2 w _ _).size)
      clear hb1
      obtain ⟨r0, r1⟩ := KR1.two
      have fz0 := KR1.frozen 0
      have fz1 := KR1.frozen 1
      have KZ : Blk ((w1.setCell { block := w.heap.size + 1, off := 0 } (Value.int IntKind.i64 (0))).setCell { block := w.heap.size + 1, off := 1 } (Value.int IntKind.i64 (0))) (w.heap.size + 1) 35 #[.int .i64 (0), .int .i64 (0)] := (KR1.set_ 0 _).set_ 1 _
      have BZ : Below w.heap.size w ((w1.setCell { block := w.heap.size + 1, off := 0 } (Value.int IntKind.i64 (0))).setCell { block := w.heap.size + 1, off := 1 } (Value.int IntKind.i64 (0))) := (B1.setCell (p := ⟨w.heap.size + 1, 0, none⟩) (Nat.le_succ _) _).setCell (p := ⟨w.heap.size + 1, 1, none⟩) (Nat.le_succ _) _
      have HK := Lib.hid KZ
      have HB2 := Lib.hid BZ
      clear KZ BZ B1 KA1 KR1
      go_wp2
      obtain ⟨z0, z1⟩ := HK.out.two
      exact bodyPost_ret (v := .tuple #[.agg #[.int .i64 (0), .int .i64 (0)], .int .i64 2]) (by simp [results, Try.results29, go_sem, z0, z1]) rfl ⟨rfl, HB2.out⟩
    · skip
      cases h2 : inB radius 0 1000
      · have E : resPressureOf side mass ball jm ja ct ca load radius = .tuple #[.agg #[.int .i64 0, .int .i64 0], .int .i64 2] := by unfold resPressureOf codeRes; simp [h0, h1, h2]
        rw [E]; clear E
        have C : ∀ w, Calls Try.prog 39 #[.agg #[.int .i64 side, .int .i64 mass, .int .i64 ball, .int .i64 jm, .int .i64 ja, .int .i64 ct, .int .i64 ca], .int .i64 load, .int .i64 radius, .int .i64 100] w fun e w' => e = .returned (.int .i64 2) ∧ Below w.heap.size w w' := fun w => by have := baseCode_any side mass ball jm ja ct ca load radius 100 w; simpa [codeV, in_p100, h0, h1, h2] using this
        have HC := Lib.hid C
        clear C
        clear h0 h1 h2
        go_enter Try.func29, Try.ntmps29
        go_wp2_with fail
        refine (HC.out _).mono ?_
        rintro e w1 ⟨rfl, hb1⟩
        have KA1 := ((Blk.new w _ _).alloc _).on hb1
        have KR1 := (Blk.new2 w _ _ _).on hb1
        have B1 := (below_alloc2 w _ _).trans (hb1.mono (below_alloc2 w _ _).size)
        clear hb1
        obtain ⟨r0, r1⟩ := KR1.two
        have fz0 := KR1.frozen 0
        have fz1 := KR1.frozen 1
        have KZ : Blk ((w1.setCell { block := w.heap.size + 1, off := 0 } (Value.int IntKind.i64 (0))).setCell { block := w.heap.size + 1, off := 1 } (Value.int IntKind.i64 (0))) (w.heap.size + 1) 35 #[.int .i64 (0), .int .i64 (0)] := (KR1.set_ 0 _).set_ 1 _
        have BZ : Below w.heap.size w ((w1.setCell { block := w.heap.size + 1, off := 0 } (Value.int IntKind.i64 (0))).setCell { block := w.heap.size + 1, off := 1 } (Value.int IntKind.i64 (0))) := (B1.setCell (p := ⟨w.heap.size + 1, 0, none⟩) (Nat.le_succ _) _).setCell (p := ⟨w.heap.size + 1, 1, none⟩) (Nat.le_succ _) _
        have HK := Lib.hid KZ
        have HB2 := Lib.hid BZ
        clear KZ BZ B1 KA1 KR1
        go_wp2
        obtain ⟨z0, z1⟩ := HK.out.two
        exact bodyPost_ret (v := .tuple #[.agg #[.int .i64 (0), .int .i64 (0)], .int .i64 2]) (by simp [results, Try.results29, go_sem, z0, z1]) rfl ⟨rfl, HB2.out⟩
      · by_cases hg0 : 6 * absZ (momentZ jm ja ct ca load radius) ≤ side * totalZ mass ball jm ct load
        · have E : resPressureOf side mass ball jm ja ct ca load radius = .tuple #[.agg #[.int .i64 (numZ (totalZ mass ball jm ct load * side + 6 * absZ (momentZ jm ja ct ca load radius)) (side * side * side)), .int .i64 (denZ (totalZ mass ball jm ct load * side + 6 * absZ (momentZ jm ja ct ca load radius)) (side * side * side))], .int .i64 0] := by unfold resPressureOf; rw [h0, h1, h2, Bool.true_and, codeRes_tt, if_pos hg0]
          rw [E]; clear E
          have X0 := Lib.hid h0
          have X1 := Lib.hid h1
          have X2 := Lib.hid h2
          obtain ⟨m1, m2⟩ := moment_bounds h0 h1 h2
          obtain ⟨t1, t2⟩ := total_bounds h0 h1
          have C : ∀ w, Calls Try.prog 39 #[.agg #[.int .i64 side, .int .i64 mass, .int .i64 ball, .int .i64 jm, .int .i64 ja, .int .i64 ct, .int .i64 ca], .int .i64 load, .int .i64 radius, .int .i64 100] w fun e w' => e = .returned (.int .i64 0) ∧ Below w.heap.size w w' := fun w => by have := baseCode_any side mass ball jm ja ct ca load radius 100 w; simpa [codeV, in_p100, h0, h1, h2] using this
          have HC := Lib.hid C
          clear C
          obtain ⟨W, m, hW, hm, wb0, wb1, k0, k1, s0, s1, sc, p0, p1, cu0, cu1, sq0, sq1, q0, q1⟩ := press_bounds h0 h1 h2
          rw [hW, hm] at hg0
          rw [hW, hm]
          have CT : ∀ w, Calls Try.prog 42 #[.agg #[.int .i64 side, .int .i64 mass, .int .i64 ball, .int .i64 jm, .int .i64 ja, .int .i64 ct, .int .i64 ca], .int .i64 load] w fun e w' => e = .returned (.int .i64 W) ∧ Below w.heap.size w w' := fun w => by rw [← hW]; exact total_any side mass ball jm ja ct ca load w h0 h1
          obtain ⟨M, hM⟩ : ∃ M, momentZ jm ja ct ca load radius = M := ⟨_, rfl⟩
          rw [hM] at hm m1 m2
          have CM : ∀ w, Calls Try.prog 40 #[.agg #[.int .i64 side, .int .i64 mass, .int .i64 ball, .int .i64 jm, .int .i64 ja, .int .i64 ct, .int .i64 ca], .int .i64 load, .int .i64 radius] w fun e w' => e = .returned (.int .i64 M) ∧ Below w.heap.size w w' := fun w => by rw [← hM]; exact moment_any side mass ball jm ja ct ca load radius w h0 h1 h2
          have CA : ∀ w, Calls Try.prog 49 #[.int .i64 M] w fun e w' => e = .returned (.int .i64 m) ∧ w = w' := fun w => by rw [← hm]; exact abs_any M w (by omega) (by omega)
          have HT := Lib.hid CT
          have HM := Lib.hid CM
          have HA := Lib.hid CA
          clear CT CM CA hW hm hM m1 m2 t1 t2
          clear h0 h1 h2
          go_enter Try.func29, Try.ntmps29
          go_wp2_with fail
          refine (HC.out _).mono ?_
          rintro e w1 ⟨rfl, hb1⟩
          have KA1 := ((Blk.new w _ _).alloc _).on hb1
          have KR1 := (Blk.new2 w _ _ _).on hb1
          have B1 := (below_alloc2 w _ _).trans (hb1.mono (below_alloc2 w _ _).size)
          clear hb1
          obtain ⟨a0, a1, a2, a3, a4, a5, a6⟩ := KA1.seven
          go_wp2_with fail
          obtain ⟨f0, f1, f2, f3, f4, f5, f6⟩ := KA1.far_seven
          clear a0 a1 a2 a3 a4 a5 a6
          refine wp_region_quiet_below (by kernel_rfl) (by kernel_rfl) ?_
          repeat (quiet_step (first | exact Calls.regrown_of (same_below (HA.out _)) | exact Calls.regrown_of (HT.out _) | exact Calls.regrown_of (HM.out _)))
          refine wpQuiet_nil ?_
          intro w2 hw2
          have hb2 := class_below hw2
          have KA2 := KA1.on hb2
          have KR2 := KR1.on hb2
          have B2 := B1.trans (hb2.mono B1.size)
          clear hw2 hb2 B1 KA1 KR1 f0 f1 f2 f3 f4 f5 f6
          obtain ⟨a0, a1, a2, a3, a4, a5, a6⟩ := KA2.seven
          go_wp2_with fail
          refine (reduced_big _ _ _ (by omega) (by omega) (by omega) (by omega)).mono ?_
          rintro e w3 ⟨rfl, hb3⟩
          clear a0 a1 a2 a3 a4 a5 a6
          have KA3 := KA2.on hb3
          have KR3 := KR2.on hb3
          have B3 := B2.trans (hb3.mono B2.size)
          clear hb3 B2 KA2 KR2
          obtain ⟨r0, r1⟩ := KR3.two
          have fz0 := KR3.frozen 0
          have fz1 := KR3.frozen 1
          have KZ : Blk ((w3.setCell { block := w.heap.size + 1, off := 0 } (Value.int IntKind.i64 (numZ (W * side + 6 * m) (side * side * side)))).setCell { block := w.heap.size + 1, off := 1 } (Value.int IntKind.i64 (denZ (W * side + 6 * m) (side * side * side)))) (w.heap.size + 1) 35 #[.int .i64 (numZ (W * side + 6 * m) (side * side * side)), .int .i64 (denZ (W * side + 6 * m) (side * side * side))] := (KR3.set_ 0 _).set_ 1 _
          have BZ : Below w.heap.size w ((w3.setCell { block := w.heap.size + 1, off := 0 } (Value.int IntKind.i64 (numZ (W * side + 6 * m) (side * side * side)))).setCell { block := w.heap.size + 1, off := 1 } (Value.int IntKind.i64 (denZ (W * side + 6 * m) (side * side * side)))) := (B3.setCell (p := ⟨w.heap.size + 1, 0, none⟩) (Nat.le_succ _) _).setCell (p := ⟨w.heap.size + 1, 1, none⟩) (Nat.le_succ _) _
          have HK := Lib.hid KZ
          have HB2 := Lib.hid BZ
          clear KZ BZ B3 KA3 KR3
          go_wp2
          obtain ⟨z0, z1⟩ := HK.out.two
          exact bodyPost_ret (v := .tuple #[.agg #[.int .i64 (numZ (W * side + 6 * m) (side * side * side)), .int .i64 (denZ (W * side + 6 * m) (side * side * side))], .int .i64 0]) (by simp [results, Try.results29, go_sem, z0, z1]) rfl ⟨rfl, HB2.out⟩
        · by_cases hg1 : side * totalZ mass ball jm ct load ≤ 2 * absZ (momentZ jm ja ct ca load radius)
          · have E : resPressureOf side mass ball jm ja ct ca load radius = .tuple #[.agg #[.int .i64 (0), .int .i64 (0)], .int .i64 10] := by unfold resPressureOf; rw [h0, h1, h2, Bool.true_and, codeRes_tt, if_neg hg0, if_pos hg1]
            rw [E]; clear E
            have X0 := Lib.hid h0
            have X1 := Lib.hid h1
            have X2 := Lib.hid h2
            obtain ⟨m1, m2⟩ := moment_bounds h0 h1 h2
            obtain ⟨t1, t2⟩ := total_bounds h0 h1
            have C : ∀ w, Calls Try.prog 39 #[.agg #[.int .i64 side, .int .i64 mass, .int .i64 ball, .int .i64 jm, .int .i64 ja, .int .i64 ct, .int .i64 ca], .int .i64 load, .int .i64 radius, .int .i64 100] w fun e w' => e = .returned (.int .i64 0) ∧ Below w.heap.size w w' := fun w => by have := baseCode_any side mass ball jm ja ct ca load radius 100 w; simpa [codeV, in_p100, h0, h1, h2] using this
            have HC := Lib.hid C
            clear C
            obtain ⟨W, m, hW, hm, wb0, wb1, k0, k1, s0, s1, sc, p0, p1, cu0, cu1, sq0, sq1, q0, q1⟩ := press_bounds h0 h1 h2
            rw [hW, hm] at hg0
            rw [hW, hm] at hg1
            have CT : ∀ w, Calls Try.prog 42 #[.agg #[.int .i64 side, .int .i64 mass, .int .i64 ball, .int .i64 jm, .int .i64 ja, .int .i64 ct, .int .i64 ca], .int .i64 load] w fun e w' => e = .returned (.int .i64 W) ∧ Below w.heap.size w w' := fun w => by rw [← hW]; exact total_any side mass ball jm ja ct ca load w h0 h1
            obtain ⟨M, hM⟩ : ∃ M, momentZ jm ja ct ca load radius = M := ⟨_, rfl⟩
            rw [hM] at hm m1 m2
            have CM : ∀ w, Calls Try.prog 40 #[.agg #[.int .i64 side, .int .i64 mass, .int .i64 ball, .int .i64 jm, .int .i64 ja, .int .i64 ct, .int .i64 ca], .int .i64 load, .int .i64 radius] w fun e w' => e = .returned (.int .i64 M) ∧ Below w.heap.size w w' := fun w => by rw [← hM]; exact moment_any side mass ball jm ja ct ca load radius w h0 h1 h2
            have CA : ∀ w, Calls Try.prog 49 #[.int .i64 M] w fun e w' => e = .returned (.int .i64 m) ∧ w = w' := fun w => by rw [← hm]; exact abs_any M w (by omega) (by omega)
            have HT := Lib.hid CT
            have HM := Lib.hid CM
            have HA := Lib.hid CA
            clear CT CM CA hW hm hM m1 m2 t1 t2
            clear h0 h1 h2
            go_enter Try.func29, Try.ntmps29
            go_wp2_with fail
            refine (HC.out _).mono ?_
            rintro e w1 ⟨rfl, hb1⟩
            have KA1 := ((Blk.new w _ _).alloc _).on hb1
            have KR1 := (Blk.new2 w _ _ _).on hb1
            have B1 := (below_alloc2 w _ _).trans (hb1.mono (below_alloc2 w _ _).size)
            clear hb1
            obtain ⟨a0, a1, a2, a3, a4, a5, a6⟩ := KA1.seven
            go_wp2_with fail
            obtain ⟨f0, f1, f2, f3, f4, f5, f6⟩ := KA1.far_seven
            clear a0 a1 a2 a3 a4 a5 a6
            refine wp_region_quiet_below (by kernel_rfl) (by kernel_rfl) ?_
            repeat (quiet_step (first | exact Calls.regrown_of (same_below (HA.out _)) | exact Calls.regrown_of (HT.out _) | exact Calls.regrown_of (HM.out _)))
            refine wpQuiet_nil ?_
            intro w2 hw2
            have hb2 := class_below hw2
            have KA2 := KA1.on hb2
            have KR2 := KR1.on hb2
            have B2 := B1.trans (hb2.mono B1.size)
            clear hw2 hb2 B1 KA1 KR1 f0 f1 f2 f3 f4 f5 f6
            obtain ⟨a0, a1, a2, a3, a4, a5, a6⟩ := KA2.seven
            clear a1 a2 a3 a4 a5 a6
            obtain ⟨r0, r1⟩ := KR2.two
            have fz0 := KR2.frozen 0
            have fz1 := KR2.frozen 1
            have KZ : Blk ((w2.setCell { block := w.heap.size + 1, off := 0 } (Value.int IntKind.i64 (0))).setCell { block := w.heap.size + 1, off := 1 } (Value.int IntKind.i64 (0))) (w.heap.size + 1) 35 #[.int .i64 (0), .int .i64 (0)] := (KR2.set_ 0 _).set_ 1 _
            have BZ : Below w.heap.size w ((w2.setCell { block := w.heap.size + 1, off := 0 } (Value.int IntKind.i64 (0))).setCell { block := w.heap.size + 1, off := 1 } (Value.int IntKind.i64 (0))) := (B2.setCell (p := ⟨w.heap.size + 1, 0, none⟩) (Nat.le_succ _) _).setCell (p := ⟨w.heap.size + 1, 1, none⟩) (Nat.le_succ _) _
            have HK := Lib.hid KZ
            have HB2 := Lib.hid BZ
            clear KZ BZ B2 KA2 KR2
            go_wp2
            obtain ⟨z0, z1⟩ := HK.out.two
            exact bodyPost_ret (v := .tuple #[.agg #[.int .i64 (0), .int .i64 (0)], .int .i64 10]) (by simp [results, Try.results29, go_sem, z0, z1]) rfl ⟨rfl, HB2.out⟩
          · have E : resPressureOf side mass ball jm ja ct ca load radius = .tuple #[.agg #[.int .i64 (numZ (4 * totalZ mass ball jm ct load * totalZ mass ball jm ct load) (3 * side * (side * totalZ mass ball jm ct load - 2 * absZ (momentZ jm ja ct ca load radius)))), .int .i64 (denZ (4 * totalZ mass ball jm ct load * totalZ mass ball jm ct load) (3 * side * (side * totalZ mass ball jm ct load - 2 * absZ (momentZ jm ja ct ca load radius))))], .int .i64 0] := by unfold resPressureOf; rw [h0, h1, h2, Bool.true_and, codeRes_tt, if_neg hg0, if_neg hg1]
            rw [E]; clear E
            have X0 := Lib.hid h0
            have X1 := Lib.hid h1
            have X2 := Lib.hid h2
            obtain ⟨m1, m2⟩ := moment_bounds h0 h1 h2
            obtain ⟨t1, t2⟩ := total_bounds h0 h1
            have C : ∀ w, Calls Try.prog 39 #[.agg #[.int .i64 side, .int .i64 mass, .int .i64 ball, .int .i64 jm, .int .i64 ja, .int .i64 ct, .int .i64 ca], .int .i64 load, .int .i64 radius, .int .i64 100] w fun e w' => e = .returned (.int .i64 0) ∧ Below w.heap.size w w' := fun w => by have := baseCode_any side mass ball jm ja ct ca load radius 100 w; simpa [codeV, in_p100, h0, h1, h2] using this
            have HC := Lib.hid C
            clear C
            obtain ⟨W, m, hW, hm, wb0, wb1, k0, k1, s0, s1, sc, p0, p1, cu0, cu1, sq0, sq1, q0, q1⟩ := press_bounds h0 h1 h2
            rw [hW, hm] at hg0
            rw [hW, hm] at hg1
            rw [hW, hm]
            have w3 : 0 ≤ 3 * side ∧ 3 * side ≤ 600 := by omega
            have u := mul_bd (a := 3 * side) (b := side * W - 2 * m) (A := 600) (B := 2050000 * 200) (by omega) (by omega) (by omega) (by omega)
            obtain ⟨u0, u1⟩ := u
            have u2 : 0 < 3 * side * (side * W - 2 * m) := Int.mul_pos (by omega) (by omega)
            clear w3
            rw [sc] at u0 u1 u2 ⊢
            have CT : ∀ w, Calls Try.prog 42 #[.agg #[.int .i64 side, .int .i64 mass, .int .i64 ball, .int .i64 jm, .int .i64 ja, .int .i64 ct, .int .i64 ca], .int .i64 load] w fun e w' => e = .returned (.int .i64 W) ∧ Below w.heap.size w w' := fun w => by rw [← hW]; exact total_any side mass ball jm ja ct ca load w h0 h1
            obtain ⟨M, hM⟩ : ∃ M, momentZ jm ja ct ca load radius = M := ⟨_, rfl⟩
            rw [hM] at hm m1 m2
            have CM : ∀ w, Calls Try.prog 40 #[.agg #[.int .i64 side, .int .i64 mass, .int .i64 ball, .int .i64 jm, .int .i64 ja, .int .i64 ct, .int .i64 ca], .int .i64 load, .int .i64 radius] w fun e w' => e = .returned (.int .i64 M) ∧ Below w.heap.size w w' := fun w => by rw [← hM]; exact moment_any side mass ball jm ja ct ca load radius w h0 h1 h2
            have CA : ∀ w, Calls Try.prog 49 #[.int .i64 M] w fun e w' => e = .returned (.int .i64 m) ∧ w = w' := fun w => by rw [← hm]; exact abs_any M w (by omega) (by omega)
            have HT := Lib.hid CT
            have HM := Lib.hid CM
            have HA := Lib.hid CA
            clear CT CM CA hW hm hM m1 m2 t1 t2
            clear h0 h1 h2
            go_enter Try.func29, Try.ntmps29
            go_wp2_with fail
            refine (HC.out _).mono ?_
            rintro e w1 ⟨rfl, hb1⟩
            have KA1 := ((Blk.new w _ _).alloc _).on hb1
            have KR1 := (Blk.new2 w _ _ _).on hb1
            have B1 := (below_alloc2 w _ _).trans (hb1.mono (below_alloc2 w _ _).size)
            clear hb1
            obtain ⟨a0, a1, a2, a3, a4, a5, a6⟩ := KA1.seven
            go_wp2_with fail
            obtain ⟨f0, f1, f2, f3, f4, f5, f6⟩ := KA1.far_seven
            clear a0 a1 a2 a3 a4 a5 a6
            refine wp_region_quiet_below (by kernel_rfl) (by kernel_rfl) ?_
            repeat (quiet_step (first | exact Calls.regrown_of (same_below (HA.out _)) | exact Calls.regrown_of (HT.out _) | exact Calls.regrown_of (HM.out _)))
            refine wpQuiet_nil ?_
            intro w2 hw2
            have hb2 := class_below hw2
            have KA2 := KA1.on hb2
            have KR2 := KR1.on hb2
            have B2 := B1.trans (hb2.mono B1.size)
            clear hw2 hb2 B1 KA1 KR1 f0 f1 f2 f3 f4 f5 f6
            obtain ⟨a0, a1, a2, a3, a4, a5, a6⟩ := KA2.seven
            go_wp2_with fail
            refine (reduced_big _ _ _ (by omega) (by omega) (by omega) (by omega)).mono ?_
            rintro e w3 ⟨rfl, hb3⟩
            clear a0 a1 a2 a3 a4 a5 a6
            have KA3 := KA2.on hb3
            have KR3 := KR2.on hb3
            have B3 := B2.trans (hb3.mono B2.size)
            clear hb3 B2 KA2 KR2
            obtain ⟨r0, r1⟩ := KR3.two
            have fz0 := KR3.frozen 0
            have fz1 := KR3.frozen 1
            have KZ : Blk ((w3.setCell { block := w.heap.size + 1, off := 0 } (Value.int IntKind.i64 (numZ (4 * W * W) (3 * side * (W * side - 2 * m))))).setCell { block := w.heap.size + 1, off := 1 } (Value.int IntKind.i64 (denZ (4 * W * W) (3 * side * (W * side - 2 * m))))) (w.heap.size + 1) 35 #[.int .i64 (numZ (4 * W * W) (3 * side * (W * side - 2 * m))), .int .i64 (denZ (4 * W * W) (3 * side * (W * side - 2 * m)))] := (KR3.set_ 0 _).set_ 1 _
            have BZ : Below w.heap.size w ((w3.setCell { block := w.heap.size + 1, off := 0 } (Value.int IntKind.i64 (numZ (4 * W * W) (3 * side * (W * side - 2 * m))))).setCell { block := w.heap.size + 1, off := 1 } (Value.int IntKind.i64 (denZ (4 * W * W) (3 * side * (W * side - 2 * m))))) := (B3.setCell (p := ⟨w.heap.size + 1, 0, none⟩) (Nat.le_succ _) _).setCell (p := ⟨w.heap.size + 1, 1, none⟩) (Nat.le_succ _) _
            have HK := Lib.hid KZ
            have HB2 := Lib.hid BZ
            clear KZ BZ B3 KA3 KR3
            go_wp2
            obtain ⟨z0, z1⟩ := HK.out.two
            exact bodyPost_ret (v := .tuple #[.agg #[.int .i64 (numZ (4 * W * W) (3 * side * (W * side - 2 * m))), .int .i64 (denZ (4 * W * W) (3 * side * (W * side - 2 * m)))], .int .i64 0]) (by simp [results, Try.results29, go_sem, z0, z1]) rfl ⟨rfl, HB2.out⟩
set_option maxHeartbeats 1000000 in
theorem specPressureOf_any (side mass ball jm ja ct ca load radius : Int) (w : World) : Calls Try.prog 28 #[.agg #[.int .i64 side, .int .i64 mass, .int .i64 ball, .int .i64 jm, .int .i64 ja, .int .i64 ct, .int .i64 ca], .int .i64 load, .int .i64 radius] w fun e w' => e = .returned (resPressureOf side mass ball jm ja ct ca load radius) ∧ Below w.heap.size w w' := by
  cases h0 : baseB side mass ball jm ja ct ca
  · have E : resPressureOf side mass ball jm ja ct ca load radius = .tuple #[.agg #[.int .i64 0, .int .i64 0], .int .i64 1] := by unfold resPressureOf codeRes; simp [h0]
    rw [E]; clear E
    have C : ∀ w g, Blk w g 26 #[.int .i64 side, .int .i64 mass, .int .i64 ball, .int .i64 jm, .int .i64 ja, .int .i64 ct, .int .i64 ca] → Calls Try.prog 37 #[.pointer (some ⟨g, 0, none⟩), .int .i64 load, .int .i64 radius] w fun e w' => e = .returned (.int .i64 1) ∧ Below w.heap.size w w' := fun w g hk => same_below (by have := l06Code_any side mass ball jm ja ct ca load radius g w hk.seven.1 hk.seven.2.1 hk.seven.2.2.1 hk.seven.2.2.2.1 hk.seven.2.2.2.2.1 hk.seven.2.2.2.2.2.1 hk.seven.2.2.2.2.2.2; simpa [codeV, h0] using this)
    have HC := Lib.hid C
    clear C
    clear h0
    go_enter Try.func28, Try.ntmps28
    go_wp2_with fail
    refine (HC.out _ _ ((Blk.new w _ _).alloc _)).mono ?_
    rintro e w1 ⟨rfl, hb1⟩
    have KA1 := ((Blk.new w _ _).alloc _).on hb1
    have KR1 := (Blk.new2 w _ _ _).on hb1
    have B1 := (below_alloc2 w _ _).trans (hb1.mono (below_alloc2 w _ _).size)
    clear hb1
    obtain ⟨r0, r1⟩ := KR1.two
    have fz0 := KR1.frozen 0
    have fz1 := KR1.frozen 1
    have KZ : Blk ((w1.setCell { block := w.heap.size + 1, off := 0 } (Value.int IntKind.i64 (0))).setCell { block := w.heap.size + 1, off := 1 } (Value.int IntKind.i64 (0))) (w.heap.size + 1) 35 #[.int .i64 (0), .int .i64 (0)] := (KR1.set_ 0 _).set_ 1 _
    have BZ : Below w.heap.size w ((w1.setCell { block := w.heap.size + 1, off := 0 } (Value.int IntKind.i64 (0))).setCell { block := w.heap.size + 1, off := 1 } (Value.int IntKind.i64 (0))) := (B1.setCell (p := ⟨w.heap.size + 1, 0, none⟩) (Nat.le_succ _) _).setCell (p := ⟨w.heap.size + 1, 1, none⟩) (Nat.le_succ _) _
    have HK := Lib.hid KZ
    have HB2 := Lib.hid BZ
    clear KZ BZ B1 KA1 KR1
    go_wp2
    obtain ⟨z0, z1⟩ := HK.out.two
    exact bodyPost_ret (v := .tuple #[.agg #[.int .i64 (0), .int .i64 (0)], .int .i64 1]) (by simp [results, Try.results28, go_sem, z0, z1]) rfl ⟨rfl, HB2.out⟩
  · skip
    cases h1 : inB load 0 50000
    · have E : resPressureOf side mass ball jm ja ct ca load radius = .tuple #[.agg #[.int .i64 0, .int .i64 0], .int .i64 2] := by unfold resPressureOf codeRes; simp [h0, h1]
      rw [E]; clear E
      have C : ∀ w g, Blk w g 26 #[.int .i64 side, .int .i64 mass, .int .i64 ball, .int .i64 jm, .int .i64 ja, .int .i64 ct, .int .i64 ca] → Calls Try.prog 37 #[.pointer (some ⟨g, 0, none⟩), .int .i64 load, .int .i64 radius] w fun e w' => e = .returned (.int .i64 2) ∧ Below w.heap.size w w' := fun w g hk => same_below (by have := l06Code_any side mass ball jm ja ct ca load radius g w hk.seven.1 hk.seven.2.1 hk.seven.2.2.1 hk.seven.2.2.2.1 hk.seven.2.2.2.2.1 hk.seven.2.2.2.2.2.1 hk.seven.2.2.2.2.2.2; simpa [codeV, h0, h1] using this)
      have HC := Lib.hid C
      clear C
      clear h0 h1
      go_enter Try.func28, Try.ntmps28
      go_wp2_with fail
      refine (HC.out _ _ ((Blk.new w _ _).alloc _)).mono ?_
      rintro e w1 ⟨rfl, hb1⟩
      have KA1 := ((Blk.new w _ _).alloc _).on hb1
      have KR1 := (Blk.new2 w _ _ _).on hb1
      have B1 := (below_alloc2 w _ _).trans (hb1.mono (below_alloc2 w _ _).size)
      clear hb1
      obtain ⟨r0, r1⟩ := KR1.two
      have fz0 := KR1.frozen 0
      have fz1 := KR1.frozen 1
      have KZ : Blk ((w1.setCell { block := w.heap.size + 1, off := 0 } (Value.int IntKind.i64 (0))).setCell { block := w.heap.size + 1, off := 1 } (Value.int IntKind.i64 (0))) (w.heap.size + 1) 35 #[.int .i64 (0), .int .i64 (0)] := (KR1.set_ 0 _).set_ 1 _
      have BZ : Below w.heap.size w ((w1.setCell { block := w.heap.size + 1, off := 0 } (Value.int IntKind.i64 (0))).setCell { block := w.heap.size + 1, off := 1 } (Value.int IntKind.i64 (0))) := (B1.setCell (p := ⟨w.heap.size + 1, 0, none⟩) (Nat.le_succ _) _).setCell (p := ⟨w.heap.size + 1, 1, none⟩) (Nat.le_succ _) _
      have HK := Lib.hid KZ
      have HB2 := Lib.hid BZ
      clear KZ BZ B1 KA1 KR1
      go_wp2
      obtain ⟨z0, z1⟩ := HK.out.two
      exact bodyPost_ret (v := .tuple #[.agg #[.int .i64 (0), .int .i64 (0)], .int .i64 2]) (by simp [results, Try.results28, go_sem, z0, z1]) rfl ⟨rfl, HB2.out⟩
    · skip
      cases h2 : inB radius 0 1000
      · have E : resPressureOf side mass ball jm ja ct ca load radius = .tuple #[.agg #[.int .i64 0, .int .i64 0], .int .i64 2] := by unfold resPressureOf codeRes; simp [h0, h1, h2]
        rw [E]; clear E
        have C : ∀ w g, Blk w g 26 #[.int .i64 side, .int .i64 mass, .int .i64 ball, .int .i64 jm, .int .i64 ja, .int .i64 ct, .int .i64 ca] → Calls Try.prog 37 #[.pointer (some ⟨g, 0, none⟩), .int .i64 load, .int .i64 radius] w fun e w' => e = .returned (.int .i64 2) ∧ Below w.heap.size w w' := fun w g hk => same_below (by have := l06Code_any side mass ball jm ja ct ca load radius g w hk.seven.1 hk.seven.2.1 hk.seven.2.2.1 hk.seven.2.2.2.1 hk.seven.2.2.2.2.1 hk.seven.2.2.2.2.2.1 hk.seven.2.2.2.2.2.2; simpa [codeV, h0, h1, h2] using this)
        have HC := Lib.hid C
        clear C
        clear h0 h1 h2
        go_enter Try.func28, Try.ntmps28
        go_wp2_with fail
        refine (HC.out _ _ ((Blk.new w _ _).alloc _)).mono ?_
        rintro e w1 ⟨rfl, hb1⟩
        have KA1 := ((Blk.new w _ _).alloc _).on hb1
        have KR1 := (Blk.new2 w _ _ _).on hb1
        have B1 := (below_alloc2 w _ _).trans (hb1.mono (below_alloc2 w _ _).size)
        clear hb1
        obtain ⟨r0, r1⟩ := KR1.two
        have fz0 := KR1.frozen 0
        have fz1 := KR1.frozen 1
        have KZ : Blk ((w1.setCell { block := w.heap.size + 1, off := 0 } (Value.int IntKind.i64 (0))).setCell { block := w.heap.size + 1, off := 1 } (Value.int IntKind.i64 (0))) (w.heap.size + 1) 35 #[.int .i64 (0), .int .i64 (0)] := (KR1.set_ 0 _).set_ 1 _
        have BZ : Below w.heap.size w ((w1.setCell { block := w.heap.size + 1, off := 0 } (Value.int IntKind.i64 (0))).setCell { block := w.heap.size + 1, off := 1 } (Value.int IntKind.i64 (0))) := (B1.setCell (p := ⟨w.heap.size + 1, 0, none⟩) (Nat.le_succ _) _).setCell (p := ⟨w.heap.size + 1, 1, none⟩) (Nat.le_succ _) _
        have HK := Lib.hid KZ
        have HB2 := Lib.hid BZ
        clear KZ BZ B1 KA1 KR1
        go_wp2
        obtain ⟨z0, z1⟩ := HK.out.two
        exact bodyPost_ret (v := .tuple #[.agg #[.int .i64 (0), .int .i64 (0)], .int .i64 2]) (by simp [results, Try.results28, go_sem, z0, z1]) rfl ⟨rfl, HB2.out⟩
      · by_cases hg0 : 6 * absZ (momentZ jm ja ct ca load radius) ≤ side * totalZ mass ball jm ct load
        · have E : resPressureOf side mass ball jm ja ct ca load radius = .tuple #[.agg #[.int .i64 (numZ (totalZ mass ball jm ct load * side + 6 * absZ (momentZ jm ja ct ca load radius)) (side * side * side)), .int .i64 (denZ (totalZ mass ball jm ct load * side + 6 * absZ (momentZ jm ja ct ca load radius)) (side * side * side))], .int .i64 0] := by unfold resPressureOf; rw [h0, h1, h2, Bool.true_and, codeRes_tt, if_pos hg0]
          rw [E]; clear E
          have X0 := Lib.hid h0
          have X1 := Lib.hid h1
          have X2 := Lib.hid h2
          obtain ⟨m1, m2⟩ := moment_bounds h0 h1 h2
          obtain ⟨t1, t2⟩ := total_bounds h0 h1
          have C : ∀ w g, Blk w g 26 #[.int .i64 side, .int .i64 mass, .int .i64 ball, .int .i64 jm, .int .i64 ja, .int .i64 ct, .int .i64 ca] → Calls Try.prog 37 #[.pointer (some ⟨g, 0, none⟩), .int .i64 load, .int .i64 radius] w fun e w' => e = .returned (.int .i64 0) ∧ Below w.heap.size w w' := fun w g hk => same_below (by have := l06Code_any side mass ball jm ja ct ca load radius g w hk.seven.1 hk.seven.2.1 hk.seven.2.2.1 hk.seven.2.2.2.1 hk.seven.2.2.2.2.1 hk.seven.2.2.2.2.2.1 hk.seven.2.2.2.2.2.2; simpa [codeV, h0, h1, h2] using this)
          have HC := Lib.hid C
          clear C
          obtain ⟨W, m, hW, hm, wb0, wb1, k0, k1, s0, s1, sc, p0, p1, cu0, cu1, sq0, sq1, q0, q1⟩ := press_bounds h0 h1 h2
          rw [hW, hm] at hg0
          rw [hW, hm]
          have CT : ∀ w g, Blk w g 26 #[.int .i64 side, .int .i64 mass, .int .i64 ball, .int .i64 jm, .int .i64 ja, .int .i64 ct, .int .i64 ca] → Calls Try.prog 41 #[.pointer (some ⟨g, 0, none⟩), .int .i64 load] w fun e w' => e = .returned (.int .i64 W) ∧ Below w.heap.size w w' := fun w g hk => by rw [← hW]; exact l06Total_any side mass ball jm ja ct ca load g w h0 h1 hk.seven.1 hk.seven.2.1 hk.seven.2.2.1 hk.seven.2.2.2.1 hk.seven.2.2.2.2.1 hk.seven.2.2.2.2.2.1 hk.seven.2.2.2.2.2.2
          obtain ⟨M, hM⟩ : ∃ M, momentZ jm ja ct ca load radius = M := ⟨_, rfl⟩
          rw [hM] at hm m1 m2
          have CM : ∀ w g, Blk w g 26 #[.int .i64 side, .int .i64 mass, .int .i64 ball, .int .i64 jm, .int .i64 ja, .int .i64 ct, .int .i64 ca] → Calls Try.prog 38 #[.pointer (some ⟨g, 0, none⟩), .int .i64 load, .int .i64 radius] w fun e w' => e = .returned (.int .i64 M) ∧ Below w.heap.size w w' := fun w g hk => by rw [← hM]; exact l06Moment_any side mass ball jm ja ct ca load radius g w h0 h1 h2 hk.seven.1 hk.seven.2.1 hk.seven.2.2.1 hk.seven.2.2.2.1 hk.seven.2.2.2.2.1 hk.seven.2.2.2.2.2.1 hk.seven.2.2.2.2.2.2
          have CA : ∀ w, Calls Try.prog 48 #[.int .i64 M] w fun e w' => e = .returned (.int .i64 m) ∧ w = w' := fun w => by rw [← hm]; exact l06Size_any M w (by omega) (by omega)
          have HT := Lib.hid CT
          have HM := Lib.hid CM
          have HA := Lib.hid CA
          clear CT CM CA hW hm hM m1 m2 t1 t2
          clear h0 h1 h2
          go_enter Try.func28, Try.ntmps28
          go_wp2_with fail
          refine (HC.out _ _ ((Blk.new w _ _).alloc _)).mono ?_
          rintro e w1 ⟨rfl, hb1⟩
          have KA1 := ((Blk.new w _ _).alloc _).on hb1
          have KR1 := (Blk.new2 w _ _ _).on hb1
          have B1 := (below_alloc2 w _ _).trans (hb1.mono (below_alloc2 w _ _).size)
          clear hb1
          obtain ⟨a0, a1, a2, a3, a4, a5, a6⟩ := KA1.seven
          go_wp2_with fail
          refine (HT.out _ _ KA1).mono ?_
          rintro e w2 ⟨rfl, hb2⟩
          clear a0 a1 a2 a3 a4 a5 a6
          have KA2 := KA1.on hb2
          have KR2 := KR1.on hb2
          have B2 := B1.trans (hb2.mono B1.size)
          clear hb2 B1 KA1 KR1
          obtain ⟨a0, a1, a2, a3, a4, a5, a6⟩ := KA2.seven
          go_wp2_with fail
          refine (HM.out _ _ KA2).mono ?_
          rintro e w3 ⟨rfl, hb3⟩
          clear a0 a1 a2 a3 a4 a5 a6
          have KA3 := KA2.on hb3
          have KR3 := KR2.on hb3
          have B3 := B2.trans (hb3.mono B2.size)
          clear hb3 B2 KA2 KR2
          obtain ⟨a0, a1, a2, a3, a4, a5, a6⟩ := KA3.seven
          go_wp2_with fail
          refine (HA.out _).mono ?_
          rintro e w' ⟨rfl, rfl⟩
          go_wp2_with fail
          refine (l06Make_big _ _ _ (by omega) (by omega) (by omega) (by omega)).mono ?_
          rintro e w4 ⟨rfl, hb4⟩
          clear a0 a1 a2 a3 a4 a5 a6
          have KA4 := KA3.on hb4
          have KR4 := KR3.on hb4
          have B4 := B3.trans (hb4.mono B3.size)
          clear hb4 B3 KA3 KR3
          obtain ⟨r0, r1⟩ := KR4.two
          have fz0 := KR4.frozen 0
          have fz1 := KR4.frozen 1
          have KZ : Blk ((w4.setCell { block := w.heap.size + 1, off := 0 } (Value.int IntKind.i64 (numZ (W * side + 6 * m) (side * side * side)))).setCell { block := w.heap.size + 1, off := 1 } (Value.int IntKind.i64 (denZ (W * side + 6 * m) (side * side * side)))) (w.heap.size + 1) 35 #[.int .i64 (numZ (W * side + 6 * m) (side * side * side)), .int .i64 (denZ (W * side + 6 * m) (side * side * side))] := (KR4.set_ 0 _).set_ 1 _
          have BZ : Below w.heap.size w ((w4.setCell { block := w.heap.size + 1, off := 0 } (Value.int IntKind.i64 (numZ (W * side + 6 * m) (side * side * side)))).setCell { block := w.heap.size + 1, off := 1 } (Value.int IntKind.i64 (denZ (W * side + 6 * m) (side * side * side)))) := (B4.setCell (p := ⟨w.heap.size + 1, 0, none⟩) (Nat.le_succ _) _).setCell (p := ⟨w.heap.size + 1, 1, none⟩) (Nat.le_succ _) _
          have HK := Lib.hid KZ
          have HB2 := Lib.hid BZ
          clear KZ BZ B4 KA4 KR4
          go_wp2
          obtain ⟨z0, z1⟩ := HK.out.two
          exact bodyPost_ret (v := .tuple #[.agg #[.int .i64 (numZ (W * side + 6 * m) (side * side * side)), .int .i64 (denZ (W * side + 6 * m) (side * side * side))], .int .i64 0]) (by simp [results, Try.results28, go_sem, z0, z1]) rfl ⟨rfl, HB2.out⟩
        · by_cases hg1 : side * totalZ mass ball jm ct load ≤ 2 * absZ (momentZ jm ja ct ca load radius)
          · have E : resPressureOf side mass ball jm ja ct ca load radius = .tuple #[.agg #[.int .i64 (0), .int .i64 (0)], .int .i64 10] := by unfold resPressureOf; rw [h0, h1, h2, Bool.true_and, codeRes_tt, if_neg hg0, if_pos hg1]
            rw [E]; clear E
            have X0 := Lib.hid h0
            have X1 := Lib.hid h1
            have X2 := Lib.hid h2
            obtain ⟨m1, m2⟩ := moment_bounds h0 h1 h2
            obtain ⟨t1, t2⟩ := total_bounds h0 h1
            have C : ∀ w g, Blk w g 26 #[.int .i64 side, .int .i64 mass, .int .i64 ball, .int .i64 jm, .int .i64 ja, .int .i64 ct, .int .i64 ca] → Calls Try.prog 37 #[.pointer (some ⟨g, 0, none⟩), .int .i64 load, .int .i64 radius] w fun e w' => e = .returned (.int .i64 0) ∧ Below w.heap.size w w' := fun w g hk => same_below (by have := l06Code_any side mass ball jm ja ct ca load radius g w hk.seven.1 hk.seven.2.1 hk.seven.2.2.1 hk.seven.2.2.2.1 hk.seven.2.2.2.2.1 hk.seven.2.2.2.2.2.1 hk.seven.2.2.2.2.2.2; simpa [codeV, h0, h1, h2] using this)
            have HC := Lib.hid C
            clear C
            obtain ⟨W, m, hW, hm, wb0, wb1, k0, k1, s0, s1, sc, p0, p1, cu0, cu1, sq0, sq1, q0, q1⟩ := press_bounds h0 h1 h2
            rw [hW, hm] at hg0
            rw [hW, hm] at hg1
            have CT : ∀ w g, Blk w g 26 #[.int .i64 side, .int .i64 mass, .int .i64 ball, .int .i64 jm, .int .i64 ja, .int .i64 ct, .int .i64 ca] → Calls Try.prog 41 #[.pointer (some ⟨g, 0, none⟩), .int .i64 load] w fun e w' => e = .returned (.int .i64 W) ∧ Below w.heap.size w w' := fun w g hk => by rw [← hW]; exact l06Total_any side mass ball jm ja ct ca load g w h0 h1 hk.seven.1 hk.seven.2.1 hk.seven.2.2.1 hk.seven.2.2.2.1 hk.seven.2.2.2.2.1 hk.seven.2.2.2.2.2.1 hk.seven.2.2.2.2.2.2
            obtain ⟨M, hM⟩ : ∃ M, momentZ jm ja ct ca load radius = M := ⟨_, rfl⟩
            rw [hM] at hm m1 m2
            have CM : ∀ w g, Blk w g 26 #[.int .i64 side, .int .i64 mass, .int .i64 ball, .int .i64 jm, .int .i64 ja, .int .i64 ct, .int .i64 ca] → Calls Try.prog 38 #[.pointer (some ⟨g, 0, none⟩), .int .i64 load, .int .i64 radius] w fun e w' => e = .returned (.int .i64 M) ∧ Below w.heap.size w w' := fun w g hk => by rw [← hM]; exact l06Moment_any side mass ball jm ja ct ca load radius g w h0 h1 h2 hk.seven.1 hk.seven.2.1 hk.seven.2.2.1 hk.seven.2.2.2.1 hk.seven.2.2.2.2.1 hk.seven.2.2.2.2.2.1 hk.seven.2.2.2.2.2.2
            have CA : ∀ w, Calls Try.prog 48 #[.int .i64 M] w fun e w' => e = .returned (.int .i64 m) ∧ w = w' := fun w => by rw [← hm]; exact l06Size_any M w (by omega) (by omega)
            have HT := Lib.hid CT
            have HM := Lib.hid CM
            have HA := Lib.hid CA
            clear CT CM CA hW hm hM m1 m2 t1 t2
            clear h0 h1 h2
            go_enter Try.func28, Try.ntmps28
            go_wp2_with fail
            refine (HC.out _ _ ((Blk.new w _ _).alloc _)).mono ?_
            rintro e w1 ⟨rfl, hb1⟩
            have KA1 := ((Blk.new w _ _).alloc _).on hb1
            have KR1 := (Blk.new2 w _ _ _).on hb1
            have B1 := (below_alloc2 w _ _).trans (hb1.mono (below_alloc2 w _ _).size)
            clear hb1
            obtain ⟨a0, a1, a2, a3, a4, a5, a6⟩ := KA1.seven
            go_wp2_with fail
            refine (HT.out _ _ KA1).mono ?_
            rintro e w2 ⟨rfl, hb2⟩
            clear a0 a1 a2 a3 a4 a5 a6
            have KA2 := KA1.on hb2
            have KR2 := KR1.on hb2
            have B2 := B1.trans (hb2.mono B1.size)
            clear hb2 B1 KA1 KR1
            obtain ⟨a0, a1, a2, a3, a4, a5, a6⟩ := KA2.seven
            go_wp2_with fail
            refine (HM.out _ _ KA2).mono ?_
            rintro e w3 ⟨rfl, hb3⟩
            clear a0 a1 a2 a3 a4 a5 a6
            have KA3 := KA2.on hb3
            have KR3 := KR2.on hb3
            have B3 := B2.trans (hb3.mono B2.size)
            clear hb3 B2 KA2 KR2
            obtain ⟨a0, a1, a2, a3, a4, a5, a6⟩ := KA3.seven
            go_wp2_with fail
            refine (HA.out _).mono ?_
            rintro e w' ⟨rfl, rfl⟩
            clear a1 a2 a3 a4 a5 a6
            obtain ⟨r0, r1⟩ := KR3.two
            have fz0 := KR3.frozen 0
            have fz1 := KR3.frozen 1
            have KZ : Blk ((w3.setCell { block := w.heap.size + 1, off := 0 } (Value.int IntKind.i64 (0))).setCell { block := w.heap.size + 1, off := 1 } (Value.int IntKind.i64 (0))) (w.heap.size + 1) 35 #[.int .i64 (0), .int .i64 (0)] := (KR3.set_ 0 _).set_ 1 _
            have BZ : Below w.heap.size w ((w3.setCell { block := w.heap.size + 1, off := 0 } (Value.int IntKind.i64 (0))).setCell { block := w.heap.size + 1, off := 1 } (Value.int IntKind.i64 (0))) := (B3.setCell (p := ⟨w.heap.size + 1, 0, none⟩) (Nat.le_succ _) _).setCell (p := ⟨w.heap.size + 1, 1, none⟩) (Nat.le_succ _) _
            have HK := Lib.hid KZ
            have HB2 := Lib.hid BZ
            clear KZ BZ B3 KA3 KR3
            go_wp2
            obtain ⟨z0, z1⟩ := HK.out.two
            exact bodyPost_ret (v := .tuple #[.agg #[.int .i64 (0), .int .i64 (0)], .int .i64 10]) (by simp [results, Try.results28, go_sem, z0, z1]) rfl ⟨rfl, HB2.out⟩
          · have E : resPressureOf side mass ball jm ja ct ca load radius = .tuple #[.agg #[.int .i64 (numZ (4 * totalZ mass ball jm ct load * totalZ mass ball jm ct load) (3 * side * (side * totalZ mass ball jm ct load - 2 * absZ (momentZ jm ja ct ca load radius)))), .int .i64 (denZ (4 * totalZ mass ball jm ct load * totalZ mass ball jm ct load) (3 * side * (side * totalZ mass ball jm ct load - 2 * absZ (momentZ jm ja ct ca load radius))))], .int .i64 0] := by unfold resPressureOf; rw [h0, h1, h2, Bool.true_and, codeRes_tt, if_neg hg0, if_neg hg1]
            rw [E]; clear E
            have X0 := Lib.hid h0
            have X1 := Lib.hid h1
            have X2 := Lib.hid h2
            obtain ⟨m1, m2⟩ := moment_bounds h0 h1 h2
            obtain ⟨t1, t2⟩ := total_bounds h0 h1
            have C : ∀ w g, Blk w g 26 #[.int .i64 side, .int .i64 mass, .int .i64 ball, .int .i64 jm, .int .i64 ja, .int .i64 ct, .int .i64 ca] → Calls Try.prog 37 #[.pointer (some ⟨g, 0, none⟩), .int .i64 load, .int .i64 radius] w fun e w' => e = .returned (.int .i64 0) ∧ Below w.heap.size w w' := fun w g hk => same_below (by have := l06Code_any side mass ball jm ja ct ca load radius g w hk.seven.1 hk.seven.2.1 hk.seven.2.2.1 hk.seven.2.2.2.1 hk.seven.2.2.2.2.1 hk.seven.2.2.2.2.2.1 hk.seven.2.2.2.2.2.2; simpa [codeV, h0, h1, h2] using this)
            have HC := Lib.hid C
            clear C
            obtain ⟨W, m, hW, hm, wb0, wb1, k0, k1, s0, s1, sc, p0, p1, cu0, cu1, sq0, sq1, q0, q1⟩ := press_bounds h0 h1 h2
            rw [hW, hm] at hg0
            rw [hW, hm] at hg1
            rw [hW, hm]
            have w3 : 0 ≤ 3 * side ∧ 3 * side ≤ 600 := by omega
            have u := mul_bd (a := 3 * side) (b := side * W - 2 * m) (A := 600) (B := 2050000 * 200) (by omega) (by omega) (by omega) (by omega)
            obtain ⟨u0, u1⟩ := u
            have u2 : 0 < 3 * side * (side * W - 2 * m) := Int.mul_pos (by omega) (by omega)
            clear w3
            have u9 := u2
            obtain ⟨g, t, q, hg, ht, hq, g0, g1, tt0, tt1, qq0, qq1, l0, l1, en, ed⟩ := press_forms (W := W) (m := m) (s := side) (by omega) k0 (by omega) (by omega)
            rw [en, ed]
            have v := mul_bd (a := t) (b := side) (A := 2050000) (B := 200) (by omega) (by omega) (by omega) (by omega)
            obtain ⟨v0, v1⟩ := v
            have x := mul_bd (a := 4 * W) (b := t) (A := 8200000) (B := 2050000) (by omega) (by omega) (by omega) (by omega)
            obtain ⟨x0, x1⟩ := x
            have y := mul_bd (a := 3 * side) (b := t * side - 2 * q) (A := 600) (B := 2050000 * 200) (by omega) (by omega) (by omega) (by omega)
            obtain ⟨y0, y1⟩ := y
            have y2 : 0 < 3 * side * (t * side - 2 * q) := Int.mul_pos (by omega) (by omega)
            have CG : ∀ w, Calls Try.prog 53 #[.int .i64 m, .int .i64 W] w fun e w' => e = .returned (.int .i64 g) ∧ Below w.heap.size w w' := fun w => by rw [← hg]; exact l06Gcd_any m W w (by omega) (by omega) (by omega) (by omega)
            have HG := Lib.hid CG
            clear CG hg en ed u9 u0 u1 u2
            have CT : ∀ w g, Blk w g 26 #[.int .i64 side, .int .i64 mass, .int .i64 ball, .int .i64 jm, .int .i64 ja, .int .i64 ct, .int .i64 ca] → Calls Try.prog 41 #[.pointer (some ⟨g, 0, none⟩), .int .i64 load] w fun e w' => e = .returned (.int .i64 W) ∧ Below w.heap.size w w' := fun w g hk => by rw [← hW]; exact l06Total_any side mass ball jm ja ct ca load g w h0 h1 hk.seven.1 hk.seven.2.1 hk.seven.2.2.1 hk.seven.2.2.2.1 hk.seven.2.2.2.2.1 hk.seven.2.2.2.2.2.1 hk.seven.2.2.2.2.2.2
            obtain ⟨M, hM⟩ : ∃ M, momentZ jm ja ct ca load radius = M := ⟨_, rfl⟩
            rw [hM] at hm m1 m2
            have CM : ∀ w g, Blk w g 26 #[.int .i64 side, .int .i64 mass, .int .i64 ball, .int .i64 jm, .int .i64 ja, .int .i64 ct, .int .i64 ca] → Calls Try.prog 38 #[.pointer (some ⟨g, 0, none⟩), .int .i64 load, .int .i64 radius] w fun e w' => e = .returned (.int .i64 M) ∧ Below w.heap.size w w' := fun w g hk => by rw [← hM]; exact l06Moment_any side mass ball jm ja ct ca load radius g w h0 h1 h2 hk.seven.1 hk.seven.2.1 hk.seven.2.2.1 hk.seven.2.2.2.1 hk.seven.2.2.2.2.1 hk.seven.2.2.2.2.2.1 hk.seven.2.2.2.2.2.2
            have CA : ∀ w, Calls Try.prog 48 #[.int .i64 M] w fun e w' => e = .returned (.int .i64 m) ∧ w = w' := fun w => by rw [← hm]; exact l06Size_any M w (by omega) (by omega)
            have HT := Lib.hid CT
            have HM := Lib.hid CM
            have HA := Lib.hid CA
            clear CT CM CA hW hm hM m1 m2 t1 t2
            clear h0 h1 h2
            go_enter Try.func28, Try.ntmps28
            go_wp2_with fail
            refine (HC.out _ _ ((Blk.new w _ _).alloc _)).mono ?_
            rintro e w1 ⟨rfl, hb1⟩
            have KA1 := ((Blk.new w _ _).alloc _).on hb1
            have KR1 := (Blk.new2 w _ _ _).on hb1
            have B1 := (below_alloc2 w _ _).trans (hb1.mono (below_alloc2 w _ _).size)
            clear hb1
            obtain ⟨a0, a1, a2, a3, a4, a5, a6⟩ := KA1.seven
            go_wp2_with fail
            refine (HT.out _ _ KA1).mono ?_
            rintro e w2 ⟨rfl, hb2⟩
            clear a0 a1 a2 a3 a4 a5 a6
            have KA2 := KA1.on hb2
            have KR2 := KR1.on hb2
            have B2 := B1.trans (hb2.mono B1.size)
            clear hb2 B1 KA1 KR1
            obtain ⟨a0, a1, a2, a3, a4, a5, a6⟩ := KA2.seven
            go_wp2_with fail
            refine (HM.out _ _ KA2).mono ?_
            rintro e w3 ⟨rfl, hb3⟩
            clear a0 a1 a2 a3 a4 a5 a6
            have KA3 := KA2.on hb3
            have KR3 := KR2.on hb3
            have B3 := B2.trans (hb3.mono B2.size)
            clear hb3 B2 KA2 KR2
            obtain ⟨a0, a1, a2, a3, a4, a5, a6⟩ := KA3.seven
            go_wp2_with fail
            refine (HA.out _).mono ?_
            rintro e w' ⟨rfl, rfl⟩
            go_wp2_with fail
            refine (HG.out _).mono ?_
            rintro e w4 ⟨rfl, hb4⟩
            clear a0 a1 a2 a3 a4 a5 a6
            have KA4 := KA3.on hb4
            have KR4 := KR3.on hb4
            have B4 := B3.trans (hb4.mono B3.size)
            clear hb4 B3 KA3 KR3
            obtain ⟨a0, a1, a2, a3, a4, a5, a6⟩ := KA4.seven
            have z1 : g ≠ 0 := by omega
            have i1 : IntKind.i64.wrap (t * side) = t * side := IntWalk.i64_in _ (by omega)
            have i2 : IntKind.i64.wrap (2 * q) = 2 * q := IntWalk.i64_in _ (by omega)
            have i3 : IntKind.i64.wrap (t * side - 2 * q) = t * side - 2 * q := IntWalk.i64_in _ (by omega)
            go_wp2
            go_quiet (fail)
            clear i1 i2 i3
            go_wp2_with fail
            refine (l06Make_big (4 * W * t) (3 * side * (t * side - 2 * q)) _ (by omega) (by omega) (by omega) (by omega)).mono ?_
            rintro e w5 ⟨rfl, hx5⟩
            clear a0 a1 a2 a3 a4 a5 a6
            have hb5 : Below w4.heap.size w4 w5 := Below.trans (by first | exact (Below.refl _ _).drew | exact below_drewN (Below.refl _ _) _) hx5
            have KA5 := KA4.on hb5
            have KR5 := KR4.on hb5
            have B5 := B4.trans (hb5.mono B4.size)
            clear hb5 hx5 B4 KA4 KR4
            obtain ⟨r0, r1⟩ := KR5.two
            have fz0 := KR5.frozen 0
            have fz1 := KR5.frozen 1
            have KZ : Blk ((w5.setCell { block := w.heap.size + 1, off := 0 } (Value.int IntKind.i64 (numZ (4 * W * t) (3 * side * (t * side - 2 * q))))).setCell { block := w.heap.size + 1, off := 1 } (Value.int IntKind.i64 (denZ (4 * W * t) (3 * side * (t * side - 2 * q))))) (w.heap.size + 1) 35 #[.int .i64 (numZ (4 * W * t) (3 * side * (t * side - 2 * q))), .int .i64 (denZ (4 * W * t) (3 * side * (t * side - 2 * q)))] := (KR5.set_ 0 _).set_ 1 _
            have BZ : Below w.heap.size w ((w5.setCell { block := w.heap.size + 1, off := 0 } (Value.int IntKind.i64 (numZ (4 * W * t) (3 * side * (t * side - 2 * q))))).setCell { block := w.heap.size + 1, off := 1 } (Value.int IntKind.i64 (denZ (4 * W * t) (3 * side * (t * side - 2 * q))))) := (B5.setCell (p := ⟨w.heap.size + 1, 0, none⟩) (Nat.le_succ _) _).setCell (p := ⟨w.heap.size + 1, 1, none⟩) (Nat.le_succ _) _
            have HK := Lib.hid KZ
            have HB2 := Lib.hid BZ
            clear KZ BZ B5 KA5 KR5
            go_wp2
            obtain ⟨z0, z1⟩ := HK.out.two
            exact bodyPost_ret (v := .tuple #[.agg #[.int .i64 (numZ (4 * W * t) (3 * side * (t * side - 2 * q))), .int .i64 (denZ (4 * W * t) (3 * side * (t * side - 2 * q)))], .int .i64 0]) (by simp [results, Try.results28, go_sem, z0, z1]) rfl ⟨rfl, HB2.out⟩
set_option maxHeartbeats 1000000 in
theorem FnExactPressureOf_walk (side : Int) (_wside : (Lit.int .i64 side).wf = true) (mass : Int) (_wmass : (Lit.int .i64 mass).wf = true) (ball : Int) (_wball : (Lit.int .i64 ball).wf = true) (jm : Int) (_wjm : (Lit.int .i64 jm).wf = true) (ja : Int) (_wja : (Lit.int .i64 ja).wf = true) (ct : Int) (_wct : (Lit.int .i64 ct).wf = true) (ca : Int) (_wca : (Lit.int .i64 ca).wf = true) (load : Int) (_wload : (Lit.int .i64 load).wf = true) (radius : Int) (_wradius : (Lit.int .i64 radius).wf = true) (w : World) : Calls Try.prog 10 #[.agg #[.int .i64 side, .int .i64 mass, .int .i64 ball, .int .i64 jm, .int .i64 ja, .int .i64 ct, .int .i64 ca], .int .i64 load, .int .i64 radius] w fun e w' => e = .returned (.bool true) ∧ Below w.heap.size w w' := by
  clear _wside _wmass _wball _wjm _wja _wct _wca _wload _wradius
  have F : ∃ x z y : Int, resPressureOf side mass ball jm ja ct ca load radius = .tuple #[.agg #[.int .i64 x, .int .i64 z], .int .i64 y] := by unfold resPressureOf codeRes; repeat (first | exact ⟨_, _, _, rfl⟩ | split)
  obtain ⟨x, z, y, F⟩ := F
  have C : ∀ w, Calls Try.prog 28 #[.agg #[.int .i64 side, .int .i64 mass, .int .i64 ball, .int .i64 jm, .int .i64 ja, .int .i64 ct, .int .i64 ca], .int .i64 load, .int .i64 radius] w fun e w' => e = .returned (.tuple #[.agg #[.int .i64 x, .int .i64 z], .int .i64 y]) ∧ Below w.heap.size w w' := fun w => by rw [← F]; exact specPressureOf_any side mass ball jm ja ct ca load radius w
  have H1 := Lib.hid C
  clear C
  have C : ∀ w, Calls Try.prog 29 #[.agg #[.int .i64 side, .int .i64 mass, .int .i64 ball, .int .i64 jm, .int .i64 ja, .int .i64 ct, .int .i64 ca], .int .i64 load, .int .i64 radius] w fun e w' => e = .returned (.tuple #[.agg #[.int .i64 x, .int .i64 z], .int .i64 y]) ∧ Below w.heap.size w w' := fun w => by rw [← F]; exact implPressureOf_any side mass ball jm ja ct ca load radius w
  have H2 := Lib.hid C
  clear C
  clear F
  go_enter Try.func10, Try.ntmps10
  go_wp2_with fail
  refine (toBase_any _ _ _ _ _ _ _ _).mono ?_
  rintro e w1 ⟨rfl, hb1⟩
  have KA1 := (Blk.new w _ _).on hb1
  have B1 := (below_alloc1 w _).trans (hb1.mono (below_alloc1 w _).size)
  clear hb1
  go_wp2_with fail
  refine (H1.out _).mono ?_
  rintro e w2 ⟨rfl, hb2⟩
  have KA2 := KA1.on hb2
  have B2 := B1.trans (hb2.mono B1.size)
  clear hb2 B1 KA1
  obtain ⟨a0, a1, a2, a3, a4, a5, a6⟩ := KA2.seven
  clear a0 a1 a2 a3 a4 a5 a6
  have A0 : ∀ o, (w2.alloc o).cell? ⟨w.heap.size, 0, none⟩ = _ := fun o => (KA2.alloc o).seven.1
  have A1 : ∀ o, (w2.alloc o).cell? ⟨w.heap.size, 1, none⟩ = _ := fun o => (KA2.alloc o).seven.2.1
  have A2 : ∀ o, (w2.alloc o).cell? ⟨w.heap.size, 2, none⟩ = _ := fun o => (KA2.alloc o).seven.2.2.1
  have A3 : ∀ o, (w2.alloc o).cell? ⟨w.heap.size, 3, none⟩ = _ := fun o => (KA2.alloc o).seven.2.2.2.1
  have A4 : ∀ o, (w2.alloc o).cell? ⟨w.heap.size, 4, none⟩ = _ := fun o => (KA2.alloc o).seven.2.2.2.2.1
  have A5 : ∀ o, (w2.alloc o).cell? ⟨w.heap.size, 5, none⟩ = _ := fun o => (KA2.alloc o).seven.2.2.2.2.2.1
  have A6 : ∀ o, (w2.alloc o).cell? ⟨w.heap.size, 6, none⟩ = _ := fun o => (KA2.alloc o).seven.2.2.2.2.2.2
  go_wp2_with fail
  refine (toBase_any _ _ _ _ _ _ _ _).mono ?_
  rintro e w3 ⟨rfl, hb3⟩
  have KF3 := (Blk.new w2 35 #[.int .i64 x, .int .i64 z]).on hb3
  have B3 := (B2.alloc B2.size (.cells #[.int .i64 x, .int .i64 z] 35)).trans (hb3.mono (B2.alloc B2.size _).size)
  clear hb3 B2 KA2 A0 A1 A2 A3 A4 A5 A6
  go_wp2_with fail
  refine (H2.out _).mono ?_
  rintro e w4 ⟨rfl, hb4⟩
  have KF4 := KF3.on hb4
  have B4 := B3.trans (hb4.mono B3.size)
  clear hb4 B3 KF3
  have F0 : ∀ o, (w4.alloc o).cell? ⟨w2.heap.size, 0, none⟩ = _ := fun o => (KF4.alloc o).two.1
  have F1 : ∀ o, (w4.alloc o).cell? ⟨w2.heap.size, 1, none⟩ = _ := fun o => (KF4.alloc o).two.2
  go_wp2_with (first | (go_at_call 21; refine (eqFraction_any _ _ _).mono ?_; rintro e w5 ⟨rfl, hb5⟩))
  go_ret
  exact ⟨rfl, (B4.alloc B4.size _).trans (hb5.mono (B4.alloc B4.size _).size)⟩
end Go.Proofs.Ytfnoapejkpeacaa
