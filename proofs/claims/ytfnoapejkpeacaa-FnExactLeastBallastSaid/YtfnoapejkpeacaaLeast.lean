/- The least ballast of a base: the formula, the search; its law. -/
import Derived.Test.YtfnoapejkpeacaaProg
import Derived.Test.YtfnoapejkpeacaaKit
import Derived.Test.YtfnoapejkpeacaaBasics
import Derived.Test.YtfnoapejkpeacaaBases
import Derived.Test.YtfnoapejkpeacaaCodeRes
import Derived.Test.YtfnoapejkpeacaaMoments
import Derived.Test.YtfnoapejkpeacaaBaseLaws
import Derived.Test.YtfnoapejkpeacaaMem
import Derived.IntWalk
namespace Go.Proofs.Ytfnoapejkpeacaa
open Go.RowKit Go.WideShapes Go.ChangeShapes Go.Joins Go.Deep Go.Sort
set_option linter.unusedVariables false
set_option linter.unusedSimpArgs false
def ceilZ (n d : Int) : Int := (n + d - 1) / d
theorem ceil_any (n d : Int) (w : World) (n0 : 0 ≤ n) (n1 : n ≤ 1000000000000000) (d0 : 1 ≤ d) (d1 : d ≤ 1000000000000000) : Calls Try.prog 50 #[.int .i64 n, .int .i64 d] w fun e w' => e = .returned (.int .i64 (ceilZ n d)) ∧ w = w' := by
  have q0 : 0 ≤ (n + d - 1) / d := Int.ediv_nonneg (by omega) (by omega)
  have q1 : (n + d - 1) / d ≤ n + d - 1 := Int.ediv_le_self _ (by omega)
  go_enter Try.func50, Try.ntmps50
  go_wp2
  go_ret
  exact ⟨rfl, rfl⟩
def rawZ (side mass jm ja ct ca load radius percent : Int) : Int := ceilZ (2 * percent * absZ (momentZ jm ja ct ca load radius)) (100 * side) - totalZ mass 0 jm ct load
theorem ceil_le {n d q : Int} (d0 : 0 < d) : ceilZ n d ≤ q ↔ n ≤ q * d := by
  unfold ceilZ
  have h : (n + d - 1) / d < q + 1 ↔ n + d - 1 < (q + 1) * d := Int.ediv_lt_iff_lt_mul d0
  rw [Int.add_mul, Int.one_mul] at h
  omega
theorem raw_le {side : Int} (mass jm ja ct ca load radius percent x : Int) (h : 1 ≤ side) : stableB side mass x jm ja ct ca load radius percent = decide (rawZ side mass jm ja ct ca load radius percent ≤ x) := by
  unfold stableB rawZ
  have e : totalZ mass x jm ct load = totalZ mass 0 jm ct load + x := by unfold totalZ; omega
  have c := ceil_le (n := 2 * percent * absZ (momentZ jm ja ct ca load radius)) (d := 100 * side) (q := totalZ mass 0 jm ct load + x) (by omega)
  have m : 100 * totalZ mass x jm ct load * side = (totalZ mass 0 jm ct load + x) * (100 * side) := by rw [e, Int.mul_comm 100, Int.mul_assoc]
  rw [m, decide_eq_decide]
  omega
theorem baseB_with {side mass ball jm ja ct ca : Int} (h : baseB side mass ball jm ja ct ca = true) {x : Int} (x0 : 0 ≤ x) (x1 : x ≤ 500000) : baseB side mass x jm ja ct ca = true := by
  unfold baseB at *
  simp only [Bool.and_eq_true] at h ⊢
  obtain ⟨⟨⟨⟨⟨⟨a, b⟩, c⟩, d⟩, e⟩, f⟩, g⟩ := h
  exact ⟨⟨⟨⟨⟨⟨a, b⟩, inB_true x0 x1⟩, d⟩, e⟩, f⟩, g⟩
def resLeastBallast (side mass ball jm ja ct ca load radius percent : Int) : Value := codeRes (baseB side mass ball jm ja ct ca) (inB load 0 50000 && inB radius 0 1000 && inB percent 100 1000) (if 500000 < rawZ side mass jm ja ct ca load radius percent then .tuple #[.int .i64 0, .int .i64 3] else if rawZ side mass jm ja ct ca load radius percent < 0 then .tuple #[.int .i64 0, .int .i64 0] else .tuple #[.int .i64 (rawZ side mass jm ja ct ca load radius percent), .int .i64 0]) (.int .i64 0)
set_option maxHeartbeats 1000000 in
theorem implLeastBallast_any (side mass ball jm ja ct ca load radius percent : Int) (w : World) : Calls Try.prog 25 #[.agg #[.int .i64 side, .int .i64 mass, .int .i64 ball, .int .i64 jm, .int .i64 ja, .int .i64 ct, .int .i64 ca], .int .i64 load, .int .i64 radius, .int .i64 percent] w fun e w' => e = .returned (resLeastBallast side mass ball jm ja ct ca load radius percent) ∧ Below w.heap.size w w' := by
  cases h0 : baseB side mass ball jm ja ct ca
  · have E : resLeastBallast side mass ball jm ja ct ca load radius percent = .tuple #[.int .i64 0, .int .i64 1] := by unfold resLeastBallast codeRes; simp [h0]
    rw [E]; clear E
    have C : ∀ w, Calls Try.prog 39 #[.agg #[.int .i64 side, .int .i64 mass, .int .i64 ball, .int .i64 jm, .int .i64 ja, .int .i64 ct, .int .i64 ca], .int .i64 load, .int .i64 radius, .int .i64 percent] w fun e w' => e = .returned (.int .i64 1) ∧ Below w.heap.size w w' := fun w => by have := baseCode_any side mass ball jm ja ct ca load radius percent w; simpa [codeV, h0] using this
    have HC := Lib.hid C
    clear C
    clear h0
    go_enter Try.func25, Try.ntmps25
    go_wp2_with fail
    refine (HC.out _).mono ?_
    rintro e w1 ⟨rfl, hb1⟩
    have KA1 := (Blk.new w _ _).on hb1
    have B1 := (below_alloc1 w _).trans (hb1.mono (below_alloc1 w _).size)
    clear hb1
    go_wp2
    go_ret2
    exact ⟨rfl, B1⟩
  · skip
    cases h1 : inB load 0 50000
    · have E : resLeastBallast side mass ball jm ja ct ca load radius percent = .tuple #[.int .i64 0, .int .i64 2] := by unfold resLeastBallast codeRes; simp [h0, h1]
      rw [E]; clear E
      have C : ∀ w, Calls Try.prog 39 #[.agg #[.int .i64 side, .int .i64 mass, .int .i64 ball, .int .i64 jm, .int .i64 ja, .int .i64 ct, .int .i64 ca], .int .i64 load, .int .i64 radius, .int .i64 percent] w fun e w' => e = .returned (.int .i64 2) ∧ Below w.heap.size w w' := fun w => by have := baseCode_any side mass ball jm ja ct ca load radius percent w; simpa [codeV, h0, h1] using this
      have HC := Lib.hid C
      clear C
      clear h0 h1
      go_enter Try.func25, Try.ntmps25
      go_wp2_with fail
      refine (HC.out _).mono ?_
      rintro e w1 ⟨rfl, hb1⟩
      have KA1 := (Blk.new w _ _).on hb1
      have B1 := (below_alloc1 w _).trans (hb1.mono (below_alloc1 w _).size)
      clear hb1
      go_wp2
      go_ret2
      exact ⟨rfl, B1⟩
    · skip
      cases h2 : inB radius 0 1000
      · have E : resLeastBallast side mass ball jm ja ct ca load radius percent = .tuple #[.int .i64 0, .int .i64 2] := by unfold resLeastBallast codeRes; simp [h0, h1, h2]
        rw [E]; clear E
        have C : ∀ w, Calls Try.prog 39 #[.agg #[.int .i64 side, .int .i64 mass, .int .i64 ball, .int .i64 jm, .int .i64 ja, .int .i64 ct, .int .i64 ca], .int .i64 load, .int .i64 radius, .int .i64 percent] w fun e w' => e = .returned (.int .i64 2) ∧ Below w.heap.size w w' := fun w => by have := baseCode_any side mass ball jm ja ct ca load radius percent w; simpa [codeV, h0, h1, h2] using this
        have HC := Lib.hid C
        clear C
        clear h0 h1 h2
        go_enter Try.func25, Try.ntmps25
        go_wp2_with fail
        refine (HC.out _).mono ?_
        rintro e w1 ⟨rfl, hb1⟩
        have KA1 := (Blk.new w _ _).on hb1
        have B1 := (below_alloc1 w _).trans (hb1.mono (below_alloc1 w _).size)
        clear hb1
        go_wp2
        go_ret2
        exact ⟨rfl, B1⟩
      · skip
        cases h3 : inB percent 100 1000
        · have E : resLeastBallast side mass ball jm ja ct ca load radius percent = .tuple #[.int .i64 0, .int .i64 2] := by unfold resLeastBallast codeRes; simp [h0, h1, h2, h3]
          rw [E]; clear E
          have C : ∀ w, Calls Try.prog 39 #[.agg #[.int .i64 side, .int .i64 mass, .int .i64 ball, .int .i64 jm, .int .i64 ja, .int .i64 ct, .int .i64 ca], .int .i64 load, .int .i64 radius, .int .i64 percent] w fun e w' => e = .returned (.int .i64 2) ∧ Below w.heap.size w w' := fun w => by have := baseCode_any side mass ball jm ja ct ca load radius percent w; simpa [codeV, h0, h1, h2, h3] using this
          have HC := Lib.hid C
          clear C
          clear h0 h1 h2 h3
          go_enter Try.func25, Try.ntmps25
          go_wp2_with fail
          refine (HC.out _).mono ?_
          rintro e w1 ⟨rfl, hb1⟩
          have KA1 := (Blk.new w _ _).on hb1
          have B1 := (below_alloc1 w _).trans (hb1.mono (below_alloc1 w _).size)
          clear hb1
          go_wp2
          go_ret2
          exact ⟨rfl, B1⟩
        · by_cases hg0 : 500000 < rawZ side mass jm ja ct ca load radius percent
          · have hg := hg0
            have E : resLeastBallast side mass ball jm ja ct ca load radius percent = .tuple #[.int .i64 0, .int .i64 3] := by unfold resLeastBallast; rw [h0, h1, h2, h3, Bool.true_and, Bool.true_and, codeRes_tt, if_pos hg]
            rw [E]; clear E
            have C : ∀ w, Calls Try.prog 39 #[.agg #[.int .i64 side, .int .i64 mass, .int .i64 ball, .int .i64 jm, .int .i64 ja, .int .i64 ct, .int .i64 ca], .int .i64 load, .int .i64 radius, .int .i64 percent] w fun e w' => e = .returned (.int .i64 0) ∧ Below w.heap.size w w' := fun w => by have := baseCode_any side mass ball jm ja ct ca load radius percent w; simpa [codeV, h0, h1, h2, h3] using this
            have HC := Lib.hid C
            clear C
            have hb0 := baseB_with h0 (x := 0) (by omega) (by omega)
            obtain ⟨q1, q2, q3, q4⟩ := stable_bounds hb0 h1 h2 h3
            obtain ⟨m1, m2⟩ := moment_bounds hb0 h1 h2
            obtain ⟨t1, t2⟩ := total_bounds hb0 h1
            obtain ⟨p1, p2⟩ := inB_of h3
            obtain ⟨s1, s2, -⟩ := baseB_of h0
            obtain ⟨N, hN⟩ : ∃ N, ceilZ (2 * percent * absZ (momentZ jm ja ct ca load radius)) (100 * side) = N := ⟨_, rfl⟩
            have N0 : 0 ≤ N := by rw [← hN]; exact Int.ediv_nonneg (by omega) (by omega)
            have N1 : N ≤ 2000 * 550000000 + 20000 := by rw [← hN]; exact Int.le_trans (Int.ediv_le_self _ (by omega)) (by omega)
            have hr : rawZ side mass jm ja ct ca load radius percent = N - totalZ mass 0 jm ct load := by unfold rawZ; rw [hN]
            rw [hr] at hg
            have CE : ∀ w, Calls Try.prog 50 #[.int .i64 (IntKind.i64.wrap (IntKind.i64.wrap (2 * percent) * absZ (momentZ jm ja ct ca load radius))), .int .i64 (IntKind.i64.wrap (100 * side))] w fun e w' => e = .returned (.int .i64 N) ∧ w = w' := fun w => by rw [IntWalk.i64_in (2 * percent) (by omega), IntWalk.i64_in (100 * side) (by omega), IntWalk.i64_in _ (by omega), ← hN]; exact ceil_any _ _ w (by omega) (by omega) (by omega) (by omega)
            have HCE := Lib.hid CE
            have HB0 := Lib.hid hb0
            clear CE hb0 hN hr q1 q2 q3 q4
            have X0 := Lib.hid h0
            have X1 := Lib.hid h1
            have X2 := Lib.hid h2
            have X3 := Lib.hid h3
            clear h0 h1 h2 h3
            go_enter Try.func25, Try.ntmps25
            go_wp2_with fail
            refine (HC.out _).mono ?_
            rintro e w1 ⟨rfl, hb1⟩
            have KA1 := (Blk.new w _ _).on hb1
            have B1 := (below_alloc1 w _).trans (hb1.mono (below_alloc1 w _).size)
            clear hb1
            obtain ⟨a0, a1, a2, a3, a4, a5, a6⟩ := KA1.seven
            have fz := KA1.frozen 2
            go_wp2_with fail
            refine name_world (f := fun w => (Code.region _ _ _).wp _ _ _ w) ?_
            intro W hW
            have KA2 : Blk W w.heap.size 26 #[.int .i64 side, .int .i64 mass, .int .i64 0, .int .i64 jm, .int .i64 ja, .int .i64 ct, .int .i64 ca] := by rw [hW]; exact KA1.set_ 2 _
            have B2 : Below w.heap.size w W := by rw [hW]; exact B1.setCell (Nat.le_refl _) _
            clear hW KA1 B1 fz a0 a1 a2 a3 a4 a5 a6
            obtain ⟨f0, f1, f2, f3, f4, f5, f6⟩ := KA2.far_seven
            refine wp_region_quiet_below (by kernel_rfl) (by kernel_rfl) ?_
            repeat (quiet_step (first | exact Calls.regrown_of (same_below (HCE.out _)) | exact Calls.regrown_of (same_below (abs_any _ _ (by omega) (by omega))) | exact Calls.regrown_of (moment_any _ _ _ _ _ _ _ _ _ _ HB0.out X1.out X2.out)))
            refine wpQuiet_nil ?_
            intro w3 hw3
            have hb3 := class_below hw3
            have KA3 := KA2.on hb3
            have B3 := B2.trans (hb3.mono B2.size)
            clear hw3 hb3 KA2 B2 f0 f1 f2 f3 f4 f5 f6
            obtain ⟨a0, a1, a2, a3, a4, a5, a6⟩ := KA3.seven
            go_wp2_with fail
            refine (total_any _ _ _ _ _ _ _ _ _ HB0.out X1.out).mono ?_
            rintro e w4 ⟨rfl, hb4⟩
            clear a0 a1 a2 a3 a4 a5 a6
            have KA4 := KA3.on hb4
            have B4 := B3.trans (hb4.mono B3.size)
            clear hb4 B3 KA3
            obtain ⟨a0, a1, a2, a3, a4, a5, a6⟩ := KA4.seven
            go_wp2
            go_ret2
            exact ⟨rfl, B4⟩
          · by_cases hg1 : rawZ side mass jm ja ct ca load radius percent < 0
            · have hg := hg1
              have E : resLeastBallast side mass ball jm ja ct ca load radius percent = .tuple #[.int .i64 0, .int .i64 0] := by unfold resLeastBallast; rw [h0, h1, h2, h3, Bool.true_and, Bool.true_and, codeRes_tt, if_neg hg0, if_pos hg]
              rw [E]; clear E
              have C : ∀ w, Calls Try.prog 39 #[.agg #[.int .i64 side, .int .i64 mass, .int .i64 ball, .int .i64 jm, .int .i64 ja, .int .i64 ct, .int .i64 ca], .int .i64 load, .int .i64 radius, .int .i64 percent] w fun e w' => e = .returned (.int .i64 0) ∧ Below w.heap.size w w' := fun w => by have := baseCode_any side mass ball jm ja ct ca load radius percent w; simpa [codeV, h0, h1, h2, h3] using this
              have HC := Lib.hid C
              clear C
              have hb0 := baseB_with h0 (x := 0) (by omega) (by omega)
              obtain ⟨q1, q2, q3, q4⟩ := stable_bounds hb0 h1 h2 h3
              obtain ⟨m1, m2⟩ := moment_bounds hb0 h1 h2
              obtain ⟨t1, t2⟩ := total_bounds hb0 h1
              obtain ⟨p1, p2⟩ := inB_of h3
              obtain ⟨s1, s2, -⟩ := baseB_of h0
              obtain ⟨N, hN⟩ : ∃ N, ceilZ (2 * percent * absZ (momentZ jm ja ct ca load radius)) (100 * side) = N := ⟨_, rfl⟩
              have N0 : 0 ≤ N := by rw [← hN]; exact Int.ediv_nonneg (by omega) (by omega)
              have N1 : N ≤ 2000 * 550000000 + 20000 := by rw [← hN]; exact Int.le_trans (Int.ediv_le_self _ (by omega)) (by omega)
              have hr : rawZ side mass jm ja ct ca load radius percent = N - totalZ mass 0 jm ct load := by unfold rawZ; rw [hN]
              rw [hr] at hg
              rw [hr] at hg0
              have CE : ∀ w, Calls Try.prog 50 #[.int .i64 (IntKind.i64.wrap (IntKind.i64.wrap (2 * percent) * absZ (momentZ jm ja ct ca load radius))), .int .i64 (IntKind.i64.wrap (100 * side))] w fun e w' => e = .returned (.int .i64 N) ∧ w = w' := fun w => by rw [IntWalk.i64_in (2 * percent) (by omega), IntWalk.i64_in (100 * side) (by omega), IntWalk.i64_in _ (by omega), ← hN]; exact ceil_any _ _ w (by omega) (by omega) (by omega) (by omega)
              have HCE := Lib.hid CE
              have HB0 := Lib.hid hb0
              clear CE hb0 hN hr q1 q2 q3 q4
              have X0 := Lib.hid h0
              have X1 := Lib.hid h1
              have X2 := Lib.hid h2
              have X3 := Lib.hid h3
              clear h0 h1 h2 h3
              go_enter Try.func25, Try.ntmps25
              go_wp2_with fail
              refine (HC.out _).mono ?_
              rintro e w1 ⟨rfl, hb1⟩
              have KA1 := (Blk.new w _ _).on hb1
              have B1 := (below_alloc1 w _).trans (hb1.mono (below_alloc1 w _).size)
              clear hb1
              obtain ⟨a0, a1, a2, a3, a4, a5, a6⟩ := KA1.seven
              have fz := KA1.frozen 2
              go_wp2_with fail
              refine name_world (f := fun w => (Code.region _ _ _).wp _ _ _ w) ?_
              intro W hW
              have KA2 : Blk W w.heap.size 26 #[.int .i64 side, .int .i64 mass, .int .i64 0, .int .i64 jm, .int .i64 ja, .int .i64 ct, .int .i64 ca] := by rw [hW]; exact KA1.set_ 2 _
              have B2 : Below w.heap.size w W := by rw [hW]; exact B1.setCell (Nat.le_refl _) _
              clear hW KA1 B1 fz a0 a1 a2 a3 a4 a5 a6
              obtain ⟨f0, f1, f2, f3, f4, f5, f6⟩ := KA2.far_seven
              refine wp_region_quiet_below (by kernel_rfl) (by kernel_rfl) ?_
              repeat (quiet_step (first | exact Calls.regrown_of (same_below (HCE.out _)) | exact Calls.regrown_of (same_below (abs_any _ _ (by omega) (by omega))) | exact Calls.regrown_of (moment_any _ _ _ _ _ _ _ _ _ _ HB0.out X1.out X2.out)))
              refine wpQuiet_nil ?_
              intro w3 hw3
              have hb3 := class_below hw3
              have KA3 := KA2.on hb3
              have B3 := B2.trans (hb3.mono B2.size)
              clear hw3 hb3 KA2 B2 f0 f1 f2 f3 f4 f5 f6
              obtain ⟨a0, a1, a2, a3, a4, a5, a6⟩ := KA3.seven
              go_wp2_with fail
              refine (total_any _ _ _ _ _ _ _ _ _ HB0.out X1.out).mono ?_
              rintro e w4 ⟨rfl, hb4⟩
              clear a0 a1 a2 a3 a4 a5 a6
              have KA4 := KA3.on hb4
              have B4 := B3.trans (hb4.mono B3.size)
              clear hb4 B3 KA3
              obtain ⟨a0, a1, a2, a3, a4, a5, a6⟩ := KA4.seven
              go_wp2
              go_ret2
              exact ⟨rfl, B4⟩
            · have E : resLeastBallast side mass ball jm ja ct ca load radius percent = .tuple #[.int .i64 (rawZ side mass jm ja ct ca load radius percent), .int .i64 0] := by unfold resLeastBallast; rw [h0, h1, h2, h3, Bool.true_and, Bool.true_and, codeRes_tt, if_neg hg0, if_neg hg1]
              have hg := hg1
              rw [E]; clear E
              have C : ∀ w, Calls Try.prog 39 #[.agg #[.int .i64 side, .int .i64 mass, .int .i64 ball, .int .i64 jm, .int .i64 ja, .int .i64 ct, .int .i64 ca], .int .i64 load, .int .i64 radius, .int .i64 percent] w fun e w' => e = .returned (.int .i64 0) ∧ Below w.heap.size w w' := fun w => by have := baseCode_any side mass ball jm ja ct ca load radius percent w; simpa [codeV, h0, h1, h2, h3] using this
              have HC := Lib.hid C
              clear C
              have hb0 := baseB_with h0 (x := 0) (by omega) (by omega)
              obtain ⟨q1, q2, q3, q4⟩ := stable_bounds hb0 h1 h2 h3
              obtain ⟨m1, m2⟩ := moment_bounds hb0 h1 h2
              obtain ⟨t1, t2⟩ := total_bounds hb0 h1
              obtain ⟨p1, p2⟩ := inB_of h3
              obtain ⟨s1, s2, -⟩ := baseB_of h0
              obtain ⟨N, hN⟩ : ∃ N, ceilZ (2 * percent * absZ (momentZ jm ja ct ca load radius)) (100 * side) = N := ⟨_, rfl⟩
              have N0 : 0 ≤ N := by rw [← hN]; exact Int.ediv_nonneg (by omega) (by omega)
              have N1 : N ≤ 2000 * 550000000 + 20000 := by rw [← hN]; exact Int.le_trans (Int.ediv_le_self _ (by omega)) (by omega)
              have hr : rawZ side mass jm ja ct ca load radius percent = N - totalZ mass 0 jm ct load := by unfold rawZ; rw [hN]
              rw [hr] at hg
              rw [hr] at hg0
              rw [hr]
              have CE : ∀ w, Calls Try.prog 50 #[.int .i64 (IntKind.i64.wrap (IntKind.i64.wrap (2 * percent) * absZ (momentZ jm ja ct ca load radius))), .int .i64 (IntKind.i64.wrap (100 * side))] w fun e w' => e = .returned (.int .i64 N) ∧ w = w' := fun w => by rw [IntWalk.i64_in (2 * percent) (by omega), IntWalk.i64_in (100 * side) (by omega), IntWalk.i64_in _ (by omega), ← hN]; exact ceil_any _ _ w (by omega) (by omega) (by omega) (by omega)
              have HCE := Lib.hid CE
              have HB0 := Lib.hid hb0
              clear CE hb0 hN hr q1 q2 q3 q4
              have X0 := Lib.hid h0
              have X1 := Lib.hid h1
              have X2 := Lib.hid h2
              have X3 := Lib.hid h3
              clear h0 h1 h2 h3
              go_enter Try.func25, Try.ntmps25
              go_wp2_with fail
              refine (HC.out _).mono ?_
              rintro e w1 ⟨rfl, hb1⟩
              have KA1 := (Blk.new w _ _).on hb1
              have B1 := (below_alloc1 w _).trans (hb1.mono (below_alloc1 w _).size)
              clear hb1
              obtain ⟨a0, a1, a2, a3, a4, a5, a6⟩ := KA1.seven
              have fz := KA1.frozen 2
              go_wp2_with fail
              refine name_world (f := fun w => (Code.region _ _ _).wp _ _ _ w) ?_
              intro W hW
              have KA2 : Blk W w.heap.size 26 #[.int .i64 side, .int .i64 mass, .int .i64 0, .int .i64 jm, .int .i64 ja, .int .i64 ct, .int .i64 ca] := by rw [hW]; exact KA1.set_ 2 _
              have B2 : Below w.heap.size w W := by rw [hW]; exact B1.setCell (Nat.le_refl _) _
              clear hW KA1 B1 fz a0 a1 a2 a3 a4 a5 a6
              obtain ⟨f0, f1, f2, f3, f4, f5, f6⟩ := KA2.far_seven
              refine wp_region_quiet_below (by kernel_rfl) (by kernel_rfl) ?_
              repeat (quiet_step (first | exact Calls.regrown_of (same_below (HCE.out _)) | exact Calls.regrown_of (same_below (abs_any _ _ (by omega) (by omega))) | exact Calls.regrown_of (moment_any _ _ _ _ _ _ _ _ _ _ HB0.out X1.out X2.out)))
              refine wpQuiet_nil ?_
              intro w3 hw3
              have hb3 := class_below hw3
              have KA3 := KA2.on hb3
              have B3 := B2.trans (hb3.mono B2.size)
              clear hw3 hb3 KA2 B2 f0 f1 f2 f3 f4 f5 f6
              obtain ⟨a0, a1, a2, a3, a4, a5, a6⟩ := KA3.seven
              go_wp2_with fail
              refine (total_any _ _ _ _ _ _ _ _ _ HB0.out X1.out).mono ?_
              rintro e w4 ⟨rfl, hb4⟩
              clear a0 a1 a2 a3 a4 a5 a6
              have KA4 := KA3.on hb4
              have B4 := B3.trans (hb4.mono B3.size)
              clear hb4 B3 KA3
              obtain ⟨a0, a1, a2, a3, a4, a5, a6⟩ := KA4.seven
              go_wp2
              go_ret2
              exact ⟨rfl, B4⟩
set_option maxHeartbeats 1000000 in
theorem specLeastBallast_any (side mass ball jm ja ct ca load radius percent : Int) (w : World) : Calls Try.prog 24 #[.agg #[.int .i64 side, .int .i64 mass, .int .i64 ball, .int .i64 jm, .int .i64 ja, .int .i64 ct, .int .i64 ca], .int .i64 load, .int .i64 radius, .int .i64 percent] w fun e w' => e = .returned (resLeastBallast side mass ball jm ja ct ca load radius percent) ∧ Below w.heap.size w w' := by
  cases h0 : baseB side mass ball jm ja ct ca
  · have E : resLeastBallast side mass ball jm ja ct ca load radius percent = .tuple #[.int .i64 0, .int .i64 1] := by unfold resLeastBallast codeRes; simp [h0]
    rw [E]; clear E
    have C := l06Asked_any side mass ball jm ja ct ca load radius percent w.heap.size _ (Blk.new w 26 #[.int .i64 side, .int .i64 mass, .int .i64 ball, .int .i64 jm, .int .i64 ja, .int .i64 ct, .int .i64 ca]).seven.1 (Blk.new w 26 #[.int .i64 side, .int .i64 mass, .int .i64 ball, .int .i64 jm, .int .i64 ja, .int .i64 ct, .int .i64 ca]).seven.2.1 (Blk.new w 26 #[.int .i64 side, .int .i64 mass, .int .i64 ball, .int .i64 jm, .int .i64 ja, .int .i64 ct, .int .i64 ca]).seven.2.2.1 (Blk.new w 26 #[.int .i64 side, .int .i64 mass, .int .i64 ball, .int .i64 jm, .int .i64 ja, .int .i64 ct, .int .i64 ca]).seven.2.2.2.1 (Blk.new w 26 #[.int .i64 side, .int .i64 mass, .int .i64 ball, .int .i64 jm, .int .i64 ja, .int .i64 ct, .int .i64 ca]).seven.2.2.2.2.1 (Blk.new w 26 #[.int .i64 side, .int .i64 mass, .int .i64 ball, .int .i64 jm, .int .i64 ja, .int .i64 ct, .int .i64 ca]).seven.2.2.2.2.2.1 (Blk.new w 26 #[.int .i64 side, .int .i64 mass, .int .i64 ball, .int .i64 jm, .int .i64 ja, .int .i64 ct, .int .i64 ca]).seven.2.2.2.2.2.2
    have C' : Calls Try.prog 43 #[.pointer (some ⟨w.heap.size, 0, none⟩), .int .i64 load, .int .i64 radius, .int .i64 percent] (w.alloc (.cells #[.int .i64 side, .int .i64 mass, .int .i64 ball, .int .i64 jm, .int .i64 ja, .int .i64 ct, .int .i64 ca] 26)) fun e w' => e = .returned (.int .i64 1) ∧ w.alloc (.cells #[.int .i64 side, .int .i64 mass, .int .i64 ball, .int .i64 jm, .int .i64 ja, .int .i64 ct, .int .i64 ca] 26) = w' := by simpa [codeV, h0] using C
    have HC := Lib.hid C'
    clear C C'
    clear h0
    go_enter Try.func24, Try.ntmps24
    go_wp2_with fail
    refine HC.out.mono ?_
    rintro e w' ⟨rfl, rfl⟩
    go_wp2
    go_ret2
    exact ⟨rfl, below_alloc1 w _⟩
  · skip
    cases h1 : inB load 0 50000
    · have E : resLeastBallast side mass ball jm ja ct ca load radius percent = .tuple #[.int .i64 0, .int .i64 2] := by unfold resLeastBallast codeRes; simp [h0, h1]
      rw [E]; clear E
      have C := l06Asked_any side mass ball jm ja ct ca load radius percent w.heap.size _ (Blk.new w 26 #[.int .i64 side, .int .i64 mass, .int .i64 ball, .int .i64 jm, .int .i64 ja, .int .i64 ct, .int .i64 ca]).seven.1 (Blk.new w 26 #[.int .i64 side, .int .i64 mass, .int .i64 ball, .int .i64 jm, .int .i64 ja, .int .i64 ct, .int .i64 ca]).seven.2.1 (Blk.new w 26 #[.int .i64 side, .int .i64 mass, .int .i64 ball, .int .i64 jm, .int .i64 ja, .int .i64 ct, .int .i64 ca]).seven.2.2.1 (Blk.new w 26 #[.int .i64 side, .int .i64 mass, .int .i64 ball, .int .i64 jm, .int .i64 ja, .int .i64 ct, .int .i64 ca]).seven.2.2.2.1 (Blk.new w 26 #[.int .i64 side, .int .i64 mass, .int .i64 ball, .int .i64 jm, .int .i64 ja, .int .i64 ct, .int .i64 ca]).seven.2.2.2.2.1 (Blk.new w 26 #[.int .i64 side, .int .i64 mass, .int .i64 ball, .int .i64 jm, .int .i64 ja, .int .i64 ct, .int .i64 ca]).seven.2.2.2.2.2.1 (Blk.new w 26 #[.int .i64 side, .int .i64 mass, .int .i64 ball, .int .i64 jm, .int .i64 ja, .int .i64 ct, .int .i64 ca]).seven.2.2.2.2.2.2
      have C' : Calls Try.prog 43 #[.pointer (some ⟨w.heap.size, 0, none⟩), .int .i64 load, .int .i64 radius, .int .i64 percent] (w.alloc (.cells #[.int .i64 side, .int .i64 mass, .int .i64 ball, .int .i64 jm, .int .i64 ja, .int .i64 ct, .int .i64 ca] 26)) fun e w' => e = .returned (.int .i64 2) ∧ w.alloc (.cells #[.int .i64 side, .int .i64 mass, .int .i64 ball, .int .i64 jm, .int .i64 ja, .int .i64 ct, .int .i64 ca] 26) = w' := by simpa [codeV, h0, h1] using C
      have HC := Lib.hid C'
      clear C C'
      clear h0 h1
      go_enter Try.func24, Try.ntmps24
      go_wp2_with fail
      refine HC.out.mono ?_
      rintro e w' ⟨rfl, rfl⟩
      go_wp2
      go_ret2
      exact ⟨rfl, below_alloc1 w _⟩
    · skip
      cases h2 : inB radius 0 1000
      · have E : resLeastBallast side mass ball jm ja ct ca load radius percent = .tuple #[.int .i64 0, .int .i64 2] := by unfold resLeastBallast codeRes; simp [h0, h1, h2]
        rw [E]; clear E
        have C := l06Asked_any side mass ball jm ja ct ca load radius percent w.heap.size _ (Blk.new w 26 #[.int .i64 side, .int .i64 mass, .int .i64 ball, .int .i64 jm, .int .i64 ja, .int .i64 ct, .int .i64 ca]).seven.1 (Blk.new w 26 #[.int .i64 side, .int .i64 mass, .int .i64 ball, .int .i64 jm, .int .i64 ja, .int .i64 ct, .int .i64 ca]).seven.2.1 (Blk.new w 26 #[.int .i64 side, .int .i64 mass, .int .i64 ball, .int .i64 jm, .int .i64 ja, .int .i64 ct, .int .i64 ca]).seven.2.2.1 (Blk.new w 26 #[.int .i64 side, .int .i64 mass, .int .i64 ball, .int .i64 jm, .int .i64 ja, .int .i64 ct, .int .i64 ca]).seven.2.2.2.1 (Blk.new w 26 #[.int .i64 side, .int .i64 mass, .int .i64 ball, .int .i64 jm, .int .i64 ja, .int .i64 ct, .int .i64 ca]).seven.2.2.2.2.1 (Blk.new w 26 #[.int .i64 side, .int .i64 mass, .int .i64 ball, .int .i64 jm, .int .i64 ja, .int .i64 ct, .int .i64 ca]).seven.2.2.2.2.2.1 (Blk.new w 26 #[.int .i64 side, .int .i64 mass, .int .i64 ball, .int .i64 jm, .int .i64 ja, .int .i64 ct, .int .i64 ca]).seven.2.2.2.2.2.2
        have C' : Calls Try.prog 43 #[.pointer (some ⟨w.heap.size, 0, none⟩), .int .i64 load, .int .i64 radius, .int .i64 percent] (w.alloc (.cells #[.int .i64 side, .int .i64 mass, .int .i64 ball, .int .i64 jm, .int .i64 ja, .int .i64 ct, .int .i64 ca] 26)) fun e w' => e = .returned (.int .i64 2) ∧ w.alloc (.cells #[.int .i64 side, .int .i64 mass, .int .i64 ball, .int .i64 jm, .int .i64 ja, .int .i64 ct, .int .i64 ca] 26) = w' := by simpa [codeV, h0, h1, h2] using C
        have HC := Lib.hid C'
        clear C C'
        clear h0 h1 h2
        go_enter Try.func24, Try.ntmps24
        go_wp2_with fail
        refine HC.out.mono ?_
        rintro e w' ⟨rfl, rfl⟩
        go_wp2
        go_ret2
        exact ⟨rfl, below_alloc1 w _⟩
      · skip
        cases h3 : inB percent 100 1000
        · have E : resLeastBallast side mass ball jm ja ct ca load radius percent = .tuple #[.int .i64 0, .int .i64 2] := by unfold resLeastBallast codeRes; simp [h0, h1, h2, h3]
          rw [E]; clear E
          have C := l06Asked_any side mass ball jm ja ct ca load radius percent w.heap.size _ (Blk.new w 26 #[.int .i64 side, .int .i64 mass, .int .i64 ball, .int .i64 jm, .int .i64 ja, .int .i64 ct, .int .i64 ca]).seven.1 (Blk.new w 26 #[.int .i64 side, .int .i64 mass, .int .i64 ball, .int .i64 jm, .int .i64 ja, .int .i64 ct, .int .i64 ca]).seven.2.1 (Blk.new w 26 #[.int .i64 side, .int .i64 mass, .int .i64 ball, .int .i64 jm, .int .i64 ja, .int .i64 ct, .int .i64 ca]).seven.2.2.1 (Blk.new w 26 #[.int .i64 side, .int .i64 mass, .int .i64 ball, .int .i64 jm, .int .i64 ja, .int .i64 ct, .int .i64 ca]).seven.2.2.2.1 (Blk.new w 26 #[.int .i64 side, .int .i64 mass, .int .i64 ball, .int .i64 jm, .int .i64 ja, .int .i64 ct, .int .i64 ca]).seven.2.2.2.2.1 (Blk.new w 26 #[.int .i64 side, .int .i64 mass, .int .i64 ball, .int .i64 jm, .int .i64 ja, .int .i64 ct, .int .i64 ca]).seven.2.2.2.2.2.1 (Blk.new w 26 #[.int .i64 side, .int .i64 mass, .int .i64 ball, .int .i64 jm, .int .i64 ja, .int .i64 ct, .int .i64 ca]).seven.2.2.2.2.2.2
          have C' : Calls Try.prog 43 #[.pointer (some ⟨w.heap.size, 0, none⟩), .int .i64 load, .int .i64 radius, .int .i64 percent] (w.alloc (.cells #[.int .i64 side, .int .i64 mass, .int .i64 ball, .int .i64 jm, .int .i64 ja, .int .i64 ct, .int .i64 ca] 26)) fun e w' => e = .returned (.int .i64 2) ∧ w.alloc (.cells #[.int .i64 side, .int .i64 mass, .int .i64 ball, .int .i64 jm, .int .i64 ja, .int .i64 ct, .int .i64 ca] 26) = w' := by simpa [codeV, h0, h1, h2, h3] using C
          have HC := Lib.hid C'
          clear C C'
          clear h0 h1 h2 h3
          go_enter Try.func24, Try.ntmps24
          go_wp2_with fail
          refine HC.out.mono ?_
          rintro e w' ⟨rfl, rfl⟩
          go_wp2
          go_ret2
          exact ⟨rfl, below_alloc1 w _⟩
        · by_cases hg0 : 500000 < rawZ side mass jm ja ct ca load radius percent
          · have hg := hg0
            have E : resLeastBallast side mass ball jm ja ct ca load radius percent = .tuple #[.int .i64 0, .int .i64 3] := by unfold resLeastBallast; rw [h0, h1, h2, h3, Bool.true_and, Bool.true_and, codeRes_tt, if_pos hg]
            rw [E]; clear E
            have C := l06Asked_any side mass ball jm ja ct ca load radius percent w.heap.size _ (Blk.new w 26 #[.int .i64 side, .int .i64 mass, .int .i64 ball, .int .i64 jm, .int .i64 ja, .int .i64 ct, .int .i64 ca]).seven.1 (Blk.new w 26 #[.int .i64 side, .int .i64 mass, .int .i64 ball, .int .i64 jm, .int .i64 ja, .int .i64 ct, .int .i64 ca]).seven.2.1 (Blk.new w 26 #[.int .i64 side, .int .i64 mass, .int .i64 ball, .int .i64 jm, .int .i64 ja, .int .i64 ct, .int .i64 ca]).seven.2.2.1 (Blk.new w 26 #[.int .i64 side, .int .i64 mass, .int .i64 ball, .int .i64 jm, .int .i64 ja, .int .i64 ct, .int .i64 ca]).seven.2.2.2.1 (Blk.new w 26 #[.int .i64 side, .int .i64 mass, .int .i64 ball, .int .i64 jm, .int .i64 ja, .int .i64 ct, .int .i64 ca]).seven.2.2.2.2.1 (Blk.new w 26 #[.int .i64 side, .int .i64 mass, .int .i64 ball, .int .i64 jm, .int .i64 ja, .int .i64 ct, .int .i64 ca]).seven.2.2.2.2.2.1 (Blk.new w 26 #[.int .i64 side, .int .i64 mass, .int .i64 ball, .int .i64 jm, .int .i64 ja, .int .i64 ct, .int .i64 ca]).seven.2.2.2.2.2.2
            have C' : Calls Try.prog 43 #[.pointer (some ⟨w.heap.size, 0, none⟩), .int .i64 load, .int .i64 radius, .int .i64 percent] (w.alloc (.cells #[.int .i64 side, .int .i64 mass, .int .i64 ball, .int .i64 jm, .int .i64 ja, .int .i64 ct, .int .i64 ca] 26)) fun e w' => e = .returned (.int .i64 0) ∧ w.alloc (.cells #[.int .i64 side, .int .i64 mass, .int .i64 ball, .int .i64 jm, .int .i64 ja, .int .i64 ct, .int .i64 ca] 26) = w' := by simpa [codeV, h0, h1, h2, h3] using C
            have HC := Lib.hid C'
            clear C C'
            obtain ⟨s1, s2, -⟩ := baseB_of h0
            have hs : ∀ x (b : Bool) wr, 0 ≤ x → x ≤ 500000 → decide (rawZ side mass jm ja ct ca load radius percent ≤ x) = b → Blk wr w.heap.size 26 #[.int .i64 side, .int .i64 mass, .int .i64 x, .int .i64 jm, .int .i64 ja, .int .i64 ct, .int .i64 ca] → Calls Try.prog 44 #[.pointer (some ⟨w.heap.size, 0, none⟩), .int .i64 load, .int .i64 radius, .int .i64 percent] wr fun e w' => e = .returned (.bool b) ∧ Below wr.heap.size wr w' := fun x b wr x0 x1 hb hk => by rw [← hb, ← raw_le mass jm ja ct ca load radius percent x (by omega)]; exact l06Stable_any side mass x jm ja ct ca load radius percent w.heap.size wr (baseB_with h0 x0 x1) h1 h2 h3 hk.seven.1 hk.seven.2.1 hk.seven.2.2.1 hk.seven.2.2.2.1 hk.seven.2.2.2.2.1 hk.seven.2.2.2.2.2.1 hk.seven.2.2.2.2.2.2
            have HS := Lib.hid hs
            clear hs
            have X0 := Lib.hid h0
            have X1 := Lib.hid h1
            have X2 := Lib.hid h2
            have X3 := Lib.hid h3
            clear h0 h1 h2 h3
            go_enter Try.func24, Try.ntmps24
            go_wp2_with fail
            refine HC.out.mono ?_
            rintro e w' ⟨rfl, rfl⟩
            go_wp2_with fail
            refine (HS.out 500000 false _ (by omega) (by omega) (decide_eq_false (by omega)) (Blk.new w 26 #[.int .i64 side, .int .i64 mass, .int .i64 500000, .int .i64 jm, .int .i64 ja, .int .i64 ct, .int .i64 ca])).mono ?_
            rintro e w1 ⟨rfl, hb1⟩
            have B1 := (below_alloc1 w _).trans (hb1.mono (below_alloc1 w _).size)
            clear hb1
            go_wp2
            go_ret2
            exact ⟨rfl, B1⟩
          · by_cases hg1 : rawZ side mass jm ja ct ca load radius percent < 0
            · have hg := hg1
              have E : resLeastBallast side mass ball jm ja ct ca load radius percent = .tuple #[.int .i64 0, .int .i64 0] := by unfold resLeastBallast; rw [h0, h1, h2, h3, Bool.true_and, Bool.true_and, codeRes_tt, if_neg hg0, if_pos hg]
              rw [E]; clear E
              have C := l06Asked_any side mass ball jm ja ct ca load radius percent w.heap.size _ (Blk.new w 26 #[.int .i64 side, .int .i64 mass, .int .i64 ball, .int .i64 jm, .int .i64 ja, .int .i64 ct, .int .i64 ca]).seven.1 (Blk.new w 26 #[.int .i64 side, .int .i64 mass, .int .i64 ball, .int .i64 jm, .int .i64 ja, .int .i64 ct, .int .i64 ca]).seven.2.1 (Blk.new w 26 #[.int .i64 side, .int .i64 mass, .int .i64 ball, .int .i64 jm, .int .i64 ja, .int .i64 ct, .int .i64 ca]).seven.2.2.1 (Blk.new w 26 #[.int .i64 side, .int .i64 mass, .int .i64 ball, .int .i64 jm, .int .i64 ja, .int .i64 ct, .int .i64 ca]).seven.2.2.2.1 (Blk.new w 26 #[.int .i64 side, .int .i64 mass, .int .i64 ball, .int .i64 jm, .int .i64 ja, .int .i64 ct, .int .i64 ca]).seven.2.2.2.2.1 (Blk.new w 26 #[.int .i64 side, .int .i64 mass, .int .i64 ball, .int .i64 jm, .int .i64 ja, .int .i64 ct, .int .i64 ca]).seven.2.2.2.2.2.1 (Blk.new w 26 #[.int .i64 side, .int .i64 mass, .int .i64 ball, .int .i64 jm, .int .i64 ja, .int .i64 ct, .int .i64 ca]).seven.2.2.2.2.2.2
              have C' : Calls Try.prog 43 #[.pointer (some ⟨w.heap.size, 0, none⟩), .int .i64 load, .int .i64 radius, .int .i64 percent] (w.alloc (.cells #[.int .i64 side, .int .i64 mass, .int .i64 ball, .int .i64 jm, .int .i64 ja, .int .i64 ct, .int .i64 ca] 26)) fun e w' => e = .returned (.int .i64 0) ∧ w.alloc (.cells #[.int .i64 side, .int .i64 mass, .int .i64 ball, .int .i64 jm, .int .i64 ja, .int .i64 ct, .int .i64 ca] 26) = w' := by simpa [codeV, h0, h1, h2, h3] using C
              have HC := Lib.hid C'
              clear C C'
              obtain ⟨s1, s2, -⟩ := baseB_of h0
              have hs : ∀ x (b : Bool) wr, 0 ≤ x → x ≤ 500000 → decide (rawZ side mass jm ja ct ca load radius percent ≤ x) = b → Blk wr w.heap.size 26 #[.int .i64 side, .int .i64 mass, .int .i64 x, .int .i64 jm, .int .i64 ja, .int .i64 ct, .int .i64 ca] → Calls Try.prog 44 #[.pointer (some ⟨w.heap.size, 0, none⟩), .int .i64 load, .int .i64 radius, .int .i64 percent] wr fun e w' => e = .returned (.bool b) ∧ Below wr.heap.size wr w' := fun x b wr x0 x1 hb hk => by rw [← hb, ← raw_le mass jm ja ct ca load radius percent x (by omega)]; exact l06Stable_any side mass x jm ja ct ca load radius percent w.heap.size wr (baseB_with h0 x0 x1) h1 h2 h3 hk.seven.1 hk.seven.2.1 hk.seven.2.2.1 hk.seven.2.2.2.1 hk.seven.2.2.2.2.1 hk.seven.2.2.2.2.2.1 hk.seven.2.2.2.2.2.2
              have HS := Lib.hid hs
              clear hs
              have X0 := Lib.hid h0
              have X1 := Lib.hid h1
              have X2 := Lib.hid h2
              have X3 := Lib.hid h3
              clear h0 h1 h2 h3
              go_enter Try.func24, Try.ntmps24
              go_wp2_with fail
              refine HC.out.mono ?_
              rintro e w' ⟨rfl, rfl⟩
              have lv : ∃ L : Int, L = 0 ∧ 0 ≤ L ∧ L ≤ 500000 ∧ ∀ x, 0 ≤ x → (rawZ side mass jm ja ct ca load radius percent ≤ x ↔ L ≤ x) := ⟨0, rfl, by omega, by omega, fun x h => by omega⟩
              obtain ⟨L, hL, L0, L1, LX⟩ := lv
              have HL := Lib.hid hL
              have HX := Lib.hid LX
              clear hL LX
              go_wp2_with fail
              refine (HS.out 500000 true _ (by omega) (by omega) (decide_eq_true (by omega)) (Blk.new w 26 #[.int .i64 side, .int .i64 mass, .int .i64 500000, .int .i64 jm, .int .i64 ja, .int .i64 ct, .int .i64 ca])).mono ?_
              rintro e w1 ⟨rfl, hb1⟩
              have KA1 := (Blk.new w 26 #[.int .i64 side, .int .i64 mass, .int .i64 500000, .int .i64 jm, .int .i64 ja, .int .i64 ct, .int .i64 ca]).on hb1
              have B1 := (below_alloc1 w _).trans (hb1.mono (below_alloc1 w _).size)
              clear hb1
              go_wp2_with fail
              go_loopw [11, 12, 13] (fun l h _ wr => ∃ lo hi x : Int, l = .int .i64 lo ∧ h = .int .i64 hi ∧ -1 ≤ lo ∧ lo < L ∧ L ≤ hi ∧ hi ≤ 500000 ∧ Below w.heap.size w wr ∧ Hid (Blk wr w.heap.size 26 #[.int .i64 side, .int .i64 mass, .int .i64 x, .int .i64 jm, .int .i64 ja, .int .i64 ct, .int .i64 ca])) (fun l h _ _ => (intOf h - intOf l).toNat)
              case atStart => exact ⟨-1, 500000, 500000, rfl, rfl, by omega, by omega, by omega, by omega, B1, KA1⟩
              case round =>
                obtain ⟨lo, hi, x, rfl, rfl, i0, i1, i2, i3, HB, KB⟩ := hrel
                by_cases hlt : 1 < hi - lo
                · have KS : Hid (Blk (wr.setCell ⟨w.heap.size, 2, none⟩ (.int .i64 ((lo + hi) / 2))) w.heap.size 26 #[.int .i64 side, .int .i64 mass, .int .i64 ((lo + hi) / 2), .int .i64 jm, .int .i64 ja, .int .i64 ct, .int .i64 ca]) := KB.out.set_ 2 _
                  have BS := HB.setCell (p := ⟨w.heap.size, 2, none⟩) (Nat.le_refl _) (.int .i64 ((lo + hi) / 2))
                  obtain ⟨a0, a1, a2, a3, a4, a5, a6⟩ := KB.out.seven
                  have fz := KB.out.frozen 2
                  by_cases hm : L ≤ (lo + hi) / 2
                  · have hd : decide (rawZ side mass jm ja ct ca load radius percent ≤ (lo + hi) / 2) = true := by have := HX.out ((lo + hi) / 2) (by omega); exact decide_eq_true (this.2 hm)
                    have HD := Lib.hid hd
                    clear hd
                    go_wp2_with fail
                    refine (HS.out ((lo + hi) / 2) true _ (by omega) (by omega) (HD.out) KS.out).mono ?_
                    rintro e w3 ⟨rfl, hb3⟩
                    have B3 := BS.trans (hb3.mono BS.size)
                    have K3 := Lib.hid (KS.out.on hb3)
                    clear hb3 a0 a1 a2 a3 a4 a5 a6 fz
                    go_wp2
                    exact ⟨⟨lo, (lo + hi) / 2, (lo + hi) / 2, rfl, rfl, by omega, by omega, by omega, by omega, B3, K3⟩, by simp [intOf] <;> omega⟩
                  · have hd : decide (rawZ side mass jm ja ct ca load radius percent ≤ (lo + hi) / 2) = false := by have := HX.out ((lo + hi) / 2) (by omega); exact decide_eq_false (fun h => hm (this.1 h))
                    have HD := Lib.hid hd
                    clear hd
                    go_wp2_with fail
                    refine (HS.out ((lo + hi) / 2) false _ (by omega) (by omega) (HD.out) KS.out).mono ?_
                    rintro e w3 ⟨rfl, hb3⟩
                    have B3 := BS.trans (hb3.mono BS.size)
                    have K3 := Lib.hid (KS.out.on hb3)
                    clear hb3 a0 a1 a2 a3 a4 a5 a6 fz
                    go_wp2
                    exact ⟨⟨(lo + hi) / 2, hi, (lo + hi) / 2, rfl, rfl, by omega, by omega, by omega, by omega, B3, K3⟩, by simp [intOf] <;> omega⟩
                · have E : Hid (hi = 0) := by show hi = _; rw [← HL.out]; omega
                  go_wp2
                  go_ret2
                  exact ⟨by rw [E.out] <;> rfl, HB⟩
            · have E : resLeastBallast side mass ball jm ja ct ca load radius percent = .tuple #[.int .i64 (rawZ side mass jm ja ct ca load radius percent), .int .i64 0] := by unfold resLeastBallast; rw [h0, h1, h2, h3, Bool.true_and, Bool.true_and, codeRes_tt, if_neg hg0, if_neg hg1]
              have hg := hg1
              rw [E]; clear E
              have C := l06Asked_any side mass ball jm ja ct ca load radius percent w.heap.size _ (Blk.new w 26 #[.int .i64 side, .int .i64 mass, .int .i64 ball, .int .i64 jm, .int .i64 ja, .int .i64 ct, .int .i64 ca]).seven.1 (Blk.new w 26 #[.int .i64 side, .int .i64 mass, .int .i64 ball, .int .i64 jm, .int .i64 ja, .int .i64 ct, .int .i64 ca]).seven.2.1 (Blk.new w 26 #[.int .i64 side, .int .i64 mass, .int .i64 ball, .int .i64 jm, .int .i64 ja, .int .i64 ct, .int .i64 ca]).seven.2.2.1 (Blk.new w 26 #[.int .i64 side, .int .i64 mass, .int .i64 ball, .int .i64 jm, .int .i64 ja, .int .i64 ct, .int .i64 ca]).seven.2.2.2.1 (Blk.new w 26 #[.int .i64 side, .int .i64 mass, .int .i64 ball, .int .i64 jm, .int .i64 ja, .int .i64 ct, .int .i64 ca]).seven.2.2.2.2.1 (Blk.new w 26 #[.int .i64 side, .int .i64 mass, .int .i64 ball, .int .i64 jm, .int .i64 ja, .int .i64 ct, .int .i64 ca]).seven.2.2.2.2.2.1 (Blk.new w 26 #[.int .i64 side, .int .i64 mass, .int .i64 ball, .int .i64 jm, .int .i64 ja, .int .i64 ct, .int .i64 ca]).seven.2.2.2.2.2.2
              have C' : Calls Try.prog 43 #[.pointer (some ⟨w.heap.size, 0, none⟩), .int .i64 load, .int .i64 radius, .int .i64 percent] (w.alloc (.cells #[.int .i64 side, .int .i64 mass, .int .i64 ball, .int .i64 jm, .int .i64 ja, .int .i64 ct, .int .i64 ca] 26)) fun e w' => e = .returned (.int .i64 0) ∧ w.alloc (.cells #[.int .i64 side, .int .i64 mass, .int .i64 ball, .int .i64 jm, .int .i64 ja, .int .i64 ct, .int .i64 ca] 26) = w' := by simpa [codeV, h0, h1, h2, h3] using C
              have HC := Lib.hid C'
              clear C C'
              obtain ⟨s1, s2, -⟩ := baseB_of h0
              have hs : ∀ x (b : Bool) wr, 0 ≤ x → x ≤ 500000 → decide (rawZ side mass jm ja ct ca load radius percent ≤ x) = b → Blk wr w.heap.size 26 #[.int .i64 side, .int .i64 mass, .int .i64 x, .int .i64 jm, .int .i64 ja, .int .i64 ct, .int .i64 ca] → Calls Try.prog 44 #[.pointer (some ⟨w.heap.size, 0, none⟩), .int .i64 load, .int .i64 radius, .int .i64 percent] wr fun e w' => e = .returned (.bool b) ∧ Below wr.heap.size wr w' := fun x b wr x0 x1 hb hk => by rw [← hb, ← raw_le mass jm ja ct ca load radius percent x (by omega)]; exact l06Stable_any side mass x jm ja ct ca load radius percent w.heap.size wr (baseB_with h0 x0 x1) h1 h2 h3 hk.seven.1 hk.seven.2.1 hk.seven.2.2.1 hk.seven.2.2.2.1 hk.seven.2.2.2.2.1 hk.seven.2.2.2.2.2.1 hk.seven.2.2.2.2.2.2
              have HS := Lib.hid hs
              clear hs
              have X0 := Lib.hid h0
              have X1 := Lib.hid h1
              have X2 := Lib.hid h2
              have X3 := Lib.hid h3
              clear h0 h1 h2 h3
              go_enter Try.func24, Try.ntmps24
              go_wp2_with fail
              refine HC.out.mono ?_
              rintro e w' ⟨rfl, rfl⟩
              have lv : ∃ L : Int, L = rawZ side mass jm ja ct ca load radius percent ∧ 0 ≤ L ∧ L ≤ 500000 ∧ ∀ x, 0 ≤ x → (rawZ side mass jm ja ct ca load radius percent ≤ x ↔ L ≤ x) := ⟨rawZ side mass jm ja ct ca load radius percent, rfl, by omega, by omega, fun x h => Iff.rfl⟩
              obtain ⟨L, hL, L0, L1, LX⟩ := lv
              have HL := Lib.hid hL
              have HX := Lib.hid LX
              clear hL LX
              go_wp2_with fail
              refine (HS.out 500000 true _ (by omega) (by omega) (decide_eq_true (by omega)) (Blk.new w 26 #[.int .i64 side, .int .i64 mass, .int .i64 500000, .int .i64 jm, .int .i64 ja, .int .i64 ct, .int .i64 ca])).mono ?_
              rintro e w1 ⟨rfl, hb1⟩
              have KA1 := (Blk.new w 26 #[.int .i64 side, .int .i64 mass, .int .i64 500000, .int .i64 jm, .int .i64 ja, .int .i64 ct, .int .i64 ca]).on hb1
              have B1 := (below_alloc1 w _).trans (hb1.mono (below_alloc1 w _).size)
              clear hb1
              go_wp2_with fail
              go_loopw [11, 12, 13] (fun l h _ wr => ∃ lo hi x : Int, l = .int .i64 lo ∧ h = .int .i64 hi ∧ -1 ≤ lo ∧ lo < L ∧ L ≤ hi ∧ hi ≤ 500000 ∧ Below w.heap.size w wr ∧ Hid (Blk wr w.heap.size 26 #[.int .i64 side, .int .i64 mass, .int .i64 x, .int .i64 jm, .int .i64 ja, .int .i64 ct, .int .i64 ca])) (fun l h _ _ => (intOf h - intOf l).toNat)
              case atStart => exact ⟨-1, 500000, 500000, rfl, rfl, by omega, by omega, by omega, by omega, B1, KA1⟩
              case round =>
                obtain ⟨lo, hi, x, rfl, rfl, i0, i1, i2, i3, HB, KB⟩ := hrel
                by_cases hlt : 1 < hi - lo
                · have KS : Hid (Blk (wr.setCell ⟨w.heap.size, 2, none⟩ (.int .i64 ((lo + hi) / 2))) w.heap.size 26 #[.int .i64 side, .int .i64 mass, .int .i64 ((lo + hi) / 2), .int .i64 jm, .int .i64 ja, .int .i64 ct, .int .i64 ca]) := KB.out.set_ 2 _
                  have BS := HB.setCell (p := ⟨w.heap.size, 2, none⟩) (Nat.le_refl _) (.int .i64 ((lo + hi) / 2))
                  obtain ⟨a0, a1, a2, a3, a4, a5, a6⟩ := KB.out.seven
                  have fz := KB.out.frozen 2
                  by_cases hm : L ≤ (lo + hi) / 2
                  · have hd : decide (rawZ side mass jm ja ct ca load radius percent ≤ (lo + hi) / 2) = true := by have := HX.out ((lo + hi) / 2) (by omega); exact decide_eq_true (this.2 hm)
                    have HD := Lib.hid hd
                    clear hd
                    go_wp2_with fail
                    refine (HS.out ((lo + hi) / 2) true _ (by omega) (by omega) (HD.out) KS.out).mono ?_
                    rintro e w3 ⟨rfl, hb3⟩
                    have B3 := BS.trans (hb3.mono BS.size)
                    have K3 := Lib.hid (KS.out.on hb3)
                    clear hb3 a0 a1 a2 a3 a4 a5 a6 fz
                    go_wp2
                    exact ⟨⟨lo, (lo + hi) / 2, (lo + hi) / 2, rfl, rfl, by omega, by omega, by omega, by omega, B3, K3⟩, by simp [intOf] <;> omega⟩
                  · have hd : decide (rawZ side mass jm ja ct ca load radius percent ≤ (lo + hi) / 2) = false := by have := HX.out ((lo + hi) / 2) (by omega); exact decide_eq_false (fun h => hm (this.1 h))
                    have HD := Lib.hid hd
                    clear hd
                    go_wp2_with fail
                    refine (HS.out ((lo + hi) / 2) false _ (by omega) (by omega) (HD.out) KS.out).mono ?_
                    rintro e w3 ⟨rfl, hb3⟩
                    have B3 := BS.trans (hb3.mono BS.size)
                    have K3 := Lib.hid (KS.out.on hb3)
                    clear hb3 a0 a1 a2 a3 a4 a5 a6 fz
                    go_wp2
                    exact ⟨⟨(lo + hi) / 2, hi, (lo + hi) / 2, rfl, rfl, by omega, by omega, by omega, by omega, B3, K3⟩, by simp [intOf] <;> omega⟩
                · have E : Hid (hi = rawZ side mass jm ja ct ca load radius percent) := by show hi = _; rw [← HL.out]; omega
                  go_wp2
                  go_ret2
                  exact ⟨by rw [E.out] <;> rfl, HB⟩
set_option maxHeartbeats 1000000 in
theorem FnExactLeastBallast_walk (side : Int) (_wside : (Lit.int .i64 side).wf = true) (mass : Int) (_wmass : (Lit.int .i64 mass).wf = true) (ball : Int) (_wball : (Lit.int .i64 ball).wf = true) (jm : Int) (_wjm : (Lit.int .i64 jm).wf = true) (ja : Int) (_wja : (Lit.int .i64 ja).wf = true) (ct : Int) (_wct : (Lit.int .i64 ct).wf = true) (ca : Int) (_wca : (Lit.int .i64 ca).wf = true) (load : Int) (_wload : (Lit.int .i64 load).wf = true) (radius : Int) (_wradius : (Lit.int .i64 radius).wf = true) (percent : Int) (_wpercent : (Lit.int .i64 percent).wf = true) (w : World) : Calls Try.prog 8 #[.agg #[.int .i64 side, .int .i64 mass, .int .i64 ball, .int .i64 jm, .int .i64 ja, .int .i64 ct, .int .i64 ca], .int .i64 load, .int .i64 radius, .int .i64 percent] w fun e w' => e = .returned (.bool true) ∧ Below w.heap.size w w' := by
  clear _wside _wmass _wball _wjm _wja _wct _wca _wload _wradius _wpercent
  have F : ∃ (x : Int) (y : Int), resLeastBallast side mass ball jm ja ct ca load radius percent = .tuple #[.int .i64 x, .int .i64 y] := by unfold resLeastBallast codeRes; repeat (first | exact ⟨_, _, rfl⟩ | split)
  obtain ⟨x, y, F⟩ := F
  have C : ∀ w, Calls Try.prog 24 #[.agg #[.int .i64 side, .int .i64 mass, .int .i64 ball, .int .i64 jm, .int .i64 ja, .int .i64 ct, .int .i64 ca], .int .i64 load, .int .i64 radius, .int .i64 percent] w fun e w' => e = .returned (.tuple #[.int .i64 x, .int .i64 y]) ∧ Below w.heap.size w w' := fun w => by rw [← F]; exact specLeastBallast_any side mass ball jm ja ct ca load radius percent w
  have H1 := Lib.hid C
  clear C
  have C : ∀ w, Calls Try.prog 25 #[.agg #[.int .i64 side, .int .i64 mass, .int .i64 ball, .int .i64 jm, .int .i64 ja, .int .i64 ct, .int .i64 ca], .int .i64 load, .int .i64 radius, .int .i64 percent] w fun e w' => e = .returned (.tuple #[.int .i64 x, .int .i64 y]) ∧ Below w.heap.size w w' := fun w => by rw [← F]; exact implLeastBallast_any side mass ball jm ja ct ca load radius percent w
  have H2 := Lib.hid C
  clear C
  clear F
  go_enter Try.func8, Try.ntmps8
  go_wp2_with fail
  refine (toBase_any _ _ _ _ _ _ _ _).mono ?_
  rintro e w1 ⟨rfl, hb1⟩
  have KA1 := (Blk.new w _ _).on hb1
  have B1 := (below_alloc1 w _).trans (hb1.mono (below_alloc1 w _).size)
  clear hb1
  go_wp2_with fail
  refine (H1.out _).mono ?_
  rintro e w2 ⟨rfl, hb2⟩
  have KA2 := KA1.on hb2
  have B2 := B1.trans (hb2.mono B1.size)
  clear hb2 B1 KA1
  obtain ⟨a0, a1, a2, a3, a4, a5, a6⟩ := KA2.seven
  go_wp2_with fail
  refine (toBase_any _ _ _ _ _ _ _ _).mono ?_
  rintro e w3 ⟨rfl, hb3⟩
  clear a0 a1 a2 a3 a4 a5 a6
  have KA3 := KA2.on hb3
  have B3 := B2.trans (hb3.mono B2.size)
  clear hb3 B2 KA2
  go_wp2_with fail
  refine (H2.out _).mono ?_
  rintro e w4 ⟨rfl, hb4⟩
  have KA4 := KA3.on hb4
  have B4 := B3.trans (hb4.mono B3.size)
  clear hb4 B3 KA3
  go_wp2
  go_ret
  exact ⟨rfl, B4⟩
end Go.Proofs.Ytfnoapejkpeacaa
