/- The laws of the mass, the moment and the stability of a base. -/
import Derived.Test.YtfnoapejkpeacaaProg
import Derived.Test.YtfnoapejkpeacaaKit
import Derived.Test.YtfnoapejkpeacaaBasics
import Derived.Test.YtfnoapejkpeacaaBases
import Derived.Test.YtfnoapejkpeacaaCodeRes
import Derived.Test.YtfnoapejkpeacaaMoments
namespace Go.Proofs.Ytfnoapejkpeacaa
open Go.RowKit Go.WideShapes Go.ChangeShapes Go.Joins Go.Deep Go.Sort
set_option linter.unusedVariables false
set_option linter.unusedSimpArgs false

def absZ (n : Int) : Int := if 0 ≤ n then n else -n
theorem absZ_nonneg {n : Int} (h : 0 ≤ n) : absZ n = n := if_pos h
theorem absZ_neg {n : Int} (h : ¬ 0 ≤ n) : absZ n = -n := if_neg h
def stableB (side mass ball jm ja ct ca load radius percent : Int) : Bool := decide (2 * percent * absZ (momentZ jm ja ct ca load radius) ≤ 100 * totalZ mass ball jm ct load * side)
theorem abs_bounds {side mass ball jm ja ct ca load radius : Int} (h : baseB side mass ball jm ja ct ca = true) (l : inB load 0 50000 = true) (r : inB radius 0 1000 = true) : 0 ≤ absZ (momentZ jm ja ct ca load radius) ∧ absZ (momentZ jm ja ct ca load radius) ≤ 550000000 := by
  have := moment_bounds h l r
  unfold absZ; split <;> omega
theorem stable_bounds {side mass ball jm ja ct ca load radius percent : Int} (h : baseB side mass ball jm ja ct ca = true) (l : inB load 0 50000 = true) (r : inB radius 0 1000 = true) (p : inB percent 100 1000 = true) :
    0 ≤ 2 * percent * absZ (momentZ jm ja ct ca load radius) ∧ 2 * percent * absZ (momentZ jm ja ct ca load radius) ≤ 2000 * 550000000 ∧
    0 ≤ 100 * totalZ mass ball jm ct load * side ∧ 100 * totalZ mass ball jm ct load * side ≤ 205000000 * 200 := by
  have a := abs_bounds h l r
  have t := total_bounds h l
  have q := inB_of p
  have s := (baseB_of h)
  have x := mul_bd (a := 2 * percent) (b := absZ (momentZ jm ja ct ca load radius)) (A := 2000) (B := 550000000) (by omega) (by omega) (by omega) (by omega)
  have y := mul_bd (a := 100 * totalZ mass ball jm ct load) (b := side) (A := 205000000) (B := 200) (by omega) (by omega) (by omega) (by omega)
  exact ⟨x.1, x.2, y.1, y.2⟩
theorem stable_wrap {side mass ball jm ja ct ca load radius percent : Int} (h : baseB side mass ball jm ja ct ca = true) (l : inB load 0 50000 = true) (r : inB radius 0 1000 = true) (p : inB percent 100 1000 = true) :
    decide (IntKind.i64.wrap (IntKind.i64.wrap (2 * percent) * absZ (momentZ jm ja ct ca load radius)) ≤ IntKind.i64.wrap (IntKind.i64.wrap (100 * totalZ mass ball jm ct load) * side)) = stableB side mass ball jm ja ct ca load radius percent := by
  obtain ⟨a, b, c, d⟩ := stable_bounds h l r p
  have t := total_bounds h l
  have q := inB_of p
  rw [IntWalk.i64_in (2 * percent) (by omega), IntWalk.i64_in (100 * totalZ mass ball jm ct load) (by omega), IntWalk.i64_in _ (by omega), IntWalk.i64_in _ (by omega)]
  rfl
theorem abs_any (n : Int) (w : World) (n1 : -1000000000000 ≤ n) (n2 : n ≤ 1000000000000) : Calls Try.prog 49 #[.int .i64 n] w fun e w' => e = .returned (.int .i64 (absZ n)) ∧ w = w' := by
  by_cases h : 0 ≤ n
  · have E := Lib.hid (absZ_nonneg h)
    go_enter Try.func49, Try.ntmps49
    go_wp2
    go_ret
    exact ⟨ret_int (by rw [E.out]), rfl⟩
  · have E := Lib.hid (absZ_neg h)
    go_enter Try.func49, Try.ntmps49
    go_wp2
    go_ret
    exact ⟨ret_int (by rw [E.out]), rfl⟩
theorem l00Max_any (a b : Int) (w : World) : Calls Try.prog 64 #[.int .i64 a, .int .i64 b] w fun e w' => e = .returned (.int .i64 (maxZ a b)) ∧ w = w' := by
  by_cases h : b < a
  · rw [show maxZ a b = a from if_pos h]
    go_enter Try.func64, Try.ntmps64
    go_wp2
    go_ret
    exact ⟨rfl, rfl⟩
  · rw [show maxZ a b = b from if_neg h]
    go_enter Try.func64, Try.ntmps64
    go_wp2
    go_ret
    exact ⟨rfl, rfl⟩
theorem maxZ_abs (n : Int) : maxZ n (-n) = absZ n := by unfold maxZ absZ; split <;> split <;> omega
theorem l06Size_any (n : Int) (w : World) (n1 : -1000000000000 ≤ n) (n2 : n ≤ 1000000000000) : Calls Try.prog 48 #[.int .i64 n] w fun e w' => e = .returned (.int .i64 (absZ n)) ∧ w = w' := by
  by_cases h : 0 ≤ n
  · have E := Lib.hid (absZ_nonneg h)
    go_enter Try.func48, Try.ntmps48
    go_wp2_with (first | (go_at_call 64; refine (l00Max_any _ _ _).mono ?_; rintro e w' ⟨rfl, rfl⟩))
    go_ret
    exact ⟨ret_int (by rw [maxZ_abs]), rfl⟩
  · have E := Lib.hid (absZ_neg h)
    go_enter Try.func48, Try.ntmps48
    go_wp2_with (first | (go_at_call 64; refine (l00Max_any _ _ _).mono ?_; rintro e w' ⟨rfl, rfl⟩))
    go_ret
    exact ⟨ret_int (by rw [maxZ_abs]), rfl⟩
set_option maxHeartbeats 1000000 in
theorem stable_any (side mass ball jm ja ct ca load radius percent : Int) (w : World) (h : baseB side mass ball jm ja ct ca = true) (l : inB load 0 50000 = true) (r : inB radius 0 1000 = true) (p : inB percent 100 1000 = true) : Calls Try.prog 45 #[.agg #[.int .i64 side, .int .i64 mass, .int .i64 ball, .int .i64 jm, .int .i64 ja, .int .i64 ct, .int .i64 ca], .int .i64 load, .int .i64 radius, .int .i64 percent] w fun e w' => e = .returned (.bool (stableB side mass ball jm ja ct ca load radius percent)) ∧ Below w.heap.size w w' := by
  have SW := Lib.hid (stable_wrap h l r p)
  obtain ⟨q1, q2, q3, q4⟩ := stable_bounds h l r p
  obtain ⟨m1, m2⟩ := moment_bounds h l r
  obtain ⟨t1, t2⟩ := total_bounds h l
  obtain ⟨p1, p2⟩ := inB_of p
  have hb := baseB_of h
  have X := Lib.hid h
  have Y := Lib.hid l
  have Z := Lib.hid r
  clear h l r p
  go_enter Try.func45, Try.ntmps45
  go_wp2_with fail
  refine name_world (f := fun w => (Code.region _ _ _).wp _ _ _ w) ?_
  intro W hW
  have KA0 : Blk W (w.heap.size) 26 #[.int .i64 side, .int .i64 mass, .int .i64 ball, .int .i64 jm, .int .i64 ja, .int .i64 ct, .int .i64 ca] := by rw [hW]; exact (Blk.new w _ _)
  have B0 : Below w.heap.size w W := by rw [hW]; exact (below_alloc1 w _)
  clear hW
  obtain ⟨fa0, fa1, fa2, fa3, fa4, fa5, fa6⟩ := KA0.far_seven
  refine wp_region_quiet_below (by kernel_rfl) (by kernel_rfl) ?_
  repeat (quiet_step (first | exact Calls.regrown_of (same_below (abs_any _ _ (by omega) (by omega))) | exact Calls.regrown_of (total_any _ _ _ _ _ _ _ _ _ X.out Y.out) | exact Calls.regrown_of (moment_any _ _ _ _ _ _ _ _ _ _ X.out Y.out Z.out)))
  refine wpQuiet_nil ?_
  intro w1 hw1
  have hb1 := class_below hw1
  have KA1 := KA0.on hb1
  have B1 := B0.trans (hb1.mono B0.size)
  clear hw1 hb1 B0 KA0 fa0 fa1 fa2 fa3 fa4 fa5 fa6
  go_wp2
  go_ret
  exact ⟨ret_bool SW.out, B1⟩
set_option maxHeartbeats 1000000 in
theorem l06Stable_any (side mass ball jm ja ct ca load radius percent : Int) (g : Nat) (w : World) (h : baseB side mass ball jm ja ct ca = true) (l : inB load 0 50000 = true) (r : inB radius 0 1000 = true) (p : inB percent 100 1000 = true) (c0 : w.cell? ⟨g, 0, none⟩ = some (.int .i64 side)) (c1 : w.cell? ⟨g, 1, none⟩ = some (.int .i64 mass)) (c2 : w.cell? ⟨g, 2, none⟩ = some (.int .i64 ball)) (c3 : w.cell? ⟨g, 3, none⟩ = some (.int .i64 jm)) (c4 : w.cell? ⟨g, 4, none⟩ = some (.int .i64 ja)) (c5 : w.cell? ⟨g, 5, none⟩ = some (.int .i64 ct)) (c6 : w.cell? ⟨g, 6, none⟩ = some (.int .i64 ca)) : Calls Try.prog 44 #[.pointer (some ⟨g, 0, none⟩), .int .i64 load, .int .i64 radius, .int .i64 percent] w fun e w' => e = .returned (.bool (stableB side mass ball jm ja ct ca load radius percent)) ∧ Below w.heap.size w w' := by
  have SW := Lib.hid (stable_wrap h l r p)
  obtain ⟨q1, q2, q3, q4⟩ := stable_bounds h l r p
  obtain ⟨m1, m2⟩ := moment_bounds h l r
  obtain ⟨t1, t2⟩ := total_bounds h l
  obtain ⟨p1, p2⟩ := inB_of p
  have hb := baseB_of h
  have X := Lib.hid h
  have Y := Lib.hid l
  have Z := Lib.hid r
  have CT : ∀ d os, Calls Try.prog 41 #[.pointer (some ⟨g, 0, none⟩), .int .i64 load] (grow (redrawn w d) os) fun e w' => e = .returned (.int .i64 (totalZ mass ball jm ct load)) ∧ Below (grow (redrawn w d) os).heap.size (grow (redrawn w d) os) w' := fun d os => l06Total_any side mass ball jm ja ct ca load g _ X.out Y.out (cell_regrown c0 d os) (cell_regrown c1 d os) (cell_regrown c2 d os) (cell_regrown c3 d os) (cell_regrown c4 d os) (cell_regrown c5 d os) (cell_regrown c6 d os)
  have CM : ∀ d os, Calls Try.prog 38 #[.pointer (some ⟨g, 0, none⟩), .int .i64 load, .int .i64 radius] (grow (redrawn w d) os) fun e w' => e = .returned (.int .i64 (momentZ jm ja ct ca load radius)) ∧ Below (grow (redrawn w d) os).heap.size (grow (redrawn w d) os) w' := fun d os => l06Moment_any side mass ball jm ja ct ca load radius g _ X.out Y.out Z.out (cell_regrown c0 d os) (cell_regrown c1 d os) (cell_regrown c2 d os) (cell_regrown c3 d os) (cell_regrown c4 d os) (cell_regrown c5 d os) (cell_regrown c6 d os)
  have HT := Lib.hid CT
  have HM := Lib.hid CM
  have f0 := cell_regrown c0
  clear CT CM h l r p c0 c1 c2 c3 c4 c5 c6
  go_enter Try.func44, Try.ntmps44
  go_wp2_with fail
  refine wp_region_quiet_below (by kernel_rfl) (by kernel_rfl) ?_
  repeat (quiet_step (first | exact Calls.regrown_of (same_below (l06Size_any _ _ (by omega) (by omega))) | exact Calls.regrown_of (HT.out _ _) | exact Calls.regrown_of (HM.out _ _)))
  refine wpQuiet_nil ?_
  intro w1 hw1
  have hb1 := class_below hw1
  clear f0
  go_wp2
  go_ret
  exact ⟨ret_bool SW.out, hb1⟩
def resTotalMass (side mass ball jm ja ct ca load : Int) : Value := codeRes (baseB side mass ball jm ja ct ca) (inB load 0 50000) (.tuple #[.int .i64 (totalZ mass ball jm ct load), .int .i64 0]) (.int .i64 0)
set_option maxHeartbeats 1000000 in
theorem implTotalMass_any (side mass ball jm ja ct ca load : Int) (w : World) : Calls Try.prog 16 #[.agg #[.int .i64 side, .int .i64 mass, .int .i64 ball, .int .i64 jm, .int .i64 ja, .int .i64 ct, .int .i64 ca], .int .i64 load] w fun e w' => e = .returned (resTotalMass side mass ball jm ja ct ca load) ∧ Below w.heap.size w w' := by
  cases h0 : baseB side mass ball jm ja ct ca
  · have E : resTotalMass side mass ball jm ja ct ca load = .tuple #[.int .i64 0, .int .i64 1] := by unfold resTotalMass codeRes; simp [h0]
    rw [E]; clear E
    have C : ∀ w, Calls Try.prog 39 #[.agg #[.int .i64 side, .int .i64 mass, .int .i64 ball, .int .i64 jm, .int .i64 ja, .int .i64 ct, .int .i64 ca], .int .i64 load, .int .i64 0, .int .i64 100] w fun e w' => e = .returned (.int .i64 1) ∧ Below w.heap.size w w' := fun w => by have := baseCode_any side mass ball jm ja ct ca load 0 100 w; simpa [codeV, h0, in_r0, in_p100] using this
    have HC := Lib.hid C
    clear C
    clear h0
    go_enter Try.func16, Try.ntmps16
    go_wp2_with fail
    refine (HC.out _).mono ?_
    rintro e w1 ⟨rfl, hb1⟩
    have KA1 := (Blk.new w _ _).on hb1
    have B1 := (below_alloc1 w _).trans (hb1.mono (below_alloc1 w _).size)
    clear hb1
    go_wp2
    go_ret2
    exact ⟨rfl, B1⟩
  · skip
    cases h1 : inB load 0 50000
    · have E : resTotalMass side mass ball jm ja ct ca load = .tuple #[.int .i64 0, .int .i64 2] := by unfold resTotalMass codeRes; simp [h0, h1]
      rw [E]; clear E
      have C : ∀ w, Calls Try.prog 39 #[.agg #[.int .i64 side, .int .i64 mass, .int .i64 ball, .int .i64 jm, .int .i64 ja, .int .i64 ct, .int .i64 ca], .int .i64 load, .int .i64 0, .int .i64 100] w fun e w' => e = .returned (.int .i64 2) ∧ Below w.heap.size w w' := fun w => by have := baseCode_any side mass ball jm ja ct ca load 0 100 w; simpa [codeV, h0, h1, in_r0, in_p100] using this
      have HC := Lib.hid C
      clear C
      clear h0 h1
      go_enter Try.func16, Try.ntmps16
      go_wp2_with fail
      refine (HC.out _).mono ?_
      rintro e w1 ⟨rfl, hb1⟩
      have KA1 := (Blk.new w _ _).on hb1
      have B1 := (below_alloc1 w _).trans (hb1.mono (below_alloc1 w _).size)
      clear hb1
      go_wp2
      go_ret2
      exact ⟨rfl, B1⟩
    · have E : resTotalMass side mass ball jm ja ct ca load = .tuple #[.int .i64 (totalZ mass ball jm ct load), .int .i64 0] := by unfold resTotalMass codeRes; simp [h0, h1]
      rw [E]; clear E
      have C : ∀ w, Calls Try.prog 39 #[.agg #[.int .i64 side, .int .i64 mass, .int .i64 ball, .int .i64 jm, .int .i64 ja, .int .i64 ct, .int .i64 ca], .int .i64 load, .int .i64 0, .int .i64 100] w fun e w' => e = .returned (.int .i64 0) ∧ Below w.heap.size w w' := fun w => by have := baseCode_any side mass ball jm ja ct ca load 0 100 w; simpa [codeV, h0, h1, in_r0, in_p100] using this
      have HC := Lib.hid C
      clear C
      have X0 := Lib.hid h0
      have X1 := Lib.hid h1
      clear h0 h1
      go_enter Try.func16, Try.ntmps16
      go_wp2_with fail
      refine (HC.out _).mono ?_
      rintro e w1 ⟨rfl, hb1⟩
      have KA1 := (Blk.new w _ _).on hb1
      have B1 := (below_alloc1 w _).trans (hb1.mono (below_alloc1 w _).size)
      clear hb1
      obtain ⟨a0, a1, a2, a3, a4, a5, a6⟩ := KA1.seven
      go_wp2_with fail
      refine (total_any _ _ _ _ _ _ _ _ _ X0.out X1.out).mono ?_
      rintro e w2 ⟨rfl, hb2⟩
      clear a0 a1 a2 a3 a4 a5 a6
      have KA2 := KA1.on hb2
      have B2 := B1.trans (hb2.mono B1.size)
      clear hb2 B1 KA1
      obtain ⟨a0, a1, a2, a3, a4, a5, a6⟩ := KA2.seven
      go_wp2
      go_ret2
      exact ⟨rfl, B2⟩
set_option maxHeartbeats 1000000 in
theorem specTotalMass_any (side mass ball jm ja ct ca load : Int) (w : World) : Calls Try.prog 15 #[.agg #[.int .i64 side, .int .i64 mass, .int .i64 ball, .int .i64 jm, .int .i64 ja, .int .i64 ct, .int .i64 ca], .int .i64 load] w fun e w' => e = .returned (resTotalMass side mass ball jm ja ct ca load) ∧ Below w.heap.size w w' := by
  cases h0 : baseB side mass ball jm ja ct ca
  · have E : resTotalMass side mass ball jm ja ct ca load = .tuple #[.int .i64 0, .int .i64 1] := by unfold resTotalMass codeRes; simp [h0]
    rw [E]; clear E
    have C := l06Code_any side mass ball jm ja ct ca load 0 w.heap.size _ (Blk.new w 26 #[.int .i64 side, .int .i64 mass, .int .i64 ball, .int .i64 jm, .int .i64 ja, .int .i64 ct, .int .i64 ca]).seven.1 (Blk.new w 26 #[.int .i64 side, .int .i64 mass, .int .i64 ball, .int .i64 jm, .int .i64 ja, .int .i64 ct, .int .i64 ca]).seven.2.1 (Blk.new w 26 #[.int .i64 side, .int .i64 mass, .int .i64 ball, .int .i64 jm, .int .i64 ja, .int .i64 ct, .int .i64 ca]).seven.2.2.1 (Blk.new w 26 #[.int .i64 side, .int .i64 mass, .int .i64 ball, .int .i64 jm, .int .i64 ja, .int .i64 ct, .int .i64 ca]).seven.2.2.2.1 (Blk.new w 26 #[.int .i64 side, .int .i64 mass, .int .i64 ball, .int .i64 jm, .int .i64 ja, .int .i64 ct, .int .i64 ca]).seven.2.2.2.2.1 (Blk.new w 26 #[.int .i64 side, .int .i64 mass, .int .i64 ball, .int .i64 jm, .int .i64 ja, .int .i64 ct, .int .i64 ca]).seven.2.2.2.2.2.1 (Blk.new w 26 #[.int .i64 side, .int .i64 mass, .int .i64 ball, .int .i64 jm, .int .i64 ja, .int .i64 ct, .int .i64 ca]).seven.2.2.2.2.2.2
    have C' : Calls Try.prog 37 #[.pointer (some ⟨w.heap.size, 0, none⟩), .int .i64 load, .int .i64 0] (w.alloc (.cells #[.int .i64 side, .int .i64 mass, .int .i64 ball, .int .i64 jm, .int .i64 ja, .int .i64 ct, .int .i64 ca] 26)) fun e w' => e = .returned (.int .i64 1) ∧ w.alloc (.cells #[.int .i64 side, .int .i64 mass, .int .i64 ball, .int .i64 jm, .int .i64 ja, .int .i64 ct, .int .i64 ca] 26) = w' := by simpa [codeV, h0, in_r0] using C
    have HC := Lib.hid C'
    clear C C'
    clear h0
    go_enter Try.func15, Try.ntmps15
    go_wp2_with fail
    refine HC.out.mono ?_
    rintro e w' ⟨rfl, rfl⟩
    go_wp2
    go_ret2
    exact ⟨rfl, below_alloc1 w _⟩
  · skip
    cases h1 : inB load 0 50000
    · have E : resTotalMass side mass ball jm ja ct ca load = .tuple #[.int .i64 0, .int .i64 2] := by unfold resTotalMass codeRes; simp [h0, h1]
      rw [E]; clear E
      have C := l06Code_any side mass ball jm ja ct ca load 0 w.heap.size _ (Blk.new w 26 #[.int .i64 side, .int .i64 mass, .int .i64 ball, .int .i64 jm, .int .i64 ja, .int .i64 ct, .int .i64 ca]).seven.1 (Blk.new w 26 #[.int .i64 side, .int .i64 mass, .int .i64 ball, .int .i64 jm, .int .i64 ja, .int .i64 ct, .int .i64 ca]).seven.2.1 (Blk.new w 26 #[.int .i64 side, .int .i64 mass, .int .i64 ball, .int .i64 jm, .int .i64 ja, .int .i64 ct, .int .i64 ca]).seven.2.2.1 (Blk.new w 26 #[.int .i64 side, .int .i64 mass, .int .i64 ball, .int .i64 jm, .int .i64 ja, .int .i64 ct, .int .i64 ca]).seven.2.2.2.1 (Blk.new w 26 #[.int .i64 side, .int .i64 mass, .int .i64 ball, .int .i64 jm, .int .i64 ja, .int .i64 ct, .int .i64 ca]).seven.2.2.2.2.1 (Blk.new w 26 #[.int .i64 side, .int .i64 mass, .int .i64 ball, .int .i64 jm, .int .i64 ja, .int .i64 ct, .int .i64 ca]).seven.2.2.2.2.2.1 (Blk.new w 26 #[.int .i64 side, .int .i64 mass, .int .i64 ball, .int .i64 jm, .int .i64 ja, .int .i64 ct, .int .i64 ca]).seven.2.2.2.2.2.2
      have C' : Calls Try.prog 37 #[.pointer (some ⟨w.heap.size, 0, none⟩), .int .i64 load, .int .i64 0] (w.alloc (.cells #[.int .i64 side, .int .i64 mass, .int .i64 ball, .int .i64 jm, .int .i64 ja, .int .i64 ct, .int .i64 ca] 26)) fun e w' => e = .returned (.int .i64 2) ∧ w.alloc (.cells #[.int .i64 side, .int .i64 mass, .int .i64 ball, .int .i64 jm, .int .i64 ja, .int .i64 ct, .int .i64 ca] 26) = w' := by simpa [codeV, h0, h1, in_r0] using C
      have HC := Lib.hid C'
      clear C C'
      clear h0 h1
      go_enter Try.func15, Try.ntmps15
      go_wp2_with fail
      refine HC.out.mono ?_
      rintro e w' ⟨rfl, rfl⟩
      go_wp2
      go_ret2
      exact ⟨rfl, below_alloc1 w _⟩
    · have E : resTotalMass side mass ball jm ja ct ca load = .tuple #[.int .i64 (totalZ mass ball jm ct load), .int .i64 0] := by unfold resTotalMass codeRes; simp [h0, h1]
      rw [E]; clear E
      have C := l06Code_any side mass ball jm ja ct ca load 0 w.heap.size _ (Blk.new w 26 #[.int .i64 side, .int .i64 mass, .int .i64 ball, .int .i64 jm, .int .i64 ja, .int .i64 ct, .int .i64 ca]).seven.1 (Blk.new w 26 #[.int .i64 side, .int .i64 mass, .int .i64 ball, .int .i64 jm, .int .i64 ja, .int .i64 ct, .int .i64 ca]).seven.2.1 (Blk.new w 26 #[.int .i64 side, .int .i64 mass, .int .i64 ball, .int .i64 jm, .int .i64 ja, .int .i64 ct, .int .i64 ca]).seven.2.2.1 (Blk.new w 26 #[.int .i64 side, .int .i64 mass, .int .i64 ball, .int .i64 jm, .int .i64 ja, .int .i64 ct, .int .i64 ca]).seven.2.2.2.1 (Blk.new w 26 #[.int .i64 side, .int .i64 mass, .int .i64 ball, .int .i64 jm, .int .i64 ja, .int .i64 ct, .int .i64 ca]).seven.2.2.2.2.1 (Blk.new w 26 #[.int .i64 side, .int .i64 mass, .int .i64 ball, .int .i64 jm, .int .i64 ja, .int .i64 ct, .int .i64 ca]).seven.2.2.2.2.2.1 (Blk.new w 26 #[.int .i64 side, .int .i64 mass, .int .i64 ball, .int .i64 jm, .int .i64 ja, .int .i64 ct, .int .i64 ca]).seven.2.2.2.2.2.2
      have C' : Calls Try.prog 37 #[.pointer (some ⟨w.heap.size, 0, none⟩), .int .i64 load, .int .i64 0] (w.alloc (.cells #[.int .i64 side, .int .i64 mass, .int .i64 ball, .int .i64 jm, .int .i64 ja, .int .i64 ct, .int .i64 ca] 26)) fun e w' => e = .returned (.int .i64 0) ∧ w.alloc (.cells #[.int .i64 side, .int .i64 mass, .int .i64 ball, .int .i64 jm, .int .i64 ja, .int .i64 ct, .int .i64 ca] 26) = w' := by simpa [codeV, h0, h1, in_r0] using C
      have HC := Lib.hid C'
      clear C C'
      have X0 := Lib.hid h0
      have X1 := Lib.hid h1
      clear h0 h1
      go_enter Try.func15, Try.ntmps15
      go_wp2_with fail
      refine HC.out.mono ?_
      rintro e w' ⟨rfl, rfl⟩
      go_wp2_with fail
      refine (l06Total_any _ _ _ _ _ _ _ _ w.heap.size _ X0.out X1.out (Blk.new w 26 #[.int .i64 side, .int .i64 mass, .int .i64 ball, .int .i64 jm, .int .i64 ja, .int .i64 ct, .int .i64 ca]).seven.1 (Blk.new w 26 #[.int .i64 side, .int .i64 mass, .int .i64 ball, .int .i64 jm, .int .i64 ja, .int .i64 ct, .int .i64 ca]).seven.2.1 (Blk.new w 26 #[.int .i64 side, .int .i64 mass, .int .i64 ball, .int .i64 jm, .int .i64 ja, .int .i64 ct, .int .i64 ca]).seven.2.2.1 (Blk.new w 26 #[.int .i64 side, .int .i64 mass, .int .i64 ball, .int .i64 jm, .int .i64 ja, .int .i64 ct, .int .i64 ca]).seven.2.2.2.1 (Blk.new w 26 #[.int .i64 side, .int .i64 mass, .int .i64 ball, .int .i64 jm, .int .i64 ja, .int .i64 ct, .int .i64 ca]).seven.2.2.2.2.1 (Blk.new w 26 #[.int .i64 side, .int .i64 mass, .int .i64 ball, .int .i64 jm, .int .i64 ja, .int .i64 ct, .int .i64 ca]).seven.2.2.2.2.2.1 (Blk.new w 26 #[.int .i64 side, .int .i64 mass, .int .i64 ball, .int .i64 jm, .int .i64 ja, .int .i64 ct, .int .i64 ca]).seven.2.2.2.2.2.2).mono ?_
      rintro e w1 ⟨rfl, hb1⟩
      have KA1 := (Blk.new w _ _).on hb1
      have B1 := (below_alloc1 w _).trans (hb1.mono (below_alloc1 w _).size)
      clear hb1
      obtain ⟨a0, a1, a2, a3, a4, a5, a6⟩ := KA1.seven
      go_wp2
      go_ret2
      exact ⟨rfl, B1⟩
set_option maxHeartbeats 1000000 in
theorem FnExactTotalMass_walk (side : Int) (_wside : (Lit.int .i64 side).wf = true) (mass : Int) (_wmass : (Lit.int .i64 mass).wf = true) (ball : Int) (_wball : (Lit.int .i64 ball).wf = true) (jm : Int) (_wjm : (Lit.int .i64 jm).wf = true) (ja : Int) (_wja : (Lit.int .i64 ja).wf = true) (ct : Int) (_wct : (Lit.int .i64 ct).wf = true) (ca : Int) (_wca : (Lit.int .i64 ca).wf = true) (load : Int) (_wload : (Lit.int .i64 load).wf = true) (w : World) : Calls Try.prog 4 #[.agg #[.int .i64 side, .int .i64 mass, .int .i64 ball, .int .i64 jm, .int .i64 ja, .int .i64 ct, .int .i64 ca], .int .i64 load] w fun e w' => e = .returned (.bool true) ∧ Below w.heap.size w w' := by
  clear _wside _wmass _wball _wjm _wja _wct _wca _wload
  have F : ∃ (x : Int) (y : Int), resTotalMass side mass ball jm ja ct ca load = .tuple #[.int .i64 x, .int .i64 y] := by unfold resTotalMass codeRes; split <;> exact ⟨_, _, rfl⟩
  obtain ⟨x, y, F⟩ := F
  have C : ∀ w, Calls Try.prog 15 #[.agg #[.int .i64 side, .int .i64 mass, .int .i64 ball, .int .i64 jm, .int .i64 ja, .int .i64 ct, .int .i64 ca], .int .i64 load] w fun e w' => e = .returned (.tuple #[.int .i64 x, .int .i64 y]) ∧ Below w.heap.size w w' := fun w => by rw [← F]; exact specTotalMass_any side mass ball jm ja ct ca load w
  have H1 := Lib.hid C
  clear C
  have C : ∀ w, Calls Try.prog 16 #[.agg #[.int .i64 side, .int .i64 mass, .int .i64 ball, .int .i64 jm, .int .i64 ja, .int .i64 ct, .int .i64 ca], .int .i64 load] w fun e w' => e = .returned (.tuple #[.int .i64 x, .int .i64 y]) ∧ Below w.heap.size w w' := fun w => by rw [← F]; exact implTotalMass_any side mass ball jm ja ct ca load w
  have H2 := Lib.hid C
  clear C
  clear F
  go_enter Try.func4, Try.ntmps4
  go_wp2_with fail
  refine (toBase_any _ _ _ _ _ _ _ _).mono ?_
  rintro e w1 ⟨rfl, hb1⟩
  have KA1 := (Blk.new w _ _).on hb1
  have B1 := (below_alloc1 w _).trans (hb1.mono (below_alloc1 w _).size)
  clear hb1
  go_wp2_with fail
  refine (H1.out _).mono ?_
  rintro e w2 ⟨rfl, hb2⟩
  have KA2 := KA1.on hb2
  have B2 := B1.trans (hb2.mono B1.size)
  clear hb2 B1 KA1
  obtain ⟨a0, a1, a2, a3, a4, a5, a6⟩ := KA2.seven
  go_wp2_with fail
  refine (toBase_any _ _ _ _ _ _ _ _).mono ?_
  rintro e w3 ⟨rfl, hb3⟩
  clear a0 a1 a2 a3 a4 a5 a6
  have KA3 := KA2.on hb3
  have B3 := B2.trans (hb3.mono B2.size)
  clear hb3 B2 KA2
  go_wp2_with fail
  refine (H2.out _).mono ?_
  rintro e w4 ⟨rfl, hb4⟩
  have KA4 := KA3.on hb4
  have B4 := B3.trans (hb4.mono B3.size)
  clear hb4 B3 KA3
  go_wp2
  go_ret
  exact ⟨rfl, B4⟩
def resMomentOf (side mass ball jm ja ct ca load radius : Int) : Value := codeRes (baseB side mass ball jm ja ct ca) (inB load 0 50000 && inB radius 0 1000) (.tuple #[.int .i64 (momentZ jm ja ct ca load radius), .int .i64 0]) (.int .i64 0)
set_option maxHeartbeats 1000000 in
theorem implMomentOf_any (side mass ball jm ja ct ca load radius : Int) (w : World) : Calls Try.prog 14 #[.agg #[.int .i64 side, .int .i64 mass, .int .i64 ball, .int .i64 jm, .int .i64 ja, .int .i64 ct, .int .i64 ca], .int .i64 load, .int .i64 radius] w fun e w' => e = .returned (resMomentOf side mass ball jm ja ct ca load radius) ∧ Below w.heap.size w w' := by
  cases h0 : baseB side mass ball jm ja ct ca
  · have E : resMomentOf side mass ball jm ja ct ca load radius = .tuple #[.int .i64 0, .int .i64 1] := by unfold resMomentOf codeRes; simp [h0]
    rw [E]; clear E
    have C : ∀ w, Calls Try.prog 39 #[.agg #[.int .i64 side, .int .i64 mass, .int .i64 ball, .int .i64 jm, .int .i64 ja, .int .i64 ct, .int .i64 ca], .int .i64 load, .int .i64 radius, .int .i64 100] w fun e w' => e = .returned (.int .i64 1) ∧ Below w.heap.size w w' := fun w => by have := baseCode_any side mass ball jm ja ct ca load radius 100 w; simpa [codeV, h0, in_p100] using this
    have HC := Lib.hid C
    clear C
    clear h0
    go_enter Try.func14, Try.ntmps14
    go_wp2_with fail
    refine (HC.out _).mono ?_
    rintro e w1 ⟨rfl, hb1⟩
    have KA1 := (Blk.new w _ _).on hb1
    have B1 := (below_alloc1 w _).trans (hb1.mono (below_alloc1 w _).size)
    clear hb1
    go_wp2
    go_ret2
    exact ⟨rfl, B1⟩
  · skip
    cases h1 : inB load 0 50000
    · have E : resMomentOf side mass ball jm ja ct ca load radius = .tuple #[.int .i64 0, .int .i64 2] := by unfold resMomentOf codeRes; simp [h0, h1]
      rw [E]; clear E
      have C : ∀ w, Calls Try.prog 39 #[.agg #[.int .i64 side, .int .i64 mass, .int .i64 ball, .int .i64 jm, .int .i64 ja, .int .i64 ct, .int .i64 ca], .int .i64 load, .int .i64 radius, .int .i64 100] w fun e w' => e = .returned (.int .i64 2) ∧ Below w.heap.size w w' := fun w => by have := baseCode_any side mass ball jm ja ct ca load radius 100 w; simpa [codeV, h0, h1, in_p100] using this
      have HC := Lib.hid C
      clear C
      clear h0 h1
      go_enter Try.func14, Try.ntmps14
      go_wp2_with fail
      refine (HC.out _).mono ?_
      rintro e w1 ⟨rfl, hb1⟩
      have KA1 := (Blk.new w _ _).on hb1
      have B1 := (below_alloc1 w _).trans (hb1.mono (below_alloc1 w _).size)
      clear hb1
      go_wp2
      go_ret2
      exact ⟨rfl, B1⟩
    · skip
      cases h2 : inB radius 0 1000
      · have E : resMomentOf side mass ball jm ja ct ca load radius = .tuple #[.int .i64 0, .int .i64 2] := by unfold resMomentOf codeRes; simp [h0, h1, h2]
        rw [E]; clear E
        have C : ∀ w, Calls Try.prog 39 #[.agg #[.int .i64 side, .int .i64 mass, .int .i64 ball, .int .i64 jm, .int .i64 ja, .int .i64 ct, .int .i64 ca], .int .i64 load, .int .i64 radius, .int .i64 100] w fun e w' => e = .returned (.int .i64 2) ∧ Below w.heap.size w w' := fun w => by have := baseCode_any side mass ball jm ja ct ca load radius 100 w; simpa [codeV, h0, h1, h2, in_p100] using this
        have HC := Lib.hid C
        clear C
        clear h0 h1 h2
        go_enter Try.func14, Try.ntmps14
        go_wp2_with fail
        refine (HC.out _).mono ?_
        rintro e w1 ⟨rfl, hb1⟩
        have KA1 := (Blk.new w _ _).on hb1
        have B1 := (below_alloc1 w _).trans (hb1.mono (below_alloc1 w _).size)
        clear hb1
        go_wp2
        go_ret2
        exact ⟨rfl, B1⟩
      · have E : resMomentOf side mass ball jm ja ct ca load radius = .tuple #[.int .i64 (momentZ jm ja ct ca load radius), .int .i64 0] := by unfold resMomentOf codeRes; simp [h0, h1, h2]
        rw [E]; clear E
        have C : ∀ w, Calls Try.prog 39 #[.agg #[.int .i64 side, .int .i64 mass, .int .i64 ball, .int .i64 jm, .int .i64 ja, .int .i64 ct, .int .i64 ca], .int .i64 load, .int .i64 radius, .int .i64 100] w fun e w' => e = .returned (.int .i64 0) ∧ Below w.heap.size w w' := fun w => by have := baseCode_any side mass ball jm ja ct ca load radius 100 w; simpa [codeV, h0, h1, h2, in_p100] using this
        have HC := Lib.hid C
        clear C
        have X0 := Lib.hid h0
        have X1 := Lib.hid h1
        have X2 := Lib.hid h2
        clear h0 h1 h2
        go_enter Try.func14, Try.ntmps14
        go_wp2_with fail
        refine (HC.out _).mono ?_
        rintro e w1 ⟨rfl, hb1⟩
        have KA1 := (Blk.new w _ _).on hb1
        have B1 := (below_alloc1 w _).trans (hb1.mono (below_alloc1 w _).size)
        clear hb1
        obtain ⟨a0, a1, a2, a3, a4, a5, a6⟩ := KA1.seven
        go_wp2_with fail
        refine (moment_any _ _ _ _ _ _ _ _ _ _ X0.out X1.out X2.out).mono ?_
        rintro e w2 ⟨rfl, hb2⟩
        clear a0 a1 a2 a3 a4 a5 a6
        have KA2 := KA1.on hb2
        have B2 := B1.trans (hb2.mono B1.size)
        clear hb2 B1 KA1
        obtain ⟨a0, a1, a2, a3, a4, a5, a6⟩ := KA2.seven
        go_wp2
        go_ret2
        exact ⟨rfl, B2⟩
set_option maxHeartbeats 1000000 in
theorem specMomentOf_any (side mass ball jm ja ct ca load radius : Int) (w : World) : Calls Try.prog 12 #[.agg #[.int .i64 side, .int .i64 mass, .int .i64 ball, .int .i64 jm, .int .i64 ja, .int .i64 ct, .int .i64 ca], .int .i64 load, .int .i64 radius] w fun e w' => e = .returned (resMomentOf side mass ball jm ja ct ca load radius) ∧ Below w.heap.size w w' := by
  cases h0 : baseB side mass ball jm ja ct ca
  · have E : resMomentOf side mass ball jm ja ct ca load radius = .tuple #[.int .i64 0, .int .i64 1] := by unfold resMomentOf codeRes; simp [h0]
    rw [E]; clear E
    have C := l06Code_any side mass ball jm ja ct ca load radius w.heap.size _ (Blk.new w 26 #[.int .i64 side, .int .i64 mass, .int .i64 ball, .int .i64 jm, .int .i64 ja, .int .i64 ct, .int .i64 ca]).seven.1 (Blk.new w 26 #[.int .i64 side, .int .i64 mass, .int .i64 ball, .int .i64 jm, .int .i64 ja, .int .i64 ct, .int .i64 ca]).seven.2.1 (Blk.new w 26 #[.int .i64 side, .int .i64 mass, .int .i64 ball, .int .i64 jm, .int .i64 ja, .int .i64 ct, .int .i64 ca]).seven.2.2.1 (Blk.new w 26 #[.int .i64 side, .int .i64 mass, .int .i64 ball, .int .i64 jm, .int .i64 ja, .int .i64 ct, .int .i64 ca]).seven.2.2.2.1 (Blk.new w 26 #[.int .i64 side, .int .i64 mass, .int .i64 ball, .int .i64 jm, .int .i64 ja, .int .i64 ct, .int .i64 ca]).seven.2.2.2.2.1 (Blk.new w 26 #[.int .i64 side, .int .i64 mass, .int .i64 ball, .int .i64 jm, .int .i64 ja, .int .i64 ct, .int .i64 ca]).seven.2.2.2.2.2.1 (Blk.new w 26 #[.int .i64 side, .int .i64 mass, .int .i64 ball, .int .i64 jm, .int .i64 ja, .int .i64 ct, .int .i64 ca]).seven.2.2.2.2.2.2
    have C' : Calls Try.prog 37 #[.pointer (some ⟨w.heap.size, 0, none⟩), .int .i64 load, .int .i64 radius] (w.alloc (.cells #[.int .i64 side, .int .i64 mass, .int .i64 ball, .int .i64 jm, .int .i64 ja, .int .i64 ct, .int .i64 ca] 26)) fun e w' => e = .returned (.int .i64 1) ∧ w.alloc (.cells #[.int .i64 side, .int .i64 mass, .int .i64 ball, .int .i64 jm, .int .i64 ja, .int .i64 ct, .int .i64 ca] 26) = w' := by simpa [codeV, h0] using C
    have HC := Lib.hid C'
    clear C C'
    clear h0
    go_enter Try.func12, Try.ntmps12
    go_wp2_with fail
    refine HC.out.mono ?_
    rintro e w' ⟨rfl, rfl⟩
    go_wp2
    go_ret2
    exact ⟨rfl, below_alloc1 w _⟩
  · skip
    cases h1 : inB load 0 50000
    · have E : resMomentOf side mass ball jm ja ct ca load radius = .tuple #[.int .i64 0, .int .i64 2] := by unfold resMomentOf codeRes; simp [h0, h1]
      rw [E]; clear E
      have C := l06Code_any side mass ball jm ja ct ca load radius w.heap.size _ (Blk.new w 26 #[.int .i64 side, .int .i64 mass, .int .i64 ball, .int .i64 jm, .int .i64 ja, .int .i64 ct, .int .i64 ca]).seven.1 (Blk.new w 26 #[.int .i64 side, .int .i64 mass, .int .i64 ball, .int .i64 jm, .int .i64 ja, .int .i64 ct, .int .i64 ca]).seven.2.1 (Blk.new w 26 #[.int .i64 side, .int .i64 mass, .int .i64 ball, .int .i64 jm, .int .i64 ja, .int .i64 ct, .int .i64 ca]).seven.2.2.1 (Blk.new w 26 #[.int .i64 side, .int .i64 mass, .int .i64 ball, .int .i64 jm, .int .i64 ja, .int .i64 ct, .int .i64 ca]).seven.2.2.2.1 (Blk.new w 26 #[.int .i64 side, .int .i64 mass, .int .i64 ball, .int .i64 jm, .int .i64 ja, .int .i64 ct, .int .i64 ca]).seven.2.2.2.2.1 (Blk.new w 26 #[.int .i64 side, .int .i64 mass, .int .i64 ball, .int .i64 jm, .int .i64 ja, .int .i64 ct, .int .i64 ca]).seven.2.2.2.2.2.1 (Blk.new w 26 #[.int .i64 side, .int .i64 mass, .int .i64 ball, .int .i64 jm, .int .i64 ja, .int .i64 ct, .int .i64 ca]).seven.2.2.2.2.2.2
      have C' : Calls Try.prog 37 #[.pointer (some ⟨w.heap.size, 0, none⟩), .int .i64 load, .int .i64 radius] (w.alloc (.cells #[.int .i64 side, .int .i64 mass, .int .i64 ball, .int .i64 jm, .int .i64 ja, .int .i64 ct, .int .i64 ca] 26)) fun e w' => e = .returned (.int .i64 2) ∧ w.alloc (.cells #[.int .i64 side, .int .i64 mass, .int .i64 ball, .int .i64 jm, .int .i64 ja, .int .i64 ct, .int .i64 ca] 26) = w' := by simpa [codeV, h0, h1] using C
      have HC := Lib.hid C'
      clear C C'
      clear h0 h1
      go_enter Try.func12, Try.ntmps12
      go_wp2_with fail
      refine HC.out.mono ?_
      rintro e w' ⟨rfl, rfl⟩
      go_wp2
      go_ret2
      exact ⟨rfl, below_alloc1 w _⟩
    · skip
      cases h2 : inB radius 0 1000
      · have E : resMomentOf side mass ball jm ja ct ca load radius = .tuple #[.int .i64 0, .int .i64 2] := by unfold resMomentOf codeRes; simp [h0, h1, h2]
        rw [E]; clear E
        have C := l06Code_any side mass ball jm ja ct ca load radius w.heap.size _ (Blk.new w 26 #[.int .i64 side, .int .i64 mass, .int .i64 ball, .int .i64 jm, .int .i64 ja, .int .i64 ct, .int .i64 ca]).seven.1 (Blk.new w 26 #[.int .i64 side, .int .i64 mass, .int .i64 ball, .int .i64 jm, .int .i64 ja, .int .i64 ct, .int .i64 ca]).seven.2.1 (Blk.new w 26 #[.int .i64 side, .int .i64 mass, .int .i64 ball, .int .i64 jm, .int .i64 ja, .int .i64 ct, .int .i64 ca]).seven.2.2.1 (Blk.new w 26 #[.int .i64 side, .int .i64 mass, .int .i64 ball, .int .i64 jm, .int .i64 ja, .int .i64 ct, .int .i64 ca]).seven.2.2.2.1 (Blk.new w 26 #[.int .i64 side, .int .i64 mass, .int .i64 ball, .int .i64 jm, .int .i64 ja, .int .i64 ct, .int .i64 ca]).seven.2.2.2.2.1 (Blk.new w 26 #[.int .i64 side, .int .i64 mass, .int .i64 ball, .int .i64 jm, .int .i64 ja, .int .i64 ct, .int .i64 ca]).seven.2.2.2.2.2.1 (Blk.new w 26 #[.int .i64 side, .int .i64 mass, .int .i64 ball, .int .i64 jm, .int .i64 ja, .int .i64 ct, .int .i64 ca]).seven.2.2.2.2.2.2
        have C' : Calls Try.prog 37 #[.pointer (some ⟨w.heap.size, 0, none⟩), .int .i64 load, .int .i64 radius] (w.alloc (.cells #[.int .i64 side, .int .i64 mass, .int .i64 ball, .int .i64 jm, .int .i64 ja, .int .i64 ct, .int .i64 ca] 26)) fun e w' => e = .returned (.int .i64 2) ∧ w.alloc (.cells #[.int .i64 side, .int .i64 mass, .int .i64 ball, .int .i64 jm, .int .i64 ja, .int .i64 ct, .int .i64 ca] 26) = w' := by simpa [codeV, h0, h1, h2] using C
        have HC := Lib.hid C'
        clear C C'
        clear h0 h1 h2
        go_enter Try.func12, Try.ntmps12
        go_wp2_with fail
        refine HC.out.mono ?_
        rintro e w' ⟨rfl, rfl⟩
        go_wp2
        go_ret2
        exact ⟨rfl, below_alloc1 w _⟩
      · have E : resMomentOf side mass ball jm ja ct ca load radius = .tuple #[.int .i64 (momentZ jm ja ct ca load radius), .int .i64 0] := by unfold resMomentOf codeRes; simp [h0, h1, h2]
        rw [E]; clear E
        have C := l06Code_any side mass ball jm ja ct ca load radius w.heap.size _ (Blk.new w 26 #[.int .i64 side, .int .i64 mass, .int .i64 ball, .int .i64 jm, .int .i64 ja, .int .i64 ct, .int .i64 ca]).seven.1 (Blk.new w 26 #[.int .i64 side, .int .i64 mass, .int .i64 ball, .int .i64 jm, .int .i64 ja, .int .i64 ct, .int .i64 ca]).seven.2.1 (Blk.new w 26 #[.int .i64 side, .int .i64 mass, .int .i64 ball, .int .i64 jm, .int .i64 ja, .int .i64 ct, .int .i64 ca]).seven.2.2.1 (Blk.new w 26 #[.int .i64 side, .int .i64 mass, .int .i64 ball, .int .i64 jm, .int .i64 ja, .int .i64 ct, .int .i64 ca]).seven.2.2.2.1 (Blk.new w 26 #[.int .i64 side, .int .i64 mass, .int .i64 ball, .int .i64 jm, .int .i64 ja, .int .i64 ct, .int .i64 ca]).seven.2.2.2.2.1 (Blk.new w 26 #[.int .i64 side, .int .i64 mass, .int .i64 ball, .int .i64 jm, .int .i64 ja, .int .i64 ct, .int .i64 ca]).seven.2.2.2.2.2.1 (Blk.new w 26 #[.int .i64 side, .int .i64 mass, .int .i64 ball, .int .i64 jm, .int .i64 ja, .int .i64 ct, .int .i64 ca]).seven.2.2.2.2.2.2
        have C' : Calls Try.prog 37 #[.pointer (some ⟨w.heap.size, 0, none⟩), .int .i64 load, .int .i64 radius] (w.alloc (.cells #[.int .i64 side, .int .i64 mass, .int .i64 ball, .int .i64 jm, .int .i64 ja, .int .i64 ct, .int .i64 ca] 26)) fun e w' => e = .returned (.int .i64 0) ∧ w.alloc (.cells #[.int .i64 side, .int .i64 mass, .int .i64 ball, .int .i64 jm, .int .i64 ja, .int .i64 ct, .int .i64 ca] 26) = w' := by simpa [codeV, h0, h1, h2] using C
        have HC := Lib.hid C'
        clear C C'
        have X0 := Lib.hid h0
        have X1 := Lib.hid h1
        have X2 := Lib.hid h2
        clear h0 h1 h2
        go_enter Try.func12, Try.ntmps12
        go_wp2_with fail
        refine HC.out.mono ?_
        rintro e w' ⟨rfl, rfl⟩
        go_wp2_with fail
        refine (l06Moment_any _ _ _ _ _ _ _ _ _ w.heap.size _ X0.out X1.out X2.out (Blk.new w 26 #[.int .i64 side, .int .i64 mass, .int .i64 ball, .int .i64 jm, .int .i64 ja, .int .i64 ct, .int .i64 ca]).seven.1 (Blk.new w 26 #[.int .i64 side, .int .i64 mass, .int .i64 ball, .int .i64 jm, .int .i64 ja, .int .i64 ct, .int .i64 ca]).seven.2.1 (Blk.new w 26 #[.int .i64 side, .int .i64 mass, .int .i64 ball, .int .i64 jm, .int .i64 ja, .int .i64 ct, .int .i64 ca]).seven.2.2.1 (Blk.new w 26 #[.int .i64 side, .int .i64 mass, .int .i64 ball, .int .i64 jm, .int .i64 ja, .int .i64 ct, .int .i64 ca]).seven.2.2.2.1 (Blk.new w 26 #[.int .i64 side, .int .i64 mass, .int .i64 ball, .int .i64 jm, .int .i64 ja, .int .i64 ct, .int .i64 ca]).seven.2.2.2.2.1 (Blk.new w 26 #[.int .i64 side, .int .i64 mass, .int .i64 ball, .int .i64 jm, .int .i64 ja, .int .i64 ct, .int .i64 ca]).seven.2.2.2.2.2.1 (Blk.new w 26 #[.int .i64 side, .int .i64 mass, .int .i64 ball, .int .i64 jm, .int .i64 ja, .int .i64 ct, .int .i64 ca]).seven.2.2.2.2.2.2).mono ?_
        rintro e w1 ⟨rfl, hb1⟩
        have KA1 := (Blk.new w _ _).on hb1
        have B1 := (below_alloc1 w _).trans (hb1.mono (below_alloc1 w _).size)
        clear hb1
        obtain ⟨a0, a1, a2, a3, a4, a5, a6⟩ := KA1.seven
        go_wp2
        go_ret2
        exact ⟨rfl, B1⟩
set_option maxHeartbeats 1000000 in
theorem FnExactMomentOf_walk (side : Int) (_wside : (Lit.int .i64 side).wf = true) (mass : Int) (_wmass : (Lit.int .i64 mass).wf = true) (ball : Int) (_wball : (Lit.int .i64 ball).wf = true) (jm : Int) (_wjm : (Lit.int .i64 jm).wf = true) (ja : Int) (_wja : (Lit.int .i64 ja).wf = true) (ct : Int) (_wct : (Lit.int .i64 ct).wf = true) (ca : Int) (_wca : (Lit.int .i64 ca).wf = true) (load : Int) (_wload : (Lit.int .i64 load).wf = true) (radius : Int) (_wradius : (Lit.int .i64 radius).wf = true) (w : World) : Calls Try.prog 3 #[.agg #[.int .i64 side, .int .i64 mass, .int .i64 ball, .int .i64 jm, .int .i64 ja, .int .i64 ct, .int .i64 ca], .int .i64 load, .int .i64 radius] w fun e w' => e = .returned (.bool true) ∧ Below w.heap.size w w' := by
  clear _wside _wmass _wball _wjm _wja _wct _wca _wload _wradius
  have F : ∃ (x : Int) (y : Int), resMomentOf side mass ball jm ja ct ca load radius = .tuple #[.int .i64 x, .int .i64 y] := by unfold resMomentOf codeRes; split <;> exact ⟨_, _, rfl⟩
  obtain ⟨x, y, F⟩ := F
  have C : ∀ w, Calls Try.prog 12 #[.agg #[.int .i64 side, .int .i64 mass, .int .i64 ball, .int .i64 jm, .int .i64 ja, .int .i64 ct, .int .i64 ca], .int .i64 load, .int .i64 radius] w fun e w' => e = .returned (.tuple #[.int .i64 x, .int .i64 y]) ∧ Below w.heap.size w w' := fun w => by rw [← F]; exact specMomentOf_any side mass ball jm ja ct ca load radius w
  have H1 := Lib.hid C
  clear C
  have C : ∀ w, Calls Try.prog 14 #[.agg #[.int .i64 side, .int .i64 mass, .int .i64 ball, .int .i64 jm, .int .i64 ja, .int .i64 ct, .int .i64 ca], .int .i64 load, .int .i64 radius] w fun e w' => e = .returned (.tuple #[.int .i64 x, .int .i64 y]) ∧ Below w.heap.size w w' := fun w => by rw [← F]; exact implMomentOf_any side mass ball jm ja ct ca load radius w
  have H2 := Lib.hid C
  clear C
  clear F
  go_enter Try.func3, Try.ntmps3
  go_wp2_with fail
  refine (toBase_any _ _ _ _ _ _ _ _).mono ?_
  rintro e w1 ⟨rfl, hb1⟩
  have KA1 := (Blk.new w _ _).on hb1
  have B1 := (below_alloc1 w _).trans (hb1.mono (below_alloc1 w _).size)
  clear hb1
  go_wp2_with fail
  refine (H1.out _).mono ?_
  rintro e w2 ⟨rfl, hb2⟩
  have KA2 := KA1.on hb2
  have B2 := B1.trans (hb2.mono B1.size)
  clear hb2 B1 KA1
  obtain ⟨a0, a1, a2, a3, a4, a5, a6⟩ := KA2.seven
  go_wp2_with fail
  refine (toBase_any _ _ _ _ _ _ _ _).mono ?_
  rintro e w3 ⟨rfl, hb3⟩
  clear a0 a1 a2 a3 a4 a5 a6
  have KA3 := KA2.on hb3
  have B3 := B2.trans (hb3.mono B2.size)
  clear hb3 B2 KA2
  go_wp2_with fail
  refine (H2.out _).mono ?_
  rintro e w4 ⟨rfl, hb4⟩
  have KA4 := KA3.on hb4
  have B4 := B3.trans (hb4.mono B3.size)
  clear hb4 B3 KA3
  go_wp2
  go_ret
  exact ⟨rfl, B4⟩
def resIsStable (side mass ball jm ja ct ca load radius percent : Int) : Value := codeRes (baseB side mass ball jm ja ct ca) (inB load 0 50000 && inB radius 0 1000 && inB percent 100 1000) (.tuple #[.bool (stableB side mass ball jm ja ct ca load radius percent), .int .i64 0]) (.bool false)
set_option maxHeartbeats 1000000 in
theorem implIsStable_any (side mass ball jm ja ct ca load radius percent : Int) (w : World) : Calls Try.prog 18 #[.agg #[.int .i64 side, .int .i64 mass, .int .i64 ball, .int .i64 jm, .int .i64 ja, .int .i64 ct, .int .i64 ca], .int .i64 load, .int .i64 radius, .int .i64 percent] w fun e w' => e = .returned (resIsStable side mass ball jm ja ct ca load radius percent) ∧ Below w.heap.size w w' := by
  cases h0 : baseB side mass ball jm ja ct ca
  · have E : resIsStable side mass ball jm ja ct ca load radius percent = .tuple #[.bool false, .int .i64 1] := by unfold resIsStable codeRes; simp [h0]
    rw [E]; clear E
    have C : ∀ w, Calls Try.prog 39 #[.agg #[.int .i64 side, .int .i64 mass, .int .i64 ball, .int .i64 jm, .int .i64 ja, .int .i64 ct, .int .i64 ca], .int .i64 load, .int .i64 radius, .int .i64 percent] w fun e w' => e = .returned (.int .i64 1) ∧ Below w.heap.size w w' := fun w => by have := baseCode_any side mass ball jm ja ct ca load radius percent w; simpa [codeV, h0] using this
    have HC := Lib.hid C
    clear C
    clear h0
    go_enter Try.func18, Try.ntmps18
    go_wp2_with fail
    refine (HC.out _).mono ?_
    rintro e w1 ⟨rfl, hb1⟩
    have KA1 := (Blk.new w _ _).on hb1
    have B1 := (below_alloc1 w _).trans (hb1.mono (below_alloc1 w _).size)
    clear hb1
    go_wp2
    go_ret2
    exact ⟨rfl, B1⟩
  · skip
    cases h1 : inB load 0 50000
    · have E : resIsStable side mass ball jm ja ct ca load radius percent = .tuple #[.bool false, .int .i64 2] := by unfold resIsStable codeRes; simp [h0, h1]
      rw [E]; clear E
      have C : ∀ w, Calls Try.prog 39 #[.agg #[.int .i64 side, .int .i64 mass, .int .i64 ball, .int .i64 jm, .int .i64 ja, .int .i64 ct, .int .i64 ca], .int .i64 load, .int .i64 radius, .int .i64 percent] w fun e w' => e = .returned (.int .i64 2) ∧ Below w.heap.size w w' := fun w => by have := baseCode_any side mass ball jm ja ct ca load radius percent w; simpa [codeV, h0, h1] using this
      have HC := Lib.hid C
      clear C
      clear h0 h1
      go_enter Try.func18, Try.ntmps18
      go_wp2_with fail
      refine (HC.out _).mono ?_
      rintro e w1 ⟨rfl, hb1⟩
      have KA1 := (Blk.new w _ _).on hb1
      have B1 := (below_alloc1 w _).trans (hb1.mono (below_alloc1 w _).size)
      clear hb1
      go_wp2
      go_ret2
      exact ⟨rfl, B1⟩
    · skip
      cases h2 : inB radius 0 1000
      · have E : resIsStable side mass ball jm ja ct ca load radius percent = .tuple #[.bool false, .int .i64 2] := by unfold resIsStable codeRes; simp [h0, h1, h2]
        rw [E]; clear E
        have C : ∀ w, Calls Try.prog 39 #[.agg #[.int .i64 side, .int .i64 mass, .int .i64 ball, .int .i64 jm, .int .i64 ja, .int .i64 ct, .int .i64 ca], .int .i64 load, .int .i64 radius, .int .i64 percent] w fun e w' => e = .returned (.int .i64 2) ∧ Below w.heap.size w w' := fun w => by have := baseCode_any side mass ball jm ja ct ca load radius percent w; simpa [codeV, h0, h1, h2] using this
        have HC := Lib.hid C
        clear C
        clear h0 h1 h2
        go_enter Try.func18, Try.ntmps18
        go_wp2_with fail
        refine (HC.out _).mono ?_
        rintro e w1 ⟨rfl, hb1⟩
        have KA1 := (Blk.new w _ _).on hb1
        have B1 := (below_alloc1 w _).trans (hb1.mono (below_alloc1 w _).size)
        clear hb1
        go_wp2
        go_ret2
        exact ⟨rfl, B1⟩
      · skip
        cases h3 : inB percent 100 1000
        · have E : resIsStable side mass ball jm ja ct ca load radius percent = .tuple #[.bool false, .int .i64 2] := by unfold resIsStable codeRes; simp [h0, h1, h2, h3]
          rw [E]; clear E
          have C : ∀ w, Calls Try.prog 39 #[.agg #[.int .i64 side, .int .i64 mass, .int .i64 ball, .int .i64 jm, .int .i64 ja, .int .i64 ct, .int .i64 ca], .int .i64 load, .int .i64 radius, .int .i64 percent] w fun e w' => e = .returned (.int .i64 2) ∧ Below w.heap.size w w' := fun w => by have := baseCode_any side mass ball jm ja ct ca load radius percent w; simpa [codeV, h0, h1, h2, h3] using this
          have HC := Lib.hid C
          clear C
          clear h0 h1 h2 h3
          go_enter Try.func18, Try.ntmps18
          go_wp2_with fail
          refine (HC.out _).mono ?_
          rintro e w1 ⟨rfl, hb1⟩
          have KA1 := (Blk.new w _ _).on hb1
          have B1 := (below_alloc1 w _).trans (hb1.mono (below_alloc1 w _).size)
          clear hb1
          go_wp2
          go_ret2
          exact ⟨rfl, B1⟩
        · have E : resIsStable side mass ball jm ja ct ca load radius percent = .tuple #[.bool (stableB side mass ball jm ja ct ca load radius percent), .int .i64 0] := by unfold resIsStable codeRes; simp [h0, h1, h2, h3]
          rw [E]; clear E
          have C : ∀ w, Calls Try.prog 39 #[.agg #[.int .i64 side, .int .i64 mass, .int .i64 ball, .int .i64 jm, .int .i64 ja, .int .i64 ct, .int .i64 ca], .int .i64 load, .int .i64 radius, .int .i64 percent] w fun e w' => e = .returned (.int .i64 0) ∧ Below w.heap.size w w' := fun w => by have := baseCode_any side mass ball jm ja ct ca load radius percent w; simpa [codeV, h0, h1, h2, h3] using this
          have HC := Lib.hid C
          clear C
          have X0 := Lib.hid h0
          have X1 := Lib.hid h1
          have X2 := Lib.hid h2
          have X3 := Lib.hid h3
          clear h0 h1 h2 h3
          go_enter Try.func18, Try.ntmps18
          go_wp2_with fail
          refine (HC.out _).mono ?_
          rintro e w1 ⟨rfl, hb1⟩
          have KA1 := (Blk.new w _ _).on hb1
          have B1 := (below_alloc1 w _).trans (hb1.mono (below_alloc1 w _).size)
          clear hb1
          obtain ⟨a0, a1, a2, a3, a4, a5, a6⟩ := KA1.seven
          go_wp2_with fail
          refine (stable_any _ _ _ _ _ _ _ _ _ _ _ X0.out X1.out X2.out X3.out).mono ?_
          rintro e w2 ⟨rfl, hb2⟩
          clear a0 a1 a2 a3 a4 a5 a6
          have KA2 := KA1.on hb2
          have B2 := B1.trans (hb2.mono B1.size)
          clear hb2 B1 KA1
          obtain ⟨a0, a1, a2, a3, a4, a5, a6⟩ := KA2.seven
          go_wp2
          go_ret2
          exact ⟨rfl, B2⟩
set_option maxHeartbeats 1000000 in
theorem specIsStable_any (side mass ball jm ja ct ca load radius percent : Int) (w : World) : Calls Try.prog 17 #[.agg #[.int .i64 side, .int .i64 mass, .int .i64 ball, .int .i64 jm, .int .i64 ja, .int .i64 ct, .int .i64 ca], .int .i64 load, .int .i64 radius, .int .i64 percent] w fun e w' => e = .returned (resIsStable side mass ball jm ja ct ca load radius percent) ∧ Below w.heap.size w w' := by
  cases h0 : baseB side mass ball jm ja ct ca
  · have E : resIsStable side mass ball jm ja ct ca load radius percent = .tuple #[.bool false, .int .i64 1] := by unfold resIsStable codeRes; simp [h0]
    rw [E]; clear E
    have C := l06Asked_any side mass ball jm ja ct ca load radius percent w.heap.size _ (Blk.new w 26 #[.int .i64 side, .int .i64 mass, .int .i64 ball, .int .i64 jm, .int .i64 ja, .int .i64 ct, .int .i64 ca]).seven.1 (Blk.new w 26 #[.int .i64 side, .int .i64 mass, .int .i64 ball, .int .i64 jm, .int .i64 ja, .int .i64 ct, .int .i64 ca]).seven.2.1 (Blk.new w 26 #[.int .i64 side, .int .i64 mass, .int .i64 ball, .int .i64 jm, .int .i64 ja, .int .i64 ct, .int .i64 ca]).seven.2.2.1 (Blk.new w 26 #[.int .i64 side, .int .i64 mass, .int .i64 ball, .int .i64 jm, .int .i64 ja, .int .i64 ct, .int .i64 ca]).seven.2.2.2.1 (Blk.new w 26 #[.int .i64 side, .int .i64 mass, .int .i64 ball, .int .i64 jm, .int .i64 ja, .int .i64 ct, .int .i64 ca]).seven.2.2.2.2.1 (Blk.new w 26 #[.int .i64 side, .int .i64 mass, .int .i64 ball, .int .i64 jm, .int .i64 ja, .int .i64 ct, .int .i64 ca]).seven.2.2.2.2.2.1 (Blk.new w 26 #[.int .i64 side, .int .i64 mass, .int .i64 ball, .int .i64 jm, .int .i64 ja, .int .i64 ct, .int .i64 ca]).seven.2.2.2.2.2.2
    have C' : Calls Try.prog 43 #[.pointer (some ⟨w.heap.size, 0, none⟩), .int .i64 load, .int .i64 radius, .int .i64 percent] (w.alloc (.cells #[.int .i64 side, .int .i64 mass, .int .i64 ball, .int .i64 jm, .int .i64 ja, .int .i64 ct, .int .i64 ca] 26)) fun e w' => e = .returned (.int .i64 1) ∧ w.alloc (.cells #[.int .i64 side, .int .i64 mass, .int .i64 ball, .int .i64 jm, .int .i64 ja, .int .i64 ct, .int .i64 ca] 26) = w' := by simpa [codeV, h0] using C
    have HC := Lib.hid C'
    clear C C'
    clear h0
    go_enter Try.func17, Try.ntmps17
    go_wp2_with fail
    refine HC.out.mono ?_
    rintro e w' ⟨rfl, rfl⟩
    go_wp2
    go_ret2
    exact ⟨rfl, below_alloc1 w _⟩
  · skip
    cases h1 : inB load 0 50000
    · have E : resIsStable side mass ball jm ja ct ca load radius percent = .tuple #[.bool false, .int .i64 2] := by unfold resIsStable codeRes; simp [h0, h1]
      rw [E]; clear E
      have C := l06Asked_any side mass ball jm ja ct ca load radius percent w.heap.size _ (Blk.new w 26 #[.int .i64 side, .int .i64 mass, .int .i64 ball, .int .i64 jm, .int .i64 ja, .int .i64 ct, .int .i64 ca]).seven.1 (Blk.new w 26 #[.int .i64 side, .int .i64 mass, .int .i64 ball, .int .i64 jm, .int .i64 ja, .int .i64 ct, .int .i64 ca]).seven.2.1 (Blk.new w 26 #[.int .i64 side, .int .i64 mass, .int .i64 ball, .int .i64 jm, .int .i64 ja, .int .i64 ct, .int .i64 ca]).seven.2.2.1 (Blk.new w 26 #[.int .i64 side, .int .i64 mass, .int .i64 ball, .int .i64 jm, .int .i64 ja, .int .i64 ct, .int .i64 ca]).seven.2.2.2.1 (Blk.new w 26 #[.int .i64 side, .int .i64 mass, .int .i64 ball, .int .i64 jm, .int .i64 ja, .int .i64 ct, .int .i64 ca]).seven.2.2.2.2.1 (Blk.new w 26 #[.int .i64 side, .int .i64 mass, .int .i64 ball, .int .i64 jm, .int .i64 ja, .int .i64 ct, .int .i64 ca]).seven.2.2.2.2.2.1 (Blk.new w 26 #[.int .i64 side, .int .i64 mass, .int .i64 ball, .int .i64 jm, .int .i64 ja, .int .i64 ct, .int .i64 ca]).seven.2.2.2.2.2.2
      have C' : Calls Try.prog 43 #[.pointer (some ⟨w.heap.size, 0, none⟩), .int .i64 load, .int .i64 radius, .int .i64 percent] (w.alloc (.cells #[.int .i64 side, .int .i64 mass, .int .i64 ball, .int .i64 jm, .int .i64 ja, .int .i64 ct, .int .i64 ca] 26)) fun e w' => e = .returned (.int .i64 2) ∧ w.alloc (.cells #[.int .i64 side, .int .i64 mass, .int .i64 ball, .int .i64 jm, .int .i64 ja, .int .i64 ct, .int .i64 ca] 26) = w' := by simpa [codeV, h0, h1] using C
      have HC := Lib.hid C'
      clear C C'
      clear h0 h1
      go_enter Try.func17, Try.ntmps17
      go_wp2_with fail
      refine HC.out.mono ?_
      rintro e w' ⟨rfl, rfl⟩
      go_wp2
      go_ret2
      exact ⟨rfl, below_alloc1 w _⟩
    · skip
      cases h2 : inB radius 0 1000
      · have E : resIsStable side mass ball jm ja ct ca load radius percent = .tuple #[.bool false, .int .i64 2] := by unfold resIsStable codeRes; simp [h0, h1, h2]
        rw [E]; clear E
        have C := l06Asked_any side mass ball jm ja ct ca load radius percent w.heap.size _ (Blk.new w 26 #[.int .i64 side, .int .i64 mass, .int .i64 ball, .int .i64 jm, .int .i64 ja, .int .i64 ct, .int .i64 ca]).seven.1 (Blk.new w 26 #[.int .i64 side, .int .i64 mass, .int .i64 ball, .int .i64 jm, .int .i64 ja, .int .i64 ct, .int .i64 ca]).seven.2.1 (Blk.new w 26 #[.int .i64 side, .int .i64 mass, .int .i64 ball, .int .i64 jm, .int .i64 ja, .int .i64 ct, .int .i64 ca]).seven.2.2.1 (Blk.new w 26 #[.int .i64 side, .int .i64 mass, .int .i64 ball, .int .i64 jm, .int .i64 ja, .int .i64 ct, .int .i64 ca]).seven.2.2.2.1 (Blk.new w 26 #[.int .i64 side, .int .i64 mass, .int .i64 ball, .int .i64 jm, .int .i64 ja, .int .i64 ct, .int .i64 ca]).seven.2.2.2.2.1 (Blk.new w 26 #[.int .i64 side, .int .i64 mass, .int .i64 ball, .int .i64 jm, .int .i64 ja, .int .i64 ct, .int .i64 ca]).seven.2.2.2.2.2.1 (Blk.new w 26 #[.int .i64 side, .int .i64 mass, .int .i64 ball, .int .i64 jm, .int .i64 ja, .int .i64 ct, .int .i64 ca]).seven.2.2.2.2.2.2
        have C' : Calls Try.prog 43 #[.pointer (some ⟨w.heap.size, 0, none⟩), .int .i64 load, .int .i64 radius, .int .i64 percent] (w.alloc (.cells #[.int .i64 side, .int .i64 mass, .int .i64 ball, .int .i64 jm, .int .i64 ja, .int .i64 ct, .int .i64 ca] 26)) fun e w' => e = .returned (.int .i64 2) ∧ w.alloc (.cells #[.int .i64 side, .int .i64 mass, .int .i64 ball, .int .i64 jm, .int .i64 ja, .int .i64 ct, .int .i64 ca] 26) = w' := by simpa [codeV, h0, h1, h2] using C
        have HC := Lib.hid C'
        clear C C'
        clear h0 h1 h2
        go_enter Try.func17, Try.ntmps17
        go_wp2_with fail
        refine HC.out.mono ?_
        rintro e w' ⟨rfl, rfl⟩
        go_wp2
        go_ret2
        exact ⟨rfl, below_alloc1 w _⟩
      · skip
        cases h3 : inB percent 100 1000
        · have E : resIsStable side mass ball jm ja ct ca load radius percent = .tuple #[.bool false, .int .i64 2] := by unfold resIsStable codeRes; simp [h0, h1, h2, h3]
          rw [E]; clear E
          have C := l06Asked_any side mass ball jm ja ct ca load radius percent w.heap.size _ (Blk.new w 26 #[.int .i64 side, .int .i64 mass, .int .i64 ball, .int .i64 jm, .int .i64 ja, .int .i64 ct, .int .i64 ca]).seven.1 (Blk.new w 26 #[.int .i64 side, .int .i64 mass, .int .i64 ball, .int .i64 jm, .int .i64 ja, .int .i64 ct, .int .i64 ca]).seven.2.1 (Blk.new w 26 #[.int .i64 side, .int .i64 mass, .int .i64 ball, .int .i64 jm, .int .i64 ja, .int .i64 ct, .int .i64 ca]).seven.2.2.1 (Blk.new w 26 #[.int .i64 side, .int .i64 mass, .int .i64 ball, .int .i64 jm, .int .i64 ja, .int .i64 ct, .int .i64 ca]).seven.2.2.2.1 (Blk.new w 26 #[.int .i64 side, .int .i64 mass, .int .i64 ball, .int .i64 jm, .int .i64 ja, .int .i64 ct, .int .i64 ca]).seven.2.2.2.2.1 (Blk.new w 26 #[.int .i64 side, .int .i64 mass, .int .i64 ball, .int .i64 jm, .int .i64 ja, .int .i64 ct, .int .i64 ca]).seven.2.2.2.2.2.1 (Blk.new w 26 #[.int .i64 side, .int .i64 mass, .int .i64 ball, .int .i64 jm, .int .i64 ja, .int .i64 ct, .int .i64 ca]).seven.2.2.2.2.2.2
          have C' : Calls Try.prog 43 #[.pointer (some ⟨w.heap.size, 0, none⟩), .int .i64 load, .int .i64 radius, .int .i64 percent] (w.alloc (.cells #[.int .i64 side, .int .i64 mass, .int .i64 ball, .int .i64 jm, .int .i64 ja, .int .i64 ct, .int .i64 ca] 26)) fun e w' => e = .returned (.int .i64 2) ∧ w.alloc (.cells #[.int .i64 side, .int .i64 mass, .int .i64 ball, .int .i64 jm, .int .i64 ja, .int .i64 ct, .int .i64 ca] 26) = w' := by simpa [codeV, h0, h1, h2, h3] using C
          have HC := Lib.hid C'
          clear C C'
          clear h0 h1 h2 h3
          go_enter Try.func17, Try.ntmps17
          go_wp2_with fail
          refine HC.out.mono ?_
          rintro e w' ⟨rfl, rfl⟩
          go_wp2
          go_ret2
          exact ⟨rfl, below_alloc1 w _⟩
        · have E : resIsStable side mass ball jm ja ct ca load radius percent = .tuple #[.bool (stableB side mass ball jm ja ct ca load radius percent), .int .i64 0] := by unfold resIsStable codeRes; simp [h0, h1, h2, h3]
          rw [E]; clear E
          have C := l06Asked_any side mass ball jm ja ct ca load radius percent w.heap.size _ (Blk.new w 26 #[.int .i64 side, .int .i64 mass, .int .i64 ball, .int .i64 jm, .int .i64 ja, .int .i64 ct, .int .i64 ca]).seven.1 (Blk.new w 26 #[.int .i64 side, .int .i64 mass, .int .i64 ball, .int .i64 jm, .int .i64 ja, .int .i64 ct, .int .i64 ca]).seven.2.1 (Blk.new w 26 #[.int .i64 side, .int .i64 mass, .int .i64 ball, .int .i64 jm, .int .i64 ja, .int .i64 ct, .int .i64 ca]).seven.2.2.1 (Blk.new w 26 #[.int .i64 side, .int .i64 mass, .int .i64 ball, .int .i64 jm, .int .i64 ja, .int .i64 ct, .int .i64 ca]).seven.2.2.2.1 (Blk.new w 26 #[.int .i64 side, .int .i64 mass, .int .i64 ball, .int .i64 jm, .int .i64 ja, .int .i64 ct, .int .i64 ca]).seven.2.2.2.2.1 (Blk.new w 26 #[.int .i64 side, .int .i64 mass, .int .i64 ball, .int .i64 jm, .int .i64 ja, .int .i64 ct, .int .i64 ca]).seven.2.2.2.2.2.1 (Blk.new w 26 #[.int .i64 side, .int .i64 mass, .int .i64 ball, .int .i64 jm, .int .i64 ja, .int .i64 ct, .int .i64 ca]).seven.2.2.2.2.2.2
          have C' : Calls Try.prog 43 #[.pointer (some ⟨w.heap.size, 0, none⟩), .int .i64 load, .int .i64 radius, .int .i64 percent] (w.alloc (.cells #[.int .i64 side, .int .i64 mass, .int .i64 ball, .int .i64 jm, .int .i64 ja, .int .i64 ct, .int .i64 ca] 26)) fun e w' => e = .returned (.int .i64 0) ∧ w.alloc (.cells #[.int .i64 side, .int .i64 mass, .int .i64 ball, .int .i64 jm, .int .i64 ja, .int .i64 ct, .int .i64 ca] 26) = w' := by simpa [codeV, h0, h1, h2, h3] using C
          have HC := Lib.hid C'
          clear C C'
          have X0 := Lib.hid h0
          have X1 := Lib.hid h1
          have X2 := Lib.hid h2
          have X3 := Lib.hid h3
          clear h0 h1 h2 h3
          go_enter Try.func17, Try.ntmps17
          go_wp2_with fail
          refine HC.out.mono ?_
          rintro e w' ⟨rfl, rfl⟩
          go_wp2_with fail
          refine (l06Stable_any _ _ _ _ _ _ _ _ _ _ w.heap.size _ X0.out X1.out X2.out X3.out (Blk.new w 26 #[.int .i64 side, .int .i64 mass, .int .i64 ball, .int .i64 jm, .int .i64 ja, .int .i64 ct, .int .i64 ca]).seven.1 (Blk.new w 26 #[.int .i64 side, .int .i64 mass, .int .i64 ball, .int .i64 jm, .int .i64 ja, .int .i64 ct, .int .i64 ca]).seven.2.1 (Blk.new w 26 #[.int .i64 side, .int .i64 mass, .int .i64 ball, .int .i64 jm, .int .i64 ja, .int .i64 ct, .int .i64 ca]).seven.2.2.1 (Blk.new w 26 #[.int .i64 side, .int .i64 mass, .int .i64 ball, .int .i64 jm, .int .i64 ja, .int .i64 ct, .int .i64 ca]).seven.2.2.2.1 (Blk.new w 26 #[.int .i64 side, .int .i64 mass, .int .i64 ball, .int .i64 jm, .int .i64 ja, .int .i64 ct, .int .i64 ca]).seven.2.2.2.2.1 (Blk.new w 26 #[.int .i64 side, .int .i64 mass, .int .i64 ball, .int .i64 jm, .int .i64 ja, .int .i64 ct, .int .i64 ca]).seven.2.2.2.2.2.1 (Blk.new w 26 #[.int .i64 side, .int .i64 mass, .int .i64 ball, .int .i64 jm, .int .i64 ja, .int .i64 ct, .int .i64 ca]).seven.2.2.2.2.2.2).mono ?_
          rintro e w1 ⟨rfl, hb1⟩
          have KA1 := (Blk.new w _ _).on hb1
          have B1 := (below_alloc1 w _).trans (hb1.mono (below_alloc1 w _).size)
          clear hb1
          obtain ⟨a0, a1, a2, a3, a4, a5, a6⟩ := KA1.seven
          go_wp2
          go_ret2
          exact ⟨rfl, B1⟩
set_option maxHeartbeats 1000000 in
theorem FnExactIsStable_walk (side : Int) (_wside : (Lit.int .i64 side).wf = true) (mass : Int) (_wmass : (Lit.int .i64 mass).wf = true) (ball : Int) (_wball : (Lit.int .i64 ball).wf = true) (jm : Int) (_wjm : (Lit.int .i64 jm).wf = true) (ja : Int) (_wja : (Lit.int .i64 ja).wf = true) (ct : Int) (_wct : (Lit.int .i64 ct).wf = true) (ca : Int) (_wca : (Lit.int .i64 ca).wf = true) (load : Int) (_wload : (Lit.int .i64 load).wf = true) (radius : Int) (_wradius : (Lit.int .i64 radius).wf = true) (percent : Int) (_wpercent : (Lit.int .i64 percent).wf = true) (w : World) : Calls Try.prog 5 #[.agg #[.int .i64 side, .int .i64 mass, .int .i64 ball, .int .i64 jm, .int .i64 ja, .int .i64 ct, .int .i64 ca], .int .i64 load, .int .i64 radius, .int .i64 percent] w fun e w' => e = .returned (.bool true) ∧ Below w.heap.size w w' := by
  clear _wside _wmass _wball _wjm _wja _wct _wca _wload _wradius _wpercent
  have F : ∃ (x : Bool) (y : Int), resIsStable side mass ball jm ja ct ca load radius percent = .tuple #[.bool x, .int .i64 y] := by unfold resIsStable codeRes; split <;> exact ⟨_, _, rfl⟩
  obtain ⟨x, y, F⟩ := F
  have C : ∀ w, Calls Try.prog 17 #[.agg #[.int .i64 side, .int .i64 mass, .int .i64 ball, .int .i64 jm, .int .i64 ja, .int .i64 ct, .int .i64 ca], .int .i64 load, .int .i64 radius, .int .i64 percent] w fun e w' => e = .returned (.tuple #[.bool x, .int .i64 y]) ∧ Below w.heap.size w w' := fun w => by rw [← F]; exact specIsStable_any side mass ball jm ja ct ca load radius percent w
  have H1 := Lib.hid C
  clear C
  have C : ∀ w, Calls Try.prog 18 #[.agg #[.int .i64 side, .int .i64 mass, .int .i64 ball, .int .i64 jm, .int .i64 ja, .int .i64 ct, .int .i64 ca], .int .i64 load, .int .i64 radius, .int .i64 percent] w fun e w' => e = .returned (.tuple #[.bool x, .int .i64 y]) ∧ Below w.heap.size w w' := fun w => by rw [← F]; exact implIsStable_any side mass ball jm ja ct ca load radius percent w
  have H2 := Lib.hid C
  clear C
  clear F
  go_enter Try.func5, Try.ntmps5
  go_wp2_with fail
  refine (toBase_any _ _ _ _ _ _ _ _).mono ?_
  rintro e w1 ⟨rfl, hb1⟩
  have KA1 := (Blk.new w _ _).on hb1
  have B1 := (below_alloc1 w _).trans (hb1.mono (below_alloc1 w _).size)
  clear hb1
  go_wp2_with fail
  refine (H1.out _).mono ?_
  rintro e w2 ⟨rfl, hb2⟩
  have KA2 := KA1.on hb2
  have B2 := B1.trans (hb2.mono B1.size)
  clear hb2 B1 KA1
  obtain ⟨a0, a1, a2, a3, a4, a5, a6⟩ := KA2.seven
  go_wp2_with fail
  refine (toBase_any _ _ _ _ _ _ _ _).mono ?_
  rintro e w3 ⟨rfl, hb3⟩
  clear a0 a1 a2 a3 a4 a5 a6
  have KA3 := KA2.on hb3
  have B3 := B2.trans (hb3.mono B2.size)
  clear hb3 B2 KA2
  go_wp2_with fail
  refine (H2.out _).mono ?_
  rintro e w4 ⟨rfl, hb4⟩
  have KA4 := KA3.on hb4
  have B4 := B3.trans (hb4.mono B3.size)
  clear hb4 B3 KA3
  go_wp2
  go_ret
  exact ⟨rfl, B4⟩
end Go.Proofs.Ytfnoapejkpeacaa
