/- Walks over the moment, the mass and the codes of a base; the laws of the mass and the moment. -/
import Derived.Test.YtfnoapejkpeacaaProg
import Derived.Test.YtfnoapejkpeacaaKit
import Derived.Test.YtfnoapejkpeacaaBasics
import Derived.Test.YtfnoapejkpeacaaBases
import Derived.Test.YtfnoapejkpeacaaCodeRes
namespace Go.Proofs.Ytfnoapejkpeacaa
open Go.RowKit Go.WideShapes Go.ChangeShapes Go.Joins Go.Deep Go.Sort
set_option linter.unusedVariables false

/-! ### the plain laws -/
def totalZ (mass ball jm ct load : Int) : Int := mass + ball + jm + ct + load
def momentZ (jm ja ct ca load radius : Int) : Int := load * radius + jm * ja - ct * ca
theorem good_bounds {side mass ball jm ja ct ca load radius : Int} (h : baseB side mass ball jm ja ct ca = true) (l : inB load 0 50000 = true) (r : inB radius 0 1000 = true) :
    0 ≤ load * radius ∧ load * radius ≤ 50000 * 1000 ∧ 0 ≤ jm * ja ∧ jm * ja ≤ 500000 * 1000 ∧ 0 ≤ ct * ca ∧ ct * ca ≤ 500000 * 1000 := by
  have hb := baseB_of h
  have hl := inB_of l
  have hr := inB_of r
  have a := mul_bd hl.1 hl.2 hr.1 hr.2
  have b := mul_bd (a := jm) (b := ja) (A := 500000) (B := 1000) (by omega) (by omega) (by omega) (by omega)
  have c := mul_bd (a := ct) (b := ca) (A := 500000) (B := 1000) (by omega) (by omega) (by omega) (by omega)
  omega
theorem moment_bounds {side mass ball jm ja ct ca load radius : Int} (h : baseB side mass ball jm ja ct ca = true) (l : inB load 0 50000 = true) (r : inB radius 0 1000 = true) : -500000000 ≤ momentZ jm ja ct ca load radius ∧ momentZ jm ja ct ca load radius ≤ 550000000 := by
  have := good_bounds h l r
  unfold momentZ; omega
theorem total_bounds {side mass ball jm ja ct ca load : Int} (h : baseB side mass ball jm ja ct ca = true) (l : inB load 0 50000 = true) : 1 ≤ totalZ mass ball jm ct load ∧ totalZ mass ball jm ct load ≤ 2050000 := by
  have := baseB_of h
  have := inB_of l
  unfold totalZ; omega

theorem total_any (side mass ball jm ja ct ca load : Int) (w : World) (h : baseB side mass ball jm ja ct ca = true) (l : inB load 0 50000 = true) : Calls Try.prog 42 #[.agg #[.int .i64 side, .int .i64 mass, .int .i64 ball, .int .i64 jm, .int .i64 ja, .int .i64 ct, .int .i64 ca], .int .i64 load] w fun e w' => e = .returned (.int .i64 (totalZ mass ball jm ct load)) ∧ Below w.heap.size w w' := by
  have hb := baseB_of h
  have hl := inB_of l
  clear h l
  go_enter Try.func42, Try.ntmps42
  go_wp2
  go_ret
  exact ⟨rfl, below_alloc1 w _⟩
theorem l06Total_any (side mass ball jm ja ct ca load : Int) (g : Nat) (w : World) (h : baseB side mass ball jm ja ct ca = true) (l : inB load 0 50000 = true) (c0 : w.cell? ⟨g, 0, none⟩ = some (.int .i64 side)) (c1 : w.cell? ⟨g, 1, none⟩ = some (.int .i64 mass)) (c2 : w.cell? ⟨g, 2, none⟩ = some (.int .i64 ball)) (c3 : w.cell? ⟨g, 3, none⟩ = some (.int .i64 jm)) (c4 : w.cell? ⟨g, 4, none⟩ = some (.int .i64 ja)) (c5 : w.cell? ⟨g, 5, none⟩ = some (.int .i64 ct)) (c6 : w.cell? ⟨g, 6, none⟩ = some (.int .i64 ca)) : Calls Try.prog 41 #[.pointer (some ⟨g, 0, none⟩), .int .i64 load] w fun e w' => e = .returned (.int .i64 (totalZ mass ball jm ct load)) ∧ Below w.heap.size w w' := by
  have hb := baseB_of h
  have hl := inB_of l
  clear h l
  go_enter Try.func41, Try.ntmps41
  go_wp2
  go_quiet (fail)
  go_wp2
  go_ret
  exact ⟨rfl, below_draws _ _ _⟩
theorem moment_any (side mass ball jm ja ct ca load radius : Int) (w : World) (h : baseB side mass ball jm ja ct ca = true) (l : inB load 0 50000 = true) (r : inB radius 0 1000 = true) : Calls Try.prog 40 #[.agg #[.int .i64 side, .int .i64 mass, .int .i64 ball, .int .i64 jm, .int .i64 ja, .int .i64 ct, .int .i64 ca], .int .i64 load, .int .i64 radius] w fun e w' => e = .returned (.int .i64 (momentZ jm ja ct ca load radius)) ∧ Below w.heap.size w w' := by
  obtain ⟨k1, k2, k3, k4, k5, k6⟩ := good_bounds h l r
  clear h l r
  go_enter Try.func40, Try.ntmps40
  go_wp2
  go_ret
  exact ⟨rfl, below_alloc1 w _⟩
theorem l06Moment_any (side mass ball jm ja ct ca load radius : Int) (g : Nat) (w : World) (h : baseB side mass ball jm ja ct ca = true) (l : inB load 0 50000 = true) (r : inB radius 0 1000 = true) (c0 : w.cell? ⟨g, 0, none⟩ = some (.int .i64 side)) (c1 : w.cell? ⟨g, 1, none⟩ = some (.int .i64 mass)) (c2 : w.cell? ⟨g, 2, none⟩ = some (.int .i64 ball)) (c3 : w.cell? ⟨g, 3, none⟩ = some (.int .i64 jm)) (c4 : w.cell? ⟨g, 4, none⟩ = some (.int .i64 ja)) (c5 : w.cell? ⟨g, 5, none⟩ = some (.int .i64 ct)) (c6 : w.cell? ⟨g, 6, none⟩ = some (.int .i64 ca)) : Calls Try.prog 38 #[.pointer (some ⟨g, 0, none⟩), .int .i64 load, .int .i64 radius] w fun e w' => e = .returned (.int .i64 (momentZ jm ja ct ca load radius)) ∧ Below w.heap.size w w' := by
  obtain ⟨k1, k2, k3, k4, k5, k6⟩ := good_bounds h l r
  clear h l r
  go_enter Try.func38, Try.ntmps38
  go_wp2
  go_quiet (fail)
  go_wp2
  go_ret
  exact ⟨rfl, below_draws _ _ _⟩
set_option maxHeartbeats 1000000 in
theorem baseCode_any (side mass ball jm ja ct ca load radius percent : Int) (w : World) : Calls Try.prog 39 #[.agg #[.int .i64 side, .int .i64 mass, .int .i64 ball, .int .i64 jm, .int .i64 ja, .int .i64 ct, .int .i64 ca], .int .i64 load, .int .i64 radius, .int .i64 percent] w fun e w' => e = .returned (.int .i64 (codeV (baseB side mass ball jm ja ct ca) (inB load 0 50000 && inB radius 0 1000 && inB percent 100 1000))) ∧ Below w.heap.size w w' := by
  cases h0 : baseB side mass ball jm ja ct ca
  · rw [codeV_f]
    have vb := Lib.hid fun w => implValidBase_any side mass ball jm ja ct ca w
    rw [h0] at vb
    clear h0
    go_enter Try.func39, Try.ntmps39
    go_wp2_with fail
    refine (vb.out _).mono ?_
    rintro e w1 ⟨rfl, hb1⟩
    have KA1 := (Blk.new w _ _).on hb1
    have B1 := (below_alloc1 w _).trans (hb1.mono (below_alloc1 w _).size)
    clear hb1
    go_wp2_with (first | (go_at_call 63; refine (within_any _ _ _ _).mono ?_; rintro e w' ⟨rfl, rfl⟩))
    go_ret
    exact ⟨rfl, B1⟩
  · skip
    cases h1 : inB load 0 50000
    · rw [Bool.false_and, Bool.false_and, codeV_tf]
      have vb := Lib.hid fun w => implValidBase_any side mass ball jm ja ct ca w
      rw [h0] at vb
      clear h0
      go_enter Try.func39, Try.ntmps39
      go_wp2_with fail
      refine (vb.out _).mono ?_
      rintro e w1 ⟨rfl, hb1⟩
      have KA1 := (Blk.new w _ _).on hb1
      have B1 := (below_alloc1 w _).trans (hb1.mono (below_alloc1 w _).size)
      clear hb1
      go_wp2_with (first | (go_at_call 63; refine (within_any _ _ _ _).mono ?_; rintro e w' ⟨rfl, rfl⟩))
      go_ret
      exact ⟨rfl, B1⟩
    · skip
      cases h2 : inB radius 0 1000
      · rw [Bool.true_and, Bool.false_and, codeV_tf]
        have vb := Lib.hid fun w => implValidBase_any side mass ball jm ja ct ca w
        rw [h0] at vb
        clear h0
        go_enter Try.func39, Try.ntmps39
        go_wp2_with fail
        refine (vb.out _).mono ?_
        rintro e w1 ⟨rfl, hb1⟩
        have KA1 := (Blk.new w _ _).on hb1
        have B1 := (below_alloc1 w _).trans (hb1.mono (below_alloc1 w _).size)
        clear hb1
        go_wp2_with (first | (go_at_call 63; refine (within_any _ _ _ _).mono ?_; rintro e w' ⟨rfl, rfl⟩))
        go_ret
        exact ⟨rfl, B1⟩
      · skip
        cases h3 : inB percent 100 1000
        · rw [Bool.true_and, Bool.true_and, codeV_tf]
          have vb := Lib.hid fun w => implValidBase_any side mass ball jm ja ct ca w
          rw [h0] at vb
          clear h0
          go_enter Try.func39, Try.ntmps39
          go_wp2_with fail
          refine (vb.out _).mono ?_
          rintro e w1 ⟨rfl, hb1⟩
          have KA1 := (Blk.new w _ _).on hb1
          have B1 := (below_alloc1 w _).trans (hb1.mono (below_alloc1 w _).size)
          clear hb1
          go_wp2_with (first | (go_at_call 63; refine (within_any _ _ _ _).mono ?_; rintro e w' ⟨rfl, rfl⟩))
          go_ret
          exact ⟨rfl, B1⟩
        · rw [Bool.true_and, Bool.true_and, codeV_tt]
          have vb := Lib.hid fun w => implValidBase_any side mass ball jm ja ct ca w
          rw [h0] at vb
          clear h0
          go_enter Try.func39, Try.ntmps39
          go_wp2_with fail
          refine (vb.out _).mono ?_
          rintro e w1 ⟨rfl, hb1⟩
          have KA1 := (Blk.new w _ _).on hb1
          have B1 := (below_alloc1 w _).trans (hb1.mono (below_alloc1 w _).size)
          clear hb1
          go_wp2_with (first | (go_at_call 63; refine (within_any _ _ _ _).mono ?_; rintro e w' ⟨rfl, rfl⟩))
          go_ret
          exact ⟨rfl, B1⟩
set_option maxHeartbeats 1000000 in
theorem l06Code_any (side mass ball jm ja ct ca load radius : Int) (g : Nat) (w : World) (c0 : w.cell? ⟨g, 0, none⟩ = some (.int .i64 side)) (c1 : w.cell? ⟨g, 1, none⟩ = some (.int .i64 mass)) (c2 : w.cell? ⟨g, 2, none⟩ = some (.int .i64 ball)) (c3 : w.cell? ⟨g, 3, none⟩ = some (.int .i64 jm)) (c4 : w.cell? ⟨g, 4, none⟩ = some (.int .i64 ja)) (c5 : w.cell? ⟨g, 5, none⟩ = some (.int .i64 ct)) (c6 : w.cell? ⟨g, 6, none⟩ = some (.int .i64 ca)) : Calls Try.prog 37 #[.pointer (some ⟨g, 0, none⟩), .int .i64 load, .int .i64 radius] w fun e w' => e = .returned (.int .i64 (codeV (baseB side mass ball jm ja ct ca) (inB load 0 50000 && inB radius 0 1000))) ∧ w = w' := by
  cases h0 : baseB side mass ball jm ja ct ca
  · rw [codeV_f]
    have vb := Lib.hid (l06Ok_any side mass ball jm ja ct ca g w c0 c1 c2 c3 c4 c5 c6)
    rw [h0] at vb
    clear h0
    go_enter Try.func37, Try.ntmps37
    go_wp2_with fail
    refine vb.out.mono ?_
    rintro e w' ⟨rfl, rfl⟩
    go_wp2_with (first | (go_at_call 61; refine (l00In_any _ _ _ _).mono ?_; rintro e w' ⟨rfl, rfl⟩))
    go_ret
    exact ⟨rfl, rfl⟩
  · skip
    cases h1 : inB load 0 50000
    · rw [Bool.false_and, codeV_tf]
      have vb := Lib.hid (l06Ok_any side mass ball jm ja ct ca g w c0 c1 c2 c3 c4 c5 c6)
      rw [h0] at vb
      clear h0
      go_enter Try.func37, Try.ntmps37
      go_wp2_with fail
      refine vb.out.mono ?_
      rintro e w' ⟨rfl, rfl⟩
      go_wp2_with (first | (go_at_call 61; refine (l00In_any _ _ _ _).mono ?_; rintro e w' ⟨rfl, rfl⟩))
      go_ret
      exact ⟨rfl, rfl⟩
    · skip
      cases h2 : inB radius 0 1000
      · rw [Bool.true_and, codeV_tf]
        have vb := Lib.hid (l06Ok_any side mass ball jm ja ct ca g w c0 c1 c2 c3 c4 c5 c6)
        rw [h0] at vb
        clear h0
        go_enter Try.func37, Try.ntmps37
        go_wp2_with fail
        refine vb.out.mono ?_
        rintro e w' ⟨rfl, rfl⟩
        go_wp2_with (first | (go_at_call 61; refine (l00In_any _ _ _ _).mono ?_; rintro e w' ⟨rfl, rfl⟩))
        go_ret
        exact ⟨rfl, rfl⟩
      · rw [Bool.true_and, codeV_tt]
        have vb := Lib.hid (l06Ok_any side mass ball jm ja ct ca g w c0 c1 c2 c3 c4 c5 c6)
        rw [h0] at vb
        clear h0
        go_enter Try.func37, Try.ntmps37
        go_wp2_with fail
        refine vb.out.mono ?_
        rintro e w' ⟨rfl, rfl⟩
        go_wp2_with (first | (go_at_call 61; refine (l00In_any _ _ _ _).mono ?_; rintro e w' ⟨rfl, rfl⟩))
        go_ret
        exact ⟨rfl, rfl⟩
theorem l06Percent_any (n : Int) (w : World) : Calls Try.prog 56 #[.int .i64 n] w fun e w' => e = .returned (.bool (inB n 100 1000)) ∧ w = w' := by
  go_enter Try.func56, Try.ntmps56
  go_wp2_with (first | (go_at_call 61; refine (l00In_any _ _ _ _).mono ?_; rintro e w' ⟨rfl, rfl⟩))
  go_ret
  exact ⟨rfl, rfl⟩
set_option maxHeartbeats 1000000 in
theorem l06Asked_any (side mass ball jm ja ct ca load radius percent : Int) (g : Nat) (w : World) (c0 : w.cell? ⟨g, 0, none⟩ = some (.int .i64 side)) (c1 : w.cell? ⟨g, 1, none⟩ = some (.int .i64 mass)) (c2 : w.cell? ⟨g, 2, none⟩ = some (.int .i64 ball)) (c3 : w.cell? ⟨g, 3, none⟩ = some (.int .i64 jm)) (c4 : w.cell? ⟨g, 4, none⟩ = some (.int .i64 ja)) (c5 : w.cell? ⟨g, 5, none⟩ = some (.int .i64 ct)) (c6 : w.cell? ⟨g, 6, none⟩ = some (.int .i64 ca)) : Calls Try.prog 43 #[.pointer (some ⟨g, 0, none⟩), .int .i64 load, .int .i64 radius, .int .i64 percent] w fun e w' => e = .returned (.int .i64 (codeV (baseB side mass ball jm ja ct ca) (inB load 0 50000 && inB radius 0 1000 && inB percent 100 1000))) ∧ w = w' := by
  cases h0 : baseB side mass ball jm ja ct ca
  · rw [codeV_f]
    have vb := l06Code_any side mass ball jm ja ct ca load radius g w c0 c1 c2 c3 c4 c5 c6
    rw [h0, codeV_f] at vb
    have VB := Lib.hid vb
    clear vb h0 c0 c1 c2 c3 c4 c5 c6
    go_enter Try.func43, Try.ntmps43
    go_wp2_with fail
    refine VB.out.mono ?_
    rintro e w' ⟨rfl, rfl⟩
    go_wp2_with (first | (go_at_call 56; refine (l06Percent_any _ _).mono ?_; rintro e w' ⟨rfl, rfl⟩))
    go_ret
    exact ⟨rfl, rfl⟩
  · skip
    cases h1 : inB load 0 50000
    · rw [Bool.false_and, Bool.false_and, codeV_tf]
      have vb := l06Code_any side mass ball jm ja ct ca load radius g w c0 c1 c2 c3 c4 c5 c6
      rw [h0, h1, Bool.false_and, codeV_tf] at vb
      have VB := Lib.hid vb
      clear vb h0 c0 c1 c2 c3 c4 c5 c6
      go_enter Try.func43, Try.ntmps43
      go_wp2_with fail
      refine VB.out.mono ?_
      rintro e w' ⟨rfl, rfl⟩
      go_wp2_with (first | (go_at_call 56; refine (l06Percent_any _ _).mono ?_; rintro e w' ⟨rfl, rfl⟩))
      go_ret
      exact ⟨rfl, rfl⟩
    · skip
      cases h2 : inB radius 0 1000
      · rw [Bool.true_and, Bool.false_and, codeV_tf]
        have vb := l06Code_any side mass ball jm ja ct ca load radius g w c0 c1 c2 c3 c4 c5 c6
        rw [h0, h1, h2, Bool.true_and, codeV_tf] at vb
        have VB := Lib.hid vb
        clear vb h0 c0 c1 c2 c3 c4 c5 c6
        go_enter Try.func43, Try.ntmps43
        go_wp2_with fail
        refine VB.out.mono ?_
        rintro e w' ⟨rfl, rfl⟩
        go_wp2_with (first | (go_at_call 56; refine (l06Percent_any _ _).mono ?_; rintro e w' ⟨rfl, rfl⟩))
        go_ret
        exact ⟨rfl, rfl⟩
      · skip
        cases h3 : inB percent 100 1000
        · rw [Bool.true_and, Bool.true_and, codeV_tf]
          have vb := l06Code_any side mass ball jm ja ct ca load radius g w c0 c1 c2 c3 c4 c5 c6
          rw [h0, h1, h2, Bool.true_and, codeV_tt] at vb
          have VB := Lib.hid vb
          clear vb h0 c0 c1 c2 c3 c4 c5 c6
          go_enter Try.func43, Try.ntmps43
          go_wp2_with fail
          refine VB.out.mono ?_
          rintro e w' ⟨rfl, rfl⟩
          go_wp2_with (first | (go_at_call 56; refine (l06Percent_any _ _).mono ?_; rintro e w' ⟨rfl, rfl⟩))
          go_ret
          exact ⟨rfl, rfl⟩
        · rw [Bool.true_and, Bool.true_and, codeV_tt]
          have vb := l06Code_any side mass ball jm ja ct ca load radius g w c0 c1 c2 c3 c4 c5 c6
          rw [h0, h1, h2, Bool.true_and, codeV_tt] at vb
          have VB := Lib.hid vb
          clear vb h0 c0 c1 c2 c3 c4 c5 c6
          go_enter Try.func43, Try.ntmps43
          go_wp2_with fail
          refine VB.out.mono ?_
          rintro e w' ⟨rfl, rfl⟩
          go_wp2_with (first | (go_at_call 56; refine (l06Percent_any _ _).mono ?_; rintro e w' ⟨rfl, rfl⟩))
          go_ret
          exact ⟨rfl, rfl⟩
end Go.Proofs.Ytfnoapejkpeacaa
