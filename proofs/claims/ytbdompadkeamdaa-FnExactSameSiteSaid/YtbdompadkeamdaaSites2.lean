/- Two cranes compared: the walks of both sides. -/
import Derived.Test.YtbdompadkeamdaaProg
import Derived.Test.YtbdompadkeamdaaKit
import Derived.Test.YtbdompadkeamdaaBasics
import Derived.Test.YtbdompadkeamdaaMem
import Derived.Test.YtbdompadkeamdaaCodeRes
import Derived.Test.YtbdompadkeamdaaLists
import Derived.Test.YtbdompadkeamdaaSteps
import Derived.Test.YtbdompadkeamdaaCharts
import Derived.Test.YtbdompadkeamdaaChartLaws
import Derived.Test.YtbdompadkeamdaaSame
import Derived.Test.YtbdompadkeamdaaSites
import Derived.Test.YtbdompadkeamdaaSiteLex
import Derived.Test.YtbdompadkeamdaaCranes
import Derived.Laws.StructEq
import Derived.Lib.QuietBelow
import Derived.BigQuiet
namespace Go.Proofs.Ytbdompadkeamdaa
open Go.RowKit Go.WideShapes Go.ChangeShapes Go.Joins Go.Deep Go.Sort
set_option linter.unusedVariables false
set_option linter.unusedSimpArgs false
theorem eqlPoint_run (x y x' y' : Int) (w : World) : (binOp .eql 39 (.agg #[.int .i64 x, .int .i64 y]) (.agg #[.int .i64 x', .int .i64 y'])).run Try.prog w = .ok (.bool (x == x' && y == y')) w := by
  have u3 := Try.underlying2
  have a3 := Try.isAgg2
  have z3 := Try.sizeOf2
  have hS : Try.prog.underlying 39 = some (.struct (Try.prog.fieldsOf 39)) := by kernel_rfl
  have hp : Try.prog.stoodInHeld 39 = false := by kernel_rfl
  rw [run_eql_struct, show (10000 : Nat) = 9999 + 1 from rfl, run_equalIn_agg w 9999 39 _ _ hS hp]
  simp only [Program.fieldsOf, Try.underlying39]
  go_simp
  by_cases h1 : x = x' <;> by_cases h2 : y = y' <;> simp [h1, h2]
theorem same0 {C D : Crn} (h : C.nm ≠ D.nm) : sameC C D = false := by unfold sameC; rw [decide_eq_false h]; rfl
theorem same1 {C D : Crn} (h : ¬ (C.x = D.x ∧ C.y = D.y)) : sameC C D = false := by unfold sameC; rw [decide_eq_false h]; simp
theorem same2 {C D : Crn} (h : C.ht ≠ D.ht) : sameC C D = false := by unfold sameC; rw [decide_eq_false h]; simp
theorem same3 {C D : Crn} (h : C.jb ≠ D.jb) : sameC C D = false := by unfold sameC; rw [decide_eq_false h]; simp
theorem same4 {C D : Crn} (h : C.bk ≠ D.bk) : sameC C D = false := by unfold sameC; rw [decide_eq_false h]; simp
theorem same5 {C D : Crn} (h0 : C.nm = D.nm) (h1 : C.x = D.x ∧ C.y = D.y) (h2 : C.ht = D.ht) (h3 : C.jb = D.jb) (h4 : C.bk = D.bk) : sameC C D = decide (C.L = D.L) := by
  unfold sameC; rw [decide_eq_true h0, decide_eq_true h1, decide_eq_true h2, decide_eq_true h3, decide_eq_true h4]; simp
theorem toList_ne {a b : ByteArray} (h : a ≠ b) : (a.toList == b.toList) = false := by
  rw [beq_eq_false_iff_ne]
  intro e
  apply h
  rw [ByteArray.toList_eq, ByteArray.toList_eq] at e
  exact ByteArray.ext (Array.toList_inj.1 e)
set_option maxHeartbeats 4000000 in
theorem l04Same_any (b o b' o' : Nat) (C D : Crn) (w : World) (h : CrnAt w w.heap.size b o C) (h' : CrnAt w w.heap.size b' o' D) :
    Calls Try.prog 95 #[.pointer (some ⟨b, o, none⟩), .pointer (some ⟨b', o', none⟩)] w fun e w' => e = .returned (.bool (sameC C D)) ∧ Below w.heap.size w w' := by
  obtain ⟨A, m, c, ⟨c0, c1, c2, c3, c4, c5, c6⟩, S, hm, hz⟩ := h
  obtain ⟨A', m', c', ⟨d0, d1, d2, d3, d4, d5, d6⟩, S', hm', hz'⟩ := h'
  have HC : Hid (∀ d os, Calls Try.prog 106 #[.slice A m c, .slice A' m' c'] (grow (redrawn w d) os) fun e w' => e = .returned (.bool (decide (C.L = D.L))) ∧ ∃ p : Regrown, w' = grow (redrawn w p.d) p.os) := fun d os => Calls.regrown_of (l03Same_any A A' m m' c c' C.L D.L _ (S.next (below_regrown w d os)) (S'.next (below_regrown w d os)) hm hm')
  clear S S'
  obtain ⟨nm, x, y, ht, jb, bk, L⟩ := C
  obtain ⟨nm', x', y', ht', jb', bk', L'⟩ := D
  simp only at c0 c1 c2 c3 c4 c5 d0 d1 d2 d3 d4 d5 hz hz' HC
  by_cases q : nm = nm'
  rotate_left
  · have E := Lib.hid (same0 (C := ⟨nm, x, y, ht, jb, bk, L⟩) (D := ⟨nm', x', y', ht', jb', bk', L'⟩) q)
    have e0 := toList_ne q
    clear q
    go_enter Try.func95, Try.ntmps95
    go_wp2
    have f0 := cell_regrown c0
    have f1 := cell_regrown c1
    have f2 := cell_regrown c2
    have f3 := cell_regrown c3
    have f4 := cell_regrown c4
    have f5 := cell_regrown c5
    have f6 := cell_regrown c6
    have g0 := cell_regrown d0
    have g1 := cell_regrown d1
    have g2 := cell_regrown d2
    have g3 := cell_regrown d3
    have g4 := cell_regrown d4
    have g5 := cell_regrown d5
    have g6 := cell_regrown d6
    simp only [List.append_eq, List.cons_append, List.nil_append]
    refine wp_region_quiet_below (by kernel_rfl) (lex_of (f := Try.f95) (n := 1) lex_same (by kernel_rfl)) ?_
    repeat (first | go_big_quiet_step (first | exact HC.out _ _) | quiet_step (first | exact HC.out _ _))
    refine wpQuiet_nil ?_
    intro w1 hw1
    have hb1 := class_below hw1
    clear f0 f1 f2 f3 f4 f5 f6 g0 g1 g2 g3 g4 g5 g6 hw1
    go_wp2
    go_ret
    exact ⟨ret_bool E.out.symm, hb1⟩
  subst q
  by_cases q : x = x' ∧ y = y'
  rotate_left
  · have E := Lib.hid (same1 (C := ⟨nm, x, y, ht, jb, bk, L⟩) (D := ⟨nm, x', y', ht', jb', bk', L'⟩) q)
    have e0 : (x == x' && y == y') = false := by by_cases r : x = x' <;> by_cases s : y = y' <;> simp_all
    have hg : Try.prog.eqGuardType Try.prog.depth 39 = false := by kernel_rfl
    have kn := eqlPoint_run x y x' y'
    rw [e0] at kn
    clear e0
    clear q
    go_enter Try.func95, Try.ntmps95
    go_wp2
    have f0 := cell_regrown c0
    have f1 := cell_regrown c1
    have f2 := cell_regrown c2
    have f3 := cell_regrown c3
    have f4 := cell_regrown c4
    have f5 := cell_regrown c5
    have f6 := cell_regrown c6
    have g0 := cell_regrown d0
    have g1 := cell_regrown d1
    have g2 := cell_regrown d2
    have g3 := cell_regrown d3
    have g4 := cell_regrown d4
    have g5 := cell_regrown d5
    have g6 := cell_regrown d6
    simp only [List.append_eq, List.cons_append, List.nil_append]
    refine wp_region_quiet_below (by kernel_rfl) (lex_of (f := Try.f95) (n := 1) lex_same (by kernel_rfl)) ?_
    repeat (first | go_big_quiet_step (first | exact HC.out _ _) | quiet_step (first | exact HC.out _ _))
    refine wpQuiet_nil ?_
    intro w1 hw1
    have hb1 := class_below hw1
    clear f0 f1 f2 f3 f4 f5 f6 g0 g1 g2 g3 g4 g5 g6 hw1
    go_wp2
    go_ret
    exact ⟨ret_bool E.out.symm, hb1⟩
  obtain ⟨q1, q2⟩ := q
  subst q1 q2
  by_cases q : ht = ht'
  rotate_left
  · have E := Lib.hid (same2 (C := ⟨nm, x, y, ht, jb, bk, L⟩) (D := ⟨nm, x, y, ht', jb', bk', L'⟩) q)
    have e0 : (ht == ht') = false := by simpa using q
    have hg : Try.prog.eqGuardType Try.prog.depth 39 = false := by kernel_rfl
    have kn := eqlPoint_run x y x y
    rw [show (x == x && y == y) = true by simp] at kn
    clear q
    go_enter Try.func95, Try.ntmps95
    go_wp2
    have f0 := cell_regrown c0
    have f1 := cell_regrown c1
    have f2 := cell_regrown c2
    have f3 := cell_regrown c3
    have f4 := cell_regrown c4
    have f5 := cell_regrown c5
    have f6 := cell_regrown c6
    have g0 := cell_regrown d0
    have g1 := cell_regrown d1
    have g2 := cell_regrown d2
    have g3 := cell_regrown d3
    have g4 := cell_regrown d4
    have g5 := cell_regrown d5
    have g6 := cell_regrown d6
    simp only [List.append_eq, List.cons_append, List.nil_append]
    refine wp_region_quiet_below (by kernel_rfl) (lex_of (f := Try.f95) (n := 1) lex_same (by kernel_rfl)) ?_
    repeat (first | go_big_quiet_step (first | exact HC.out _ _) | quiet_step (first | exact HC.out _ _))
    refine wpQuiet_nil ?_
    intro w1 hw1
    have hb1 := class_below hw1
    clear f0 f1 f2 f3 f4 f5 f6 g0 g1 g2 g3 g4 g5 g6 hw1
    go_wp2
    go_ret
    exact ⟨ret_bool E.out.symm, hb1⟩
  subst q
  by_cases q : jb = jb'
  rotate_left
  · have E := Lib.hid (same3 (C := ⟨nm, x, y, ht, jb, bk, L⟩) (D := ⟨nm, x, y, ht, jb', bk', L'⟩) q)
    have e0 : (jb == jb') = false := by simpa using q
    have hg : Try.prog.eqGuardType Try.prog.depth 39 = false := by kernel_rfl
    have kn := eqlPoint_run x y x y
    rw [show (x == x && y == y) = true by simp] at kn
    clear q
    go_enter Try.func95, Try.ntmps95
    go_wp2
    have f0 := cell_regrown c0
    have f1 := cell_regrown c1
    have f2 := cell_regrown c2
    have f3 := cell_regrown c3
    have f4 := cell_regrown c4
    have f5 := cell_regrown c5
    have f6 := cell_regrown c6
    have g0 := cell_regrown d0
    have g1 := cell_regrown d1
    have g2 := cell_regrown d2
    have g3 := cell_regrown d3
    have g4 := cell_regrown d4
    have g5 := cell_regrown d5
    have g6 := cell_regrown d6
    simp only [List.append_eq, List.cons_append, List.nil_append]
    refine wp_region_quiet_below (by kernel_rfl) (lex_of (f := Try.f95) (n := 1) lex_same (by kernel_rfl)) ?_
    repeat (first | go_big_quiet_step (first | exact HC.out _ _) | quiet_step (first | exact HC.out _ _))
    refine wpQuiet_nil ?_
    intro w1 hw1
    have hb1 := class_below hw1
    clear f0 f1 f2 f3 f4 f5 f6 g0 g1 g2 g3 g4 g5 g6 hw1
    go_wp2
    go_ret
    exact ⟨ret_bool E.out.symm, hb1⟩
  subst q
  by_cases q : bk = bk'
  rotate_left
  · have E := Lib.hid (same4 (C := ⟨nm, x, y, ht, jb, bk, L⟩) (D := ⟨nm, x, y, ht, jb, bk', L'⟩) q)
    have e0 : (bk == bk') = false := by simpa using q
    have hg : Try.prog.eqGuardType Try.prog.depth 39 = false := by kernel_rfl
    have kn := eqlPoint_run x y x y
    rw [show (x == x && y == y) = true by simp] at kn
    clear q
    go_enter Try.func95, Try.ntmps95
    go_wp2
    have f0 := cell_regrown c0
    have f1 := cell_regrown c1
    have f2 := cell_regrown c2
    have f3 := cell_regrown c3
    have f4 := cell_regrown c4
    have f5 := cell_regrown c5
    have f6 := cell_regrown c6
    have g0 := cell_regrown d0
    have g1 := cell_regrown d1
    have g2 := cell_regrown d2
    have g3 := cell_regrown d3
    have g4 := cell_regrown d4
    have g5 := cell_regrown d5
    have g6 := cell_regrown d6
    simp only [List.append_eq, List.cons_append, List.nil_append]
    refine wp_region_quiet_below (by kernel_rfl) (lex_of (f := Try.f95) (n := 1) lex_same (by kernel_rfl)) ?_
    repeat (first | go_big_quiet_step (first | exact HC.out _ _) | quiet_step (first | exact HC.out _ _))
    refine wpQuiet_nil ?_
    intro w1 hw1
    have hb1 := class_below hw1
    clear f0 f1 f2 f3 f4 f5 f6 g0 g1 g2 g3 g4 g5 g6 hw1
    go_wp2
    go_ret
    exact ⟨ret_bool E.out.symm, hb1⟩
  subst q
  have E := Lib.hid (same5 (C := ⟨nm, x, y, ht, jb, bk, L⟩) (D := ⟨nm, x, y, ht, jb, bk, L'⟩) rfl ⟨rfl, rfl⟩ rfl rfl rfl)
  have hg : Try.prog.eqGuardType Try.prog.depth 39 = false := by kernel_rfl
  have kn := eqlPoint_run x y x y
  rw [show (x == x && y == y) = true by simp] at kn
  generalize decide (L = L') = r at HC E
  go_enter Try.func95, Try.ntmps95
  go_wp2
  have f0 := cell_regrown c0
  have f1 := cell_regrown c1
  have f2 := cell_regrown c2
  have f3 := cell_regrown c3
  have f4 := cell_regrown c4
  have f5 := cell_regrown c5
  have f6 := cell_regrown c6
  have g0 := cell_regrown d0
  have g1 := cell_regrown d1
  have g2 := cell_regrown d2
  have g3 := cell_regrown d3
  have g4 := cell_regrown d4
  have g5 := cell_regrown d5
  have g6 := cell_regrown d6
  simp only [List.append_eq, List.cons_append, List.nil_append]
  refine wp_region_quiet_below (by kernel_rfl) (lex_of (f := Try.f95) (n := 1) lex_same (by kernel_rfl)) ?_
  repeat (first | go_big_quiet_step (first | exact HC.out _ _) | quiet_step (first | exact HC.out _ _))
  refine wpQuiet_nil ?_
  intro w1 hw1
  have hb1 := class_below hw1
  clear f0 f1 f2 f3 f4 f5 f6 g0 g1 g2 g3 g4 g5 g6 hw1
  go_wp2
  go_ret
  exact ⟨ret_bool E.out.symm, hb1⟩
set_option maxHeartbeats 4000000 in
theorem sameCrane_any (nm nm' : ByteArray) (x y ht jb bk x' y' ht' jb' bk' : Int) (L L' : List (Int × Int)) (A A' : Option Addr) (m c m' c' : Nat) (w : World) (S : Steps w w.heap.size A m L) (S' : Steps w w.heap.size A' m' L') (hm : m ≤ maxLen) (hm' : m' ≤ maxLen) :
    Calls Try.prog 79 #[craneV nm x y ht jb bk A m c, craneV nm' x' y' ht' jb' bk' A' m' c'] w fun e w' => e = .returned (.bool (sameC ⟨nm, x, y, ht, jb, bk, L⟩ ⟨nm', x', y', ht', jb', bk', L'⟩)) ∧ Below w.heap.size w w' := by
  have HE := Lib.hid (fun W (hb : Below w.heap.size w W) => slicesEqual_any A A' m m' c c' L L' W (S.next hb) (S'.next hb) hm hm')
  clear S S'
  by_cases q : nm = nm'
  rotate_left
  · have E := Lib.hid (same0 (C := ⟨nm, x, y, ht, jb, bk, L⟩) (D := ⟨nm', x', y', ht', jb', bk', L'⟩) q)
    have e0 := toList_ne q
    clear q
    go_enter Try.func79, Try.ntmps79
    go_wp2
    go_ret
    exact ⟨ret_bool E.out.symm, below_alloc2 w _ _⟩
  subst q
  by_cases q : x = x' ∧ y = y'
  rotate_left
  · have E := Lib.hid (same1 (C := ⟨nm, x, y, ht, jb, bk, L⟩) (D := ⟨nm, x', y', ht', jb', bk', L'⟩) q)
    have e0 : (x == x' && y == y') = false := by by_cases r : x = x' <;> by_cases s : y = y' <;> simp_all
    have hg : Try.prog.eqGuardType Try.prog.depth 39 = false := by kernel_rfl
    have kn := eqlPoint_run x y x' y'
    rw [e0] at kn
    clear e0
    clear q
    go_enter Try.func79, Try.ntmps79
    go_wp2
    go_ret
    exact ⟨ret_bool E.out.symm, below_alloc2 w _ _⟩
  obtain ⟨q1, q2⟩ := q
  subst q1 q2
  by_cases q : ht = ht'
  rotate_left
  · have E := Lib.hid (same2 (C := ⟨nm, x, y, ht, jb, bk, L⟩) (D := ⟨nm, x, y, ht', jb', bk', L'⟩) q)
    have e0 : (ht == ht') = false := by simpa using q
    have hg : Try.prog.eqGuardType Try.prog.depth 39 = false := by kernel_rfl
    have kn := eqlPoint_run x y x y
    rw [show (x == x && y == y) = true by simp] at kn
    clear q
    go_enter Try.func79, Try.ntmps79
    go_wp2
    go_ret
    exact ⟨ret_bool E.out.symm, below_alloc2 w _ _⟩
  subst q
  by_cases q : jb = jb'
  rotate_left
  · have E := Lib.hid (same3 (C := ⟨nm, x, y, ht, jb, bk, L⟩) (D := ⟨nm, x, y, ht, jb', bk', L'⟩) q)
    have e0 : (jb == jb') = false := by simpa using q
    have hg : Try.prog.eqGuardType Try.prog.depth 39 = false := by kernel_rfl
    have kn := eqlPoint_run x y x y
    rw [show (x == x && y == y) = true by simp] at kn
    clear q
    go_enter Try.func79, Try.ntmps79
    go_wp2
    go_ret
    exact ⟨ret_bool E.out.symm, below_alloc2 w _ _⟩
  subst q
  by_cases q : bk = bk'
  rotate_left
  · have E := Lib.hid (same4 (C := ⟨nm, x, y, ht, jb, bk, L⟩) (D := ⟨nm, x, y, ht, jb, bk', L'⟩) q)
    have e0 : (bk == bk') = false := by simpa using q
    have hg : Try.prog.eqGuardType Try.prog.depth 39 = false := by kernel_rfl
    have kn := eqlPoint_run x y x y
    rw [show (x == x && y == y) = true by simp] at kn
    clear q
    go_enter Try.func79, Try.ntmps79
    go_wp2
    go_ret
    exact ⟨ret_bool E.out.symm, below_alloc2 w _ _⟩
  subst q
  have E := Lib.hid (same5 (C := ⟨nm, x, y, ht, jb, bk, L⟩) (D := ⟨nm, x, y, ht, jb, bk, L'⟩) rfl ⟨rfl, rfl⟩ rfl rfl rfl)
  have hg : Try.prog.eqGuardType Try.prog.depth 39 = false := by kernel_rfl
  have kn := eqlPoint_run x y x y
  rw [show (x == x && y == y) = true by simp] at kn
  generalize decide (L = L') = r at HE E
  go_enter Try.func79, Try.ntmps79
  go_wp2_with fail
  refine name_world (f := fun w => Calls _ _ _ w _) ?_
  intro W hW
  have BW : Below w.heap.size w W := by rw [hW]; exact below_alloc2 w _ _
  with_reducible refine (HE.out _ BW).mono ?_
  rintro en w1 ⟨rfl, hb1⟩
  clear hW
  go_wp2
  go_ret
  exact ⟨ret_bool E.out.symm, BW.trans (hb1.mono BW.size)⟩
end Go.Proofs.Ytbdompadkeamdaa
