/- The walk of the law of places. -/
import Derived.Test.YtofoihohendjgaaProg
import Derived.Test.YtofoihohendjgaaKit
import Derived.Test.YtofoihohendjgaaBasics
import Derived.Test.YtofoihohendjgaaMem
import Derived.Test.YtofoihohendjgaaDirs
import Derived.Test.YtofoihohendjgaaSquares
import Derived.Test.YtofoihohendjgaaSrc
import Derived.Test.YtofoihohendjgaaSrc2
import Derived.Test.YtofoihohendjgaaSrc3
import Derived.Test.YtofoihohendjgaaTri
import Derived.Laws.StructEq
namespace Go.Proofs.Ytofoihohendjgaa
open Go.RowKit Go.WideShapes Go.ChangeShapes Go.Joins Go.Deep Go.Sort
set_option linter.unusedVariables false
set_option linter.unusedSimpArgs false
theorem ptEq_run (x y x' y' : Int) (w : World) : (binOp .eql 26 (.agg #[.int .i64 x, .int .i64 y]) (.agg #[.int .i64 x', .int .i64 y'])).run Try.prog w = .ok (.bool (x == x' && y == y')) w := by
  have u3 := Try.underlying2
  have a3 := Try.isAgg2
  have z3 := Try.sizeOf2
  have hS : Try.prog.underlying 26 = some (.struct (Try.prog.fieldsOf 26)) := by kernel_rfl
  have hp : Try.prog.stoodInHeld 26 = false := by kernel_rfl
  rw [run_eql_struct, show (10000 : Nat) = 9999 + 1 from rfl, run_equalIn_agg w 9999 26 _ _ hS hp]
  simp only [Program.fieldsOf, Try.underlying26]
  go_simp
  by_cases h1 : x = x' <;> by_cases h2 : y = y' <;> simp [h1, h2]
theorem near_place {x y : Int} (h : Near x y) : placeB x y = true := by
  unfold Near at h
  rw [placeB_iff]
  omega
set_option maxRecDepth 100000 in
set_option maxHeartbeats 2000000 in
theorem FnPlaces_walk (w : World) (A : Option Addr) (n c : Nat) (hn : n ≤ maxLen) (hB : BytesAt w w.heap.size A n) : Calls Try.prog 8 #[.slice A n c] w fun en w' => en = .returned (.bool true) ∧ Below w.heap.size w w' := by
  have HL := Lib.hid (a2Long_nil A n c w hn)
  by_cases hh : 3000 < n
  · rw [show decide (3000 < n) = true by simpa using hh] at HL
    clear hB hh hn
    go_enter Try.func8, Try.ntmps8
    go_wp2_with fail
    refine HL.out.mono ?_
    rintro en w1 ⟨rfl, rfl⟩
    go_wp2
    go_ret
    exact ⟨rfl, Below.refl _ _⟩
  · rw [show decide (3000 < n) = false by simpa using hh] at HL
    have HA := Lib.hid (A2Places_any A n c w hB (by omega))
    clear hB hh hn
    have hg : Try.prog.eqGuardType Try.prog.depth 26 = false := by kernel_rfl
    go_enter Try.func8, Try.ntmps8
    go_wp2_with fail
    refine HL.out.mono ?_
    rintro en w1 ⟨rfl, rfl⟩
    go_wp2_with fail
    refine HA.out.mono ?_
    rintro en w1 ⟨ax, ay, bx, cy, dx, dy, rfl, na, nb, nc, hb1⟩
    have pa := near_place na
    have pb := near_place nb
    have pc := near_place nc
    obtain ⟨sq, r, s, t, E1, E2, E3, E4, E5, q0, q1, r0, r1, s0, s1, tt, k1, k2, k3⟩ := places_law pa pb pc
    have C1 : Hid (∀ w, Calls Try.prog 11 #[.agg #[.int .i64 ax, .int .i64 ay], .agg #[.int .i64 bx, .int .i64 cy]] w fun e w' => e = .returned (.tuple #[.int .i64 sq, .int .i64 0]) ∧ Below w.heap.size w w') := fun w => by have := implSquareBetween_any ax ay bx cy w; rwa [pa, pb, E1] at this
    have C2 : Hid (∀ w, Calls Try.prog 11 #[.agg #[.int .i64 bx, .int .i64 cy], .agg #[.int .i64 ax, .int .i64 ay]] w fun e w' => e = .returned (.tuple #[.int .i64 sq, .int .i64 0]) ∧ Below w.heap.size w w') := fun w => by have := implSquareBetween_any bx cy ax ay w; rwa [pa, pb, E2] at this
    have C3 : Hid (∀ w, Calls Try.prog 17 #[.agg #[.int .i64 ax, .int .i64 ay], .agg #[.int .i64 bx, .int .i64 cy]] w fun e w' => e = .returned (.tuple #[.int .i64 r, .int .i64 0]) ∧ Below w.heap.size w w') := fun w => by have := implRadiusBetween_any ax ay bx cy w; rwa [pa, pb, E3] at this
    have C4 : Hid (∀ w, Calls Try.prog 17 #[.agg #[.int .i64 bx, .int .i64 cy], .agg #[.int .i64 dx, .int .i64 dy]] w fun e w' => e = .returned (.tuple #[.int .i64 s, .int .i64 0]) ∧ Below w.heap.size w w') := fun w => by have := implRadiusBetween_any bx cy dx dy w; rwa [pb, pc, E4] at this
    have C5 : Hid (∀ w, Calls Try.prog 17 #[.agg #[.int .i64 ax, .int .i64 ay], .agg #[.int .i64 dx, .int .i64 dy]] w fun e w' => e = .returned (.tuple #[.int .i64 t, .int .i64 0]) ∧ Below w.heap.size w w') := fun w => by have := implRadiusBetween_any ax ay dx dy w; rwa [pa, pc, E5] at this
    have C6 : Hid (∀ w, Calls Try.prog 15 #[.int .i64 sq] w fun e w' => e = .returned (.tuple #[.int .i64 r, .int .i64 0]) ∧ w = w') := fun w => by have := implRootUp_any sq w; rw [show inB sq 0 1000000000000 = true by rw [inB_iff]; omega, ← E1, E3] at this; rwa [E1] at this
    clear E1 E2 E3 E4 E5 na nb nc pa pb pc
    have B1 : Below w.heap.size w (((w1.alloc (.cells #[.int .i64 ax, .int .i64 ay] 26)).alloc (.cells #[.int .i64 bx, .int .i64 cy] 26)).alloc (.cells #[.int .i64 dx, .int .i64 dy] 26)) := hb1.trans ((below_alloc3 w1 _ _ _).mono hb1.size)
    have KU1 : Blk (((w1.alloc (.cells #[.int .i64 ax, .int .i64 ay] 26)).alloc (.cells #[.int .i64 bx, .int .i64 cy] 26)).alloc (.cells #[.int .i64 dx, .int .i64 dy] 26)) w1.heap.size 26 #[.int .i64 ax, .int .i64 ay] := ((Blk.new w1 _ _).alloc _).alloc _
    have KV1 : Blk (((w1.alloc (.cells #[.int .i64 ax, .int .i64 ay] 26)).alloc (.cells #[.int .i64 bx, .int .i64 cy] 26)).alloc (.cells #[.int .i64 dx, .int .i64 dy] 26)) (w1.heap.size + 1) 26 #[.int .i64 bx, .int .i64 cy] := (Blk.new2 w1 _ _ _).alloc _
    have KP1 : Blk (((w1.alloc (.cells #[.int .i64 ax, .int .i64 ay] 26)).alloc (.cells #[.int .i64 bx, .int .i64 cy] 26)).alloc (.cells #[.int .i64 dx, .int .i64 dy] 26)) (w1.heap.size + 1 + 1) 26 #[.int .i64 dx, .int .i64 dy] := Blk.new3 w1 _ _ _ _
    clear hb1
    have KU1 := Lib.hid KU1
    have KV1 := Lib.hid KV1
    have KP1 := Lib.hid KP1
    have B1 := Lib.hid B1
    obtain ⟨U_0, U_1⟩ := KU1.out.two
    obtain ⟨V_0, V_1⟩ := KV1.out.two
    obtain ⟨P_0, P_1⟩ := KP1.out.two
    go_wp2_with fail
    refine (C1.out _).mono ?_
    rintro en w2 ⟨rfl, hb2⟩
    clear U_0 U_1 V_0 V_1 P_0 P_1
    have KU2 := (KU1.out).on hb2
    have KV2 := (KV1.out).on hb2
    have KP2 := (KP1.out).on hb2
    have B2 := B1.out.trans (hb2.mono B1.out.size)
    clear hb2 B1 KU1 KV1 KP1
    have KU2 := Lib.hid KU2
    have KV2 := Lib.hid KV2
    have KP2 := Lib.hid KP2
    have B2 := Lib.hid B2
    obtain ⟨U_0, U_1⟩ := KU2.out.two
    obtain ⟨V_0, V_1⟩ := KV2.out.two
    obtain ⟨P_0, P_1⟩ := KP2.out.two
    go_wp2_with fail
    refine (C2.out _).mono ?_
    rintro en w3 ⟨rfl, hb3⟩
    clear U_0 U_1 V_0 V_1 P_0 P_1
    have KU3 := (KU2.out).on hb3
    have KV3 := (KV2.out).on hb3
    have KP3 := (KP2.out).on hb3
    have B3 := B2.out.trans (hb3.mono B2.out.size)
    clear hb3 B2 KU2 KV2 KP2
    have KU3 := Lib.hid KU3
    have KV3 := Lib.hid KV3
    have KP3 := Lib.hid KP3
    have B3 := Lib.hid B3
    obtain ⟨U_0, U_1⟩ := KU3.out.two
    obtain ⟨V_0, V_1⟩ := KV3.out.two
    obtain ⟨P_0, P_1⟩ := KP3.out.two
    go_wp2_with fail
    refine (C3.out _).mono ?_
    rintro en w4 ⟨rfl, hb4⟩
    clear U_0 U_1 V_0 V_1 P_0 P_1
    have KU4 := (KU3.out).on hb4
    have KV4 := (KV3.out).on hb4
    have KP4 := (KP3.out).on hb4
    have B4 := B3.out.trans (hb4.mono B3.out.size)
    clear hb4 B3 KU3 KV3 KP3
    have KU4 := Lib.hid KU4
    have KV4 := Lib.hid KV4
    have KP4 := Lib.hid KP4
    have B4 := Lib.hid B4
    obtain ⟨U_0, U_1⟩ := KU4.out.two
    obtain ⟨V_0, V_1⟩ := KV4.out.two
    obtain ⟨P_0, P_1⟩ := KP4.out.two
    go_wp2_with fail
    refine (C4.out _).mono ?_
    rintro en w5 ⟨rfl, hb5⟩
    clear U_0 U_1 V_0 V_1 P_0 P_1
    have KU5 := (KU4.out).on hb5
    have KV5 := (KV4.out).on hb5
    have KP5 := (KP4.out).on hb5
    have B5 := B4.out.trans (hb5.mono B4.out.size)
    clear hb5 B4 KU4 KV4 KP4
    have KU5 := Lib.hid KU5
    have KV5 := Lib.hid KV5
    have KP5 := Lib.hid KP5
    have B5 := Lib.hid B5
    obtain ⟨U_0, U_1⟩ := KU5.out.two
    obtain ⟨V_0, V_1⟩ := KV5.out.two
    obtain ⟨P_0, P_1⟩ := KP5.out.two
    go_wp2_with fail
    refine (C5.out _).mono ?_
    rintro en w6 ⟨rfl, hb6⟩
    clear U_0 U_1 V_0 V_1 P_0 P_1
    have KU6 := (KU5.out).on hb6
    have KV6 := (KV5.out).on hb6
    have KP6 := (KP5.out).on hb6
    have B6 := B5.out.trans (hb6.mono B5.out.size)
    clear hb6 B5 KU5 KV5 KP5
    have KU6 := Lib.hid KU6
    have KV6 := Lib.hid KV6
    have KP6 := Lib.hid KP6
    have B6 := Lib.hid B6
    obtain ⟨U_0, U_1⟩ := KU6.out.two
    obtain ⟨V_0, V_1⟩ := KV6.out.two
    obtain ⟨P_0, P_1⟩ := KP6.out.two
    have kn := ptEq_run ax ay bx cy
    rw [k3] at kn
    clear k3
    obtain ⟨m0, m1⟩ := sq_bound (a := r) (M := 1000000) (by omega) (by omega)
    have d1 : decide (sq ≤ r * r) = true := by simpa using k1
    have d2 : decide (t ≤ r + s) = true := by simpa using tt
    have v1 := IntWalk.i64_in (r + s) (by omega)
    by_cases hr : r = 0
    · have e0 : (r == 0) = true := by simpa using hr
      clear k2 k1 tt hr
      go_wp2_with fail
      refine (C6.out _).mono ?_
      rintro en w7 ⟨rfl, rfl⟩
      dsimp only
      iterate 30 (first | go_values | go_skip | go_guarded | go_step | go_upon | go_back)
      go_wp2
      go_ret
      exact ⟨by simp, B6.out⟩
    · have e0 : (r == 0) = false := by simpa using hr
      have d3 : decide ((r - 1) * (r - 1) < sq) = true := by simpa using k2.resolve_left hr
      obtain ⟨m2, m3⟩ := sq_bound (a := r - 1) (M := 1000000) (by omega) (by omega)
      have v2 := IntWalk.i64_in (r - 1) (by omega)
      clear k2 k1 tt hr
      go_wp2_with fail
      refine (C6.out _).mono ?_
      rintro en w7 ⟨rfl, rfl⟩
      dsimp only
      iterate 30 (first | go_values | go_skip | go_guarded | go_step | go_upon | go_back)
      go_wp2
      go_ret
      exact ⟨by simp, B6.out⟩
end Go.Proofs.Ytofoihohendjgaa
