/- Directions: the direction to a place with its code; the walks of both sides, and the law. -/
import Derived.Test.YtofoihohendjgaaDoorProg
import Derived.Test.YtofoihohendjgaaDoorKit
import Derived.Test.YtofoihohendjgaaDoorBasics
import Derived.Test.YtofoihohendjgaaDoorMem
import Derived.Test.YtofoihohendjgaaDoorCodeRes
import Derived.Test.YtofoihohendjgaaDoorLists
import Derived.Test.YtofoihohendjgaaDoorDirs
import Derived.Test.YtofoihohendjgaaDoorPts
import Derived.Test.YtofoihohendjgaaDoorZonePlain
import Derived.Test.YtofoihohendjgaaDoorZones
import Derived.Test.YtofoihohendjgaaDoorDoor
import Derived.Test.YtofoihohendjgaaDoorVec
import Derived.Test.YtofoihohendjgaaDoorVec2
import Derived.Test.YtofoihohendjgaaDoorVec4
import Derived.Deep.RegionHeld3
namespace Go.Proofs.YtofoihohendjgaaDoor
open Go.RowKit Go.WideShapes Go.ChangeShapes Go.Joins Go.Deep Go.Sort
set_option linter.unusedVariables false
set_option linter.unusedSimpArgs false
def dirRes (fx fy tx ty : Int) : Value :=
  match placeB fx fy && placeB tx ty with
  | false => .tuple #[.int .i64 0, .int .i64 1]
  | true => match fx == tx && fy == ty with
    | true => .tuple #[.int .i64 0, .int .i64 6]
    | false => .tuple #[.int .i64 (bestN (tx - fx) (ty - fy) 24 : Nat), .int .i64 0]
theorem dirRes_form (fx fy tx ty : Int) : ∃ x y : Int, dirRes fx fy tx ty = .tuple #[.int .i64 x, .int .i64 y] := by
  unfold dirRes; split
  · exact ⟨_, _, rfl⟩
  · split <;> exact ⟨_, _, rfl⟩
set_option maxHeartbeats 1000000 in
theorem specDirectionTo_any (fx fy tx ty : Int) (w : World) : Calls Tryd.prog 10 #[ptV fx fy, ptV tx ty] w fun e w' => e = .returned (dirRes fx fy tx ty) ∧ Below w.heap.size w w' := by
  have hg : Tryd.prog.eqGuardType Tryd.prog.depth 23 = false := by kernel_rfl
  have B0 := Lib.hid (below_alloc2 w (.cells #[.int .i64 fx, .int .i64 fy] 23) (.cells #[.int .i64 tx, .int .i64 ty] 23))
  have F0 := Lib.hid ((Blk.new w 23 #[.int .i64 fx, .int .i64 fy]).alloc (.cells #[.int .i64 tx, .int .i64 ty] 23))
  have T0 := Lib.hid (Blk.new2 w (.cells #[.int .i64 fx, .int .i64 fy] 23) 23 #[.int .i64 tx, .int .i64 ty])
  unfold dirRes
  cases hf : placeB fx fy
  · have HV := Lib.hid (fun w => hf ▸ l02Ok_any fx fy w)
    clear hf
    simp only [Bool.false_and]
    go_enter Tryd.func10, Tryd.ntmps10
    go_wp2_with fail
    refine (HV.out _).mono ?_
    rintro e w1 ⟨rfl, hb1⟩
    have B1 := Lib.hid (B0.out.trans (hb1.mono B0.out.size))
    have F1 := Lib.hid (F0.out.on hb1)
    have T1 := Lib.hid (T0.out.on hb1)
    clear hb1 B0 F0 T0
    go_wp2
    go_ret2
    exact ⟨rfl, B1.out⟩
  · have HV := Lib.hid (fun w => hf ▸ l02Ok_any fx fy w)
    have PF := Lib.hid hf
    clear hf
    cases ht : placeB tx ty
    · have HW := Lib.hid (fun w => ht ▸ l02Ok_any tx ty w)
      clear ht
      simp only [Bool.true_and]
      go_enter Tryd.func10, Tryd.ntmps10
      go_wp2_with fail
      refine (HV.out _).mono ?_
      rintro e w1 ⟨rfl, hb1⟩
      have B1 := Lib.hid (B0.out.trans (hb1.mono B0.out.size))
      have F1 := Lib.hid (F0.out.on hb1)
      have T1 := Lib.hid (T0.out.on hb1)
      clear hb1 B0 F0 T0
      obtain ⟨d0, d1⟩ := T1.out.two
      go_wp2_with fail
      refine (HW.out _).mono ?_
      rintro e w2 ⟨rfl, hb2⟩
      have B2 := Lib.hid (B1.out.trans (hb2.mono B1.out.size))
      have F2 := Lib.hid (F1.out.on hb2)
      have T2 := Lib.hid (T1.out.on hb2)
      clear hb2 B1 F1 T1 d0 d1
      obtain ⟨c0, c1⟩ := F2.out.two
      obtain ⟨d0, d1⟩ := T2.out.two
      go_wp2
      go_ret2
      exact ⟨rfl, B2.out⟩
    · have HW := Lib.hid (fun w => ht ▸ l02Ok_any tx ty w)
      have PT := Lib.hid ht
      clear ht
      simp only [Bool.true_and]
      have kn := eqlPoint_run fx fy tx ty
      cases he : (fx == tx && fy == ty)
      · rw [he] at kn
        have HE := Lib.hid he
        clear he
        go_enter Tryd.func10, Tryd.ntmps10
        go_wp2_with fail
        refine (HV.out _).mono ?_
        rintro e w1 ⟨rfl, hb1⟩
        have B1 := Lib.hid (B0.out.trans (hb1.mono B0.out.size))
        have F1 := Lib.hid (F0.out.on hb1)
        have T1 := Lib.hid (T0.out.on hb1)
        clear hb1 B0 F0 T0
        obtain ⟨d0, d1⟩ := T1.out.two
        go_wp2_with fail
        refine (HW.out _).mono ?_
        rintro e w2 ⟨rfl, hb2⟩
        have B2 := Lib.hid (B1.out.trans (hb2.mono B1.out.size))
        have F2 := Lib.hid (F1.out.on hb2)
        have T2 := Lib.hid (T1.out.on hb2)
        clear hb2 B1 F1 T1 d0 d1
        obtain ⟨c0, c1⟩ := F2.out.two
        obtain ⟨d0, d1⟩ := T2.out.two
        go_wp2_with fail
        refine (l02To_any _ _ _ _ _ PF.out PT.out).mono ?_
        rintro e w3 ⟨rfl, hb3⟩
        have B3 := B2.out.trans (hb3.mono B2.out.size)
        clear hb3 B2 F2 T2 c0 c1 d0 d1
        go_wp2
        go_ret2
        exact ⟨rfl, B3⟩
      · rw [he] at kn
        clear he
        go_enter Tryd.func10, Tryd.ntmps10
        go_wp2_with fail
        refine (HV.out _).mono ?_
        rintro e w1 ⟨rfl, hb1⟩
        have B1 := Lib.hid (B0.out.trans (hb1.mono B0.out.size))
        have F1 := Lib.hid (F0.out.on hb1)
        have T1 := Lib.hid (T0.out.on hb1)
        clear hb1 B0 F0 T0
        obtain ⟨d0, d1⟩ := T1.out.two
        go_wp2_with fail
        refine (HW.out _).mono ?_
        rintro e w2 ⟨rfl, hb2⟩
        have B2 := Lib.hid (B1.out.trans (hb2.mono B1.out.size))
        have F2 := Lib.hid (F1.out.on hb2)
        have T2 := Lib.hid (T1.out.on hb2)
        clear hb2 B1 F1 T1 d0 d1
        obtain ⟨c0, c1⟩ := F2.out.two
        obtain ⟨d0, d1⟩ := T2.out.two
        go_wp2
        go_ret2
        exact ⟨rfl, B2.out⟩
set_option maxHeartbeats 1000000 in
theorem implDirectionTo_any (fx fy tx ty : Int) (w : World) (hQ : QuarterAt w) : Calls Tryd.prog 12 #[ptV fx fy, ptV tx ty] w fun e w' => e = .returned (dirRes fx fy tx ty) ∧ Below w.heap.size w w' := by
  have hmf : ∀ (fn : Fn) (first cap : Array Value) (w : World), (Instr.makeFunc fn first cap).run Tryd.prog w = .ok (.func fn first cap) w := fun _ _ _ _ => rfl
  have hg : Tryd.prog.eqGuardType Tryd.prog.depth 23 = false := by kernel_rfl
  have B0 := Lib.hid (below_alloc2 w (.cells #[.int .i64 fx, .int .i64 fy] 23) (.cells #[.int .i64 tx, .int .i64 ty] 23))
  have F0 := Lib.hid ((Blk.new w 23 #[.int .i64 fx, .int .i64 fy]).alloc (.cells #[.int .i64 tx, .int .i64 ty] 23))
  have T0 := Lib.hid (Blk.new2 w (.cells #[.int .i64 fx, .int .i64 fy] 23) 23 #[.int .i64 tx, .int .i64 ty])
  unfold dirRes
  cases hf : placeB fx fy
  · have HV := Lib.hid (fun w => hf ▸ implValidPlace_any fx fy w)
    clear hf
    simp only [Bool.false_and]
    go_enter Tryd.func12, Tryd.ntmps12
    go_wp2_with fail
    refine (HV.out _).mono ?_
    rintro e w1 ⟨rfl, hb1⟩
    have B1 := Lib.hid (B0.out.trans (hb1.mono B0.out.size))
    have F1 := Lib.hid (F0.out.on hb1)
    have T1 := Lib.hid (T0.out.on hb1)
    clear hb1 B0 F0 T0
    go_wp2
    go_ret2
    exact ⟨rfl, B1.out⟩
  · have HV := Lib.hid (fun w => hf ▸ implValidPlace_any fx fy w)
    have PF := Lib.hid hf
    clear hf
    cases ht : placeB tx ty
    · have HW := Lib.hid (fun w => ht ▸ implValidPlace_any tx ty w)
      clear ht
      simp only [Bool.true_and]
      go_enter Tryd.func12, Tryd.ntmps12
      go_wp2_with fail
      refine (HV.out _).mono ?_
      rintro e w1 ⟨rfl, hb1⟩
      have B1 := Lib.hid (B0.out.trans (hb1.mono B0.out.size))
      have F1 := Lib.hid (F0.out.on hb1)
      have T1 := Lib.hid (T0.out.on hb1)
      clear hb1 B0 F0 T0
      obtain ⟨d0, d1⟩ := T1.out.two
      go_wp2_with fail
      refine (HW.out _).mono ?_
      rintro e w2 ⟨rfl, hb2⟩
      have B2 := Lib.hid (B1.out.trans (hb2.mono B1.out.size))
      have F2 := Lib.hid (F1.out.on hb2)
      have T2 := Lib.hid (T1.out.on hb2)
      clear hb2 B1 F1 T1 d0 d1
      obtain ⟨c0, c1⟩ := F2.out.two
      obtain ⟨d0, d1⟩ := T2.out.two
      go_wp2
      go_ret2
      exact ⟨rfl, B2.out⟩
    · have HW := Lib.hid (fun w => ht ▸ implValidPlace_any tx ty w)
      have PT := Lib.hid ht
      clear ht
      simp only [Bool.true_and]
      have kn := eqlPoint_run fx fy tx ty
      cases he : (fx == tx && fy == ty)
      · rw [he] at kn
        have HE := Lib.hid he
        clear he
        go_enter Tryd.func12, Tryd.ntmps12
        go_wp2_with fail
        refine (HV.out _).mono ?_
        rintro e w1 ⟨rfl, hb1⟩
        have B1 := Lib.hid (B0.out.trans (hb1.mono B0.out.size))
        have F1 := Lib.hid (F0.out.on hb1)
        have T1 := Lib.hid (T0.out.on hb1)
        clear hb1 B0 F0 T0
        obtain ⟨d0, d1⟩ := T1.out.two
        go_wp2_with fail
        refine (HW.out _).mono ?_
        rintro e w2 ⟨rfl, hb2⟩
        have B2 := Lib.hid (B1.out.trans (hb2.mono B1.out.size))
        have F2 := Lib.hid (F1.out.on hb2)
        have T2 := Lib.hid (T1.out.on hb2)
        clear hb2 B1 F1 T1 d0 d1
        obtain ⟨c0, c1⟩ := F2.out.two
        obtain ⟨d0, d1⟩ := T2.out.two
        have Q2 := Lib.hid (hQ.next B2.out)
        clear hQ
        go_wp2
        clear c0 c1 d0 d1
        go_loopw [7, 8, 23] (fun b _ d wr => ∃ k : Nat, k ≤ 24 ∧ d = .int .i64 (k : Int) ∧ b = .int .i64 (bestN (tx - fx) (ty - fy) k : Nat) ∧ Below w2.heap.size w2 wr) (fun _ _ d _ => 24 - (intOf d).toNat)
        case atStart => exact ⟨0, by omega, rfl, rfl, Below.refl _ _⟩
        case round =>
          obtain ⟨k, hk, rfl, rfl, HB⟩ := hrel
          have i1 : (0 : Int) ≤ (k : Int) := Int.natCast_nonneg _
          by_cases hlt : k < 24
          · have i2 : (k : Int) < 24 := by omega
            have hbl : bestN (tx - fx) (ty - fy) k < 24 := by have := best_le (tx - fx) (ty - fy) k; omega
            have CA := Lib.hid (fun W (hb : Below w2.heap.size w2 W) => dirProduct_any k fx fy tx ty _ _ W hlt (Q2.out.next hb) (T2.out.on hb) (F2.out.on hb) PF.out PT.out)
            have CB := Lib.hid (fun W (hb : Below w2.heap.size w2 W) => dirProduct_any (bestN (tx - fx) (ty - fy) k) fx fy tx ty _ _ W hbl (Q2.out.next hb) (T2.out.on hb) (F2.out.on hb) PF.out PT.out)
            by_cases hc : dotV (tx - fx) (ty - fy) (bestN (tx - fx) (ty - fy) k) < dotV (tx - fx) (ty - fy) k
            · have EB := Lib.hid (best_up hc)
              have t6 : decide (dotV (tx - fx) (ty - fy) (bestN (tx - fx) (ty - fy) k) < dotV (tx - fx) (ty - fy) k) = true := by simpa using hc
              generalize dotV (tx - fx) (ty - fy) k = n1 at CA CB t6
              skip
              clear hc hbl
              go_wp2_with fail
              refine (CA.out _ HB).mono ?_
              rintro e w3 ⟨rfl, hb3⟩
              have B3 := HB.trans (hb3.mono HB.size)
              clear hb3 HB
              go_wp2_with fail
              refine (CB.out _ B3).mono ?_
              rintro e w4 ⟨rfl, hb4⟩
              have B4 := B3.trans (hb4.mono B3.size)
              clear hb4 B3
              go_wp2
              exact ⟨⟨k + 1, by omega, by go_num, by rw [EB.out], B4⟩, by simp [intOf]; omega⟩
            · have EB := Lib.hid (best_stay hc)
              have t6 : decide (dotV (tx - fx) (ty - fy) (bestN (tx - fx) (ty - fy) k) < dotV (tx - fx) (ty - fy) k) = false := by simpa using hc
              generalize dotV (tx - fx) (ty - fy) k = n1 at CA CB t6
              skip
              clear hc hbl
              go_wp2_with fail
              refine (CA.out _ HB).mono ?_
              rintro e w3 ⟨rfl, hb3⟩
              have B3 := HB.trans (hb3.mono HB.size)
              clear hb3 HB
              go_wp2_with fail
              refine (CB.out _ B3).mono ?_
              rintro e w4 ⟨rfl, hb4⟩
              have B4 := B3.trans (hb4.mono B3.size)
              clear hb4 B3
              go_wp2
              exact ⟨⟨k + 1, by omega, by go_num, by rw [EB.out], B4⟩, by simp [intOf]; omega⟩
          · obtain rfl : k = 24 := by omega
            go_wp2
            go_ret2
            exact ⟨rfl, B2.out.trans (HB.mono B2.out.size)⟩
      · rw [he] at kn
        clear he
        go_enter Tryd.func12, Tryd.ntmps12
        go_wp2_with fail
        refine (HV.out _).mono ?_
        rintro e w1 ⟨rfl, hb1⟩
        have B1 := Lib.hid (B0.out.trans (hb1.mono B0.out.size))
        have F1 := Lib.hid (F0.out.on hb1)
        have T1 := Lib.hid (T0.out.on hb1)
        clear hb1 B0 F0 T0
        obtain ⟨d0, d1⟩ := T1.out.two
        go_wp2_with fail
        refine (HW.out _).mono ?_
        rintro e w2 ⟨rfl, hb2⟩
        have B2 := Lib.hid (B1.out.trans (hb2.mono B1.out.size))
        have F2 := Lib.hid (F1.out.on hb2)
        have T2 := Lib.hid (T1.out.on hb2)
        clear hb2 B1 F1 T1 d0 d1
        obtain ⟨c0, c1⟩ := F2.out.two
        obtain ⟨d0, d1⟩ := T2.out.two
        go_wp2
        go_ret2
        exact ⟨rfl, B2.out⟩
set_option maxHeartbeats 1000000 in
theorem FnExactDirectionTo_walk (w : World) (SQ : QuarterAt w) (fx : Int) (_wx : (Lit.int .i64 fx).wf = true) (fy : Int) (_wy : (Lit.int .i64 fy).wf = true) (tx : Int) (_vx : (Lit.int .i64 tx).wf = true) (ty : Int) (_vy : (Lit.int .i64 ty).wf = true) : Calls Tryd.prog 4 #[ptV fx fy, ptV tx ty] w fun en w' => en = .returned (.bool true) ∧ Below w.heap.size w w' := by
  clear _wx _wy _vx _vy
  obtain ⟨x, y, F⟩ := dirRes_form fx fy tx ty
  have H1 : Hid (∀ w, Calls Tryd.prog 10 #[ptV fx fy, ptV tx ty] w fun en w' => en = .returned (.tuple #[.int .i64 x, .int .i64 y]) ∧ Below w.heap.size w w') := fun w => by rw [← F]; exact specDirectionTo_any fx fy tx ty w
  have H2 : Hid (∀ w, QuarterAt w → Calls Tryd.prog 12 #[ptV fx fy, ptV tx ty] w fun en w' => en = .returned (.tuple #[.int .i64 x, .int .i64 y]) ∧ Below w.heap.size w w') := fun w hQ => by rw [← F]; exact implDirectionTo_any fx fy tx ty w hQ
  clear F
  have B0 : Below w.heap.size w ((w.alloc (.cells #[.int .i64 fx, .int .i64 fy] 28)).alloc (.cells #[.int .i64 tx, .int .i64 ty] 28)) := below_alloc2 _ _ _
  have KA0 : Blk ((w.alloc (.cells #[.int .i64 fx, .int .i64 fy] 28)).alloc (.cells #[.int .i64 tx, .int .i64 ty] 28)) (w.heap.size) 28 #[.int .i64 fx, .int .i64 fy] := (Blk.new w _ _).alloc _
  have KC0 : Blk ((w.alloc (.cells #[.int .i64 fx, .int .i64 fy] 28)).alloc (.cells #[.int .i64 tx, .int .i64 ty] 28)) (w.heap.size + 1) 28 #[.int .i64 tx, .int .i64 ty] := Blk.new2 w _ _ _
  have SQ0 := SQ.next B0
  clear SQ
  have KA0 := Lib.hid KA0
  have KC0 := Lib.hid KC0
  have SQ0 := Lib.hid SQ0
  have B0 := Lib.hid B0
  go_enter Tryd.func4, Tryd.ntmps4
  obtain ⟨A_0, A_1⟩ := KA0.out.two
  obtain ⟨C_0, C_1⟩ := KC0.out.two
  go_wp2_with fail
  go_region_held3 (fun w' => w'.cell? ⟨w.heap.size, 0, none⟩ = some (.int .i64 fx) ∧ w'.cell? ⟨w.heap.size, 1, none⟩ = some (.int .i64 fy) ∧ w'.cell? ⟨w.heap.size + 1, 0, none⟩ = some (.int .i64 tx) ∧ w'.cell? ⟨w.heap.size + 1, 1, none⟩ = some (.int .i64 ty))
    (first | go_keep | (refine ⟨?_, ?_, ?_, ?_⟩ <;> assumption))
    (first
      | (go_at_call 11; refine (toPoint_any _ _ _).mono ?_; rintro en w1 ⟨rfl, hb1⟩; clear A_0 A_1 C_0 C_1; have KA1 := (KA0.out.drewN 1).on hb1; have KC1 := (KC0.out.drewN 1).on hb1; have SQ1 := (SQ0.out.drewN 1).next hb1; have B1 := (below_drewN B0.out 1).trans (hb1.mono B0.out.size); clear hb1 B0 KA0 KC0 SQ0; have KA1 := Lib.hid KA1; have KC1 := Lib.hid KC1; have SQ1 := Lib.hid SQ1; have B1 := Lib.hid B1; obtain ⟨A_0, A_1⟩ := KA1.out.two; obtain ⟨C_0, C_1⟩ := KC1.out.two)
      | (go_at_call 11; refine (toPoint_any _ _ _).mono ?_; rintro en w2 ⟨rfl, hb2⟩; clear A_0 A_1 C_0 C_1; have KA2 := (KA1.out).on hb2; have KC2 := (KC1.out).on hb2; have SQ2 := (SQ1.out).next hb2; have B2 := B1.out.trans (hb2.mono B1.out.size); clear hb2 B1 KA1 KC1 SQ1; have KA2 := Lib.hid KA2; have KC2 := Lib.hid KC2; have SQ2 := Lib.hid SQ2; have B2 := Lib.hid B2; obtain ⟨A_0, A_1⟩ := KA2.out.two; obtain ⟨C_0, C_1⟩ := KC2.out.two)
      | (go_at_call 10; refine (H1.out _).mono ?_; rintro en w3 ⟨rfl, hb3⟩; clear A_0 A_1 C_0 C_1; have KA3 := (KA2.out).on hb3; have KC3 := (KC2.out).on hb3; have SQ3 := (SQ2.out).next hb3; have B3 := B2.out.trans (hb3.mono B2.out.size); clear hb3 B2 KA2 KC2 SQ2; have KA3 := Lib.hid KA3; have KC3 := Lib.hid KC3; have SQ3 := Lib.hid SQ3; have B3 := Lib.hid B3; obtain ⟨A_0, A_1⟩ := KA3.out.two; obtain ⟨C_0, C_1⟩ := KC3.out.two))
  clear A_0 A_1 C_0 C_1
  obtain ⟨A_0, A_1⟩ := KA3.out.two
  obtain ⟨C_0, C_1⟩ := KC3.out.two
  go_wp2_with fail
  go_region_held3 (fun w' => w'.cell? ⟨w.heap.size, 0, none⟩ = some (.int .i64 fx) ∧ w'.cell? ⟨w.heap.size, 1, none⟩ = some (.int .i64 fy) ∧ w'.cell? ⟨w.heap.size + 1, 0, none⟩ = some (.int .i64 tx) ∧ w'.cell? ⟨w.heap.size + 1, 1, none⟩ = some (.int .i64 ty))
    (first | go_keep | (refine ⟨?_, ?_, ?_, ?_⟩ <;> assumption))
    (first
      | (go_at_call 11; refine (toPoint_any _ _ _).mono ?_; rintro en w4 ⟨rfl, hb4⟩; clear A_0 A_1 C_0 C_1; have KA4 := (KA3.out.drewN 1).on hb4; have KC4 := (KC3.out.drewN 1).on hb4; have SQ4 := (SQ3.out.drewN 1).next hb4; have B4 := (below_drewN B3.out 1).trans (hb4.mono B3.out.size); clear hb4 B3 KA3 KC3 SQ3; have KA4 := Lib.hid KA4; have KC4 := Lib.hid KC4; have SQ4 := Lib.hid SQ4; have B4 := Lib.hid B4; obtain ⟨A_0, A_1⟩ := KA4.out.two; obtain ⟨C_0, C_1⟩ := KC4.out.two)
      | (go_at_call 11; refine (toPoint_any _ _ _).mono ?_; rintro en w5 ⟨rfl, hb5⟩; clear A_0 A_1 C_0 C_1; have KA5 := (KA4.out).on hb5; have KC5 := (KC4.out).on hb5; have SQ5 := (SQ4.out).next hb5; have B5 := B4.out.trans (hb5.mono B4.out.size); clear hb5 B4 KA4 KC4 SQ4; have KA5 := Lib.hid KA5; have KC5 := Lib.hid KC5; have SQ5 := Lib.hid SQ5; have B5 := Lib.hid B5; obtain ⟨A_0, A_1⟩ := KA5.out.two; obtain ⟨C_0, C_1⟩ := KC5.out.two)
      | (go_at_call 12; refine (H2.out _ SQ5.out).mono ?_; rintro en w6 ⟨rfl, hb6⟩; clear A_0 A_1 C_0 C_1; have KA6 := (KA5.out).on hb6; have KC6 := (KC5.out).on hb6; have SQ6 := (SQ5.out).next hb6; have B6 := B5.out.trans (hb6.mono B5.out.size); clear hb6 B5 KA5 KC5 SQ5; have KA6 := Lib.hid KA6; have KC6 := Lib.hid KC6; have SQ6 := Lib.hid SQ6; have B6 := Lib.hid B6; obtain ⟨A_0, A_1⟩ := KA6.out.two; obtain ⟨C_0, C_1⟩ := KC6.out.two))
  clear A_0 A_1 C_0 C_1
  go_wp2
  go_ret
  exact ⟨rfl, B6.out⟩
end Go.Proofs.YtofoihohendjgaaDoor
