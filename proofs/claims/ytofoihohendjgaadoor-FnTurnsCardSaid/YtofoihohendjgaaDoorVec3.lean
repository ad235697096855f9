/- Directions: the place in a direction and the direction to a place, with their codes; the walks of both sides, and the laws. -/
import Derived.Test.YtofoihohendjgaaDoorProg
import Derived.Test.YtofoihohendjgaaDoorKit
import Derived.Test.YtofoihohendjgaaDoorBasics
import Derived.Test.YtofoihohendjgaaDoorMem
import Derived.Test.YtofoihohendjgaaDoorCodeRes
import Derived.Test.YtofoihohendjgaaDoorLists
import Derived.Test.YtofoihohendjgaaDoorDirs
import Derived.Test.YtofoihohendjgaaDoorPts
import Derived.Test.YtofoihohendjgaaDoorZonePlain
import Derived.Test.YtofoihohendjgaaDoorZones
import Derived.Test.YtofoihohendjgaaDoorDoor
import Derived.Test.YtofoihohendjgaaDoorVec
import Derived.Test.YtofoihohendjgaaDoorVec2
import Derived.Deep.RegionHeld3
namespace Go.Proofs.YtofoihohendjgaaDoor
open Go.RowKit Go.WideShapes Go.ChangeShapes Go.Joins Go.Deep Go.Sort
set_option linter.unusedVariables false
set_option linter.unusedSimpArgs false
def placeAtRes (fx fy d r : Int) : Value :=
  match placeB fx fy, inB d 0 23 && inB r 0 1000 with
  | false, _ => .tuple #[ptV 0 0, .int .i64 1]
  | true, false => .tuple #[ptV 0 0, .int .i64 2]
  | true, true => ptRes (placeB (atV fx fy d.toNat r).1 (atV fx fy d.toNat r).2) (atV fx fy d.toNat r) 5
theorem placeAtRes_form (fx fy d r : Int) : ∃ x y k : Int, placeAtRes fx fy d r = .tuple #[ptV x y, .int .i64 k] := by
  unfold placeAtRes
  split
  · exact ⟨_, _, _, rfl⟩
  · exact ⟨_, _, _, rfl⟩
  · exact ptRes_form _ _ _
set_option maxHeartbeats 1000000 in
theorem implPlaceAt_any (fx fy d r : Int) (w : World) (hQ : QuarterAt w) : Calls Tryd.prog 14 #[ptV fx fy, .int .i64 d, .int .i64 r] w fun e w' => e = .returned (placeAtRes fx fy d r) ∧ Below w.heap.size w w' := by
  have B0 := Lib.hid (below_alloc2 w (.cells #[.int .i64 fx, .int .i64 fy] 23) (.cells #[.int .i64 0, .int .i64 0] 23))
  have K0 := Lib.hid ((Blk.new w 23 #[.int .i64 fx, .int .i64 fy]).alloc (.cells #[.int .i64 0, .int .i64 0] 23))
  have R0 := Lib.hid (Blk.new2 w (.cells #[.int .i64 fx, .int .i64 fy] 23) 23 #[.int .i64 0, .int .i64 0])
  unfold placeAtRes
  cases hf : placeB fx fy
  · have HV := Lib.hid (fun w => hf ▸ implValidPlace_any fx fy w)
    clear hf
    show Calls _ _ _ _ fun e w' => e = .returned (.tuple #[.agg #[.int .i64 0, .int .i64 0], .int .i64 1]) ∧ _
    go_enter Tryd.func14, Tryd.ntmps14
    go_wp2_with fail
    refine (HV.out _).mono ?_
    rintro e w1 ⟨rfl, hb1⟩
    have B1 := B0.out.trans (hb1.mono B0.out.size)
    have K1 := K0.out.on hb1
    have R1 := R0.out.on hb1
    clear hb1 B0 K0 R0
    obtain ⟨a0, a1⟩ := K1.two
    obtain ⟨c0, c1⟩ := R1.two
    have z0 := R1.frozen 0
    have z1 := R1.frozen 1
    go_wp2
    exact bodyPost_ret (v := .tuple #[.agg #[.int .i64 0, .int .i64 0], .int .i64 1]) (by simp [results, Tryd.results14, go_sem, c0, c1]) rfl ⟨rfl, (B1.setCell (p := ⟨w.heap.size + 1, 0, none⟩) (by simp) _).setCell (p := ⟨w.heap.size + 1, 1, none⟩) (by simp) _⟩
  · have HV := Lib.hid (fun w => hf ▸ implValidPlace_any fx fy w)
    have HF := Lib.hid hf
    clear hf
    cases h1 : inB d 0 23
    · simp only [Bool.false_and]
      have HD := Lib.hid (fun w => h1 ▸ isDirection_any d w)
      clear h1
      show Calls _ _ _ _ fun e w' => e = .returned (.tuple #[.agg #[.int .i64 0, .int .i64 0], .int .i64 2]) ∧ _
      go_enter Tryd.func14, Tryd.ntmps14
      go_wp2_with fail
      refine (HV.out _).mono ?_
      rintro e w1 ⟨rfl, hb1⟩
      have B1 := B0.out.trans (hb1.mono B0.out.size)
      have K1 := K0.out.on hb1
      have R1 := R0.out.on hb1
      clear hb1 B0 K0 R0
      obtain ⟨a0, a1⟩ := K1.two
      obtain ⟨c0, c1⟩ := R1.two
      have z0 := R1.frozen 0
      have z1 := R1.frozen 1
      go_wp2_with (go_at_call 25; refine (HD.out _).mono ?_; rintro e w' ⟨rfl, rfl⟩)
      exact bodyPost_ret (v := .tuple #[.agg #[.int .i64 0, .int .i64 0], .int .i64 2]) (by simp [results, Tryd.results14, go_sem, c0, c1]) rfl ⟨rfl, (B1.setCell (p := ⟨w.heap.size + 1, 0, none⟩) (by simp) _).setCell (p := ⟨w.heap.size + 1, 1, none⟩) (by simp) _⟩
    · have HD := Lib.hid (fun w => h1 ▸ isDirection_any d w)
      simp only [Bool.true_and]
      cases h2 : inB r 0 1000
      · have HR := Lib.hid (fun w => h2 ▸ within_any r 0 1000 w)
        clear h2
        show Calls _ _ _ _ fun e w' => e = .returned (.tuple #[.agg #[.int .i64 0, .int .i64 0], .int .i64 2]) ∧ _
        go_enter Tryd.func14, Tryd.ntmps14
        go_wp2_with fail
        refine (HV.out _).mono ?_
        rintro e w1 ⟨rfl, hb1⟩
        have B1 := B0.out.trans (hb1.mono B0.out.size)
        have K1 := K0.out.on hb1
        have R1 := R0.out.on hb1
        clear hb1 B0 K0 R0
        obtain ⟨a0, a1⟩ := K1.two
        obtain ⟨c0, c1⟩ := R1.two
        have z0 := R1.frozen 0
        have z1 := R1.frozen 1
        go_wp2_with (first | (go_at_call 25; refine (HD.out _).mono ?_; rintro e w' ⟨rfl, rfl⟩) | (go_at_call 33; refine (HR.out _).mono ?_; rintro e w' ⟨rfl, rfl⟩))
        exact bodyPost_ret (v := .tuple #[.agg #[.int .i64 0, .int .i64 0], .int .i64 2]) (by simp [results, Tryd.results14, go_sem, c0, c1]) rfl ⟨rfl, (B1.setCell (p := ⟨w.heap.size + 1, 0, none⟩) (by simp) _).setCell (p := ⟨w.heap.size + 1, 1, none⟩) (by simp) _⟩
      · have HR := Lib.hid (fun w => h2 ▸ within_any r 0 1000 w)
        have b1 := inB_of h1
        obtain ⟨r0, r1⟩ := inB_of h2
        obtain ⟨d, rfl⟩ : ∃ k : Nat, d = k := ⟨d.toNat, by omega⟩
        have hd : d < 24 := by omega
        simp only [Int.toNat_natCast]
        have HA := Lib.hid (fun W (hb : Below w.heap.size w W) => placeAt_any fx fy d r W hd (hQ.next hb) HF.out r0 r1)
        generalize atV fx fy d r = p at HA ⊢
        obtain ⟨px, py⟩ := p
        dsimp only at HA ⊢
        clear h1 h2 hQ
        cases h3 : placeB px py
        · have HP := Lib.hid (fun w => h3 ▸ implValidPlace_any px py w)
          show Calls _ _ _ _ fun e w' => e = .returned (.tuple #[.agg #[.int .i64 0, .int .i64 0], .int .i64 5]) ∧ _
          clear h3
          go_enter Tryd.func14, Tryd.ntmps14
          go_wp2_with fail
          refine (HV.out _).mono ?_
          rintro e w1 ⟨rfl, hb1⟩
          have B1 := B0.out.trans (hb1.mono B0.out.size)
          have K1 := K0.out.on hb1
          have R1 := R0.out.on hb1
          clear hb1 B0 K0 R0
          obtain ⟨a0, a1⟩ := K1.two
          have K1 := Lib.hid K1
          have R1 := Lib.hid R1
          go_wp2_with (first | (go_at_call 25; refine (HD.out _).mono ?_; rintro e w' ⟨rfl, rfl⟩) | (go_at_call 33; refine (HR.out _).mono ?_; rintro e w' ⟨rfl, rfl⟩))
          refine (HA.out _ B1).mono ?_
          rintro e w2 ⟨rfl, hb2⟩
          have B2 := B1.trans (hb2.mono B1.size)
          have R2 := Lib.hid (R1.out.on hb2)
          clear hb2 B1 K1 R1 a0 a1
          go_wp2_with fail
          have bx := below_alloc1 w2 (.cells #[.int .i64 px, .int .i64 py] 23)
          have KP := Lib.hid (Blk.new w2 23 #[.int .i64 px, .int .i64 py])
          have R2 := Lib.hid (R2.out.on bx)
          have B2 := Lib.hid (B2.trans (bx.mono B2.size))
          clear bx
          refine (HP.out _).mono ?_
          rintro e w3 ⟨rfl, hb3⟩
          have B3 := B2.out.trans (hb3.mono B2.out.size)
          have R3 := R2.out.on hb3
          obtain ⟨p0, p1⟩ := (KP.out.on hb3).two
          obtain ⟨c0, c1⟩ := R3.two
          have z0 := R3.frozen 0
          have z1 := R3.frozen 1
          have lt := R3.lt
          have B3 := Lib.hid B3
          clear hb3 B2 R2 KP R3
          go_wp2
          exact bodyPost_ret (v := .tuple #[.agg #[.int .i64 0, .int .i64 0], .int .i64 5]) (by simp [results, Tryd.results14, go_sem, c0, c1]) rfl ⟨rfl, (B3.out.setCell (p := ⟨w.heap.size + 1, 0, none⟩) (by simp) _).setCell (p := ⟨w.heap.size + 1, 1, none⟩) (by simp) _⟩
        · have HP := Lib.hid (fun w => h3 ▸ implValidPlace_any px py w)
          show Calls _ _ _ _ fun e w' => e = .returned (.tuple #[ptV px py, .int .i64 0]) ∧ _
          clear h3
          go_enter Tryd.func14, Tryd.ntmps14
          go_wp2_with fail
          refine (HV.out _).mono ?_
          rintro e w1 ⟨rfl, hb1⟩
          have B1 := B0.out.trans (hb1.mono B0.out.size)
          have K1 := K0.out.on hb1
          have R1 := R0.out.on hb1
          clear hb1 B0 K0 R0
          obtain ⟨a0, a1⟩ := K1.two
          have K1 := Lib.hid K1
          have R1 := Lib.hid R1
          go_wp2_with (first | (go_at_call 25; refine (HD.out _).mono ?_; rintro e w' ⟨rfl, rfl⟩) | (go_at_call 33; refine (HR.out _).mono ?_; rintro e w' ⟨rfl, rfl⟩))
          refine (HA.out _ B1).mono ?_
          rintro e w2 ⟨rfl, hb2⟩
          have B2 := B1.trans (hb2.mono B1.size)
          have R2 := Lib.hid (R1.out.on hb2)
          clear hb2 B1 K1 R1 a0 a1
          go_wp2_with fail
          have bx := below_alloc1 w2 (.cells #[.int .i64 px, .int .i64 py] 23)
          have KP := Lib.hid (Blk.new w2 23 #[.int .i64 px, .int .i64 py])
          have R2 := Lib.hid (R2.out.on bx)
          have B2 := Lib.hid (B2.trans (bx.mono B2.size))
          clear bx
          refine (HP.out _).mono ?_
          rintro e w3 ⟨rfl, hb3⟩
          have B3 := B2.out.trans (hb3.mono B2.out.size)
          have R3 := R2.out.on hb3
          obtain ⟨p0, p1⟩ := (KP.out.on hb3).two
          obtain ⟨c0, c1⟩ := R3.two
          have z0 := R3.frozen 0
          have z1 := R3.frozen 1
          have lt := R3.lt
          have B3 := Lib.hid B3
          clear hb3 B2 R2 KP R3
          go_wp2
          exact bodyPost_ret (v := .tuple #[ptV px py, .int .i64 0]) (by simp [results, Tryd.results14, go_sem, c0, c1]) rfl ⟨rfl, (B3.out.setCell (p := ⟨w.heap.size + 1, 0, none⟩) (by simp) _).setCell (p := ⟨w.heap.size + 1, 1, none⟩) (by simp) _⟩
set_option maxHeartbeats 1000000 in
theorem specPlaceAt_any (fx fy d r : Int) (w : World) : Calls Tryd.prog 13 #[ptV fx fy, .int .i64 d, .int .i64 r] w fun e w' => e = .returned (placeAtRes fx fy d r) ∧ Below w.heap.size w w' := by
  have B0 := Lib.hid (below_alloc2 w (.cells #[.int .i64 fx, .int .i64 fy] 23) (.cells #[.int .i64 0, .int .i64 0] 23))
  have K0 := Lib.hid ((Blk.new w 23 #[.int .i64 fx, .int .i64 fy]).alloc (.cells #[.int .i64 0, .int .i64 0] 23))
  have R0 := Lib.hid (Blk.new2 w (.cells #[.int .i64 fx, .int .i64 fy] 23) 23 #[.int .i64 0, .int .i64 0])
  unfold placeAtRes
  cases hf : placeB fx fy
  · have HV := Lib.hid (fun w => hf ▸ l02Ok_any fx fy w)
    clear hf
    show Calls _ _ _ _ fun e w' => e = .returned (.tuple #[.agg #[.int .i64 0, .int .i64 0], .int .i64 1]) ∧ _
    go_enter Tryd.func13, Tryd.ntmps13
    go_wp2_with fail
    refine (HV.out _).mono ?_
    rintro e w1 ⟨rfl, hb1⟩
    have B1 := B0.out.trans (hb1.mono B0.out.size)
    have K1 := K0.out.on hb1
    have R1 := R0.out.on hb1
    clear hb1 B0 K0 R0
    obtain ⟨a0, a1⟩ := K1.two
    obtain ⟨c0, c1⟩ := R1.two
    have z0 := R1.frozen 0
    have z1 := R1.frozen 1
    go_wp2
    exact bodyPost_ret (v := .tuple #[.agg #[.int .i64 0, .int .i64 0], .int .i64 1]) (by simp [results, Tryd.results13, go_sem, c0, c1]) rfl ⟨rfl, (B1.setCell (p := ⟨w.heap.size + 1, 0, none⟩) (by simp) _).setCell (p := ⟨w.heap.size + 1, 1, none⟩) (by simp) _⟩
  · have HV := Lib.hid (fun w => hf ▸ l02Ok_any fx fy w)
    have HF := Lib.hid hf
    clear hf
    cases h1 : inB d 0 23
    · simp only [Bool.false_and]
      have HD := Lib.hid (fun w => h1 ▸ l02Dir_any d w)
      clear h1
      show Calls _ _ _ _ fun e w' => e = .returned (.tuple #[.agg #[.int .i64 0, .int .i64 0], .int .i64 2]) ∧ _
      go_enter Tryd.func13, Tryd.ntmps13
      go_wp2_with fail
      refine (HV.out _).mono ?_
      rintro e w1 ⟨rfl, hb1⟩
      have B1 := B0.out.trans (hb1.mono B0.out.size)
      have K1 := K0.out.on hb1
      have R1 := R0.out.on hb1
      clear hb1 B0 K0 R0
      obtain ⟨a0, a1⟩ := K1.two
      obtain ⟨c0, c1⟩ := R1.two
      have z0 := R1.frozen 0
      have z1 := R1.frozen 1
      go_wp2_with (go_at_call 23; refine (HD.out _).mono ?_; rintro e w' ⟨rfl, rfl⟩)
      exact bodyPost_ret (v := .tuple #[.agg #[.int .i64 0, .int .i64 0], .int .i64 2]) (by simp [results, Tryd.results13, go_sem, c0, c1]) rfl ⟨rfl, (B1.setCell (p := ⟨w.heap.size + 1, 0, none⟩) (by simp) _).setCell (p := ⟨w.heap.size + 1, 1, none⟩) (by simp) _⟩
    · have HD := Lib.hid (fun w => h1 ▸ l02Dir_any d w)
      simp only [Bool.true_and]
      cases h2 : inB r 0 1000
      · have HR := Lib.hid (fun w => h2 ▸ l00In_any r 0 1000 w)
        clear h2
        show Calls _ _ _ _ fun e w' => e = .returned (.tuple #[.agg #[.int .i64 0, .int .i64 0], .int .i64 2]) ∧ _
        go_enter Tryd.func13, Tryd.ntmps13
        go_wp2_with fail
        refine (HV.out _).mono ?_
        rintro e w1 ⟨rfl, hb1⟩
        have B1 := B0.out.trans (hb1.mono B0.out.size)
        have K1 := K0.out.on hb1
        have R1 := R0.out.on hb1
        clear hb1 B0 K0 R0
        obtain ⟨a0, a1⟩ := K1.two
        obtain ⟨c0, c1⟩ := R1.two
        have z0 := R1.frozen 0
        have z1 := R1.frozen 1
        go_wp2_with (first | (go_at_call 23; refine (HD.out _).mono ?_; rintro e w' ⟨rfl, rfl⟩) | (go_at_call 31; refine (HR.out _).mono ?_; rintro e w' ⟨rfl, rfl⟩))
        exact bodyPost_ret (v := .tuple #[.agg #[.int .i64 0, .int .i64 0], .int .i64 2]) (by simp [results, Tryd.results13, go_sem, c0, c1]) rfl ⟨rfl, (B1.setCell (p := ⟨w.heap.size + 1, 0, none⟩) (by simp) _).setCell (p := ⟨w.heap.size + 1, 1, none⟩) (by simp) _⟩
      · have HR := Lib.hid (fun w => h2 ▸ l00In_any r 0 1000 w)
        have b1 := inB_of h1
        obtain ⟨r0, r1⟩ := inB_of h2
        obtain ⟨d, rfl⟩ : ∃ k : Nat, d = k := ⟨d.toNat, by omega⟩
        have hd : d < 24 := by omega
        simp only [Int.toNat_natCast]
        have HA := Lib.hid (fun W (hb : Below w.heap.size w W) => l02At_any fx fy d r W hd HF.out r0 r1)
        generalize atV fx fy d r = p at HA ⊢
        obtain ⟨px, py⟩ := p
        dsimp only at HA ⊢
        clear h1 h2
        cases h3 : placeB px py
        · have HP := Lib.hid (fun w => h3 ▸ l02Ok_any px py w)
          show Calls _ _ _ _ fun e w' => e = .returned (.tuple #[.agg #[.int .i64 0, .int .i64 0], .int .i64 5]) ∧ _
          clear h3
          go_enter Tryd.func13, Tryd.ntmps13
          go_wp2_with fail
          refine (HV.out _).mono ?_
          rintro e w1 ⟨rfl, hb1⟩
          have B1 := B0.out.trans (hb1.mono B0.out.size)
          have K1 := K0.out.on hb1
          have R1 := R0.out.on hb1
          clear hb1 B0 K0 R0
          obtain ⟨a0, a1⟩ := K1.two
          have K1 := Lib.hid K1
          have R1 := Lib.hid R1
          go_wp2_with (first | (go_at_call 23; refine (HD.out _).mono ?_; rintro e w' ⟨rfl, rfl⟩) | (go_at_call 31; refine (HR.out _).mono ?_; rintro e w' ⟨rfl, rfl⟩))
          refine (HA.out _ B1).mono ?_
          rintro e w2 ⟨rfl, hb2⟩
          have B2 := B1.trans (hb2.mono B1.size)
          have R2 := Lib.hid (R1.out.on hb2)
          clear hb2 B1 K1 R1 a0 a1
          go_wp2_with fail
          have bx := below_alloc1 w2 (.cells #[.int .i64 px, .int .i64 py] 23)
          have KP := Lib.hid (Blk.new w2 23 #[.int .i64 px, .int .i64 py])
          have R2 := Lib.hid (R2.out.on bx)
          have B2 := Lib.hid (B2.trans (bx.mono B2.size))
          clear bx
          refine (HP.out _).mono ?_
          rintro e w3 ⟨rfl, hb3⟩
          have B3 := B2.out.trans (hb3.mono B2.out.size)
          have R3 := R2.out.on hb3
          obtain ⟨p0, p1⟩ := (KP.out.on hb3).two
          obtain ⟨c0, c1⟩ := R3.two
          have z0 := R3.frozen 0
          have z1 := R3.frozen 1
          have lt := R3.lt
          have B3 := Lib.hid B3
          clear hb3 B2 R2 KP R3
          go_wp2
          exact bodyPost_ret (v := .tuple #[.agg #[.int .i64 0, .int .i64 0], .int .i64 5]) (by simp [results, Tryd.results13, go_sem, c0, c1]) rfl ⟨rfl, (B3.out.setCell (p := ⟨w.heap.size + 1, 0, none⟩) (by simp) _).setCell (p := ⟨w.heap.size + 1, 1, none⟩) (by simp) _⟩
        · have HP := Lib.hid (fun w => h3 ▸ l02Ok_any px py w)
          show Calls _ _ _ _ fun e w' => e = .returned (.tuple #[ptV px py, .int .i64 0]) ∧ _
          clear h3
          go_enter Tryd.func13, Tryd.ntmps13
          go_wp2_with fail
          refine (HV.out _).mono ?_
          rintro e w1 ⟨rfl, hb1⟩
          have B1 := B0.out.trans (hb1.mono B0.out.size)
          have K1 := K0.out.on hb1
          have R1 := R0.out.on hb1
          clear hb1 B0 K0 R0
          obtain ⟨a0, a1⟩ := K1.two
          have K1 := Lib.hid K1
          have R1 := Lib.hid R1
          go_wp2_with (first | (go_at_call 23; refine (HD.out _).mono ?_; rintro e w' ⟨rfl, rfl⟩) | (go_at_call 31; refine (HR.out _).mono ?_; rintro e w' ⟨rfl, rfl⟩))
          refine (HA.out _ B1).mono ?_
          rintro e w2 ⟨rfl, hb2⟩
          have B2 := B1.trans (hb2.mono B1.size)
          have R2 := Lib.hid (R1.out.on hb2)
          clear hb2 B1 K1 R1 a0 a1
          go_wp2_with fail
          have bx := below_alloc1 w2 (.cells #[.int .i64 px, .int .i64 py] 23)
          have KP := Lib.hid (Blk.new w2 23 #[.int .i64 px, .int .i64 py])
          have R2 := Lib.hid (R2.out.on bx)
          have B2 := Lib.hid (B2.trans (bx.mono B2.size))
          clear bx
          refine (HP.out _).mono ?_
          rintro e w3 ⟨rfl, hb3⟩
          have B3 := B2.out.trans (hb3.mono B2.out.size)
          have R3 := R2.out.on hb3
          obtain ⟨p0, p1⟩ := (KP.out.on hb3).two
          obtain ⟨c0, c1⟩ := R3.two
          have z0 := R3.frozen 0
          have z1 := R3.frozen 1
          have lt := R3.lt
          have B3 := Lib.hid B3
          clear hb3 B2 R2 KP R3
          go_wp2
          exact bodyPost_ret (v := .tuple #[ptV px py, .int .i64 0]) (by simp [results, Tryd.results13, go_sem, c0, c1]) rfl ⟨rfl, (B3.out.setCell (p := ⟨w.heap.size + 1, 0, none⟩) (by simp) _).setCell (p := ⟨w.heap.size + 1, 1, none⟩) (by simp) _⟩
set_option maxHeartbeats 1000000 in
theorem FnExactVectorOf_walk (w : World) (SQ : QuarterAt w) (d : Int) (_wd : (Lit.int .i64 d).wf = true) : Calls Tryd.prog 3 #[.int .i64 d] w fun en w' => en = .returned (.bool true) ∧ Below w.heap.size w w' := by
  clear _wd
  obtain ⟨x, y, k, F⟩ := ptRes_form (inB d 0 23) (vecV d.toNat) 2
  have H1 : Hid (∀ w, Calls Tryd.prog 7 #[.int .i64 d] w fun en w' => en = .returned (.tuple #[ptV x y, .int .i64 k]) ∧ Below w.heap.size w w') := fun w => by rw [← F]; exact specVectorOf_any d w
  have H2 : Hid (∀ w, QuarterAt w → Calls Tryd.prog 8 #[.int .i64 d] w fun en w' => en = .returned (.tuple #[ptV x y, .int .i64 k]) ∧ Below w.heap.size w w') := fun w hQ => by rw [← F]; exact implVectorOf_any d w hQ
  clear F
  have B0 : Below w.heap.size w w := Below.refl _ _
  have SQ0 := SQ.next B0
  clear SQ
  have SQ0 := Lib.hid SQ0
  have B0 := Lib.hid B0
  go_enter Tryd.func3, Tryd.ntmps3
  go_wp2_with fail
  refine (H1.out _).mono ?_
  rintro en w1 ⟨rfl, hb1⟩
  have SQ1 := (SQ0.out).next hb1
  have B1 := B0.out.trans (hb1.mono B0.out.size)
  clear hb1 B0 SQ0
  have SQ1 := Lib.hid SQ1
  have B1 := Lib.hid B1
  have bx := below_alloc1 w1 (.cells #[.int .i64 x, .int .i64 y] 23)
  have SQ1 := Lib.hid (SQ1.out.next bx)
  have KU1 := Lib.hid (Blk.new w1 23 #[.int .i64 x, .int .i64 y])
  have B1 := Lib.hid (B1.out.trans (bx.mono B1.out.size))
  clear bx
  obtain ⟨U_0, U_1⟩ := KU1.out.two
  go_wp2_with fail
  refine (H2.out _ SQ1.out).mono ?_
  rintro en w2 ⟨rfl, hb2⟩
  clear U_0 U_1
  have KU2 := (KU1.out).on hb2
  have SQ2 := (SQ1.out).next hb2
  have B2 := B1.out.trans (hb2.mono B1.out.size)
  clear hb2 B1 KU1 SQ1
  have KU2 := Lib.hid KU2
  have SQ2 := Lib.hid SQ2
  have B2 := Lib.hid B2
  have bx := below_alloc1 w2 (.cells #[.int .i64 x, .int .i64 y] 23)
  have KU2 := Lib.hid (KU2.out.alloc (.cells #[.int .i64 x, .int .i64 y] 23))
  have SQ2 := Lib.hid (SQ2.out.next bx)
  have KV2 := Lib.hid (Blk.new w2 23 #[.int .i64 x, .int .i64 y])
  have B2 := Lib.hid (B2.out.trans (bx.mono B2.out.size))
  clear bx
  obtain ⟨U_0, U_1⟩ := KU2.out.two
  obtain ⟨V_0, V_1⟩ := KV2.out.two
  go_wp2_with fail
  refine (eqPoint_same _ _ _).mono ?_
  rintro en w3 ⟨rfl, hb3⟩
  clear U_0 U_1 V_0 V_1
  have KU3 := (KU2.out).on hb3
  have KV3 := (KV2.out).on hb3
  have SQ3 := (SQ2.out).next hb3
  have B3 := B2.out.trans (hb3.mono B2.out.size)
  clear hb3 B2 KU2 KV2 SQ2
  have KU3 := Lib.hid KU3
  have KV3 := Lib.hid KV3
  have SQ3 := Lib.hid SQ3
  have B3 := Lib.hid B3
  go_wp2
  go_ret
  exact ⟨rfl, B3.out⟩
set_option maxHeartbeats 1000000 in
theorem FnExactPlaceAt_walk (w : World) (SQ : QuarterAt w) (fx : Int) (_wx : (Lit.int .i64 fx).wf = true) (fy : Int) (_wy : (Lit.int .i64 fy).wf = true) (d : Int) (_wd : (Lit.int .i64 d).wf = true) (r : Int) (_wr : (Lit.int .i64 r).wf = true) : Calls Tryd.prog 5 #[ptV fx fy, .int .i64 d, .int .i64 r] w fun en w' => en = .returned (.bool true) ∧ Below w.heap.size w w' := by
  clear _wx _wy _wd _wr
  obtain ⟨x, y, k, F⟩ := placeAtRes_form fx fy d r
  have H1 : Hid (∀ w, Calls Tryd.prog 13 #[ptV fx fy, .int .i64 d, .int .i64 r] w fun en w' => en = .returned (.tuple #[ptV x y, .int .i64 k]) ∧ Below w.heap.size w w') := fun w => by rw [← F]; exact specPlaceAt_any fx fy d r w
  have H2 : Hid (∀ w, QuarterAt w → Calls Tryd.prog 14 #[ptV fx fy, .int .i64 d, .int .i64 r] w fun en w' => en = .returned (.tuple #[ptV x y, .int .i64 k]) ∧ Below w.heap.size w w') := fun w hQ => by rw [← F]; exact implPlaceAt_any fx fy d r w hQ
  clear F
  have B0 : Below w.heap.size w (w.alloc (.cells #[.int .i64 fx, .int .i64 fy] 28)) := below_alloc1 _ _
  have KA0 : Blk (w.alloc (.cells #[.int .i64 fx, .int .i64 fy] 28)) (w.heap.size) 28 #[.int .i64 fx, .int .i64 fy] := Blk.new w _ _
  have SQ0 := SQ.next B0
  clear SQ
  have KA0 := Lib.hid KA0
  have SQ0 := Lib.hid SQ0
  have B0 := Lib.hid B0
  go_enter Tryd.func5, Tryd.ntmps5
  obtain ⟨A_0, A_1⟩ := KA0.out.two
  go_wp2_with fail
  refine (toPoint_any _ _ _).mono ?_
  rintro en w1 ⟨rfl, hb1⟩
  clear A_0 A_1
  have KA1 := (KA0.out).on hb1
  have SQ1 := (SQ0.out).next hb1
  have B1 := B0.out.trans (hb1.mono B0.out.size)
  clear hb1 B0 KA0 SQ0
  have KA1 := Lib.hid KA1
  have SQ1 := Lib.hid SQ1
  have B1 := Lib.hid B1
  obtain ⟨A_0, A_1⟩ := KA1.out.two
  go_wp2_with fail
  refine (H1.out _).mono ?_
  rintro en w2 ⟨rfl, hb2⟩
  clear A_0 A_1
  have KA2 := (KA1.out).on hb2
  have SQ2 := (SQ1.out).next hb2
  have B2 := B1.out.trans (hb2.mono B1.out.size)
  clear hb2 B1 KA1 SQ1
  have KA2 := Lib.hid KA2
  have SQ2 := Lib.hid SQ2
  have B2 := Lib.hid B2
  have bx := below_alloc1 w2 (.cells #[.int .i64 x, .int .i64 y] 23)
  have KA2 := Lib.hid (KA2.out.alloc (.cells #[.int .i64 x, .int .i64 y] 23))
  have SQ2 := Lib.hid (SQ2.out.next bx)
  have KU2 := Lib.hid (Blk.new w2 23 #[.int .i64 x, .int .i64 y])
  have B2 := Lib.hid (B2.out.trans (bx.mono B2.out.size))
  clear bx
  obtain ⟨A_0, A_1⟩ := KA2.out.two
  obtain ⟨U_0, U_1⟩ := KU2.out.two
  go_wp2_with fail
  refine (toPoint_any _ _ _).mono ?_
  rintro en w3 ⟨rfl, hb3⟩
  clear A_0 A_1 U_0 U_1
  have KA3 := (KA2.out).on hb3
  have KU3 := (KU2.out).on hb3
  have SQ3 := (SQ2.out).next hb3
  have B3 := B2.out.trans (hb3.mono B2.out.size)
  clear hb3 B2 KA2 KU2 SQ2
  have KA3 := Lib.hid KA3
  have KU3 := Lib.hid KU3
  have SQ3 := Lib.hid SQ3
  have B3 := Lib.hid B3
  obtain ⟨A_0, A_1⟩ := KA3.out.two
  obtain ⟨U_0, U_1⟩ := KU3.out.two
  go_wp2_with fail
  refine (H2.out _ SQ3.out).mono ?_
  rintro en w4 ⟨rfl, hb4⟩
  clear A_0 A_1 U_0 U_1
  have KA4 := (KA3.out).on hb4
  have KU4 := (KU3.out).on hb4
  have SQ4 := (SQ3.out).next hb4
  have B4 := B3.out.trans (hb4.mono B3.out.size)
  clear hb4 B3 KA3 KU3 SQ3
  have KA4 := Lib.hid KA4
  have KU4 := Lib.hid KU4
  have SQ4 := Lib.hid SQ4
  have B4 := Lib.hid B4
  have bx := below_alloc1 w4 (.cells #[.int .i64 x, .int .i64 y] 23)
  have KA4 := Lib.hid (KA4.out.alloc (.cells #[.int .i64 x, .int .i64 y] 23))
  have KU4 := Lib.hid (KU4.out.alloc (.cells #[.int .i64 x, .int .i64 y] 23))
  have SQ4 := Lib.hid (SQ4.out.next bx)
  have KV4 := Lib.hid (Blk.new w4 23 #[.int .i64 x, .int .i64 y])
  have B4 := Lib.hid (B4.out.trans (bx.mono B4.out.size))
  clear bx
  obtain ⟨A_0, A_1⟩ := KA4.out.two
  obtain ⟨U_0, U_1⟩ := KU4.out.two
  obtain ⟨V_0, V_1⟩ := KV4.out.two
  go_wp2_with fail
  refine (eqPoint_same _ _ _).mono ?_
  rintro en w5 ⟨rfl, hb5⟩
  clear A_0 A_1 U_0 U_1 V_0 V_1
  have KA5 := (KA4.out).on hb5
  have KU5 := (KU4.out).on hb5
  have KV5 := (KV4.out).on hb5
  have SQ5 := (SQ4.out).next hb5
  have B5 := B4.out.trans (hb5.mono B4.out.size)
  clear hb5 B4 KA4 KU4 KV4 SQ4
  have KA5 := Lib.hid KA5
  have KU5 := Lib.hid KU5
  have KV5 := Lib.hid KV5
  have SQ5 := Lib.hid SQ5
  have B5 := Lib.hid B5
  go_wp2
  go_ret
  exact ⟨rfl, B5.out⟩
end Go.Proofs.YtofoihohendjgaaDoor
