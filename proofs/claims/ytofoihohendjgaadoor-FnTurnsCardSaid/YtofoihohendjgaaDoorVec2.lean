/- Directions: the vector of a direction, the place in a direction; the walks of both sides, and the laws. -/
import Derived.Test.YtofoihohendjgaaDoorProg
import Derived.Test.YtofoihohendjgaaDoorKit
import Derived.Test.YtofoihohendjgaaDoorBasics
import Derived.Test.YtofoihohendjgaaDoorMem
import Derived.Test.YtofoihohendjgaaDoorCodeRes
import Derived.Test.YtofoihohendjgaaDoorLists
import Derived.Test.YtofoihohendjgaaDoorDirs
import Derived.Test.YtofoihohendjgaaDoorPts
import Derived.Test.YtofoihohendjgaaDoorZonePlain
import Derived.Test.YtofoihohendjgaaDoorZones
import Derived.Test.YtofoihohendjgaaDoorDoor
import Derived.Test.YtofoihohendjgaaDoorVec
import Derived.Deep.RegionHeld3
namespace Go.Proofs.YtofoihohendjgaaDoor
open Go.RowKit Go.WideShapes Go.ChangeShapes Go.Joins Go.Deep Go.Sort
set_option linter.unusedVariables false
set_option linter.unusedSimpArgs false
/-- a point and a code, or no point and a code -/
def ptRes (b : Bool) (p : Int × Int) (c : Int) : Value := match b with | true => .tuple #[ptV p.1 p.2, .int .i64 0] | false => .tuple #[ptV 0 0, .int .i64 c]
theorem ptRes_form (b : Bool) (p : Int × Int) (c : Int) : ∃ x y k : Int, ptRes b p c = .tuple #[ptV x y, .int .i64 k] := by cases b <;> exact ⟨_, _, _, rfl⟩
theorem implVectorOf_any (d : Int) (w : World) (hQ : QuarterAt w) : Calls Tryd.prog 8 #[.int .i64 d] w fun e w' => e = .returned (ptRes (inB d 0 23) (vecV d.toNat) 2) ∧ Below w.heap.size w w' := by
  cases h1 : inB d 0 23
  · show Calls _ _ _ _ fun e w' => e = .returned (.tuple #[.agg #[.int .i64 0, .int .i64 0], .int .i64 2]) ∧ _
    go_enter Tryd.func8, Tryd.ntmps8
    go_wp2_with (go_at_call 25; refine (isDirection_any _ _).mono ?_; rintro e w' ⟨rfl, rfl⟩)
    exact bodyPost_ret (v := .tuple #[.agg #[.int .i64 0, .int .i64 0], .int .i64 2]) (by simp [results, Tryd.results8, go_sem]) rfl ⟨rfl, below_alloc1 w _⟩
  · have b1 := inB_of h1
    obtain ⟨d, rfl⟩ : ∃ k : Nat, d = k := ⟨d.toNat, by omega⟩
    rw [Int.toNat_natCast]
    show Calls _ _ _ _ fun e w' => e = .returned (.tuple #[ptV (vecV d).1 (vecV d).2, .int .i64 0]) ∧ _
    have HV := Lib.hid (fun W (hb : Below w.heap.size w W) => vector_any d W (by omega) (hQ.next hb))
    have K0 := Lib.hid (Blk.new w 23 #[.int .i64 0, .int .i64 0])
    generalize vecV d = p at HV ⊢
    obtain ⟨x, y⟩ := p
    skip
    go_enter Tryd.func8, Tryd.ntmps8
    go_wp2_with (first | (go_at_call 25; refine (isDirection_any _ _).mono ?_; rintro e w' ⟨rfl, rfl⟩))
    refine (HV.out _ (below_alloc1 _ _)).mono ?_
    rintro e w1 ⟨rfl, hb1⟩
    have K1 := K0.out.on hb1
    obtain ⟨c0, c1⟩ := K1.two
    have z0 := K1.frozen 0
    have z1 := K1.frozen 1
    have B1 := (below_alloc1 w _).trans (hb1.mono (by simp))
    clear hb1 K1 K0
    go_wp2
    exact bodyPost_ret (v := .tuple #[ptV x y, .int .i64 0]) (by simp [results, Tryd.results8, go_sem, c0, c1]) rfl ⟨rfl, (B1.setCell (by simp) _).setCell (by simp) _⟩
theorem specVectorOf_any (d : Int) (w : World) : Calls Tryd.prog 7 #[.int .i64 d] w fun e w' => e = .returned (ptRes (inB d 0 23) (vecV d.toNat) 2) ∧ Below w.heap.size w w' := by
  cases h1 : inB d 0 23
  · show Calls _ _ _ _ fun e w' => e = .returned (.tuple #[.agg #[.int .i64 0, .int .i64 0], .int .i64 2]) ∧ _
    go_enter Tryd.func7, Tryd.ntmps7
    go_wp2_with (go_at_call 23; refine (l02Dir_any _ _).mono ?_; rintro e w' ⟨rfl, rfl⟩)
    exact bodyPost_ret (v := .tuple #[.agg #[.int .i64 0, .int .i64 0], .int .i64 2]) (by simp [results, Tryd.results7, go_sem]) rfl ⟨rfl, below_alloc1 w _⟩
  · have b1 := inB_of h1
    obtain ⟨d, rfl⟩ : ∃ k : Nat, d = k := ⟨d.toNat, by omega⟩
    rw [Int.toNat_natCast]
    show Calls _ _ _ _ fun e w' => e = .returned (.tuple #[ptV (vecV d).1 (vecV d).2, .int .i64 0]) ∧ _
    have HV := Lib.hid (fun W (hb : Below w.heap.size w W) => l02Vector_any d W (by omega))
    have K0 := Lib.hid (Blk.new w 23 #[.int .i64 0, .int .i64 0])
    generalize vecV d = p at HV ⊢
    obtain ⟨x, y⟩ := p
    skip
    go_enter Tryd.func7, Tryd.ntmps7
    go_wp2_with (first | (go_at_call 23; refine (l02Dir_any _ _).mono ?_; rintro e w' ⟨rfl, rfl⟩))
    refine (HV.out _ (below_alloc1 _ _)).mono ?_
    rintro e w1 ⟨rfl, hb1⟩
    have K1 := K0.out.on hb1
    obtain ⟨c0, c1⟩ := K1.two
    have z0 := K1.frozen 0
    have z1 := K1.frozen 1
    have B1 := (below_alloc1 w _).trans (hb1.mono (by simp))
    clear hb1 K1 K0
    go_wp2
    exact bodyPost_ret (v := .tuple #[ptV x y, .int .i64 0]) (by simp [results, Tryd.results7, go_sem, c0, c1]) rfl ⟨rfl, (B1.setCell (by simp) _).setCell (by simp) _⟩
def atX (f v r : Int) : Int := f + (v * r).tdiv 1000
def atV (fx fy : Int) (d : Nat) (r : Int) : Int × Int := (atX fx (vecV d).1 r, atX fy (vecV d).2 r)
theorem tdiv_bd {a : Int} (h0 : -1000000 ≤ a) (h1 : a ≤ 1000000) : -1000 ≤ a.tdiv 1000 ∧ a.tdiv 1000 ≤ 1000 := by
  have hs : (1000 : Int).sign = 1 := rfl
  rw [Int.tdiv_eq_ediv, hs]
  split <;> omega
theorem mul_bd2 {v r : Int} (v0 : -1000 ≤ v) (v1 : v ≤ 1000) (r0 : 0 ≤ r) (r1 : r ≤ 1000) : -1000000 ≤ v * r ∧ v * r ≤ 1000000 := by
  have := Int.mul_nonneg (show 0 ≤ 1000 - v by omega) r0
  have := Int.mul_nonneg (show 0 ≤ 1000 + v by omega) r0
  simp only [Int.sub_mul, Int.add_mul] at *
  omega
set_option maxHeartbeats 400000 in
theorem placeAt_any (fx fy : Int) (d : Nat) (r : Int) (w : World) (hd : d < 24) (hQ : QuarterAt w) (hf : placeB fx fy = true) (r0 : 0 ≤ r) (r1 : r ≤ 1000) : Calls Tryd.prog 34 #[ptV fx fy, .int .i64 (d : Int), .int .i64 r] w fun e w' => e = .returned (ptV (atV fx fy d r).1 (atV fx fy d r).2) ∧ Below w.heap.size w w' := by
  have HV := Lib.hid (fun W (hb : Below w.heap.size w W) => vector_any d W hd (hQ.next hb))
  have K0 := Lib.hid ((Blk.new w 23 #[.int .i64 fx, .int .i64 fy]).alloc (.cells #[.int .i64 0, .int .i64 0] 23))
  have K1 := Lib.hid (Blk.new2 w (.cells #[.int .i64 fx, .int .i64 fy] 23) 23 #[.int .i64 0, .int .i64 0])
  obtain ⟨⟨x0, x1⟩, y0, y1⟩ := vec_bound hd
  unfold atV
  generalize vecV d = p at HV x0 x1 y0 y1 ⊢
  obtain ⟨vx, vy⟩ := p
  dsimp only at HV x0 x1 y0 y1 ⊢
  rw [placeB_iff] at hf
  obtain ⟨⟨f0, f1⟩, f2, f3⟩ := hf
  obtain ⟨m0, m1⟩ := mul_bd2 x0 x1 r0 r1
  obtain ⟨m2, m3⟩ := mul_bd2 y0 y1 r0 r1
  obtain ⟨t0, t1⟩ := tdiv_bd m0 m1
  obtain ⟨t2, t3⟩ := tdiv_bd m2 m3
  have EX : Hid (fx + (vx * r).tdiv 1000 = atX fx vx r) := rfl
  have EY : Hid (fy + (vy * r).tdiv 1000 = atX fy vy r) := rfl
  clear hQ
  go_enter Tryd.func34, Tryd.ntmps34
  go_wp2_with fail
  refine (HV.out _ (below_alloc2 _ _ _)).mono ?_
  rintro e w1 ⟨rfl, hb1⟩
  have KA := (K0.out.on hb1)
  have KR := (K1.out.on hb1)
  have B1 := (below_alloc2 w _ _).trans (hb1.mono (below_alloc2 w _ _).size)
  obtain ⟨a0, a1⟩ := KA.two
  obtain ⟨c0, c1⟩ := KR.two
  have z0 := KR.frozen 0
  have z1 := KR.frozen 1
  have la := KA.lt
  have lr := KR.lt
  have z2 := B1.size
  clear hb1 K0 K1 KA KR HV
  go_wp2
  refine bodyPost_ret (v := ptV (fx + (vx * r).tdiv 1000) (fy + (vy * r).tdiv 1000)) (by simp [results, Tryd.results34, go_sem, c0, c1, lr]) rfl ⟨rfl, ?_⟩
  first
    | exact ((B1.alloc z2 _).setCell (by simp) _).setCell (by simp) _
    | exact ((B1.setCell (p := ⟨w.heap.size + 1, 0, none⟩) (by simp) _).setCell (p := ⟨w.heap.size + 1, 1, none⟩) (by simp) _).alloc (by simp; omega) _
set_option maxHeartbeats 400000 in
theorem l02At_any (fx fy : Int) (d : Nat) (r : Int) (w : World) (hd : d < 24) (hf : placeB fx fy = true) (r0 : 0 ≤ r) (r1 : r ≤ 1000) : Calls Tryd.prog 32 #[ptV fx fy, .int .i64 (d : Int), .int .i64 r] w fun e w' => e = .returned (ptV (atV fx fy d r).1 (atV fx fy d r).2) ∧ Below w.heap.size w w' := by
  have HV := Lib.hid (fun W (hb : Below w.heap.size w W) => l02Vector_any d W hd)
  have K0 := Lib.hid ((Blk.new w 23 #[.int .i64 fx, .int .i64 fy]).alloc (.cells #[.int .i64 0, .int .i64 0] 23))
  have K1 := Lib.hid (Blk.new2 w (.cells #[.int .i64 fx, .int .i64 fy] 23) 23 #[.int .i64 0, .int .i64 0])
  obtain ⟨⟨x0, x1⟩, y0, y1⟩ := vec_bound hd
  unfold atV
  generalize vecV d = p at HV x0 x1 y0 y1 ⊢
  obtain ⟨vx, vy⟩ := p
  dsimp only at HV x0 x1 y0 y1 ⊢
  rw [placeB_iff] at hf
  obtain ⟨⟨f0, f1⟩, f2, f3⟩ := hf
  obtain ⟨m0, m1⟩ := mul_bd2 x0 x1 r0 r1
  obtain ⟨m2, m3⟩ := mul_bd2 y0 y1 r0 r1
  obtain ⟨t0, t1⟩ := tdiv_bd m0 m1
  obtain ⟨t2, t3⟩ := tdiv_bd m2 m3
  have EX : Hid (fx + (vx * r).tdiv 1000 = atX fx vx r) := rfl
  have EY : Hid (fy + (vy * r).tdiv 1000 = atX fy vy r) := rfl
  go_enter Tryd.func32, Tryd.ntmps32
  go_wp2_with fail
  refine (HV.out _ (below_alloc2 _ _ _)).mono ?_
  rintro e w1 ⟨rfl, hb1⟩
  have KA := (K0.out.on hb1)
  have KR := (K1.out.on hb1)
  have B1 := (below_alloc2 w _ _).trans (hb1.mono (below_alloc2 w _ _).size)
  obtain ⟨a0, a1⟩ := KA.two
  obtain ⟨c0, c1⟩ := KR.two
  have z0 := KR.frozen 0
  have z1 := KR.frozen 1
  have la := KA.lt
  have lr := KR.lt
  have z2 := B1.size
  clear hb1 K0 K1 KA KR HV
  go_wp2
  refine bodyPost_ret (v := ptV (fx + (vx * r).tdiv 1000) (fy + (vy * r).tdiv 1000)) (by simp [results, Tryd.results32, go_sem, c0, c1, lr]) rfl ⟨rfl, ?_⟩
  first
    | exact ((B1.alloc z2 _).setCell (by simp) _).setCell (by simp) _
    | exact ((B1.setCell (p := ⟨w.heap.size + 1, 0, none⟩) (by simp) _).setCell (p := ⟨w.heap.size + 1, 1, none⟩) (by simp) _).alloc (by simp; omega) _
end Go.Proofs.YtofoihohendjgaaDoor
