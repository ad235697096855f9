/- Three places out of the source. -/
import Derived.Test.YtofoihohendjgaaDoorProg
import Derived.Test.YtofoihohendjgaaDoorKit
import Derived.Test.YtofoihohendjgaaDoorMem
import Derived.Test.YtofoihohendjgaaDoorCodeRes
import Derived.Test.YtofoihohendjgaaDoorSrc
import Derived.Test.YtofoihohendjgaaDoorSrc2
import Derived.Deep.RegionWith
namespace Go.Proofs.YtofoihohendjgaaDoor
open Go.RowKit Go.WideShapes Go.ChangeShapes Go.Joins Go.Deep Go.Sort
set_option linter.unusedVariables false
set_option linter.unusedSimpArgs false

theorem two_far {w : World} {g b i : Nat} {u u' v : Value} (h : w.cell? ⟨b, i, none⟩ = some v) (hne : g ≠ b) : ((w.setCell ⟨g, 0, none⟩ u).setCell ⟨g, 1, none⟩ u').cell? ⟨b, i, none⟩ = some v :=
  (World.cell?_setCell_other _ _ _ _ (fun e => hne (by injection e))).trans ((World.cell?_setCell_other _ _ _ _ (fun e => hne (by injection e))).trans h)
def PlacesOut (w : World) (e : Ending) (w' : World) : Prop := ∃ ax ay bx cy dx dy : Int, e = .returned (.tuple #[dP ax ay, dP bx cy, dP dx dy]) ∧ Near ax ay ∧ Near bx cy ∧ Near dx dy ∧ Below w.heap.size w w'
theorem grown_below2 {a b c : World} {B g : Nat} (h : Below B a b) (hg : b.grownBy c (some g)) (hB : B ≤ b.heap.size) (hr : B ≤ g) : Below B a c := h.grown hg hB (fun k hk => by injection hk with hk; omega)
set_option maxHeartbeats 2000000 in
theorem A2Places_any (A : Option Addr) (n c : Nat) (w : World) (hB : BytesAt w w.heap.size A n) (hn : n ≤ 3000) : Calls Tryd.prog 21 #[.slice A n c] w (PlacesOut w) := by
  have B0 := Lib.hid (below_alloc3 w (.cells #[.int .i64 0, .int .i64 0] 23) (.cells #[.int .i64 0, .int .i64 0] 23) (.cells #[.int .i64 0, .int .i64 0] 23))
  have X0 := Lib.hid (((Blk.new w 23 #[.int .i64 0, .int .i64 0]).alloc (.cells #[.int .i64 0, .int .i64 0] 23)).alloc (.cells #[.int .i64 0, .int .i64 0] 23))
  have Y0 := Lib.hid ((Blk.new2 w (.cells #[.int .i64 0, .int .i64 0] 23) 23 #[.int .i64 0, .int .i64 0]).alloc (.cells #[.int .i64 0, .int .i64 0] 23))
  have Z0 := Lib.hid (Blk.new3 w (.cells #[.int .i64 0, .int .i64 0] 23) (.cells #[.int .i64 0, .int .i64 0] 23) 23 #[.int .i64 0, .int .i64 0])
  have D0 := Lib.hid (hB.below B0.out)
  clear hB
  go_enter Tryd.func21, Tryd.ntmps21
  go_wp2_with fail
  refine (l00From_any _ _ _ _).mono ?_
  rintro e w1 ⟨rfl, S1, hb1⟩
  generalize hg : (((w.alloc (.cells #[.int .i64 0, .int .i64 0] 23)).alloc (.cells #[.int .i64 0, .int .i64 0] 23)).alloc (.cells #[.int .i64 0, .int .i64 0] 23)).heap.size = g at S1 ⊢
  have gw : w.heap.size + 1 + 1 < g := by rw [← hg]; simp
  have B1 := B0.out.trans (hb1.mono B0.out.size)
  have X1 := Lib.hid (X0.out.on hb1)
  have Y1 := Lib.hid (Y0.out.on hb1)
  have Z1 := Lib.hid (Z0.out.on hb1)
  have D1 := Lib.hid (D0.out.below (hb1.mono B0.out.size))
  have HS1 := Lib.hid S1
  have z1 := B1.size
  have B1 := Lib.hid B1
  clear hb1 X0 Y0 Z0 D0 B0 S1 hg
  go_wp2_with fail
  refine (l02Draw_any A n c 0 w.heap.size g _ HS1.out D1.out (by omega) hn (by omega) (by omega)).mono ?_
  rintro e w2 ⟨ax, ay, t2, rfl, na, u0, u1, S2, G2⟩
  have lg2 := S2.lt
  have bx := below_alloc1 w2 (.cells #[.int .i64 ax, .int .i64 ay] 23)
  have B2 := grown_below2 B1.out G2 z1 (by omega)
  have z2 := B2.size
  have X2 := Lib.hid ((X1.out.grown G2 (by intro e; injection e with e; omega)).alloc (.cells #[.int .i64 ax, .int .i64 ay] 23))
  have Y2 := Lib.hid ((Y1.out.grown G2 (by intro e; injection e with e; omega)).alloc (.cells #[.int .i64 ax, .int .i64 ay] 23))
  have Z2 := Lib.hid ((Z1.out.grown G2 (by intro e; injection e with e; omega)).alloc (.cells #[.int .i64 ax, .int .i64 ay] 23))
  have D2 := Lib.hid ((D1.out.grown G2 z1 (fun g' e => by injection e with e; omega)).below (bx.mono z2))
  have HS2 := Lib.hid (S2.on bx)
  have KA2 := Lib.hid (Blk.new w2 23 #[.int .i64 ax, .int .i64 ay])
  have ga2 : g < w2.heap.size := lg2
  have zz2 : w.heap.size ≤ (w2.alloc (.cells #[.int .i64 ax, .int .i64 ay] 23)).heap.size := by simp; omega
  have HB2 := Lib.hid (B2.trans (bx.mono z2))
  have xl2 : w.heap.size + 1 + 1 < w2.heap.size := by omega
  clear G2 S2 bx B2 X1 Y1 Z1 D1 HS1 B1
  go_wp2_with fail
  refine (l02Draw_any A n c t2 w.heap.size g _ HS2.out D2.out (by omega) hn (by omega) (by omega)).mono ?_
  rintro e w3 ⟨bx', by', t3, rfl, nb, u2, u3, S3, G3⟩
  have lg3 := S3.lt
  have zz := G3.size
  have l3 : w2.heap.size < w3.heap.size := by simp at zz; omega
  have bx := below_alloc1 w3 (.cells #[.int .i64 bx', .int .i64 by'] 23)
  have B3 := grown_below2 HB2.out G3 zz2 (by omega)
  have z3 := B3.size
  have X3 := Lib.hid ((X2.out.grown G3 (by intro e; injection e with e; omega)).alloc (.cells #[.int .i64 bx', .int .i64 by'] 23))
  have Y3 := Lib.hid ((Y2.out.grown G3 (by intro e; injection e with e; omega)).alloc (.cells #[.int .i64 bx', .int .i64 by'] 23))
  have Z3 := Lib.hid ((Z2.out.grown G3 (by intro e; injection e with e; omega)).alloc (.cells #[.int .i64 bx', .int .i64 by'] 23))
  have KA3 := Lib.hid ((KA2.out.grown G3 (by intro e; injection e with e; omega)).alloc (.cells #[.int .i64 bx', .int .i64 by'] 23))
  have KB3 := Lib.hid (Blk.new w3 23 #[.int .i64 bx', .int .i64 by'])
  have D3 := Lib.hid ((D2.out.grown G3 zz2 (fun g' e => by injection e with e; omega)).below (bx.mono z3))
  have HS3 := Lib.hid (S3.on bx)
  have HB3 := Lib.hid (B3.trans (bx.mono z3))
  have zz3 : w.heap.size ≤ (w3.alloc (.cells #[.int .i64 bx', .int .i64 by'] 23)).heap.size := by simp; omega
  clear G3 S3 bx B3 X2 Y2 Z2 D2 HS2 HB2 KA2 zz
  go_wp2_with fail
  refine name_world (f := fun w => (Code.region _ _ _).wp _ _ _ w) ?_
  intro W hW
  have XW : Hid (Blk W w.heap.size 23 #[.int .i64 0, .int .i64 0]) := by rw [hW]; exact X3
  have YW : Hid (Blk W (w.heap.size + 1) 23 #[.int .i64 0, .int .i64 0]) := by rw [hW]; exact Y3
  have ZW : Hid (Blk W (w.heap.size + 1 + 1) 23 #[.int .i64 0, .int .i64 0]) := by rw [hW]; exact Z3
  have AW : Hid (Blk W w2.heap.size 23 #[.int .i64 ax, .int .i64 ay]) := by rw [hW]; exact KA3
  have BW : Hid (Blk W w3.heap.size 23 #[.int .i64 bx', .int .i64 by']) := by rw [hW]; exact KB3
  have DW : Hid (BytesAt W w.heap.size A n) := by rw [hW]; exact D3
  have SW : Hid (Src W g A n c t3) := by rw [hW]; exact HS3
  have LW : Hid (Below w.heap.size w W) := by rw [hW]; exact HB3
  have zW : w.heap.size ≤ W.heap.size := by rw [hW]; exact zz3
  clear hW X3 Y3 Z3 KA3 KB3 D3 HS3 HB3 zz3
  obtain ⟨a0, a1⟩ := AW.out.two
  obtain ⟨b0, b1⟩ := BW.out.two
  have p1 : w.heap.size ≠ w2.heap.size := by omega
  have p2 : w.heap.size + 1 ≠ w2.heap.size := by omega
  have p3 : w.heap.size + 1 + 1 ≠ w2.heap.size := by omega
  have s1 : w.heap.size ≠ w3.heap.size := by omega
  have s2 : w.heap.size + 1 ≠ w3.heap.size := by omega
  have s3 : w.heap.size + 1 + 1 ≠ w3.heap.size := by omega
  have q1 : w2.heap.size ≠ w.heap.size := by omega
  have q2 : w2.heap.size ≠ w.heap.size + 1 := by omega
  have q3 : w2.heap.size ≠ w.heap.size + 1 + 1 := by omega
  have q4 : w3.heap.size ≠ w.heap.size := by omega
  have q5 : w3.heap.size ≠ w.heap.size + 1 := by omega
  have q6 : w3.heap.size ≠ w.heap.size + 1 + 1 := by omega
  go_region_with
    (first
      | (go_at_call 40; refine (l02Draw_any A n c t3 w.heap.size g _ (SW.out.drewN 1) DW.out (by omega) hn (by omega) (by omega)).mono ?_; rintro e w4 ⟨dx, dy, t4, rfl, nc, u4, u5, S4, G4⟩; have A4 := (AW.out.drewN 1).grown G4 (by intro e; injection e with e; omega); have E4 := (BW.out.drewN 1).grown G4 (by intro e; injection e with e; omega); have X4 := (XW.out.drewN 1).grown G4 (by intro e; injection e with e; omega); have Y4 := (YW.out.drewN 1).grown G4 (by intro e; injection e with e; omega); have Z4 := (ZW.out.drewN 1).grown G4 (by intro e; injection e with e; omega); have L4 := grown_below2 (below_drewN LW.out 1) G4 zW (by omega); obtain ⟨a0, a1⟩ := A4.two; obtain ⟨b0, b1⟩ := E4.two; obtain ⟨x0, x1⟩ := X4.two; obtain ⟨y0, y1⟩ := Y4.two; obtain ⟨r0, r1⟩ := Z4.two; have x2 := X4.frozen 0; have x3 := X4.frozen 1; have y2 := Y4.frozen 0; have y3 := Y4.frozen 1; have r2 := Z4.frozen 0; have r3 := Z4.frozen 1; have L4 := Lib.hid L4; clear G4 S4 A4 E4 X4 Y4 Z4))
  all_goals
    go_wp2
    exact bodyPost_ret (v := .tuple #[dP ax ay, dP bx' by', dP dx dy]) (by simp [results, Tryd.results21, go_sem, x0, x1, y0, y1, r0, r1]) rfl ⟨ax, ay, bx', by', dx, dy, rfl, na, nb, nc, (((((L4.out.setCell (by simp) _).setCell (by simp) _).setCell (by simp) _).setCell (by simp) _).setCell (by simp; omega) _).setCell (by simp; omega) _⟩
end Go.Proofs.YtofoihohendjgaaDoor
