/- Cranes: the ends of the jib and of the counter jib; the walks of both sides, and the laws. -/
import Derived.Test.YtbdompadkeamdaaDoorProg
import Derived.Test.YtbdompadkeamdaaDoorKit
import Derived.Test.YtbdompadkeamdaaDoorBasics
import Derived.Test.YtbdompadkeamdaaDoorMem
import Derived.Test.YtbdompadkeamdaaDoorCodeRes
import Derived.Test.YtbdompadkeamdaaDoorLists
import Derived.Test.YtbdompadkeamdaaDoorSteps
import Derived.Test.YtbdompadkeamdaaDoorCharts
import Derived.Test.YtbdompadkeamdaaDoorChartLaws
import Derived.Test.YtbdompadkeamdaaDoorNames
import Derived.Test.YtbdompadkeamdaaDoorDirs
import Derived.Test.YtbdompadkeamdaaDoorPts
import Derived.Test.YtbdompadkeamdaaDoorZonePlain
import Derived.Test.YtbdompadkeamdaaDoorZones
import Derived.Test.YtbdompadkeamdaaDoorDoor
import Derived.Test.YtbdompadkeamdaaDoorVec
import Derived.Test.YtbdompadkeamdaaDoorVec2
import Derived.Test.YtbdompadkeamdaaDoorCranes
import Derived.Test.YtbdompadkeamdaaDoorCranes2
import Derived.Test.YtbdompadkeamdaaDoorTail
import Derived.Deep.RegionHeld3
namespace Go.Proofs.YtbdompadkeamdaaDoor
open Go.RowKit Go.WideShapes Go.ChangeShapes Go.Joins Go.Deep Go.Sort
set_option linter.unusedVariables false
set_option linter.unusedSimpArgs false

def endV (valid rng : Bool) (p : Int × Int) : Value := codeRes valid rng (.tuple #[ptV p.1 p.2, .int .i64 0]) (ptV 0 0)
theorem endV_form (v r : Bool) (p : Int × Int) : ∃ x y k : Int, endV v r p = .tuple #[ptV x y, .int .i64 k] := by cases v <;> cases r <;> exact ⟨_, _, _, rfl⟩
theorem crane_arms {nm : ByteArray} {x y ht jb bk : Int} {L : List (Int × Int)} (h : craneB nm x y ht jb bk L = true) : placeB x y = true ∧ (0 ≤ jb ∧ jb ≤ 1000) ∧ 0 ≤ bk ∧ bk ≤ 1000 := by
  simp only [craneB, Bool.and_eq_true, inB_iff] at h
  exact ⟨h.2.1, by omega, by omega⟩
def jibV (x y jb : Int) (d : Nat) : Int × Int := atV x y d jb
def backV (x y bk : Int) (d : Nat) : Int × Int := atV x y ((d + 12) % 24) bk
theorem Blk.far_seven_c {w : World} {g : Nat} {t : TypeId} {a b c d e f i : Value} (h : Blk w g t #[a, b, c, d, e, f, i]) :
    (∀ x os, (grow (redrawn w x) os).cell? ⟨g, 0, none⟩ = some a) ∧ (∀ x os, (grow (redrawn w x) os).cell? ⟨g, 1, none⟩ = some b) ∧ (∀ x os, (grow (redrawn w x) os).cell? ⟨g, 2, none⟩ = some c) ∧ (∀ x os, (grow (redrawn w x) os).cell? ⟨g, 3, none⟩ = some d) ∧ (∀ x os, (grow (redrawn w x) os).cell? ⟨g, 4, none⟩ = some e) ∧ (∀ x os, (grow (redrawn w x) os).cell? ⟨g, 5, none⟩ = some f) ∧ (∀ x os, (grow (redrawn w x) os).cell? ⟨g, 6, none⟩ = some i) := h.far_seven
theorem opposite_any (d : Nat) (w : World) (hd : d < 24) : Calls Tryd.prog 32 #[.int .i64 (d : Int)] w fun e w' => e = .returned (.int .i64 (((d + 12) % 24 : Nat) : Int)) ∧ w = w' := by
  have E := Lib.hid (show ((d : Int) + 12) % 24 = (((d + 12) % 24 : Nat) : Int) by omega)
  go_enter Tryd.func32, Tryd.ntmps32
  go_wp2_with (go_at_call 44; refine (turned_any _ _ _ (by omega) (by omega) (by omega) (by omega)).mono ?_; rintro e w' ⟨rfl, rfl⟩)
  go_ret
  exact ⟨ret_int E.out, rfl⟩
theorem jibEnd_any (nm : ByteArray) (x y ht jb bk : Int) (A : Option Addr) (n c : Nat) (L : List (Int × Int)) (d : Nat) (w : World) (hd : d < 24) (hQ : QuarterAt w) (hp : placeB x y = true) (j0 : 0 ≤ jb) (j1 : jb ≤ 1000) : Calls Tryd.prog 19 #[craneV nm x y ht jb bk A n c, .int .i64 (d : Int)] w fun e w' => e = .returned (ptV (jibV x y jb d).1 (jibV x y jb d).2) ∧ Below w.heap.size w w' := by
  have B0 := Lib.hid (below_alloc2 w (.cells #[.string nm, .int .i64 x, .int .i64 y, .int .i64 ht, .int .i64 jb, .int .i64 bk, .slice A n c] 33) (.cells #[.int .i64 0, .int .i64 0] 28))
  have R0 := Lib.hid (Blk.new2 w (.cells #[.string nm, .int .i64 x, .int .i64 y, .int .i64 ht, .int .i64 jb, .int .i64 bk, .slice A n c] 33) 28 #[.int .i64 0, .int .i64 0])
  have HA := Lib.hid (fun W (hb : Below w.heap.size w W) => placeAt_any x y d jb W hd (hQ.next hb) hp j0 j1)
  unfold jibV
  generalize atV x y d jb = p at HA ⊢
  obtain ⟨px, py⟩ := p
  dsimp only at HA ⊢
  clear hQ
  go_enter Tryd.func19, Tryd.ntmps19
  go_wp2_with fail
  refine (HA.out _ B0.out).mono ?_
  rintro e w1 ⟨rfl, hb1⟩
  have B1 := B0.out.trans (hb1.mono B0.out.size)
  have R1 := R0.out.on hb1
  obtain ⟨c0, c1⟩ := R1.two
  have z0 := R1.frozen 0
  have z1 := R1.frozen 1
  clear hb1 B0 R0 R1
  go_wp2
  exact bodyPost_ret (v := ptV px py) (by simp [results, Tryd.results19, go_sem, c0, c1]) rfl ⟨rfl, (B1.setCell (by simp) _).setCell (by simp) _⟩
theorem backEnd_any (nm : ByteArray) (x y ht jb bk : Int) (A : Option Addr) (n c : Nat) (L : List (Int × Int)) (d : Nat) (w : World) (hd : d < 24) (hQ : QuarterAt w) (hp : placeB x y = true) (j0 : 0 ≤ bk) (j1 : bk ≤ 1000) : Calls Tryd.prog 22 #[craneV nm x y ht jb bk A n c, .int .i64 (d : Int)] w fun e w' => e = .returned (ptV (backV x y bk d).1 (backV x y bk d).2) ∧ Below w.heap.size w w' := by
  have B0 := Lib.hid (below_alloc2 w (.cells #[.string nm, .int .i64 x, .int .i64 y, .int .i64 ht, .int .i64 jb, .int .i64 bk, .slice A n c] 33) (.cells #[.int .i64 0, .int .i64 0] 28))
  have K0 := Lib.hid ((Blk.new w 33 #[.string nm, .int .i64 x, .int .i64 y, .int .i64 ht, .int .i64 jb, .int .i64 bk, .slice A n c]).alloc (.cells #[.int .i64 0, .int .i64 0] 28))
  have R0 := Lib.hid (Blk.new2 w (.cells #[.string nm, .int .i64 x, .int .i64 y, .int .i64 ht, .int .i64 jb, .int .i64 bk, .slice A n c] 33) 28 #[.int .i64 0, .int .i64 0])
  have hm : (d + 12) % 24 < 24 := Nat.mod_lt _ (by omega)
  have HO := Lib.hid (fun w => opposite_any d w hd)
  have HA := fun W (hb : Below w.heap.size w W) => placeAt_any x y ((d + 12) % 24) bk W hm (hQ.next hb) hp j0 j1
  unfold backV
  generalize atV x y ((d + 12) % 24) bk = p at HA ⊢
  generalize (d + 12) % 24 = m at HA HO hm ⊢
  obtain ⟨px, py⟩ := p
  dsimp only at HA ⊢
  have HA := Lib.hid HA
  clear hQ
  go_enter Tryd.func22, Tryd.ntmps22
  go_wp2_with fail
  refine name_world (f := fun w => (Code.region _ _ _).wp _ _ _ w) ?_
  intro W hW
  have K : Blk W w.heap.size 33 #[.string nm, .int .i64 x, .int .i64 y, .int .i64 ht, .int .i64 jb, .int .i64 bk, .slice A n c] := by rw [hW]; exact K0.out
  have R : Blk W (w.heap.size + 1) 28 #[.int .i64 0, .int .i64 0] := by rw [hW]; exact R0.out
  have BW : Below w.heap.size w W := by rw [hW]; exact B0.out
  have HR := Lib.hid (fun dd os => HA.out (grow (redrawn W dd) os) (BW.trans ((below_regrown W dd os).mono BW.size)))
  obtain ⟨f0, f1, f2, f3, f4, f5, f6⟩ := K.far_seven_c
  clear hW K B0 K0 R0 HA
  refine wp_region_below_tail 7 (by kernel_rfl) (by kernel_rfl) ?_
  simp only [List.take_succ_cons, List.take_zero, List.drop_succ_cons, List.drop_zero]
  repeat (first | go_big_quiet_step (first | exact Calls.regrown_of (same_below (HO.out _)) | exact Calls.regrown_of (HR.out _ _)) | quiet_step (first | exact Calls.regrown_of (same_below (HO.out _)) | exact Calls.regrown_of (HR.out _ _)))
  refine wpQuiet_nil ?_
  intro w1 hw1
  have hb1 := class_below hw1
  have B1 := BW.trans (hb1.mono BW.size)
  have R1 := R.on hb1
  obtain ⟨c0, c1⟩ := R1.two
  have z0 := R1.frozen 0
  have z1 := R1.frozen 1
  clear hw1 hb1 R1 R BW HR f0 f1 f2 f3 f4 f5 f6
  go_wp2
  exact bodyPost_ret (v := ptV px py) (by simp [results, Tryd.results22, go_sem, c0, c1]) rfl ⟨rfl, (B1.setCell (by simp) _).setCell (by simp) _⟩
theorem l04Jib_any (nm : ByteArray) (x y ht jb bk : Int) (A : Option Addr) (n c : Nat) (L : List (Int × Int)) (d : Nat) (g : Nat) (w : World) (K : Blk w g 33 #[.string nm, .int .i64 x, .int .i64 y, .int .i64 ht, .int .i64 jb, .int .i64 bk, .slice A n c]) (hd : d < 24) (hp : placeB x y = true) (j0 : 0 ≤ jb) (j1 : jb ≤ 1000) : Calls Tryd.prog 15 #[.pointer (some ⟨g, 0, none⟩), .int .i64 (d : Int)] w fun e w' => e = .returned (ptV (jibV x y jb d).1 (jibV x y jb d).2) ∧ Below w.heap.size w w' := by
  have B0 := Lib.hid (below_alloc1 w (.cells #[.int .i64 0, .int .i64 0] 28))
  have K0 := Lib.hid (K.alloc (.cells #[.int .i64 0, .int .i64 0] 28))
  have R0 := Lib.hid (Blk.new w 28 #[.int .i64 0, .int .i64 0])
  have HA := fun W => l02At_any x y d jb W hd hp j0 j1
  unfold jibV
  generalize atV x y d jb = p at HA ⊢
  obtain ⟨px, py⟩ := p
  dsimp only at HA ⊢
  have HA := Lib.hid HA
  clear K
  go_enter Tryd.func15, Tryd.ntmps15
  go_wp2_with fail
  refine name_world (f := fun w => (Code.region _ _ _).wp _ _ _ w) ?_
  intro W hW
  have K : Blk W g 33 #[.string nm, .int .i64 x, .int .i64 y, .int .i64 ht, .int .i64 jb, .int .i64 bk, .slice A n c] := by rw [hW]; exact K0.out
  have R : Blk W w.heap.size 28 #[.int .i64 0, .int .i64 0] := by rw [hW]; exact R0.out
  have BW : Below w.heap.size w W := by rw [hW]; exact B0.out
  obtain ⟨f0, f1, f2, f3, f4, f5, f6⟩ := K.far_seven_c
  clear hW K B0 K0 R0
  refine wp_region_below_tail 10 (by kernel_rfl) (by kernel_rfl) ?_
  simp only [List.take_succ_cons, List.take_zero, List.drop_succ_cons, List.drop_zero]
  repeat (first | go_big_quiet_step (first | exact Calls.regrown_of (HA.out _)) | quiet_step (first | exact Calls.regrown_of (HA.out _)))
  refine wpQuiet_nil ?_
  intro w1 hw1
  have hb1 := class_below hw1
  have B1 := BW.trans (hb1.mono BW.size)
  have R1 := R.on hb1
  obtain ⟨c0, c1⟩ := R1.two
  have z0 := R1.frozen 0
  have z1 := R1.frozen 1
  clear hw1 hb1 R1 R BW f0 f1 f2 f3 f4 f5 f6
  go_wp2
  exact bodyPost_ret (v := ptV px py) (by simp [results, Tryd.results15, go_sem, c0, c1]) rfl ⟨rfl, (B1.setCell (by simp) _).setCell (by simp) _⟩
theorem l04Back_any (nm : ByteArray) (x y ht jb bk : Int) (A : Option Addr) (n c : Nat) (L : List (Int × Int)) (d : Nat) (g : Nat) (w : World) (K : Blk w g 33 #[.string nm, .int .i64 x, .int .i64 y, .int .i64 ht, .int .i64 jb, .int .i64 bk, .slice A n c]) (hd : d < 24) (hp : placeB x y = true) (j0 : 0 ≤ bk) (j1 : bk ≤ 1000) : Calls Tryd.prog 21 #[.pointer (some ⟨g, 0, none⟩), .int .i64 (d : Int)] w fun e w' => e = .returned (ptV (backV x y bk d).1 (backV x y bk d).2) ∧ Below w.heap.size w w' := by
  have B0 := Lib.hid (below_alloc1 w (.cells #[.int .i64 0, .int .i64 0] 28))
  have K0 := Lib.hid (K.alloc (.cells #[.int .i64 0, .int .i64 0] 28))
  have R0 := Lib.hid (Blk.new w 28 #[.int .i64 0, .int .i64 0])
  have hm : (d + 12) % 24 < 24 := Nat.mod_lt _ (by omega)
  have HM := fun w => l02Mod_any ((d : Int) + 12) w (by omega) (by omega)
  rw [show ((d : Int) + 12) % 24 = (((d + 12) % 24 : Nat) : Int) by omega] at HM
  have v1 := IntWalk.i64_in ((d : Int) + 12) (by omega)
  have HA := fun W => l02At_any x y ((d + 12) % 24) bk W hm hp j0 j1
  unfold backV
  generalize atV x y ((d + 12) % 24) bk = p at HA ⊢
  generalize (d + 12) % 24 = m at HA HM hm ⊢
  have HM := Lib.hid HM
  obtain ⟨px, py⟩ := p
  dsimp only at HA ⊢
  have HA := Lib.hid HA
  clear K
  go_enter Tryd.func21, Tryd.ntmps21
  go_wp2_with fail
  refine name_world (f := fun w => (Code.region _ _ _).wp _ _ _ w) ?_
  intro W hW
  have K : Blk W g 33 #[.string nm, .int .i64 x, .int .i64 y, .int .i64 ht, .int .i64 jb, .int .i64 bk, .slice A n c] := by rw [hW]; exact K0.out
  have R : Blk W w.heap.size 28 #[.int .i64 0, .int .i64 0] := by rw [hW]; exact R0.out
  have BW : Below w.heap.size w W := by rw [hW]; exact B0.out
  obtain ⟨f0, f1, f2, f3, f4, f5, f6⟩ := K.far_seven_c
  clear hW K B0 K0 R0
  refine wp_region_below_tail 12 (by kernel_rfl) (by kernel_rfl) ?_
  simp only [List.take_succ_cons, List.take_zero, List.drop_succ_cons, List.drop_zero]
  repeat (first | go_big_quiet_step (first | exact Calls.regrown_of (HA.out _) | exact Calls.regrown_of (same_below (HM.out _))) | quiet_step (first | exact Calls.regrown_of (HA.out _) | exact Calls.regrown_of (same_below (HM.out _))))
  refine wpQuiet_nil ?_
  intro w1 hw1
  have hb1 := class_below hw1
  have B1 := BW.trans (hb1.mono BW.size)
  have R1 := R.on hb1
  obtain ⟨c0, c1⟩ := R1.two
  have z0 := R1.frozen 0
  have z1 := R1.frozen 1
  clear hw1 hb1 R1 R BW f0 f1 f2 f3 f4 f5 f6
  go_wp2
  exact bodyPost_ret (v := ptV px py) (by simp [results, Tryd.results21, go_sem, c0, c1]) rfl ⟨rfl, (B1.setCell (by simp) _).setCell (by simp) _⟩
theorem l04Dir_any (nm : ByteArray) (x y ht jb bk : Int) (A : Option Addr) (n c : Nat) (L : List (Int × Int)) (d : Int) (g : Nat) (w : World) (K : Blk w g 33 #[.string nm, .int .i64 x, .int .i64 y, .int .i64 ht, .int .i64 jb, .int .i64 bk, .slice A n c]) (hs : nm.size ≤ maxLen) (h : Steps w w.heap.size A n L) (hn : n ≤ maxLen) : Calls Tryd.prog 14 #[.pointer (some ⟨g, 0, none⟩), .int .i64 d] w fun en w' => en = .returned (.int .i64 (codeV (craneB nm x y ht jb bk L) (inB d 0 23))) ∧ Below w.heap.size w w' := by
  have LV := l04Ok_any nm x y ht jb bk A n c L g w K hs h hn
  clear K h hn
  cases hz : craneB nm x y ht jb bk L
  · rw [codeV_f]
    rw [hz] at LV
    have HC := Lib.hid LV
    clear LV hz
    go_enter Tryd.func14, Tryd.ntmps14
    go_wp2_with fail
    refine HC.out.mono ?_
    rintro en w1 ⟨rfl, hb1⟩
    go_wp2
    go_ret
    exact ⟨rfl, hb1⟩
  · rw [hz] at LV
    have HC := Lib.hid LV
    clear LV hz
    have HR := fun w => l02Dir_any d w
    cases hr : inB d 0 23
    all_goals
      rw [hr] at HR
      have HR := Lib.hid HR
      clear hr
      first | rw [codeV_tf] | rw [codeV_tt]
      go_enter Tryd.func14, Tryd.ntmps14
      go_wp2_with fail
      refine HC.out.mono ?_
      rintro en w1 ⟨rfl, hb1⟩
      go_wp2_with (go_at_call 24; refine (HR.out _).mono ?_; rintro e w' ⟨rfl, rfl⟩)
      go_ret
      exact ⟨rfl, hb1⟩
theorem specJibEnd_any (nm : ByteArray) (x y ht jb bk : Int) (A : Option Addr) (n c : Nat) (L : List (Int × Int)) (d : Int) (w : World) (hs : nm.size ≤ maxLen) (h : Steps w w.heap.size A n L) (hn : n ≤ maxLen) : Calls Tryd.prog 6 #[craneV nm x y ht jb bk A n c, .int .i64 d] w fun en w' => en = .returned (endV (craneB nm x y ht jb bk L) (inB d 0 23) (jibV x y jb d.toNat)) ∧ Below w.heap.size w w' := by
  have B0 := Lib.hid (below_alloc2 w (.cells #[.string nm, .int .i64 x, .int .i64 y, .int .i64 ht, .int .i64 jb, .int .i64 bk, .slice A n c] 33) (.cells #[.int .i64 0, .int .i64 0] 28))
  have K0 := Lib.hid ((Blk.new w 33 #[.string nm, .int .i64 x, .int .i64 y, .int .i64 ht, .int .i64 jb, .int .i64 bk, .slice A n c]).alloc (.cells #[.int .i64 0, .int .i64 0] 28))
  have R0 := Lib.hid (Blk.new2 w (.cells #[.string nm, .int .i64 x, .int .i64 y, .int .i64 ht, .int .i64 jb, .int .i64 bk, .slice A n c] 33) 28 #[.int .i64 0, .int .i64 0])
  have CV := l04Dir_any nm x y ht jb bk A n c L d w.heap.size _ K0.out hs (h.next B0.out) hn
  unfold endV
  clear h hn
  cases hz : craneB nm x y ht jb bk L
  · rw [hz, codeV_f] at CV
    rw [codeRes_f]
    have HC := Lib.hid CV
    clear CV hz
    go_enter Tryd.func6, Tryd.ntmps6
    go_wp2_with fail
    refine HC.out.mono ?_
    rintro en w1 ⟨rfl, hb1⟩
    have B1 := B0.out.trans (hb1.mono B0.out.size)
    have K1 := Lib.hid (K0.out.on hb1)
    have R1 := R0.out.on hb1
    clear hb1 B0 K0 R0
    obtain ⟨c0, c1⟩ := R1.two
    have z0 := R1.frozen 0
    have z1 := R1.frozen 1
    go_wp2
    exact bodyPost_ret (v := .tuple #[ptV 0 0, .int .i64 1]) (by simp [results, Tryd.results6, go_sem, c0, c1]) rfl ⟨rfl, (B1.setCell (p := ⟨w.heap.size + 1, 0, none⟩) (by simp) _).setCell (p := ⟨w.heap.size + 1, 1, none⟩) (by simp) _⟩
  · cases hr : inB d 0 23
    · rw [hz, hr, codeV_tf] at CV
      rw [codeRes_tf]
      have HC := Lib.hid CV
      clear CV hz hr
      go_enter Tryd.func6, Tryd.ntmps6
      go_wp2_with fail
      refine HC.out.mono ?_
      rintro en w1 ⟨rfl, hb1⟩
      have B1 := B0.out.trans (hb1.mono B0.out.size)
      have K1 := Lib.hid (K0.out.on hb1)
      have R1 := R0.out.on hb1
      clear hb1 B0 K0 R0
      obtain ⟨c0, c1⟩ := R1.two
      have z0 := R1.frozen 0
      have z1 := R1.frozen 1
      go_wp2
      exact bodyPost_ret (v := .tuple #[ptV 0 0, .int .i64 2]) (by simp [results, Tryd.results6, go_sem, c0, c1]) rfl ⟨rfl, (B1.setCell (p := ⟨w.heap.size + 1, 0, none⟩) (by simp) _).setCell (p := ⟨w.heap.size + 1, 1, none⟩) (by simp) _⟩
    · rw [hz, hr, codeV_tt] at CV
      rw [codeRes_tt]
      have HC := Lib.hid CV
      have b1 := inB_of hr
      obtain ⟨d, rfl⟩ : ∃ k : Nat, d = k := ⟨d.toNat, by omega⟩
      have hd : d < 24 := by omega
      rw [Int.toNat_natCast]
      obtain ⟨hp, ⟨j0, j1⟩, k0, k1⟩ := crane_arms hz
      have HA := fun (g : Nat) (W : World) (K : Blk W g 33 #[.string nm, .int .i64 x, .int .i64 y, .int .i64 ht, .int .i64 jb, .int .i64 bk, .slice A n c]) => l04Jib_any nm x y ht jb bk A n c L d g W K hd hp j0 j1
      generalize jibV x y jb d = p at HA ⊢
      obtain ⟨px, py⟩ := p
      dsimp only at HA ⊢
      have HA := Lib.hid HA
      clear CV hz hr
      go_enter Tryd.func6, Tryd.ntmps6
      go_wp2_with fail
      refine HC.out.mono ?_
      rintro en w1 ⟨rfl, hb1⟩
      have B1 := B0.out.trans (hb1.mono B0.out.size)
      have K1 := Lib.hid (K0.out.on hb1)
      have R1 := R0.out.on hb1
      clear hb1 B0 K0 R0
      have R1 := Lib.hid R1
      go_wp2_with fail
      refine (HA.out _ _ K1.out).mono ?_
      rintro en w2 ⟨rfl, hb2⟩
      have B2 := B1.trans (hb2.mono B1.size)
      have R2 := R1.out.on hb2
      obtain ⟨c0, c1⟩ := R2.two
      have z0 := R2.frozen 0
      have z1 := R2.frozen 1
      clear hb2 B1 R1 R2 K1
      go_wp2
      exact bodyPost_ret (v := .tuple #[ptV px py, .int .i64 0]) (by simp [results, Tryd.results6, go_sem, c0, c1]) rfl ⟨rfl, (B2.setCell (p := ⟨w.heap.size + 1, 0, none⟩) (by simp) _).setCell (p := ⟨w.heap.size + 1, 1, none⟩) (by simp) _⟩
set_option maxHeartbeats 400000 in
theorem endOfJibEnd_any (nm : ByteArray) (x y ht jb bk : Int) (A : Option Addr) (n c : Nat) (L : List (Int × Int)) (d : Int) (w : World) (hQ : QuarterAt w) (hs : nm.size ≤ maxLen) (h : Steps w w.heap.size A n L) (hn : n ≤ maxLen) : Calls Tryd.prog 18 #[craneV nm x y ht jb bk A n c, .int .i64 d, .func (.func 19) #[] #[]] w fun en w' => en = .returned (endV (craneB nm x y ht jb bk L) (inB d 0 23) (jibV x y jb d.toNat)) ∧ Below w.heap.size w w' := by
  have B0 := Lib.hid (below_alloc2 w (.cells #[.string nm, .int .i64 x, .int .i64 y, .int .i64 ht, .int .i64 jb, .int .i64 bk, .slice A n c] 33) (.cells #[.int .i64 0, .int .i64 0] 28))
  have K0 := Lib.hid ((Blk.new w 33 #[.string nm, .int .i64 x, .int .i64 y, .int .i64 ht, .int .i64 jb, .int .i64 bk, .slice A n c]).alloc (.cells #[.int .i64 0, .int .i64 0] 28))
  have R0 := Lib.hid (Blk.new2 w (.cells #[.string nm, .int .i64 x, .int .i64 y, .int .i64 ht, .int .i64 jb, .int .i64 bk, .slice A n c] 33) 28 #[.int .i64 0, .int .i64 0])
  have CV := implValidCrane_any nm x y ht jb bk A n c L _ hs (h.next B0.out) hn
  have HD := fun w => isDirection_any d w
  unfold endV
  clear h hn
  cases hz : craneB nm x y ht jb bk L
  · rw [hz] at CV
    rw [codeRes_f]
    have HC := Lib.hid CV
    clear CV hz HD hQ
    go_enter Tryd.func18, Tryd.ntmps18
    go_wp2_with fail
    refine HC.out.mono ?_
    rintro en w1 ⟨rfl, hb1⟩
    have B1 := B0.out.trans (hb1.mono B0.out.size)
    have K1 := Lib.hid (K0.out.on hb1)
    have R1 := R0.out.on hb1
    clear hb1 B0 K0 R0
    obtain ⟨c0, c1⟩ := R1.two
    have z0 := R1.frozen 0
    have z1 := R1.frozen 1
    go_wp2
    exact bodyPost_ret (v := .tuple #[ptV 0 0, .int .i64 1]) (by simp [results, Tryd.results18, go_sem, c0, c1]) rfl ⟨rfl, (B1.setCell (p := ⟨w.heap.size + 1, 0, none⟩) (by simp) _).setCell (p := ⟨w.heap.size + 1, 1, none⟩) (by simp) _⟩
  · cases hr : inB d 0 23
    · rw [hz] at CV
      rw [hr] at HD
      rw [codeRes_tf]
      have HC := Lib.hid CV
      have HD := Lib.hid HD
      clear CV hz hr hQ
      go_enter Tryd.func18, Tryd.ntmps18
      go_wp2_with fail
      refine HC.out.mono ?_
      rintro en w1 ⟨rfl, hb1⟩
      have B1 := B0.out.trans (hb1.mono B0.out.size)
      have K1 := Lib.hid (K0.out.on hb1)
      have R1 := R0.out.on hb1
      clear hb1 B0 K0 R0
      obtain ⟨c0, c1⟩ := R1.two
      have z0 := R1.frozen 0
      have z1 := R1.frozen 1
      go_wp2_with (go_at_call 28; refine (HD.out _).mono ?_; rintro e w' ⟨rfl, rfl⟩)
      exact bodyPost_ret (v := .tuple #[ptV 0 0, .int .i64 2]) (by simp [results, Tryd.results18, go_sem, c0, c1]) rfl ⟨rfl, (B1.setCell (p := ⟨w.heap.size + 1, 0, none⟩) (by simp) _).setCell (p := ⟨w.heap.size + 1, 1, none⟩) (by simp) _⟩
    · rw [hz] at CV
      rw [hr] at HD
      rw [codeRes_tt]
      have HC := Lib.hid CV
      have HD := Lib.hid HD
      have b1 := inB_of hr
      obtain ⟨d, rfl⟩ : ∃ k : Nat, d = k := ⟨d.toNat, by omega⟩
      have hd : d < 24 := by omega
      rw [Int.toNat_natCast]
      obtain ⟨hp, ⟨j0, j1⟩, k0, k1⟩ := crane_arms hz
      have HA := fun (W : World) (hb : Below w.heap.size w W) => jibEnd_any nm x y ht jb bk A n c L d W hd (hQ.next hb) hp j0 j1
      generalize jibV x y jb d = p at HA ⊢
      obtain ⟨px, py⟩ := p
      dsimp only at HA ⊢
      have HA := Lib.hid HA
      clear CV hz hr hQ
      go_enter Tryd.func18, Tryd.ntmps18
      go_wp2_with fail
      refine HC.out.mono ?_
      rintro en w1 ⟨rfl, hb1⟩
      have B1 := B0.out.trans (hb1.mono B0.out.size)
      have K1 := Lib.hid (K0.out.on hb1)
      have R1 := R0.out.on hb1
      clear hb1 B0 K0 R0
      have R1 := Lib.hid R1
      obtain ⟨a0, a1, a2, a3, a4, a5, a6⟩ := K1.out.seven
      go_wp2_with fail
      refine (HD.out _).mono ?_
      rintro e w' ⟨rfl, rfl⟩
      go_wp2_with fail
      refine (HA.out _ B1).mono ?_
      rintro en w2 ⟨rfl, hb2⟩
      have B2 := B1.trans (hb2.mono B1.size)
      have R2 := R1.out.on hb2
      obtain ⟨c0, c1⟩ := R2.two
      have z0 := R2.frozen 0
      have z1 := R2.frozen 1
      clear hb2 B1 R1 R2 K1 a0 a1 a2 a3 a4 a5 a6
      go_wp2
      exact bodyPost_ret (v := .tuple #[ptV px py, .int .i64 0]) (by simp [results, Tryd.results18, go_sem, c0, c1]) rfl ⟨rfl, (B2.setCell (p := ⟨w.heap.size + 1, 0, none⟩) (by simp) _).setCell (p := ⟨w.heap.size + 1, 1, none⟩) (by simp) _⟩
theorem implJibEnd_any (nm : ByteArray) (x y ht jb bk : Int) (A : Option Addr) (n c : Nat) (L : List (Int × Int)) (d : Int) (w : World) (hQ : QuarterAt w) (hs : nm.size ≤ maxLen) (h : Steps w w.heap.size A n L) (hn : n ≤ maxLen) : Calls Tryd.prog 8 #[craneV nm x y ht jb bk A n c, .int .i64 d] w fun en w' => en = .returned (endV (craneB nm x y ht jb bk L) (inB d 0 23) (jibV x y jb d.toNat)) ∧ Below w.heap.size w w' := by
  have B0 := Lib.hid (below_alloc2 w (.cells #[.string nm, .int .i64 x, .int .i64 y, .int .i64 ht, .int .i64 jb, .int .i64 bk, .slice A n c] 33) (.cells #[.int .i64 0, .int .i64 0] 28))
  have R0 := Lib.hid (Blk.new2 w (.cells #[.string nm, .int .i64 x, .int .i64 y, .int .i64 ht, .int .i64 jb, .int .i64 bk, .slice A n c] 33) 28 #[.int .i64 0, .int .i64 0])
  have CV := endOfJibEnd_any nm x y ht jb bk A n c L d _ (hQ.next B0.out) hs (h.next B0.out) hn
  obtain ⟨px, py, k, Fq⟩ := endV_form (craneB nm x y ht jb bk L) (inB d 0 23) (jibV x y jb d.toNat)
  rw [Fq] at CV ⊢
  have HC := Lib.hid CV
  clear h hn hQ CV Fq
  go_enter Tryd.func8, Tryd.ntmps8
  go_wp2_with fail
  refine HC.out.mono ?_
  rintro en w1 ⟨rfl, hb1⟩
  have B1 := B0.out.trans (hb1.mono B0.out.size)
  have R1 := R0.out.on hb1
  obtain ⟨c0, c1⟩ := R1.two
  have z0 := R1.frozen 0
  have z1 := R1.frozen 1
  clear hb1 B0 R0 R1
  go_wp2
  exact bodyPost_ret (v := .tuple #[ptV px py, .int .i64 k]) (by simp [results, Tryd.results8, go_sem, c0, c1]) rfl ⟨rfl, (B1.setCell (p := ⟨w.heap.size + 1, 0, none⟩) (by simp) _).setCell (p := ⟨w.heap.size + 1, 1, none⟩) (by simp) _⟩
theorem specBackEnd_any (nm : ByteArray) (x y ht jb bk : Int) (A : Option Addr) (n c : Nat) (L : List (Int × Int)) (d : Int) (w : World) (hs : nm.size ≤ maxLen) (h : Steps w w.heap.size A n L) (hn : n ≤ maxLen) : Calls Tryd.prog 11 #[craneV nm x y ht jb bk A n c, .int .i64 d] w fun en w' => en = .returned (endV (craneB nm x y ht jb bk L) (inB d 0 23) (backV x y bk d.toNat)) ∧ Below w.heap.size w w' := by
  have B0 := Lib.hid (below_alloc2 w (.cells #[.string nm, .int .i64 x, .int .i64 y, .int .i64 ht, .int .i64 jb, .int .i64 bk, .slice A n c] 33) (.cells #[.int .i64 0, .int .i64 0] 28))
  have K0 := Lib.hid ((Blk.new w 33 #[.string nm, .int .i64 x, .int .i64 y, .int .i64 ht, .int .i64 jb, .int .i64 bk, .slice A n c]).alloc (.cells #[.int .i64 0, .int .i64 0] 28))
  have R0 := Lib.hid (Blk.new2 w (.cells #[.string nm, .int .i64 x, .int .i64 y, .int .i64 ht, .int .i64 jb, .int .i64 bk, .slice A n c] 33) 28 #[.int .i64 0, .int .i64 0])
  have CV := l04Dir_any nm x y ht jb bk A n c L d w.heap.size _ K0.out hs (h.next B0.out) hn
  unfold endV
  clear h hn
  cases hz : craneB nm x y ht jb bk L
  · rw [hz, codeV_f] at CV
    rw [codeRes_f]
    have HC := Lib.hid CV
    clear CV hz
    go_enter Tryd.func11, Tryd.ntmps11
    go_wp2_with fail
    refine HC.out.mono ?_
    rintro en w1 ⟨rfl, hb1⟩
    have B1 := B0.out.trans (hb1.mono B0.out.size)
    have K1 := Lib.hid (K0.out.on hb1)
    have R1 := R0.out.on hb1
    clear hb1 B0 K0 R0
    obtain ⟨c0, c1⟩ := R1.two
    have z0 := R1.frozen 0
    have z1 := R1.frozen 1
    go_wp2
    exact bodyPost_ret (v := .tuple #[ptV 0 0, .int .i64 1]) (by simp [results, Tryd.results11, go_sem, c0, c1]) rfl ⟨rfl, (B1.setCell (p := ⟨w.heap.size + 1, 0, none⟩) (by simp) _).setCell (p := ⟨w.heap.size + 1, 1, none⟩) (by simp) _⟩
  · cases hr : inB d 0 23
    · rw [hz, hr, codeV_tf] at CV
      rw [codeRes_tf]
      have HC := Lib.hid CV
      clear CV hz hr
      go_enter Tryd.func11, Tryd.ntmps11
      go_wp2_with fail
      refine HC.out.mono ?_
      rintro en w1 ⟨rfl, hb1⟩
      have B1 := B0.out.trans (hb1.mono B0.out.size)
      have K1 := Lib.hid (K0.out.on hb1)
      have R1 := R0.out.on hb1
      clear hb1 B0 K0 R0
      obtain ⟨c0, c1⟩ := R1.two
      have z0 := R1.frozen 0
      have z1 := R1.frozen 1
      go_wp2
      exact bodyPost_ret (v := .tuple #[ptV 0 0, .int .i64 2]) (by simp [results, Tryd.results11, go_sem, c0, c1]) rfl ⟨rfl, (B1.setCell (p := ⟨w.heap.size + 1, 0, none⟩) (by simp) _).setCell (p := ⟨w.heap.size + 1, 1, none⟩) (by simp) _⟩
    · rw [hz, hr, codeV_tt] at CV
      rw [codeRes_tt]
      have HC := Lib.hid CV
      have b1 := inB_of hr
      obtain ⟨d, rfl⟩ : ∃ k : Nat, d = k := ⟨d.toNat, by omega⟩
      have hd : d < 24 := by omega
      rw [Int.toNat_natCast]
      obtain ⟨hp, ⟨j0, j1⟩, k0, k1⟩ := crane_arms hz
      have HA := fun (g : Nat) (W : World) (K : Blk W g 33 #[.string nm, .int .i64 x, .int .i64 y, .int .i64 ht, .int .i64 jb, .int .i64 bk, .slice A n c]) => l04Back_any nm x y ht jb bk A n c L d g W K hd hp k0 k1
      generalize backV x y bk d = p at HA ⊢
      obtain ⟨px, py⟩ := p
      dsimp only at HA ⊢
      have HA := Lib.hid HA
      clear CV hz hr
      go_enter Tryd.func11, Tryd.ntmps11
      go_wp2_with fail
      refine HC.out.mono ?_
      rintro en w1 ⟨rfl, hb1⟩
      have B1 := B0.out.trans (hb1.mono B0.out.size)
      have K1 := Lib.hid (K0.out.on hb1)
      have R1 := R0.out.on hb1
      clear hb1 B0 K0 R0
      have R1 := Lib.hid R1
      go_wp2_with fail
      refine (HA.out _ _ K1.out).mono ?_
      rintro en w2 ⟨rfl, hb2⟩
      have B2 := B1.trans (hb2.mono B1.size)
      have R2 := R1.out.on hb2
      obtain ⟨c0, c1⟩ := R2.two
      have z0 := R2.frozen 0
      have z1 := R2.frozen 1
      clear hb2 B1 R1 R2 K1
      go_wp2
      exact bodyPost_ret (v := .tuple #[ptV px py, .int .i64 0]) (by simp [results, Tryd.results11, go_sem, c0, c1]) rfl ⟨rfl, (B2.setCell (p := ⟨w.heap.size + 1, 0, none⟩) (by simp) _).setCell (p := ⟨w.heap.size + 1, 1, none⟩) (by simp) _⟩
set_option maxHeartbeats 400000 in
theorem endOfBackEnd_any (nm : ByteArray) (x y ht jb bk : Int) (A : Option Addr) (n c : Nat) (L : List (Int × Int)) (d : Int) (w : World) (hQ : QuarterAt w) (hs : nm.size ≤ maxLen) (h : Steps w w.heap.size A n L) (hn : n ≤ maxLen) : Calls Tryd.prog 18 #[craneV nm x y ht jb bk A n c, .int .i64 d, .func (.func 22) #[] #[]] w fun en w' => en = .returned (endV (craneB nm x y ht jb bk L) (inB d 0 23) (backV x y bk d.toNat)) ∧ Below w.heap.size w w' := by
  have B0 := Lib.hid (below_alloc2 w (.cells #[.string nm, .int .i64 x, .int .i64 y, .int .i64 ht, .int .i64 jb, .int .i64 bk, .slice A n c] 33) (.cells #[.int .i64 0, .int .i64 0] 28))
  have K0 := Lib.hid ((Blk.new w 33 #[.string nm, .int .i64 x, .int .i64 y, .int .i64 ht, .int .i64 jb, .int .i64 bk, .slice A n c]).alloc (.cells #[.int .i64 0, .int .i64 0] 28))
  have R0 := Lib.hid (Blk.new2 w (.cells #[.string nm, .int .i64 x, .int .i64 y, .int .i64 ht, .int .i64 jb, .int .i64 bk, .slice A n c] 33) 28 #[.int .i64 0, .int .i64 0])
  have CV := implValidCrane_any nm x y ht jb bk A n c L _ hs (h.next B0.out) hn
  have HD := fun w => isDirection_any d w
  unfold endV
  clear h hn
  cases hz : craneB nm x y ht jb bk L
  · rw [hz] at CV
    rw [codeRes_f]
    have HC := Lib.hid CV
    clear CV hz HD hQ
    go_enter Tryd.func18, Tryd.ntmps18
    go_wp2_with fail
    refine HC.out.mono ?_
    rintro en w1 ⟨rfl, hb1⟩
    have B1 := B0.out.trans (hb1.mono B0.out.size)
    have K1 := Lib.hid (K0.out.on hb1)
    have R1 := R0.out.on hb1
    clear hb1 B0 K0 R0
    obtain ⟨c0, c1⟩ := R1.two
    have z0 := R1.frozen 0
    have z1 := R1.frozen 1
    go_wp2
    exact bodyPost_ret (v := .tuple #[ptV 0 0, .int .i64 1]) (by simp [results, Tryd.results18, go_sem, c0, c1]) rfl ⟨rfl, (B1.setCell (p := ⟨w.heap.size + 1, 0, none⟩) (by simp) _).setCell (p := ⟨w.heap.size + 1, 1, none⟩) (by simp) _⟩
  · cases hr : inB d 0 23
    · rw [hz] at CV
      rw [hr] at HD
      rw [codeRes_tf]
      have HC := Lib.hid CV
      have HD := Lib.hid HD
      clear CV hz hr hQ
      go_enter Tryd.func18, Tryd.ntmps18
      go_wp2_with fail
      refine HC.out.mono ?_
      rintro en w1 ⟨rfl, hb1⟩
      have B1 := B0.out.trans (hb1.mono B0.out.size)
      have K1 := Lib.hid (K0.out.on hb1)
      have R1 := R0.out.on hb1
      clear hb1 B0 K0 R0
      obtain ⟨c0, c1⟩ := R1.two
      have z0 := R1.frozen 0
      have z1 := R1.frozen 1
      go_wp2_with (go_at_call 28; refine (HD.out _).mono ?_; rintro e w' ⟨rfl, rfl⟩)
      exact bodyPost_ret (v := .tuple #[ptV 0 0, .int .i64 2]) (by simp [results, Tryd.results18, go_sem, c0, c1]) rfl ⟨rfl, (B1.setCell (p := ⟨w.heap.size + 1, 0, none⟩) (by simp) _).setCell (p := ⟨w.heap.size + 1, 1, none⟩) (by simp) _⟩
    · rw [hz] at CV
      rw [hr] at HD
      rw [codeRes_tt]
      have HC := Lib.hid CV
      have HD := Lib.hid HD
      have b1 := inB_of hr
      obtain ⟨d, rfl⟩ : ∃ k : Nat, d = k := ⟨d.toNat, by omega⟩
      have hd : d < 24 := by omega
      rw [Int.toNat_natCast]
      obtain ⟨hp, ⟨j0, j1⟩, k0, k1⟩ := crane_arms hz
      have HA := fun (W : World) (hb : Below w.heap.size w W) => backEnd_any nm x y ht jb bk A n c L d W hd (hQ.next hb) hp k0 k1
      generalize backV x y bk d = p at HA ⊢
      obtain ⟨px, py⟩ := p
      dsimp only at HA ⊢
      have HA := Lib.hid HA
      clear CV hz hr hQ
      go_enter Tryd.func18, Tryd.ntmps18
      go_wp2_with fail
      refine HC.out.mono ?_
      rintro en w1 ⟨rfl, hb1⟩
      have B1 := B0.out.trans (hb1.mono B0.out.size)
      have K1 := Lib.hid (K0.out.on hb1)
      have R1 := R0.out.on hb1
      clear hb1 B0 K0 R0
      have R1 := Lib.hid R1
      obtain ⟨a0, a1, a2, a3, a4, a5, a6⟩ := K1.out.seven
      go_wp2_with fail
      refine (HD.out _).mono ?_
      rintro e w' ⟨rfl, rfl⟩
      go_wp2_with fail
      refine (HA.out _ B1).mono ?_
      rintro en w2 ⟨rfl, hb2⟩
      have B2 := B1.trans (hb2.mono B1.size)
      have R2 := R1.out.on hb2
      obtain ⟨c0, c1⟩ := R2.two
      have z0 := R2.frozen 0
      have z1 := R2.frozen 1
      clear hb2 B1 R1 R2 K1 a0 a1 a2 a3 a4 a5 a6
      go_wp2
      exact bodyPost_ret (v := .tuple #[ptV px py, .int .i64 0]) (by simp [results, Tryd.results18, go_sem, c0, c1]) rfl ⟨rfl, (B2.setCell (p := ⟨w.heap.size + 1, 0, none⟩) (by simp) _).setCell (p := ⟨w.heap.size + 1, 1, none⟩) (by simp) _⟩
theorem implBackEnd_any (nm : ByteArray) (x y ht jb bk : Int) (A : Option Addr) (n c : Nat) (L : List (Int × Int)) (d : Int) (w : World) (hQ : QuarterAt w) (hs : nm.size ≤ maxLen) (h : Steps w w.heap.size A n L) (hn : n ≤ maxLen) : Calls Tryd.prog 12 #[craneV nm x y ht jb bk A n c, .int .i64 d] w fun en w' => en = .returned (endV (craneB nm x y ht jb bk L) (inB d 0 23) (backV x y bk d.toNat)) ∧ Below w.heap.size w w' := by
  have B0 := Lib.hid (below_alloc2 w (.cells #[.string nm, .int .i64 x, .int .i64 y, .int .i64 ht, .int .i64 jb, .int .i64 bk, .slice A n c] 33) (.cells #[.int .i64 0, .int .i64 0] 28))
  have R0 := Lib.hid (Blk.new2 w (.cells #[.string nm, .int .i64 x, .int .i64 y, .int .i64 ht, .int .i64 jb, .int .i64 bk, .slice A n c] 33) 28 #[.int .i64 0, .int .i64 0])
  have CV := endOfBackEnd_any nm x y ht jb bk A n c L d _ (hQ.next B0.out) hs (h.next B0.out) hn
  obtain ⟨px, py, k, Fq⟩ := endV_form (craneB nm x y ht jb bk L) (inB d 0 23) (backV x y bk d.toNat)
  rw [Fq] at CV ⊢
  have HC := Lib.hid CV
  clear h hn hQ CV Fq
  go_enter Tryd.func12, Tryd.ntmps12
  go_wp2_with fail
  refine HC.out.mono ?_
  rintro en w1 ⟨rfl, hb1⟩
  have B1 := B0.out.trans (hb1.mono B0.out.size)
  have R1 := R0.out.on hb1
  obtain ⟨c0, c1⟩ := R1.two
  have z0 := R1.frozen 0
  have z1 := R1.frozen 1
  clear hb1 B0 R0 R1
  go_wp2
  exact bodyPost_ret (v := .tuple #[ptV px py, .int .i64 k]) (by simp [results, Tryd.results12, go_sem, c0, c1]) rfl ⟨rfl, (B1.setCell (p := ⟨w.heap.size + 1, 0, none⟩) (by simp) _).setCell (p := ⟨w.heap.size + 1, 1, none⟩) (by simp) _⟩
set_option maxHeartbeats 2000000 in
theorem FnExactJibEnd_walk (w : World) (SQ : QuarterAt w) (nm : ByteArray) (hnm : nm.size ≤ maxLen) (x y ht jb bk : Int) (A : Option Addr) (n c : Nat) (L : List (Int × Int)) (hn : n ≤ maxLen) (SA : Steps w w.heap.size A n L) (d : Int) (_wd : (Lit.int .i64 d).wf = true) : Calls Tryd.prog 3 #[craneV nm x y ht jb bk A n c, .int .i64 d] w fun en w' => en = .returned (.bool true) ∧ Below w.heap.size w w' := by
  clear _wd
  obtain ⟨u, v, kk, F⟩ := endV_form (craneB nm x y ht jb bk L) (inB d 0 23) (jibV x y jb d.toNat)
  have H1 : Hid (∀ A n' c w, n' = n → nm.size ≤ maxLen → Steps w w.heap.size A n' L → n' ≤ maxLen → Calls Tryd.prog 6 #[craneV nm x y ht jb bk A n' c, .int .i64 d] w fun en w' => en = .returned (.tuple #[ptV u v, .int .i64 kk]) ∧ Below w.heap.size w w') := fun A n' c w e' hs h hn => by subst e'; rw [← F]; exact specJibEnd_any nm x y ht jb bk A n' c L d w hs h hn
  have H2 : Hid (∀ A n' c w, QuarterAt w → n' = n → nm.size ≤ maxLen → Steps w w.heap.size A n' L → n' ≤ maxLen → Calls Tryd.prog 8 #[craneV nm x y ht jb bk A n' c, .int .i64 d] w fun en w' => en = .returned (.tuple #[ptV u v, .int .i64 kk]) ∧ Below w.heap.size w w') := fun A n' c w hQ e' hs h hn => by subst e'; rw [← F]; exact implJibEnd_any nm x y ht jb bk A n' c L d w hQ hs h hn
  clear F
  by_cases hs : (nm.size : Int) + n ≤ 1048576
  · have B0 : Below w.heap.size w (w.alloc (.cells #[.string nm, .int .i64 x, .int .i64 y, .int .i64 ht, .int .i64 jb, .int .i64 bk, .slice A n c] 26)) := below_alloc1 _ _
    have KA0 : Blk (w.alloc (.cells #[.string nm, .int .i64 x, .int .i64 y, .int .i64 ht, .int .i64 jb, .int .i64 bk, .slice A n c] 26)) (w.heap.size) 26 #[.string nm, .int .i64 x, .int .i64 y, .int .i64 ht, .int .i64 jb, .int .i64 bk, .slice A n c] := Blk.new w _ _
    have SA0 := SA.next B0
    have SQ0 := SQ.next B0
    clear SA SQ
    have KA0 := Lib.hid KA0
    have SA0 := Lib.hid SA0
    have SQ0 := Lib.hid SQ0
    have B0 := Lib.hid B0
    go_enter Tryd.func3, Tryd.ntmps3
    obtain ⟨A_0, A_1, A_2, A_3, A_4, A_5, A_6⟩ := KA0.out.seven
    go_wp2_with fail
    refine (szCrane_in _ hs _ _ _ _ _ _ _ _ (by omega) (by omega)).mono ?_
    rintro en w1 ⟨rfl, hb1⟩
    clear A_0 A_1 A_2 A_3 A_4 A_5 A_6
    have KA1 := (KA0.out).on hb1
    have SA1 := (SA0.out).next hb1
    have SQ1 := (SQ0.out).next hb1
    have B1 := B0.out.trans (hb1.mono B0.out.size)
    clear hb1 B0 KA0 SA0 SQ0
    have KA1 := Lib.hid KA1
    have SA1 := Lib.hid SA1
    have SQ1 := Lib.hid SQ1
    have B1 := Lib.hid B1
    clear hn hnm
    obtain ⟨A_0, A_1, A_2, A_3, A_4, A_5, A_6⟩ := KA1.out.seven
    go_wp2_with fail
    refine (toCrane_any _ _ _ _ _ _ _ _ _ _ _ SA1.out (by omega)).mono ?_
    rintro en w2 ⟨AX, rfl, SX2, hb2⟩
    clear A_0 A_1 A_2 A_3 A_4 A_5 A_6
    have KA2 := (KA1.out).on hb2
    have SA2 := (SA1.out).next hb2
    have SQ2 := (SQ1.out).next hb2
    have B2 := B1.out.trans (hb2.mono B1.out.size)
    clear hb2 B1 KA1 SA1 SQ1
    have KA2 := Lib.hid KA2
    have SA2 := Lib.hid SA2
    have SQ2 := Lib.hid SQ2
    have SX2 := Lib.hid SX2
    have B2 := Lib.hid B2
    obtain ⟨A_0, A_1, A_2, A_3, A_4, A_5, A_6⟩ := KA2.out.seven
    go_wp2_with fail
    refine (H1.out _ _ _ _ rfl (by unfold maxLen; omega) SX2.out (by unfold maxLen; omega)).mono ?_
    rintro en w3 ⟨rfl, hb3⟩
    clear A_0 A_1 A_2 A_3 A_4 A_5 A_6
    have KA3 := (KA2.out).on hb3
    have SA3 := (SA2.out).next hb3
    have SQ3 := (SQ2.out).next hb3
    have B3 := B2.out.trans (hb3.mono B2.out.size)
    clear hb3 B2 KA2 SA2 SQ2 SX2
    have KA3 := Lib.hid KA3
    have SA3 := Lib.hid SA3
    have SQ3 := Lib.hid SQ3
    have B3 := Lib.hid B3
    have bx := below_alloc1 w3 (.cells #[.int .i64 u, .int .i64 v] 28)
    have KA3 := Lib.hid (KA3.out.alloc (.cells #[.int .i64 u, .int .i64 v] 28))
    have SA3 := Lib.hid (SA3.out.next bx)
    have SQ3 := Lib.hid (SQ3.out.next bx)
    have KU3 := Lib.hid (Blk.new w3 28 #[.int .i64 u, .int .i64 v])
    have B3 := Lib.hid (B3.out.trans (bx.mono B3.out.size))
    clear bx
    obtain ⟨A_0, A_1, A_2, A_3, A_4, A_5, A_6⟩ := KA3.out.seven
    obtain ⟨U_0, U_1⟩ := KU3.out.two
    go_wp2_with fail
    refine (toCrane_any _ _ _ _ _ _ _ _ _ _ _ SA3.out (by omega)).mono ?_
    rintro en w4 ⟨AY, rfl, SY4, hb4⟩
    clear A_0 A_1 A_2 A_3 A_4 A_5 A_6 U_0 U_1
    have KA4 := (KA3.out).on hb4
    have KU4 := (KU3.out).on hb4
    have SA4 := (SA3.out).next hb4
    have SQ4 := (SQ3.out).next hb4
    have B4 := B3.out.trans (hb4.mono B3.out.size)
    clear hb4 B3 KA3 KU3 SA3 SQ3
    have KA4 := Lib.hid KA4
    have KU4 := Lib.hid KU4
    have SA4 := Lib.hid SA4
    have SQ4 := Lib.hid SQ4
    have SY4 := Lib.hid SY4
    have B4 := Lib.hid B4
    have bx := below_alloc1 w4 (.cells #[.string nm, .int .i64 x, .int .i64 y, .int .i64 ht, .int .i64 jb, .int .i64 bk, .slice AY n n] 33)
    have KA4 := Lib.hid (KA4.out.alloc (.cells #[.string nm, .int .i64 x, .int .i64 y, .int .i64 ht, .int .i64 jb, .int .i64 bk, .slice AY n n] 33))
    have KU4 := Lib.hid (KU4.out.alloc (.cells #[.string nm, .int .i64 x, .int .i64 y, .int .i64 ht, .int .i64 jb, .int .i64 bk, .slice AY n n] 33))
    have SA4 := Lib.hid (SA4.out.next bx)
    have SQ4 := Lib.hid (SQ4.out.next bx)
    have SY4 := Lib.hid (SY4.out.next bx)
    have KY4 := Lib.hid (Blk.new w4 33 #[.string nm, .int .i64 x, .int .i64 y, .int .i64 ht, .int .i64 jb, .int .i64 bk, .slice AY n n])
    have B4 := Lib.hid (B4.out.trans (bx.mono B4.out.size))
    clear bx
    obtain ⟨A_0, A_1, A_2, A_3, A_4, A_5, A_6⟩ := KA4.out.seven
    obtain ⟨U_0, U_1⟩ := KU4.out.two
    obtain ⟨Y_0, Y_1, Y_2, Y_3, Y_4, Y_5, Y_6⟩ := KY4.out.seven
    go_wp2_with fail
    refine (H2.out _ _ _ _ SQ4.out rfl (by unfold maxLen; omega) SY4.out (by unfold maxLen; omega)).mono ?_
    rintro en w5 ⟨rfl, hb5⟩
    clear A_0 A_1 A_2 A_3 A_4 A_5 A_6 U_0 U_1 Y_0 Y_1 Y_2 Y_3 Y_4 Y_5 Y_6
    have KA5 := (KA4.out).on hb5
    have KU5 := (KU4.out).on hb5
    have KY5 := (KY4.out).on hb5
    have SA5 := (SA4.out).next hb5
    have SQ5 := (SQ4.out).next hb5
    have SY5 := (SY4.out).next hb5
    have B5 := B4.out.trans (hb5.mono B4.out.size)
    clear hb5 B4 KA4 KU4 KY4 SA4 SQ4 SY4
    have KA5 := Lib.hid KA5
    have KU5 := Lib.hid KU5
    have KY5 := Lib.hid KY5
    have SA5 := Lib.hid SA5
    have SQ5 := Lib.hid SQ5
    have SY5 := Lib.hid SY5
    have B5 := Lib.hid B5
    have bx := below_alloc1 w5 (.cells #[.int .i64 u, .int .i64 v] 28)
    have KA5 := Lib.hid (KA5.out.alloc (.cells #[.int .i64 u, .int .i64 v] 28))
    have KU5 := Lib.hid (KU5.out.alloc (.cells #[.int .i64 u, .int .i64 v] 28))
    have KY5 := Lib.hid (KY5.out.alloc (.cells #[.int .i64 u, .int .i64 v] 28))
    have SA5 := Lib.hid (SA5.out.next bx)
    have SQ5 := Lib.hid (SQ5.out.next bx)
    have SY5 := Lib.hid (SY5.out.next bx)
    have KV5 := Lib.hid (Blk.new w5 28 #[.int .i64 u, .int .i64 v])
    have B5 := Lib.hid (B5.out.trans (bx.mono B5.out.size))
    clear bx
    obtain ⟨A_0, A_1, A_2, A_3, A_4, A_5, A_6⟩ := KA5.out.seven
    obtain ⟨U_0, U_1⟩ := KU5.out.two
    obtain ⟨Y_0, Y_1, Y_2, Y_3, Y_4, Y_5, Y_6⟩ := KY5.out.seven
    obtain ⟨V_0, V_1⟩ := KV5.out.two
    go_wp2_with fail
    refine (eqPoint_same _ _ _).mono ?_
    rintro en w6 ⟨rfl, hb6⟩
    clear A_0 A_1 A_2 A_3 A_4 A_5 A_6 U_0 U_1 Y_0 Y_1 Y_2 Y_3 Y_4 Y_5 Y_6 V_0 V_1
    have KA6 := (KA5.out).on hb6
    have KU6 := (KU5.out).on hb6
    have KY6 := (KY5.out).on hb6
    have KV6 := (KV5.out).on hb6
    have SA6 := (SA5.out).next hb6
    have SQ6 := (SQ5.out).next hb6
    have SY6 := (SY5.out).next hb6
    have B6 := B5.out.trans (hb6.mono B5.out.size)
    clear hb6 B5 KA5 KU5 KY5 KV5 SA5 SQ5 SY5
    have KA6 := Lib.hid KA6
    have KU6 := Lib.hid KU6
    have KY6 := Lib.hid KY6
    have KV6 := Lib.hid KV6
    have SA6 := Lib.hid SA6
    have SQ6 := Lib.hid SQ6
    have SY6 := Lib.hid SY6
    have B6 := Lib.hid B6
    obtain ⟨A_0, A_1, A_2, A_3, A_4, A_5, A_6⟩ := KA6.out.seven
    obtain ⟨U_0, U_1⟩ := KU6.out.two
    obtain ⟨Y_0, Y_1, Y_2, Y_3, Y_4, Y_5, Y_6⟩ := KY6.out.seven
    obtain ⟨V_0, V_1⟩ := KV6.out.two
    go_wp2_with fail
    go_region_held3 (fun w' => w'.cell? ⟨w.heap.size, 0, none⟩ = some (.string nm) ∧ w'.cell? ⟨w.heap.size, 1, none⟩ = some (.int .i64 x) ∧ w'.cell? ⟨w.heap.size, 2, none⟩ = some (.int .i64 y) ∧ w'.cell? ⟨w.heap.size, 3, none⟩ = some (.int .i64 ht) ∧ w'.cell? ⟨w.heap.size, 4, none⟩ = some (.int .i64 jb) ∧ w'.cell? ⟨w.heap.size, 5, none⟩ = some (.int .i64 bk) ∧ w'.cell? ⟨w.heap.size, 6, none⟩ = some (.slice A n c) ∧ w'.cell? ⟨w3.heap.size, 0, none⟩ = some (.int .i64 u) ∧ w'.cell? ⟨w3.heap.size, 1, none⟩ = some (.int .i64 v) ∧ w'.cell? ⟨w4.heap.size, 0, none⟩ = some (.string nm) ∧ w'.cell? ⟨w4.heap.size, 1, none⟩ = some (.int .i64 x) ∧ w'.cell? ⟨w4.heap.size, 2, none⟩ = some (.int .i64 y) ∧ w'.cell? ⟨w4.heap.size, 3, none⟩ = some (.int .i64 ht) ∧ w'.cell? ⟨w4.heap.size, 4, none⟩ = some (.int .i64 jb) ∧ w'.cell? ⟨w4.heap.size, 5, none⟩ = some (.int .i64 bk) ∧ w'.cell? ⟨w4.heap.size, 6, none⟩ = some (.slice AY n n) ∧ w'.cell? ⟨w5.heap.size, 0, none⟩ = some (.int .i64 u) ∧ w'.cell? ⟨w5.heap.size, 1, none⟩ = some (.int .i64 v))
      (first | go_keep | (refine ⟨?_, ?_, ?_, ?_, ?_, ?_, ?_, ?_, ?_, ?_, ?_, ?_, ?_, ?_, ?_, ?_, ?_, ?_⟩ <;> assumption))
      (first
        | (go_at_call 7; refine (toCrane_any _ _ _ _ _ _ _ _ _ _ _ (SA6.out.drewN 1) (by omega)).mono ?_; rintro en w7 ⟨AZ, rfl, SZ7, hb7⟩; clear A_0 A_1 A_2 A_3 A_4 A_5 A_6 U_0 U_1 Y_0 Y_1 Y_2 Y_3 Y_4 Y_5 Y_6 V_0 V_1; have KA7 := (KA6.out.drewN 1).on hb7; have KU7 := (KU6.out.drewN 1).on hb7; have KY7 := (KY6.out.drewN 1).on hb7; have KV7 := (KV6.out.drewN 1).on hb7; have SA7 := (SA6.out.drewN 1).next hb7; have SQ7 := (SQ6.out.drewN 1).next hb7; have SY7 := (SY6.out.drewN 1).next hb7; have B7 := (below_drewN B6.out 1).trans (hb7.mono B6.out.size); clear hb7 B6 KA6 KU6 KY6 KV6 SA6 SQ6 SY6; have KA7 := Lib.hid KA7; have KU7 := Lib.hid KU7; have KY7 := Lib.hid KY7; have KV7 := Lib.hid KV7; have SA7 := Lib.hid SA7; have SQ7 := Lib.hid SQ7; have SY7 := Lib.hid SY7; have SZ7 := Lib.hid SZ7; have B7 := Lib.hid B7; obtain ⟨A_0, A_1, A_2, A_3, A_4, A_5, A_6⟩ := KA7.out.seven; obtain ⟨U_0, U_1⟩ := KU7.out.two; obtain ⟨Y_0, Y_1, Y_2, Y_3, Y_4, Y_5, Y_6⟩ := KY7.out.seven; obtain ⟨V_0, V_1⟩ := KV7.out.two)
        | (go_at_call 10; refine (eqCrane_same _ _ _ _ _ _ _ _ _ _ _ _ _ SY7.out SZ7.out (by unfold maxLen; omega)).mono ?_; rintro en w8 ⟨rfl, hb8⟩; clear A_0 A_1 A_2 A_3 A_4 A_5 A_6 U_0 U_1 Y_0 Y_1 Y_2 Y_3 Y_4 Y_5 Y_6 V_0 V_1; have KA8 := (KA7.out).on hb8; have KU8 := (KU7.out).on hb8; have KY8 := (KY7.out).on hb8; have KV8 := (KV7.out).on hb8; have SA8 := (SA7.out).next hb8; have SQ8 := (SQ7.out).next hb8; have SY8 := (SY7.out).next hb8; have SZ8 := (SZ7.out).next hb8; have B8 := B7.out.trans (hb8.mono B7.out.size); clear hb8 B7 KA7 KU7 KY7 KV7 SA7 SQ7 SY7 SZ7; have KA8 := Lib.hid KA8; have KU8 := Lib.hid KU8; have KY8 := Lib.hid KY8; have KV8 := Lib.hid KV8; have SA8 := Lib.hid SA8; have SQ8 := Lib.hid SQ8; have SY8 := Lib.hid SY8; have SZ8 := Lib.hid SZ8; have B8 := Lib.hid B8; obtain ⟨A_0, A_1, A_2, A_3, A_4, A_5, A_6⟩ := KA8.out.seven; obtain ⟨U_0, U_1⟩ := KU8.out.two; obtain ⟨Y_0, Y_1, Y_2, Y_3, Y_4, Y_5, Y_6⟩ := KY8.out.seven; obtain ⟨V_0, V_1⟩ := KV8.out.two))
    go_wp2
    go_ret
    exact ⟨rfl, B8.out⟩
  · have B0 : Below w.heap.size w (w.alloc (.cells #[.string nm, .int .i64 x, .int .i64 y, .int .i64 ht, .int .i64 jb, .int .i64 bk, .slice A n c] 26)) := below_alloc1 _ _
    have KA0 : Blk (w.alloc (.cells #[.string nm, .int .i64 x, .int .i64 y, .int .i64 ht, .int .i64 jb, .int .i64 bk, .slice A n c] 26)) (w.heap.size) 26 #[.string nm, .int .i64 x, .int .i64 y, .int .i64 ht, .int .i64 jb, .int .i64 bk, .slice A n c] := Blk.new w _ _
    have SA0 := SA.next B0
    clear SA
    have KA0 := Lib.hid KA0
    have SA0 := Lib.hid SA0
    have B0 := Lib.hid B0
    go_enter Tryd.func3, Tryd.ntmps3
    obtain ⟨A_0, A_1, A_2, A_3, A_4, A_5, A_6⟩ := KA0.out.seven
    go_wp2_with fail
    refine (szCrane_out _ (by omega) _ _ _ _ _ _ _ _ (by omega) (by omega) hnm hn).mono ?_
    rintro en w1 ⟨rfl, hb1⟩
    clear A_0 A_1 A_2 A_3 A_4 A_5 A_6
    have KA1 := (KA0.out).on hb1
    have SA1 := (SA0.out).next hb1
    have B1 := B0.out.trans (hb1.mono B0.out.size)
    clear hb1 B0 KA0 SA0
    have KA1 := Lib.hid KA1
    have SA1 := Lib.hid SA1
    have B1 := Lib.hid B1
    go_wp2
    go_ret
    exact ⟨rfl, B1.out⟩
set_option maxHeartbeats 2000000 in
theorem FnExactBackEnd_walk (w : World) (SQ : QuarterAt w) (nm : ByteArray) (hnm : nm.size ≤ maxLen) (x y ht jb bk : Int) (A : Option Addr) (n c : Nat) (L : List (Int × Int)) (hn : n ≤ maxLen) (SA : Steps w w.heap.size A n L) (d : Int) (_wd : (Lit.int .i64 d).wf = true) : Calls Tryd.prog 4 #[craneV nm x y ht jb bk A n c, .int .i64 d] w fun en w' => en = .returned (.bool true) ∧ Below w.heap.size w w' := by
  clear _wd
  obtain ⟨u, v, kk, F⟩ := endV_form (craneB nm x y ht jb bk L) (inB d 0 23) (backV x y bk d.toNat)
  have H1 : Hid (∀ A n' c w, n' = n → nm.size ≤ maxLen → Steps w w.heap.size A n' L → n' ≤ maxLen → Calls Tryd.prog 11 #[craneV nm x y ht jb bk A n' c, .int .i64 d] w fun en w' => en = .returned (.tuple #[ptV u v, .int .i64 kk]) ∧ Below w.heap.size w w') := fun A n' c w e' hs h hn => by subst e'; rw [← F]; exact specBackEnd_any nm x y ht jb bk A n' c L d w hs h hn
  have H2 : Hid (∀ A n' c w, QuarterAt w → n' = n → nm.size ≤ maxLen → Steps w w.heap.size A n' L → n' ≤ maxLen → Calls Tryd.prog 12 #[craneV nm x y ht jb bk A n' c, .int .i64 d] w fun en w' => en = .returned (.tuple #[ptV u v, .int .i64 kk]) ∧ Below w.heap.size w w') := fun A n' c w hQ e' hs h hn => by subst e'; rw [← F]; exact implBackEnd_any nm x y ht jb bk A n' c L d w hQ hs h hn
  clear F
  by_cases hs : (nm.size : Int) + n ≤ 1048576
  · have B0 : Below w.heap.size w (w.alloc (.cells #[.string nm, .int .i64 x, .int .i64 y, .int .i64 ht, .int .i64 jb, .int .i64 bk, .slice A n c] 26)) := below_alloc1 _ _
    have KA0 : Blk (w.alloc (.cells #[.string nm, .int .i64 x, .int .i64 y, .int .i64 ht, .int .i64 jb, .int .i64 bk, .slice A n c] 26)) (w.heap.size) 26 #[.string nm, .int .i64 x, .int .i64 y, .int .i64 ht, .int .i64 jb, .int .i64 bk, .slice A n c] := Blk.new w _ _
    have SA0 := SA.next B0
    have SQ0 := SQ.next B0
    clear SA SQ
    have KA0 := Lib.hid KA0
    have SA0 := Lib.hid SA0
    have SQ0 := Lib.hid SQ0
    have B0 := Lib.hid B0
    go_enter Tryd.func4, Tryd.ntmps4
    obtain ⟨A_0, A_1, A_2, A_3, A_4, A_5, A_6⟩ := KA0.out.seven
    go_wp2_with fail
    refine (szCrane_in _ hs _ _ _ _ _ _ _ _ (by omega) (by omega)).mono ?_
    rintro en w1 ⟨rfl, hb1⟩
    clear A_0 A_1 A_2 A_3 A_4 A_5 A_6
    have KA1 := (KA0.out).on hb1
    have SA1 := (SA0.out).next hb1
    have SQ1 := (SQ0.out).next hb1
    have B1 := B0.out.trans (hb1.mono B0.out.size)
    clear hb1 B0 KA0 SA0 SQ0
    have KA1 := Lib.hid KA1
    have SA1 := Lib.hid SA1
    have SQ1 := Lib.hid SQ1
    have B1 := Lib.hid B1
    clear hn hnm
    obtain ⟨A_0, A_1, A_2, A_3, A_4, A_5, A_6⟩ := KA1.out.seven
    go_wp2_with fail
    refine (toCrane_any _ _ _ _ _ _ _ _ _ _ _ SA1.out (by omega)).mono ?_
    rintro en w2 ⟨AX, rfl, SX2, hb2⟩
    clear A_0 A_1 A_2 A_3 A_4 A_5 A_6
    have KA2 := (KA1.out).on hb2
    have SA2 := (SA1.out).next hb2
    have SQ2 := (SQ1.out).next hb2
    have B2 := B1.out.trans (hb2.mono B1.out.size)
    clear hb2 B1 KA1 SA1 SQ1
    have KA2 := Lib.hid KA2
    have SA2 := Lib.hid SA2
    have SQ2 := Lib.hid SQ2
    have SX2 := Lib.hid SX2
    have B2 := Lib.hid B2
    obtain ⟨A_0, A_1, A_2, A_3, A_4, A_5, A_6⟩ := KA2.out.seven
    go_wp2_with fail
    refine (H1.out _ _ _ _ rfl (by unfold maxLen; omega) SX2.out (by unfold maxLen; omega)).mono ?_
    rintro en w3 ⟨rfl, hb3⟩
    clear A_0 A_1 A_2 A_3 A_4 A_5 A_6
    have KA3 := (KA2.out).on hb3
    have SA3 := (SA2.out).next hb3
    have SQ3 := (SQ2.out).next hb3
    have B3 := B2.out.trans (hb3.mono B2.out.size)
    clear hb3 B2 KA2 SA2 SQ2 SX2
    have KA3 := Lib.hid KA3
    have SA3 := Lib.hid SA3
    have SQ3 := Lib.hid SQ3
    have B3 := Lib.hid B3
    have bx := below_alloc1 w3 (.cells #[.int .i64 u, .int .i64 v] 28)
    have KA3 := Lib.hid (KA3.out.alloc (.cells #[.int .i64 u, .int .i64 v] 28))
    have SA3 := Lib.hid (SA3.out.next bx)
    have SQ3 := Lib.hid (SQ3.out.next bx)
    have KU3 := Lib.hid (Blk.new w3 28 #[.int .i64 u, .int .i64 v])
    have B3 := Lib.hid (B3.out.trans (bx.mono B3.out.size))
    clear bx
    obtain ⟨A_0, A_1, A_2, A_3, A_4, A_5, A_6⟩ := KA3.out.seven
    obtain ⟨U_0, U_1⟩ := KU3.out.two
    go_wp2_with fail
    refine (toCrane_any _ _ _ _ _ _ _ _ _ _ _ SA3.out (by omega)).mono ?_
    rintro en w4 ⟨AY, rfl, SY4, hb4⟩
    clear A_0 A_1 A_2 A_3 A_4 A_5 A_6 U_0 U_1
    have KA4 := (KA3.out).on hb4
    have KU4 := (KU3.out).on hb4
    have SA4 := (SA3.out).next hb4
    have SQ4 := (SQ3.out).next hb4
    have B4 := B3.out.trans (hb4.mono B3.out.size)
    clear hb4 B3 KA3 KU3 SA3 SQ3
    have KA4 := Lib.hid KA4
    have KU4 := Lib.hid KU4
    have SA4 := Lib.hid SA4
    have SQ4 := Lib.hid SQ4
    have SY4 := Lib.hid SY4
    have B4 := Lib.hid B4
    have bx := below_alloc1 w4 (.cells #[.string nm, .int .i64 x, .int .i64 y, .int .i64 ht, .int .i64 jb, .int .i64 bk, .slice AY n n] 33)
    have KA4 := Lib.hid (KA4.out.alloc (.cells #[.string nm, .int .i64 x, .int .i64 y, .int .i64 ht, .int .i64 jb, .int .i64 bk, .slice AY n n] 33))
    have KU4 := Lib.hid (KU4.out.alloc (.cells #[.string nm, .int .i64 x, .int .i64 y, .int .i64 ht, .int .i64 jb, .int .i64 bk, .slice AY n n] 33))
    have SA4 := Lib.hid (SA4.out.next bx)
    have SQ4 := Lib.hid (SQ4.out.next bx)
    have SY4 := Lib.hid (SY4.out.next bx)
    have KY4 := Lib.hid (Blk.new w4 33 #[.string nm, .int .i64 x, .int .i64 y, .int .i64 ht, .int .i64 jb, .int .i64 bk, .slice AY n n])
    have B4 := Lib.hid (B4.out.trans (bx.mono B4.out.size))
    clear bx
    obtain ⟨A_0, A_1, A_2, A_3, A_4, A_5, A_6⟩ := KA4.out.seven
    obtain ⟨U_0, U_1⟩ := KU4.out.two
    obtain ⟨Y_0, Y_1, Y_2, Y_3, Y_4, Y_5, Y_6⟩ := KY4.out.seven
    go_wp2_with fail
    refine (H2.out _ _ _ _ SQ4.out rfl (by unfold maxLen; omega) SY4.out (by unfold maxLen; omega)).mono ?_
    rintro en w5 ⟨rfl, hb5⟩
    clear A_0 A_1 A_2 A_3 A_4 A_5 A_6 U_0 U_1 Y_0 Y_1 Y_2 Y_3 Y_4 Y_5 Y_6
    have KA5 := (KA4.out).on hb5
    have KU5 := (KU4.out).on hb5
    have KY5 := (KY4.out).on hb5
    have SA5 := (SA4.out).next hb5
    have SQ5 := (SQ4.out).next hb5
    have SY5 := (SY4.out).next hb5
    have B5 := B4.out.trans (hb5.mono B4.out.size)
    clear hb5 B4 KA4 KU4 KY4 SA4 SQ4 SY4
    have KA5 := Lib.hid KA5
    have KU5 := Lib.hid KU5
    have KY5 := Lib.hid KY5
    have SA5 := Lib.hid SA5
    have SQ5 := Lib.hid SQ5
    have SY5 := Lib.hid SY5
    have B5 := Lib.hid B5
    have bx := below_alloc1 w5 (.cells #[.int .i64 u, .int .i64 v] 28)
    have KA5 := Lib.hid (KA5.out.alloc (.cells #[.int .i64 u, .int .i64 v] 28))
    have KU5 := Lib.hid (KU5.out.alloc (.cells #[.int .i64 u, .int .i64 v] 28))
    have KY5 := Lib.hid (KY5.out.alloc (.cells #[.int .i64 u, .int .i64 v] 28))
    have SA5 := Lib.hid (SA5.out.next bx)
    have SQ5 := Lib.hid (SQ5.out.next bx)
    have SY5 := Lib.hid (SY5.out.next bx)
    have KV5 := Lib.hid (Blk.new w5 28 #[.int .i64 u, .int .i64 v])
    have B5 := Lib.hid (B5.out.trans (bx.mono B5.out.size))
    clear bx
    obtain ⟨A_0, A_1, A_2, A_3, A_4, A_5, A_6⟩ := KA5.out.seven
    obtain ⟨U_0, U_1⟩ := KU5.out.two
    obtain ⟨Y_0, Y_1, Y_2, Y_3, Y_4, Y_5, Y_6⟩ := KY5.out.seven
    obtain ⟨V_0, V_1⟩ := KV5.out.two
    go_wp2_with fail
    refine (eqPoint_same _ _ _).mono ?_
    rintro en w6 ⟨rfl, hb6⟩
    clear A_0 A_1 A_2 A_3 A_4 A_5 A_6 U_0 U_1 Y_0 Y_1 Y_2 Y_3 Y_4 Y_5 Y_6 V_0 V_1
    have KA6 := (KA5.out).on hb6
    have KU6 := (KU5.out).on hb6
    have KY6 := (KY5.out).on hb6
    have KV6 := (KV5.out).on hb6
    have SA6 := (SA5.out).next hb6
    have SQ6 := (SQ5.out).next hb6
    have SY6 := (SY5.out).next hb6
    have B6 := B5.out.trans (hb6.mono B5.out.size)
    clear hb6 B5 KA5 KU5 KY5 KV5 SA5 SQ5 SY5
    have KA6 := Lib.hid KA6
    have KU6 := Lib.hid KU6
    have KY6 := Lib.hid KY6
    have KV6 := Lib.hid KV6
    have SA6 := Lib.hid SA6
    have SQ6 := Lib.hid SQ6
    have SY6 := Lib.hid SY6
    have B6 := Lib.hid B6
    obtain ⟨A_0, A_1, A_2, A_3, A_4, A_5, A_6⟩ := KA6.out.seven
    obtain ⟨U_0, U_1⟩ := KU6.out.two
    obtain ⟨Y_0, Y_1, Y_2, Y_3, Y_4, Y_5, Y_6⟩ := KY6.out.seven
    obtain ⟨V_0, V_1⟩ := KV6.out.two
    go_wp2_with fail
    go_region_held3 (fun w' => w'.cell? ⟨w.heap.size, 0, none⟩ = some (.string nm) ∧ w'.cell? ⟨w.heap.size, 1, none⟩ = some (.int .i64 x) ∧ w'.cell? ⟨w.heap.size, 2, none⟩ = some (.int .i64 y) ∧ w'.cell? ⟨w.heap.size, 3, none⟩ = some (.int .i64 ht) ∧ w'.cell? ⟨w.heap.size, 4, none⟩ = some (.int .i64 jb) ∧ w'.cell? ⟨w.heap.size, 5, none⟩ = some (.int .i64 bk) ∧ w'.cell? ⟨w.heap.size, 6, none⟩ = some (.slice A n c) ∧ w'.cell? ⟨w3.heap.size, 0, none⟩ = some (.int .i64 u) ∧ w'.cell? ⟨w3.heap.size, 1, none⟩ = some (.int .i64 v) ∧ w'.cell? ⟨w4.heap.size, 0, none⟩ = some (.string nm) ∧ w'.cell? ⟨w4.heap.size, 1, none⟩ = some (.int .i64 x) ∧ w'.cell? ⟨w4.heap.size, 2, none⟩ = some (.int .i64 y) ∧ w'.cell? ⟨w4.heap.size, 3, none⟩ = some (.int .i64 ht) ∧ w'.cell? ⟨w4.heap.size, 4, none⟩ = some (.int .i64 jb) ∧ w'.cell? ⟨w4.heap.size, 5, none⟩ = some (.int .i64 bk) ∧ w'.cell? ⟨w4.heap.size, 6, none⟩ = some (.slice AY n n) ∧ w'.cell? ⟨w5.heap.size, 0, none⟩ = some (.int .i64 u) ∧ w'.cell? ⟨w5.heap.size, 1, none⟩ = some (.int .i64 v))
      (first | go_keep | (refine ⟨?_, ?_, ?_, ?_, ?_, ?_, ?_, ?_, ?_, ?_, ?_, ?_, ?_, ?_, ?_, ?_, ?_, ?_⟩ <;> assumption))
      (first
        | (go_at_call 7; refine (toCrane_any _ _ _ _ _ _ _ _ _ _ _ (SA6.out.drewN 1) (by omega)).mono ?_; rintro en w7 ⟨AZ, rfl, SZ7, hb7⟩; clear A_0 A_1 A_2 A_3 A_4 A_5 A_6 U_0 U_1 Y_0 Y_1 Y_2 Y_3 Y_4 Y_5 Y_6 V_0 V_1; have KA7 := (KA6.out.drewN 1).on hb7; have KU7 := (KU6.out.drewN 1).on hb7; have KY7 := (KY6.out.drewN 1).on hb7; have KV7 := (KV6.out.drewN 1).on hb7; have SA7 := (SA6.out.drewN 1).next hb7; have SQ7 := (SQ6.out.drewN 1).next hb7; have SY7 := (SY6.out.drewN 1).next hb7; have B7 := (below_drewN B6.out 1).trans (hb7.mono B6.out.size); clear hb7 B6 KA6 KU6 KY6 KV6 SA6 SQ6 SY6; have KA7 := Lib.hid KA7; have KU7 := Lib.hid KU7; have KY7 := Lib.hid KY7; have KV7 := Lib.hid KV7; have SA7 := Lib.hid SA7; have SQ7 := Lib.hid SQ7; have SY7 := Lib.hid SY7; have SZ7 := Lib.hid SZ7; have B7 := Lib.hid B7; obtain ⟨A_0, A_1, A_2, A_3, A_4, A_5, A_6⟩ := KA7.out.seven; obtain ⟨U_0, U_1⟩ := KU7.out.two; obtain ⟨Y_0, Y_1, Y_2, Y_3, Y_4, Y_5, Y_6⟩ := KY7.out.seven; obtain ⟨V_0, V_1⟩ := KV7.out.two)
        | (go_at_call 10; refine (eqCrane_same _ _ _ _ _ _ _ _ _ _ _ _ _ SY7.out SZ7.out (by unfold maxLen; omega)).mono ?_; rintro en w8 ⟨rfl, hb8⟩; clear A_0 A_1 A_2 A_3 A_4 A_5 A_6 U_0 U_1 Y_0 Y_1 Y_2 Y_3 Y_4 Y_5 Y_6 V_0 V_1; have KA8 := (KA7.out).on hb8; have KU8 := (KU7.out).on hb8; have KY8 := (KY7.out).on hb8; have KV8 := (KV7.out).on hb8; have SA8 := (SA7.out).next hb8; have SQ8 := (SQ7.out).next hb8; have SY8 := (SY7.out).next hb8; have SZ8 := (SZ7.out).next hb8; have B8 := B7.out.trans (hb8.mono B7.out.size); clear hb8 B7 KA7 KU7 KY7 KV7 SA7 SQ7 SY7 SZ7; have KA8 := Lib.hid KA8; have KU8 := Lib.hid KU8; have KY8 := Lib.hid KY8; have KV8 := Lib.hid KV8; have SA8 := Lib.hid SA8; have SQ8 := Lib.hid SQ8; have SY8 := Lib.hid SY8; have SZ8 := Lib.hid SZ8; have B8 := Lib.hid B8; obtain ⟨A_0, A_1, A_2, A_3, A_4, A_5, A_6⟩ := KA8.out.seven; obtain ⟨U_0, U_1⟩ := KU8.out.two; obtain ⟨Y_0, Y_1, Y_2, Y_3, Y_4, Y_5, Y_6⟩ := KY8.out.seven; obtain ⟨V_0, V_1⟩ := KV8.out.two))
    go_wp2
    go_ret
    exact ⟨rfl, B8.out⟩
  · have B0 : Below w.heap.size w (w.alloc (.cells #[.string nm, .int .i64 x, .int .i64 y, .int .i64 ht, .int .i64 jb, .int .i64 bk, .slice A n c] 26)) := below_alloc1 _ _
    have KA0 : Blk (w.alloc (.cells #[.string nm, .int .i64 x, .int .i64 y, .int .i64 ht, .int .i64 jb, .int .i64 bk, .slice A n c] 26)) (w.heap.size) 26 #[.string nm, .int .i64 x, .int .i64 y, .int .i64 ht, .int .i64 jb, .int .i64 bk, .slice A n c] := Blk.new w _ _
    have SA0 := SA.next B0
    clear SA
    have KA0 := Lib.hid KA0
    have SA0 := Lib.hid SA0
    have B0 := Lib.hid B0
    go_enter Tryd.func4, Tryd.ntmps4
    obtain ⟨A_0, A_1, A_2, A_3, A_4, A_5, A_6⟩ := KA0.out.seven
    go_wp2_with fail
    refine (szCrane_out _ (by omega) _ _ _ _ _ _ _ _ (by omega) (by omega) hnm hn).mono ?_
    rintro en w1 ⟨rfl, hb1⟩
    clear A_0 A_1 A_2 A_3 A_4 A_5 A_6
    have KA1 := (KA0.out).on hb1
    have SA1 := (SA0.out).next hb1
    have B1 := B0.out.trans (hb1.mono B0.out.size)
    clear hb1 B0 KA0 SA0
    have KA1 := Lib.hid KA1
    have SA1 := Lib.hid SA1
    have B1 := Lib.hid B1
    go_wp2
    go_ret
    exact ⟨rfl, B1.out⟩
end Go.Proofs.YtbdompadkeamdaaDoor
