/- Cranes: the laws' copies and comparisons. -/
import Derived.Test.YtbdompadkeamdaaProg
import Derived.Test.YtbdompadkeamdaaKit
import Derived.Test.YtbdompadkeamdaaBasics
import Derived.Test.YtbdompadkeamdaaMem
import Derived.Test.YtbdompadkeamdaaCodeRes
import Derived.Test.YtbdompadkeamdaaLists
import Derived.Test.YtbdompadkeamdaaSteps
import Derived.Test.YtbdompadkeamdaaCharts
import Derived.Test.YtbdompadkeamdaaChartLaws
import Derived.Test.YtbdompadkeamdaaNames
import Derived.Test.YtbdompadkeamdaaPts
import Derived.Test.YtbdompadkeamdaaZonePlain
import Derived.Test.YtbdompadkeamdaaZones
import Derived.Deep.RegionHeld3
namespace Go.Proofs.Ytbdompadkeamdaa
open Go.RowKit Go.WideShapes Go.ChangeShapes Go.Joins Go.Deep Go.Sort
set_option linter.unusedVariables false
set_option linter.unusedSimpArgs false
section
variable {w w' : World} {g : Nat} {t : TypeId}
theorem Blk.sevens {cs : Array Value} (h : Blk w g t cs) : w.frozen? ⟨g, 0, none⟩ = false ∧ w.frozen? ⟨g, 1, none⟩ = false ∧ w.frozen? ⟨g, 2, none⟩ = false ∧ w.frozen? ⟨g, 3, none⟩ = false ∧ w.frozen? ⟨g, 4, none⟩ = false ∧ w.frozen? ⟨g, 5, none⟩ = false ∧ w.frozen? ⟨g, 6, none⟩ = false := ⟨h.frozen 0, h.frozen 1, h.frozen 2, h.frozen 3, h.frozen 4, h.frozen 5, h.frozen 6⟩
end
abbrev craneV (nm : ByteArray) (x y ht jb bk : Int) (A : Option Addr) (n c : Nat) : Value := .agg #[.string nm, .int .i64 x, .int .i64 y, .int .i64 ht, .int .i64 jb, .int .i64 bk, .slice A n c]
theorem szCrane_in {n : Nat} {q : Int} (nm : ByteArray) (h : (nm.size : Int) + n ≤ q) (x y ht jb bk : Int) (A : Option Addr) (c : Nat) (w : World) (q0 : 0 ≤ q) (q1 : q ≤ 1048576) : Calls Try.prog 32 #[craneV nm x y ht jb bk A n c, .int .i64 q] w fun en w' => en = .returned (.int .i64 (q - nm.size - n)) ∧ Below w.heap.size w w' := by
  have H := Lib.hid (fun w => sz_in (n := n) (q := q - nm.size) (by omega) A c w (by omega) (by omega) (by unfold maxLen; omega))
  go_enter Try.func32, Try.ntmps32
  go_wp2_with (go_at_call 68; refine (H.out _).mono ?_; rintro e w' ⟨rfl, rfl⟩)
  go_ret
  exact ⟨rfl, below_alloc1 w _⟩
theorem szCrane_out {n : Nat} {q : Int} (nm : ByteArray) (h : ¬ (nm.size : Int) + n ≤ q) (x y ht jb bk : Int) (A : Option Addr) (c : Nat) (w : World) (q0 : 0 ≤ q) (q1 : q ≤ 1048576) (hs : nm.size ≤ maxLen) (hn : n ≤ maxLen) : Calls Try.prog 32 #[craneV nm x y ht jb bk A n c, .int .i64 q] w fun en w' => en = .returned (.int .i64 (-1)) ∧ Below w.heap.size w w' := by
  have hn' := hn
  unfold maxLen at hs hn
  by_cases h1 : (nm.size : Int) ≤ q
  · have H := Lib.hid (fun w => sz_out (n := n) (q := q - nm.size) (by omega) A c w (by omega) (by omega) hn')
    go_enter Try.func32, Try.ntmps32
    go_wp2_with (go_at_call 68; refine (H.out _).mono ?_; rintro e w' ⟨rfl, rfl⟩)
    go_ret
    exact ⟨rfl, below_alloc1 w _⟩
  · go_enter Try.func32, Try.ntmps32
    go_wp2
    go_ret
    exact ⟨rfl, below_alloc1 w _⟩
/-- a copy of a crane -/
def RetCrane (w : World) (nm : ByteArray) (x y ht jb bk : Int) (n : Nat) (L : List (Int × Int)) (en : Ending) (w' : World) : Prop := ∃ A, en = .returned (craneV nm x y ht jb bk A n n) ∧ Steps w' w'.heap.size A n L ∧ Below w.heap.size w w'
set_option maxHeartbeats 1000000 in
theorem toCrane_any (nm : ByteArray) (x y ht jb bk : Int) (A : Option Addr) (n c : Nat) (L : List (Int × Int)) (w : World) (h : Steps w w.heap.size A n L) (hn : n ≤ 1048576) : Calls Try.prog 34 #[craneV nm x y ht jb bk A n c] w (RetCrane w nm x y ht jb bk n L) := by
  have H := Lib.hid h
  clear h
  go_enter Try.func34, Try.ntmps34
  go_wp2_with fail
  refine name_world (f := fun w => Calls _ _ _ w _) ?_
  intro W hW
  have K0 : Blk W w.heap.size 47 #[.string nm, .int .i64 x, .int .i64 y, .int .i64 ht, .int .i64 jb, .int .i64 bk, .slice A n c] := by rw [hW]; exact ((Blk.new _ _ _).alloc _).alloc _
  have K1 : Blk W (w.heap.size + 1) 52 #[.string ⟨#[]⟩, .int .i64 0, .int .i64 0, .int .i64 0, .int .i64 0, .int .i64 0, .slice none 0 0] := by rw [hW]; exact (Blk.new2 _ _ _ _).alloc _
  have K2 : Blk W (w.heap.size + 1 + 1) 52 #[.string nm, .int .i64 0, .int .i64 0, .int .i64 0, .int .i64 0, .int .i64 0, .slice none 0 0] := by rw [hW]; exact Blk.new3 _ _ _ _ _
  have BW : Below w.heap.size w W := by rw [hW]; exact below_alloc3 _ _ _ _
  clear hW
  refine (toPoint_any _ _ _).mono ?_
  rintro en w1 ⟨rfl, hb1⟩
  have K0' := K0.on hb1
  have K1' := K1.on hb1
  have K2' := K2.on hb1
  have B1 := BW.trans (hb1.mono BW.size)
  clear hb1 K0 K1 K2 BW
  obtain ⟨a0, a1, a2, a3, a4, a5, a6⟩ := K0'.seven
  obtain ⟨d0, d1, d2, d3, d4, d5, d6⟩ := K2'.seven
  obtain ⟨y0, y1, y2, y3, y4, y5, y6⟩ := K2'.sevens
  have K1h := Lib.hid K1'
  have K2h := Lib.hid K2'
  clear K0' K1' K2'
  go_wp2_with fail
  refine name_world (f := fun w => Calls _ _ _ w _) ?_
  intro W2 hW2
  have K1 : Blk W2 (w.heap.size + 1) 52 #[.string ⟨#[]⟩, .int .i64 0, .int .i64 0, .int .i64 0, .int .i64 0, .int .i64 0, .slice none 0 0] := by rw [hW2]; exact ((((K1h.out.far (by simp) _).far (by simp) _).far (by simp) _).far (by simp) _).far (by simp) _
  have K2 : Blk W2 (w.heap.size + 1 + 1) 52 #[.string nm, .int .i64 x, .int .i64 y, .int .i64 ht, .int .i64 jb, .int .i64 bk, .slice none 0 0] := by rw [hW2]; exact ((((K2h.out.set_ 1 _).set_ 2 _).set_ 3 _).set_ 4 _).set_ 5 _
  have B2 : Below w.heap.size w W2 := by rw [hW2]; exact ((((B1.setCell (by simp; omega) _).setCell (by simp; omega) _).setCell (by simp; omega) _).setCell (by simp; omega) _).setCell (by simp; omega) _
  have SW : Steps W2 W2.heap.size A n L := H.out.next B2
  clear hW2 H K1h K2h B1 a0 a1 a2 a3 a4 a5 a6 d0 d1 d2 d3 d4 d5 d6 y0 y1 y2 y3 y4 y5 y6
  refine (toChartStepS_any _ _ _ _ _ SW hn).mono ?_
  rintro en w3 ⟨rfl, KP, hb3⟩
  have K1' := K1.on hb3
  have K2' := K2.on hb3
  have B3 := B2.trans (hb3.mono B2.size)
  have ne1 : W2.heap.size ≠ w.heap.size + 1 := by have := K1.lt; omega
  have ne2 : W2.heap.size ≠ w.heap.size + 1 + 1 := by have := K2.lt; omega
  have sl := Lib.hid SW.1
  clear hb3 K1 K2 B2 SW
  obtain ⟨a0, a1, a2, a3, a4, a5, a6⟩ := K1'.seven
  obtain ⟨z0, z1, z2, z3, z4, z5, z6⟩ := K1'.sevens
  obtain ⟨d0, d1, d2, d3, d4, d5, d6⟩ := K2'.seven
  obtain ⟨y0, y1, y2, y3, y4, y5, y6⟩ := K2'.sevens
  go_wp2
  refine bodyPost_ret (v := craneV nm x y ht jb bk (some ⟨W2.heap.size, 0, none⟩) n n) (by simp [results, Try.results34, go_sem, a0, a1, a2, a3, a4, a5, a6]) rfl ⟨_, rfl, ?_, ?_⟩
  · exact steps_of_blk ((((((((KP.far ne2 _).far ne1 _).far ne1 _).far ne1 _).far ne1 _).far ne1 _).far ne1 _).far ne1 _) sl.out
  · exact (((((((B3.setCell (by simp; omega) _).setCell (by simp) _).setCell (by simp) _).setCell (by simp) _).setCell (by simp) _).setCell (by simp) _).setCell (by simp) _).setCell (by simp) _
theorem eqCrane_same (nm : ByteArray) (x y ht jb bk : Int) (A A' : Option Addr) (n c c' : Nat) (L : List (Int × Int)) (w : World) (h : Steps w w.heap.size A n L) (h' : Steps w w.heap.size A' n L) (hn : n ≤ maxLen) : Calls Try.prog 36 #[craneV nm x y ht jb bk A n c, craneV nm x y ht jb bk A' n c'] w fun en w' => en = .returned (.bool true) ∧ Below w.heap.size w w' := by
  have H := Lib.hid (fun W (hb : Below w.heap.size w W) => eqChartStepS_same A A' n c c' L W (h.next hb) (h'.next hb) hn)
  have B0 := Lib.hid (below_alloc2 w (.cells #[.string nm, .int .i64 x, .int .i64 y, .int .i64 ht, .int .i64 jb, .int .i64 bk, .slice A n c] 52) (.cells #[.string nm, .int .i64 x, .int .i64 y, .int .i64 ht, .int .i64 jb, .int .i64 bk, .slice A' n c'] 52))
  have K1 := Lib.hid ((Blk.new w 52 #[.string nm, .int .i64 x, .int .i64 y, .int .i64 ht, .int .i64 jb, .int .i64 bk, .slice A n c]).alloc (.cells #[.string nm, .int .i64 x, .int .i64 y, .int .i64 ht, .int .i64 jb, .int .i64 bk, .slice A' n c'] 52))
  have K2 := Lib.hid (Blk.new2 w (.cells #[.string nm, .int .i64 x, .int .i64 y, .int .i64 ht, .int .i64 jb, .int .i64 bk, .slice A n c] 52) 52 #[.string nm, .int .i64 x, .int .i64 y, .int .i64 ht, .int .i64 jb, .int .i64 bk, .slice A' n c'])
  clear h h' hn
  go_enter Try.func36, Try.ntmps36
  go_wp2_with fail
  refine (eqPoint_same _ _ _).mono ?_
  rintro en w1 ⟨rfl, hb1⟩
  have B1 := B0.out.trans (hb1.mono B0.out.size)
  obtain ⟨a0, a1, a2, a3, a4, a5, a6⟩ := (K1.out.on hb1).seven
  obtain ⟨d0, d1, d2, d3, d4, d5, d6⟩ := (K2.out.on hb1).seven
  clear hb1 B0 K1 K2
  go_wp2_with fail
  refine (H.out _ B1).mono ?_
  rintro en w2 ⟨rfl, hb2⟩
  have B2 := B1.trans (hb2.mono B1.size)
  clear hb2 B1 a0 a1 a2 a3 a4 a5 a6 d0 d1 d2 d3 d4 d5 d6
  go_wp2
  go_ret
  exact ⟨rfl, B2⟩
end Go.Proofs.Ytbdompadkeamdaa
