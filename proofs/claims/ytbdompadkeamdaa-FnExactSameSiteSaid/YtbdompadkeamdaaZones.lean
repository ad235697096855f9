/- Zones: the laws' copies and comparisons; the walks of the test of a zone on both sides. -/
import Derived.Test.YtbdompadkeamdaaProg
import Derived.Test.YtbdompadkeamdaaKit
import Derived.Test.YtbdompadkeamdaaBasics
import Derived.Test.YtbdompadkeamdaaMem
import Derived.Test.YtbdompadkeamdaaCodeRes
import Derived.Test.YtbdompadkeamdaaLists
import Derived.Test.YtbdompadkeamdaaPts
import Derived.Test.YtbdompadkeamdaaZonePlain
import Derived.StillTailTactics
namespace Go.Proofs.Ytbdompadkeamdaa
open Go.RowKit Go.WideShapes Go.ChangeShapes Go.Joins Go.Deep Go.Sort
set_option linter.unusedVariables false
set_option linter.unusedSimpArgs false

section
variable {w w' : World} {g : Nat} {t : TypeId}
theorem Blk.one {a : Value} (h : Blk w g t #[a]) : w.cell? ⟨g, 0, none⟩ = some a := h.cell 0
theorem Blk.four {a b c d : Value} (h : Blk w g t #[a, b, c, d]) : w.cell? ⟨g, 0, none⟩ = some a ∧ w.cell? ⟨g, 1, none⟩ = some b ∧ w.cell? ⟨g, 2, none⟩ = some c ∧ w.cell? ⟨g, 3, none⟩ = some d := ⟨h.cell 0, h.cell 1, h.cell 2, h.cell 3⟩
theorem Blk.fours {cs : Array Value} (h : Blk w g t cs) : w.frozen? ⟨g, 0, none⟩ = false ∧ w.frozen? ⟨g, 1, none⟩ = false ∧ w.frozen? ⟨g, 2, none⟩ = false ∧ w.frozen? ⟨g, 3, none⟩ = false := ⟨h.frozen 0, h.frozen 1, h.frozen 2, h.frozen 3⟩
theorem steps_of_blk {n : Nat} {L : List (Int × Int)} (h : Blk w g t (pairs L).toArray) (hl : L.length = n) : Steps w w.heap.size (some ⟨g, 0, none⟩) n L := by
  refine ⟨hl, fun _ => ⟨g, 0, rfl, h.lt, fun j s hj => ?_⟩⟩
  obtain ⟨p1, p2⟩ := pairs_at hj
  rw [Nat.zero_add]
  exact ⟨(h.cell _).trans (by simpa using p1), (h.cell _).trans (by simpa using p2)⟩
end
abbrev ptV (x y : Int) : Value := .agg #[.int .i64 x, .int .i64 y]
abbrev zoneV (k s e : Int) (A : Option Addr) (n c : Nat) : Value := .agg #[.int .i64 k, .int .i64 s, .int .i64 e, .slice A n c]

theorem szZone_in {n : Nat} {q : Int} (h : (n : Int) ≤ q) (k s e : Int) (A : Option Addr) (c : Nat) (w : World) (q0 : 0 ≤ q) (q1 : q ≤ 1048576) (hn : n ≤ maxLen) : Calls Try.prog 14 #[zoneV k s e A n c, .int .i64 q] w fun en w' => en = .returned (.int .i64 (q - n)) ∧ Below w.heap.size w w' := by
  have H := Lib.hid (fun w => szp_in h A c w q0 q1 hn)
  unfold maxLen at hn
  go_enter Try.func14, Try.ntmps14
  go_wp2_with (go_at_call 46; refine (H.out _).mono ?_; rintro e w' ⟨rfl, rfl⟩)
  go_ret
  exact ⟨rfl, below_alloc1 w _⟩
theorem szZone_out {n : Nat} {q : Int} (h : ¬ (n : Int) ≤ q) (k s e : Int) (A : Option Addr) (c : Nat) (w : World) (q0 : 0 ≤ q) (q1 : q ≤ 1048576) (hn : n ≤ maxLen) : Calls Try.prog 14 #[zoneV k s e A n c, .int .i64 q] w fun en w' => en = .returned (.int .i64 (-1)) ∧ Below w.heap.size w w' := by
  have H := Lib.hid (fun w => szp_out h A c w q0 q1 hn)
  unfold maxLen at hn
  go_enter Try.func14, Try.ntmps14
  go_wp2_with (go_at_call 46; refine (H.out _).mono ?_; rintro e w' ⟨rfl, rfl⟩)
  go_ret
  exact ⟨rfl, below_alloc1 w _⟩
/-- a copy of a zone -/
def RetZone (w : World) (k s e : Int) (n : Nat) (L : List (Int × Int)) (en : Ending) (w' : World) : Prop := ∃ A, en = .returned (zoneV k s e A n n) ∧ Steps w' w'.heap.size A n L ∧ Below w.heap.size w w'
set_option maxHeartbeats 400000 in
theorem toZone_any (k s e : Int) (A : Option Addr) (n c : Nat) (L : List (Int × Int)) (w : World) (h : Steps w w.heap.size A n L) (hn : n ≤ 1048576) : Calls Try.prog 16 #[zoneV k s e A n c] w (RetZone w k s e n L) := by
  have H := Lib.hid h
  clear h
  go_enter Try.func16, Try.ntmps16
  go_wp2_with fail
  refine name_world (f := fun w => Calls _ _ _ w _) ?_
  intro W hW
  have K1 : Blk W (w.heap.size + 1) 29 #[.int .i64 0, .int .i64 0, .int .i64 0, .slice none 0 0] := by rw [hW]; exact (Blk.new2 _ _ _ _).alloc _
  have K2 : Blk W (w.heap.size + 1 + 1) 29 #[.int .i64 k, .int .i64 s, .int .i64 e, .slice none 0 0] := by rw [hW]; exact Blk.new3 _ _ _ _ _
  have BW : Below w.heap.size w W := by rw [hW]; exact below_alloc3 _ _ _ _
  have SW : Steps W W.heap.size A n L := H.out.next BW
  clear hW H
  refine (toPointS_any _ _ _ _ _ SW hn).mono ?_
  rintro en w1 ⟨rfl, KP, hb1⟩
  have K1' := K1.on hb1
  have K2' := K2.on hb1
  have B1 := BW.trans (hb1.mono BW.size)
  have ne1 : W.heap.size ≠ w.heap.size + 1 := by have := K1.lt; omega
  have ne2 : W.heap.size ≠ w.heap.size + 1 + 1 := by have := K2.lt; omega
  have sl := Lib.hid SW.1
  clear hb1 K1 K2 BW SW
  obtain ⟨a0, a1, a2, a3⟩ := K1'.four
  obtain ⟨z0, z1, z2, z3⟩ := K1'.fours
  obtain ⟨d0, d1, d2, d3⟩ := K2'.four
  obtain ⟨y0, y1, y2, y3⟩ := K2'.fours
  go_wp2
  refine bodyPost_ret (v := zoneV k s e (some ⟨W.heap.size, 0, none⟩) n n) (by simp [results, Try.results16, go_sem, a0, a1, a2, a3]) rfl ⟨_, rfl, ?_, ?_⟩
  · exact steps_of_blk (((((KP.far ne2 _).far ne1 _).far ne1 _).far ne1 _).far ne1 _) sl.out
  · exact ((((B1.setCell (by simp; omega) _).setCell (by simp) _).setCell (by simp) _).setCell (by simp) _).setCell (by simp) _
theorem eqZone_same (k s e : Int) (A A' : Option Addr) (n c c' : Nat) (L : List (Int × Int)) (w : World) (h : Steps w w.heap.size A n L) (h' : Steps w w.heap.size A' n L) (hn : n ≤ maxLen) : Calls Try.prog 18 #[zoneV k s e A n c, zoneV k s e A' n c'] w fun en w' => en = .returned (.bool true) ∧ Below w.heap.size w w' := by
  have H := Lib.hid (fun W (hb : Below w.heap.size w W) => eqPointS_same A A' n c c' L W (h.next hb) (h'.next hb) hn)
  clear h h' hn
  go_enter Try.func18, Try.ntmps18
  go_wp2_with fail
  refine (H.out _ (below_alloc2 _ _ _)).mono ?_
  rintro en w1 ⟨rfl, hb1⟩
  have B1 := (below_alloc2 w _ _).trans (hb1.mono (by simp; omega))
  clear hb1
  go_wp2
  go_ret
  exact ⟨rfl, B1⟩
theorem l05Cross_any (a b c d e f : Int) (w : World) (h1 : placeB a b = true) (h2 : placeB c d = true) (h3 : placeB e f = true) :
    Calls Try.prog 54 #[ptV a b, ptV c d, ptV e f] w fun en w' => en = .returned (.int .i64 (crossV a b c d e f)) ∧ Below w.heap.size w w' := by
  obtain ⟨⟨m1, m2⟩, ⟨m3, m4⟩⟩ := crossV_bound h1 h2 h3
  rw [placeB_iff] at h1 h2 h3
  obtain ⟨⟨p1, p2⟩, ⟨p3, p4⟩⟩ := h1
  obtain ⟨⟨p5, p6⟩, ⟨p7, p8⟩⟩ := h2
  obtain ⟨⟨p9, q1⟩, ⟨q2, q3⟩⟩ := h3
  go_enter Try.func54, Try.ntmps54
  go_wp2
  go_ret
  exact ⟨rfl, below_alloc3 w _ _ _⟩
theorem side_any (a b c d e f : Int) (w : World) (h1 : placeB a b = true) (h2 : placeB c d = true) (h3 : placeB e f = true) :
    Calls Try.prog 61 #[ptV a b, ptV c d, ptV e f] w fun en w' => en = .returned (.int .i64 (crossV a b c d e f)) ∧ Below w.heap.size w w' := by
  obtain ⟨⟨m1, m2⟩, ⟨m3, m4⟩⟩ := crossV_bound h1 h2 h3
  rw [placeB_iff] at h1 h2 h3
  obtain ⟨⟨p1, p2⟩, ⟨p3, p4⟩⟩ := h1
  obtain ⟨⟨p5, p6⟩, ⟨p7, p8⟩⟩ := h2
  obtain ⟨⟨p9, q1⟩, ⟨q2, q3⟩⟩ := h3
  go_enter Try.func61, Try.ntmps61
  go_wp2
  go_ret
  exact ⟨rfl, below_alloc3 w _ _ _⟩
theorem mod_form {n k : Nat} (hk : k < n) : ∃ j, j < n ∧ (k + 1) % n = j ∧ ((k : Int) + 1) % (n : Int) = (j : Int) := by
  refine ⟨(k + 1) % n, Nat.mod_lt _ (by omega), rfl, ?_⟩
  rw [Int.natCast_emod]; rfl
theorem l05Next_any (A : Option Addr) (n c : Nat) (L : List (Int × Int)) (k : Nat) (x y : Int) (w : World) (h : Steps w w.heap.size A n L) (hn : n ≤ maxLen) (hk : k < n) (hx : ptAt L ((k + 1) % n) = (x, y)) :
    Calls Try.prog 88 #[.slice A n c, .int .i64 k] w fun en w' => en = .returned (ptV x y) ∧ Below w.heap.size w w' := by
  unfold maxLen at hn
  obtain ⟨j, hj, e1, e2⟩ := mod_form hk
  rw [e1] at hx
  obtain ⟨b, o, x', y', rfl, hb, hx', hc1, hc2⟩ := h.at_ hj
  rw [ptAt_of hx'] at hx
  obtain ⟨rfl, rfl⟩ : x' = x ∧ y' = y := by simpa using hx
  clear hx hx' h e1
  have i1 : (0 : Int) ≤ (j : Int) := Int.natCast_nonneg _
  have i2 : (j : Int) < (n : Int) := by omega
  have i3 : (0 : Int) ≤ (k : Int) := Int.natCast_nonneg _
  have i4 : (1 : Int) ≤ (n : Int) := by omega
  go_enter Try.func88, Try.ntmps88
  go_wp2
  exact bodyPost_ret (v := ptV x' y') (by simp [results, Try.results88, go_sem]) rfl ⟨rfl, below_alloc1 w _⟩
end Go.Proofs.Ytbdompadkeamdaa
