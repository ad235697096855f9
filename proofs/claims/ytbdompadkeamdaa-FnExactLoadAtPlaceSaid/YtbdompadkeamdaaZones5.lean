/- Zones: the walks of the program's test of a zone, second part. -/
import Derived.Test.YtbdompadkeamdaaProg
import Derived.Test.YtbdompadkeamdaaKit
import Derived.Test.YtbdompadkeamdaaBasics
import Derived.Test.YtbdompadkeamdaaMem
import Derived.Test.YtbdompadkeamdaaCodeRes
import Derived.Test.YtbdompadkeamdaaLists
import Derived.Test.YtbdompadkeamdaaPts
import Derived.Test.YtbdompadkeamdaaZonePlain
import Derived.Test.YtbdompadkeamdaaZones
import Derived.Test.YtbdompadkeamdaaZones2
import Derived.Test.YtbdompadkeamdaaZones3
import Derived.Test.YtbdompadkeamdaaZones4
import Derived.Test.YtbdompadkeamdaaTail
namespace Go.Proofs.Ytbdompadkeamdaa
open Go.RowKit Go.WideShapes Go.ChangeShapes Go.Joins Go.Deep Go.Sort
set_option linter.unusedVariables false
set_option linter.unusedSimpArgs false

theorem Steps.get {w : World} {B b o n k : Nat} {L : List (Int × Int)} {x y : Int} (h : Steps w B (some ⟨b, o, none⟩) n L) (hk : k < n) (hx : L[k]? = some (x, y)) : w.cell? ⟨b, o + k * 2, none⟩ = some (.int .i64 x) ∧ w.cell? ⟨b, o + k * 2 + 1, none⟩ = some (.int .i64 y) := by
  obtain ⟨b', o', e, _, hc⟩ := h.2 (by omega)
  obtain ⟨rfl, rfl⟩ : b = b' ∧ o = o' := by simpa using e
  exact hc k (x, y) hx
theorem turns_here {L : List (Int × Int)} {j n : Nat} (hL : L.length = n) (hj : j < n) (h : sideB L j = false) : turnsB L = false := by
  subst hL; exact allN_false hj h
set_option maxHeartbeats 1000000 in
theorem sidesTurn_any (k s e : Int) (A : Option Addr) (n c : Nat) (L : List (Int × Int)) (g g2 : Nat) (w : World) (K : Blk w g 29 #[.int .i64 k, .int .i64 s, .int .i64 e, .slice A n c]) (K2 : Blk w g2 3 #[.int .i64 n]) (h : Steps w w.heap.size A n L) (hn : n ≤ maxLen) (hp : placesB L = true) :
    Calls Try.prog 55 #[zoneV k s e A n c, .func (.func 87) #[] #[.pointer (some ⟨g, 0, none⟩), .pointer (some ⟨g2, 0, none⟩)]] w fun en w' => en = .returned (.bool (turnsB L)) ∧ Below w.heap.size w w' := by
  have hn' := hn
  unfold maxLen at hn
  have H := Lib.hid h
  have HP := Lib.hid hp
  have HK := Lib.hid K
  have HK2 := Lib.hid K2
  clear h hp K K2
  go_enter Try.func55, Try.ntmps55
  go_wp2
  have B0 := below_alloc1 w (.cells #[.int .i64 k, .int .i64 s, .int .i64 e, .slice A n c] 29)
  have KZ := Lib.hid (Blk.new w 29 #[.int .i64 k, .int .i64 s, .int .i64 e, .slice A n c])
  go_loopw [5, 6, 10] (fun _ _ i wr => ∃ j : Nat, j ≤ n ∧ i = .int .i64 j ∧ Below w.heap.size w wr ∧ Hid (Blk wr w.heap.size 29 #[.int .i64 k, .int .i64 s, .int .i64 e, .slice A n c]) ∧ Hid (∀ x, x < j → sideB L x = true)) (fun _ _ i _ => n - (intOf i).toNat)
  case atStart => exact ⟨0, Nat.zero_le _, rfl, B0, KZ, fun x hx => absurd hx (by omega)⟩
  case round =>
    clear B0 KZ
    obtain ⟨j, hj, rfl, HB, HZ, HJ⟩ := hrel
    by_cases hjn : j < n
    · obtain ⟨m, hm, em1, em2⟩ := mod_form hjn
      obtain ⟨b, o, x, y, eA, hbb, hx, hc1, hc2⟩ := (H.out.below HB).at_ hjn
      obtain ⟨b', o', u, v, eA', _, hx', hc1', hc2'⟩ := (H.out.below HB).at_ hm
      have hz := HB.size
      have i1 : (0 : Int) ≤ (j : Int) := Int.natCast_nonneg _
      have i2 : (j : Int) < (n : Int) := by omega
      have i3 : (0 : Int) ≤ (m : Int) := Int.natCast_nonneg _
      have i4 : (m : Int) < (n : Int) := by omega
      have i5 : (1 : Int) ≤ (n : Int) := by omega
      have v1 := IntWalk.i64_in ((j : Int) + 1) (by omega)
      have hlw : b < wr.heap.size := by omega
      subst eA
      obtain ⟨rfl, rfl⟩ : b = b' ∧ o = o' := by simpa using eA'
      obtain ⟨c0, c1, c2, c3⟩ := HZ.out.four
      have lz := HZ.out.lt
      have B1 := HB.alloc hz (.cells #[.int .i64 x, .int .i64 y] 39)
      have CC := fun w' (hb : Below w.heap.size w w') => shapeOk2_any k s e (some ⟨b, o, none⟩) n c L j x y u v g g2 w' (HK.out.on hb) (HK2.out.on hb) (H.out.next hb) hn' HP.out hjn (ptAt_of hx) (by rw [em1]; exact ptAt_of hx')
      have NZ := Lib.hid (HZ.out.alloc (.cells #[.int .i64 x, .int .i64 y] 39))
      clear eA' hx em1
      have HX := Lib.hid hx'
      clear hc1' hc2' hx'
      cases hs : sideB L j
      · have E := Lib.hid (turns_here H.out.1 hjn hs)
        rw [hs] at CC
        have HC := Lib.hid CC
        clear CC hs
        go_wp2_with fail
        refine name_world (f := fun w => (Code.region _ _ _).wp _ _ _ w) ?_
        intro W hW
        have KP : Blk W wr.heap.size 39 #[.int .i64 x, .int .i64 y] := by rw [hW]; exact Blk.new _ _ _
        have KZ : Blk W w.heap.size 29 #[.int .i64 k, .int .i64 s, .int .i64 e, .slice (some ⟨b, o, none⟩) n c] := by rw [hW]; exact NZ.out
        have BW : Below w.heap.size w W := by rw [hW]; exact B1
        obtain ⟨q1, q2⟩ := (H.out.below BW).get hm HX.out
        have f1 := cell_regrown q1
        have f2 := cell_regrown q2
        have f3 := cell_regrown KP.two.1
        have f4 := cell_regrown KP.two.2
        have f5 := cell_regrown KZ.four.2.2.2
        clear hW KP q1 q2
        refine wp_region_below_tail 13 (by kernel_rfl) (by kernel_rfl) ?_
        simp only [List.take_succ_cons, List.take_zero, List.drop_succ_cons, List.drop_zero]
        repeat (first | go_big_quiet_step (fail) | quiet_step (fail))
        refine wpQuiet_nil ?_
        intro w2 hw2
        have hb2 := class_below hw2
        have B2 := BW.trans (hb2.mono BW.size)
        have KZ2 := Lib.hid (KZ.on hb2)
        clear hw2 hb2 f1 f2 f3 f4 f5 BW KZ
        go_wp2_with fail
        refine (HC.out _ B2).mono ?_
        rintro e w3 ⟨rfl, hb3⟩
        have B3 := B2.trans (hb3.mono B2.size)
        have KZ3 := Lib.hid (KZ2.out.on hb3)
        clear hb3 B2 KZ2
        go_wp2
        go_ret
        exact ⟨ret_bool E.out.symm, B3⟩
      · have E := Lib.hid (upto_next HJ.out hs)
        rw [hs] at CC
        have HC := Lib.hid CC
        clear CC hs
        go_wp2_with fail
        refine name_world (f := fun w => (Code.region _ _ _).wp _ _ _ w) ?_
        intro W hW
        have KP : Blk W wr.heap.size 39 #[.int .i64 x, .int .i64 y] := by rw [hW]; exact Blk.new _ _ _
        have KZ : Blk W w.heap.size 29 #[.int .i64 k, .int .i64 s, .int .i64 e, .slice (some ⟨b, o, none⟩) n c] := by rw [hW]; exact NZ.out
        have BW : Below w.heap.size w W := by rw [hW]; exact B1
        obtain ⟨q1, q2⟩ := (H.out.below BW).get hm HX.out
        have f1 := cell_regrown q1
        have f2 := cell_regrown q2
        have f3 := cell_regrown KP.two.1
        have f4 := cell_regrown KP.two.2
        have f5 := cell_regrown KZ.four.2.2.2
        clear hW KP q1 q2
        refine wp_region_below_tail 13 (by kernel_rfl) (by kernel_rfl) ?_
        simp only [List.take_succ_cons, List.take_zero, List.drop_succ_cons, List.drop_zero]
        repeat (first | go_big_quiet_step (fail) | quiet_step (fail))
        refine wpQuiet_nil ?_
        intro w2 hw2
        have hb2 := class_below hw2
        have B2 := BW.trans (hb2.mono BW.size)
        have KZ2 := Lib.hid (KZ.on hb2)
        clear hw2 hb2 f1 f2 f3 f4 f5 BW KZ
        go_wp2_with fail
        refine (HC.out _ B2).mono ?_
        rintro e w3 ⟨rfl, hb3⟩
        have B3 := B2.trans (hb3.mono B2.size)
        have KZ3 := Lib.hid (KZ2.out.on hb3)
        clear hb3 B2 KZ2
        go_wp2
        exact ⟨⟨j + 1, by omega, by go_num, B3, KZ3, E⟩, by simp [intOf]; omega⟩
    · have E : Hid (turnsB L = true) := by
        show turnsB L = true
        unfold turnsB
        rw [H.out.1]
        exact allN_true fun x hx => HJ.out x (by omega)
      go_wp2
      go_ret
      exact ⟨ret_bool E.out.symm, HB⟩
end Go.Proofs.Ytbdompadkeamdaa
