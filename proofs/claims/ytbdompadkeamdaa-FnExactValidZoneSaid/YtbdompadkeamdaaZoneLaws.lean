/- The laws on zones: the test of a zone. -/
import Derived.Test.YtbdompadkeamdaaProg
import Derived.Test.YtbdompadkeamdaaKit
import Derived.Test.YtbdompadkeamdaaBasics
import Derived.Test.YtbdompadkeamdaaMem
import Derived.Test.YtbdompadkeamdaaCodeRes
import Derived.Test.YtbdompadkeamdaaLists
import Derived.Test.YtbdompadkeamdaaPts
import Derived.Test.YtbdompadkeamdaaZonePlain
import Derived.Test.YtbdompadkeamdaaZones
import Derived.Test.YtbdompadkeamdaaZones6
import Derived.Deep.RegionHeld3
namespace Go.Proofs.Ytbdompadkeamdaa
open Go.RowKit Go.WideShapes Go.ChangeShapes Go.Joins Go.Deep Go.Sort
set_option linter.unusedVariables false
set_option linter.unusedSimpArgs false
set_option maxHeartbeats 2000000 in
theorem FnExactValidZone_walk (w : World) (k : Int) (_wk : (Lit.int .i64 k).wf = true) (s : Int) (_ws : (Lit.int .i64 s).wf = true) (e : Int) (_we : (Lit.int .i64 e).wf = true) (A : Option Addr) (n c : Nat) (L : List (Int × Int)) (hn : n ≤ maxLen) (SA : Steps w w.heap.size A n L)  : Calls Try.prog 4 #[zoneV k s e A n c] w fun en w' => en = .returned (.bool true) ∧ Below w.heap.size w w' := by
  clear _wk _ws _we
  by_cases hs : (n : Int) ≤ 1048576
  · have B0 : Below w.heap.size w (w.alloc (.cells #[.int .i64 k, .int .i64 s, .int .i64 e, .slice A n c] 24)) := below_alloc1 _ _
    have KA0 : Blk (w.alloc (.cells #[.int .i64 k, .int .i64 s, .int .i64 e, .slice A n c] 24)) (w.heap.size) 24 #[.int .i64 k, .int .i64 s, .int .i64 e, .slice A n c] := Blk.new w _ _
    have SA0 := SA.next B0
    clear SA
    have KA0 := Lib.hid KA0
    have SA0 := Lib.hid SA0
    have B0 := Lib.hid B0
    go_enter Try.func4, Try.ntmps4
    obtain ⟨A_0, A_1, A_2, A_3⟩ := KA0.out.four
    go_wp2_with fail
    refine (szZone_in hs _ _ _ _ _ _ (by omega) (by omega) hn).mono ?_
    rintro en w1 ⟨rfl, hb1⟩
    clear A_0 A_1 A_2 A_3
    have KA1 := (KA0.out).on hb1
    have SA1 := (SA0.out).next hb1
    have B1 := B0.out.trans (hb1.mono B0.out.size)
    clear hb1 B0 KA0 SA0
    have KA1 := Lib.hid KA1
    have SA1 := Lib.hid SA1
    have B1 := Lib.hid B1
    clear hn
    obtain ⟨A_0, A_1, A_2, A_3⟩ := KA1.out.four
    go_wp2_with fail
    refine (toZone_any _ _ _ _ _ _ _ _ SA1.out (by omega)).mono ?_
    rintro en w2 ⟨AX, rfl, SX2, hb2⟩
    clear A_0 A_1 A_2 A_3
    have KA2 := (KA1.out).on hb2
    have SA2 := (SA1.out).next hb2
    have B2 := B1.out.trans (hb2.mono B1.out.size)
    clear hb2 B1 KA1 SA1
    have KA2 := Lib.hid KA2
    have SA2 := Lib.hid SA2
    have SX2 := Lib.hid SX2
    have B2 := Lib.hid B2
    obtain ⟨A_0, A_1, A_2, A_3⟩ := KA2.out.four
    go_wp2_with fail
    refine (specValidZone_any _ _ _ _ _ _ _ _ SX2.out (by unfold maxLen; omega)).mono ?_
    rintro en w3 ⟨rfl, hb3⟩
    clear A_0 A_1 A_2 A_3
    have KA3 := (KA2.out).on hb3
    have SA3 := (SA2.out).next hb3
    have B3 := B2.out.trans (hb3.mono B2.out.size)
    clear hb3 B2 KA2 SA2 SX2
    have KA3 := Lib.hid KA3
    have SA3 := Lib.hid SA3
    have B3 := Lib.hid B3
    obtain ⟨A_0, A_1, A_2, A_3⟩ := KA3.out.four
    go_wp2_with fail
    refine (toZone_any _ _ _ _ _ _ _ _ SA3.out (by omega)).mono ?_
    rintro en w4 ⟨AY, rfl, SY4, hb4⟩
    clear A_0 A_1 A_2 A_3
    have KA4 := (KA3.out).on hb4
    have SA4 := (SA3.out).next hb4
    have B4 := B3.out.trans (hb4.mono B3.out.size)
    clear hb4 B3 KA3 SA3
    have KA4 := Lib.hid KA4
    have SA4 := Lib.hid SA4
    have SY4 := Lib.hid SY4
    have B4 := Lib.hid B4
    have bx := below_alloc1 w4 (.cells #[.int .i64 k, .int .i64 s, .int .i64 e, .slice AY n n] 29)
    have KA4 := Lib.hid (KA4.out.alloc (.cells #[.int .i64 k, .int .i64 s, .int .i64 e, .slice AY n n] 29))
    have SA4 := Lib.hid (SA4.out.next bx)
    have SY4 := Lib.hid (SY4.out.next bx)
    have KY4 := Lib.hid (Blk.new w4 29 #[.int .i64 k, .int .i64 s, .int .i64 e, .slice AY n n])
    have B4 := Lib.hid (B4.out.trans (bx.mono B4.out.size))
    clear bx
    obtain ⟨A_0, A_1, A_2, A_3⟩ := KA4.out.four
    obtain ⟨Y_0, Y_1, Y_2, Y_3⟩ := KY4.out.four
    go_wp2_with fail
    refine (implValidZone_any _ _ _ _ _ _ _ _ SY4.out (by unfold maxLen; omega)).mono ?_
    rintro en w5 ⟨rfl, hb5⟩
    clear A_0 A_1 A_2 A_3 Y_0 Y_1 Y_2 Y_3
    have KA5 := (KA4.out).on hb5
    have KY5 := (KY4.out).on hb5
    have SA5 := (SA4.out).next hb5
    have SY5 := (SY4.out).next hb5
    have B5 := B4.out.trans (hb5.mono B4.out.size)
    clear hb5 B4 KA4 KY4 SA4 SY4
    have KA5 := Lib.hid KA5
    have KY5 := Lib.hid KY5
    have SA5 := Lib.hid SA5
    have SY5 := Lib.hid SY5
    have B5 := Lib.hid B5
    obtain ⟨A_0, A_1, A_2, A_3⟩ := KA5.out.four
    obtain ⟨Y_0, Y_1, Y_2, Y_3⟩ := KY5.out.four
    go_wp2_with fail
    go_region_held3 (fun w' => w'.cell? ⟨w.heap.size, 0, none⟩ = some (.int .i64 k) ∧ w'.cell? ⟨w.heap.size, 1, none⟩ = some (.int .i64 s) ∧ w'.cell? ⟨w.heap.size, 2, none⟩ = some (.int .i64 e) ∧ w'.cell? ⟨w.heap.size, 3, none⟩ = some (.slice A n c) ∧ w'.cell? ⟨w4.heap.size, 0, none⟩ = some (.int .i64 k) ∧ w'.cell? ⟨w4.heap.size, 1, none⟩ = some (.int .i64 s) ∧ w'.cell? ⟨w4.heap.size, 2, none⟩ = some (.int .i64 e) ∧ w'.cell? ⟨w4.heap.size, 3, none⟩ = some (.slice AY n n))
      (first | go_keep | (refine ⟨?_, ?_, ?_, ?_, ?_, ?_, ?_, ?_⟩ <;> assumption))
      (first
        | (go_at_call 16; refine (toZone_any _ _ _ _ _ _ _ _ (SA5.out.drewN 1) (by omega)).mono ?_; rintro en w6 ⟨AZ, rfl, SZ6, hb6⟩; clear A_0 A_1 A_2 A_3 Y_0 Y_1 Y_2 Y_3; have KA6 := (KA5.out.drewN 1).on hb6; have KY6 := (KY5.out.drewN 1).on hb6; have SA6 := (SA5.out.drewN 1).next hb6; have SY6 := (SY5.out.drewN 1).next hb6; have B6 := (below_drewN B5.out 1).trans (hb6.mono B5.out.size); clear hb6 B5 KA5 KY5 SA5 SY5; have KA6 := Lib.hid KA6; have KY6 := Lib.hid KY6; have SA6 := Lib.hid SA6; have SY6 := Lib.hid SY6; have SZ6 := Lib.hid SZ6; have B6 := Lib.hid B6; obtain ⟨A_0, A_1, A_2, A_3⟩ := KA6.out.four; obtain ⟨Y_0, Y_1, Y_2, Y_3⟩ := KY6.out.four)
        | (go_at_call 18; refine (eqZone_same _ _ _ _ _ _ _ _ _ _ SY6.out SZ6.out (by unfold maxLen; omega)).mono ?_; rintro en w7 ⟨rfl, hb7⟩; clear A_0 A_1 A_2 A_3 Y_0 Y_1 Y_2 Y_3; have KA7 := (KA6.out).on hb7; have KY7 := (KY6.out).on hb7; have SA7 := (SA6.out).next hb7; have SY7 := (SY6.out).next hb7; have SZ7 := (SZ6.out).next hb7; have B7 := B6.out.trans (hb7.mono B6.out.size); clear hb7 B6 KA6 KY6 SA6 SY6 SZ6; have KA7 := Lib.hid KA7; have KY7 := Lib.hid KY7; have SA7 := Lib.hid SA7; have SY7 := Lib.hid SY7; have SZ7 := Lib.hid SZ7; have B7 := Lib.hid B7; obtain ⟨A_0, A_1, A_2, A_3⟩ := KA7.out.four; obtain ⟨Y_0, Y_1, Y_2, Y_3⟩ := KY7.out.four))
    go_wp2
    go_ret
    exact ⟨rfl, B7.out⟩
  · have B0 : Below w.heap.size w (w.alloc (.cells #[.int .i64 k, .int .i64 s, .int .i64 e, .slice A n c] 24)) := below_alloc1 _ _
    have KA0 : Blk (w.alloc (.cells #[.int .i64 k, .int .i64 s, .int .i64 e, .slice A n c] 24)) (w.heap.size) 24 #[.int .i64 k, .int .i64 s, .int .i64 e, .slice A n c] := Blk.new w _ _
    have SA0 := SA.next B0
    clear SA
    have KA0 := Lib.hid KA0
    have SA0 := Lib.hid SA0
    have B0 := Lib.hid B0
    go_enter Try.func4, Try.ntmps4
    obtain ⟨A_0, A_1, A_2, A_3⟩ := KA0.out.four
    go_wp2_with fail
    refine (szZone_out (by omega) _ _ _ _ _ _ (by omega) (by omega) hn).mono ?_
    rintro en w1 ⟨rfl, hb1⟩
    clear A_0 A_1 A_2 A_3
    have KA1 := (KA0.out).on hb1
    have SA1 := (SA0.out).next hb1
    have B1 := B0.out.trans (hb1.mono B0.out.size)
    clear hb1 B0 KA0 SA0
    have KA1 := Lib.hid KA1
    have SA1 := Lib.hid SA1
    have B1 := Lib.hid B1
    go_wp2
    go_ret
    exact ⟨rfl, B1.out⟩
end Go.Proofs.Ytbdompadkeamdaa
