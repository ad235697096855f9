/- Zones compared: the walks of both sides, and the law. -/
import Derived.Test.YtbdompadkeamdaaProg
import Derived.Test.YtbdompadkeamdaaKit
import Derived.Test.YtbdompadkeamdaaBasics
import Derived.Test.YtbdompadkeamdaaMem
import Derived.Test.YtbdompadkeamdaaCodeRes
import Derived.Test.YtbdompadkeamdaaLists
import Derived.Test.YtbdompadkeamdaaPts
import Derived.Test.YtbdompadkeamdaaZonePlain
import Derived.Test.YtbdompadkeamdaaZones
import Derived.Deep.RegionHeld3
namespace Go.Proofs.Ytbdompadkeamdaa
open Go.RowKit Go.WideShapes Go.ChangeShapes Go.Joins Go.Deep Go.Sort
set_option linter.unusedVariables false
set_option linter.unusedSimpArgs false
def sameZB (k s e : Int) (L : List (Int × Int)) (kq sq eq : Int) (Lq : List (Int × Int)) : Bool := decide (k = kq) && (decide (s = sq) && (decide (e = eq) && decide (L = Lq)))
theorem specSameZone_any (k s e : Int) (A : Option Addr) (n c : Nat) (L : List (Int × Int)) (kq sq eq : Int) (Aq : Option Addr) (nq cq : Nat) (Lq : List (Int × Int)) (w : World) (h : Steps w w.heap.size A n L) (hq : Steps w w.heap.size Aq nq Lq) (hn : n ≤ maxLen) (hnq : nq ≤ maxLen) : Calls Try.prog 15 #[zoneV k s e A n c, zoneV kq sq eq Aq nq cq] w fun en w' => en = .returned (.bool (sameZB k s e L kq sq eq Lq)) ∧ Below w.heap.size w w' := by
  have B0 := below_alloc2 w (.cells #[.int .i64 k, .int .i64 s, .int .i64 e, .slice A n c] 29) (.cells #[.int .i64 kq, .int .i64 sq, .int .i64 eq, .slice Aq nq cq] 29)
  have CC := Lib.hid (l05Points_any A Aq n nq c cq L Lq _ (h.next B0) (hq.next B0) hn hnq)
  unfold sameZB
  clear h hq hn hnq
  by_cases hk : k = kq
  · have t1 : (k == kq) = true := by simpa using hk
    by_cases hs : s = sq
    · have t2 : (s == sq) = true := by simpa using hs
      by_cases he : e = eq
      · have t3 : (e == eq) = true := by simpa using he
        have E := Lib.hid (show (decide (k = kq) && (decide (s = sq) && (decide (e = eq) && decide (L = Lq)))) = decide (L = Lq) by simp [hk, hs, he])
        generalize decide (L = Lq) = r at CC E
        have B0 := Lib.hid B0
        clear hk hs he
        go_enter Try.func15, Try.ntmps15
        go_wp2_with fail
        refine CC.out.mono ?_
        rintro en w1 ⟨rfl, hb1⟩
        have B1 := B0.out.trans (hb1.mono B0.out.size)
        clear hb1 B0
        go_wp2
        go_ret
        exact ⟨ret_bool E.out.symm, B1⟩
      · have t3 : (e == eq) = false := beq_eq_false_iff_ne.2 he
        have E := Lib.hid (show (decide (k = kq) && (decide (s = sq) && (decide (e = eq) && decide (L = Lq)))) = false by simp [he])
        clear he hk hs
        go_enter Try.func15, Try.ntmps15
        go_wp2
        go_ret
        exact ⟨ret_bool E.out.symm, B0⟩
    · have t2 : (s == sq) = false := beq_eq_false_iff_ne.2 hs
      have E := Lib.hid (show (decide (k = kq) && (decide (s = sq) && (decide (e = eq) && decide (L = Lq)))) = false by simp [hs])
      clear hs hk
      go_enter Try.func15, Try.ntmps15
      go_wp2
      go_ret
      exact ⟨ret_bool E.out.symm, B0⟩
  · have t1 : (k == kq) = false := beq_eq_false_iff_ne.2 hk
    have E := Lib.hid (show (decide (k = kq) && (decide (s = sq) && (decide (e = eq) && decide (L = Lq)))) = false by simp [hk])
    clear hk
    go_enter Try.func15, Try.ntmps15
    go_wp2
    go_ret
    exact ⟨ret_bool E.out.symm, B0⟩
theorem implSameZone_any (k s e : Int) (A : Option Addr) (n c : Nat) (L : List (Int × Int)) (kq sq eq : Int) (Aq : Option Addr) (nq cq : Nat) (Lq : List (Int × Int)) (w : World) (h : Steps w w.heap.size A n L) (hq : Steps w w.heap.size Aq nq Lq) (hn : n ≤ maxLen) (hnq : nq ≤ maxLen) : Calls Try.prog 17 #[zoneV k s e A n c, zoneV kq sq eq Aq nq cq] w fun en w' => en = .returned (.bool (sameZB k s e L kq sq eq Lq)) ∧ Below w.heap.size w w' := by
  have B0 := below_alloc2 w (.cells #[.int .i64 k, .int .i64 s, .int .i64 e, .slice A n c] 29) (.cells #[.int .i64 kq, .int .i64 sq, .int .i64 eq, .slice Aq nq cq] 29)
  have CC := Lib.hid (slicesEqualPt_any A Aq n nq c cq L Lq _ (h.next B0) (hq.next B0) hn hnq)
  unfold sameZB
  clear h hq hn hnq
  by_cases hk : k = kq
  · have t1 : (k == kq) = true := by simpa using hk
    by_cases hs : s = sq
    · have t2 : (s == sq) = true := by simpa using hs
      by_cases he : e = eq
      · have t3 : (e == eq) = true := by simpa using he
        have E := Lib.hid (show (decide (k = kq) && (decide (s = sq) && (decide (e = eq) && decide (L = Lq)))) = decide (L = Lq) by simp [hk, hs, he])
        generalize decide (L = Lq) = r at CC E
        have B0 := Lib.hid B0
        clear hk hs he
        go_enter Try.func17, Try.ntmps17
        go_wp2_with fail
        refine CC.out.mono ?_
        rintro en w1 ⟨rfl, hb1⟩
        have B1 := B0.out.trans (hb1.mono B0.out.size)
        clear hb1 B0
        go_wp2
        go_ret
        exact ⟨ret_bool E.out.symm, B1⟩
      · have t3 : (e == eq) = false := beq_eq_false_iff_ne.2 he
        have E := Lib.hid (show (decide (k = kq) && (decide (s = sq) && (decide (e = eq) && decide (L = Lq)))) = false by simp [he])
        clear he hk hs
        go_enter Try.func17, Try.ntmps17
        go_wp2
        go_ret
        exact ⟨ret_bool E.out.symm, B0⟩
    · have t2 : (s == sq) = false := beq_eq_false_iff_ne.2 hs
      have E := Lib.hid (show (decide (k = kq) && (decide (s = sq) && (decide (e = eq) && decide (L = Lq)))) = false by simp [hs])
      clear hs hk
      go_enter Try.func17, Try.ntmps17
      go_wp2
      go_ret
      exact ⟨ret_bool E.out.symm, B0⟩
  · have t1 : (k == kq) = false := beq_eq_false_iff_ne.2 hk
    have E := Lib.hid (show (decide (k = kq) && (decide (s = sq) && (decide (e = eq) && decide (L = Lq)))) = false by simp [hk])
    clear hk
    go_enter Try.func17, Try.ntmps17
    go_wp2
    go_ret
    exact ⟨ret_bool E.out.symm, B0⟩
set_option maxHeartbeats 2000000 in
theorem FnExactSameZone_walk (w : World) (k : Int) (_wk : (Lit.int .i64 k).wf = true) (s : Int) (_ws : (Lit.int .i64 s).wf = true) (e : Int) (_we : (Lit.int .i64 e).wf = true) (A : Option Addr) (n c : Nat) (L : List (Int × Int)) (hn : n ≤ maxLen) (SA : Steps w w.heap.size A n L) (kq : Int) (_wkq : (Lit.int .i64 kq).wf = true) (sq : Int) (_wsq : (Lit.int .i64 sq).wf = true) (eq : Int) (_weq : (Lit.int .i64 eq).wf = true) (Aq : Option Addr) (nq cq : Nat) (Lq : List (Int × Int)) (hnq : nq ≤ maxLen) (SAq : Steps w w.heap.size Aq nq Lq) : Calls Try.prog 3 #[zoneV k s e A n c, zoneV kq sq eq Aq nq cq] w fun en w' => en = .returned (.bool true) ∧ Below w.heap.size w w' := by
  clear _wk _ws _we _wkq _wsq _weq
  obtain ⟨r, F⟩ : ∃ r, sameZB k s e L kq sq eq Lq = r := ⟨_, rfl⟩
  have H1 : Hid (∀ A n c Aq nq cq w, Steps w w.heap.size A n L → Steps w w.heap.size Aq nq Lq → n ≤ maxLen → nq ≤ maxLen → Calls Try.prog 15 #[zoneV k s e A n c, zoneV kq sq eq Aq nq cq] w fun en w' => en = .returned (.bool r) ∧ Below w.heap.size w w') := fun A n c Aq nq cq w h hq hn hnq => by rw [← F]; exact specSameZone_any _ _ _ _ _ _ _ _ _ _ _ _ _ _ _ h hq hn hnq
  have H2 : Hid (∀ A n c Aq nq cq w, Steps w w.heap.size A n L → Steps w w.heap.size Aq nq Lq → n ≤ maxLen → nq ≤ maxLen → Calls Try.prog 17 #[zoneV k s e A n c, zoneV kq sq eq Aq nq cq] w fun en w' => en = .returned (.bool r) ∧ Below w.heap.size w w') := fun A n c Aq nq cq w h hq hn hnq => by rw [← F]; exact implSameZone_any _ _ _ _ _ _ _ _ _ _ _ _ _ _ _ h hq hn hnq
  clear F
  by_cases hs : (n : Int) ≤ 1048576
  · by_cases hsq : (nq : Int) ≤ 1048576 - n
    · have B0 : Below w.heap.size w ((w.alloc (.cells #[.int .i64 k, .int .i64 s, .int .i64 e, .slice A n c] 24)).alloc (.cells #[.int .i64 kq, .int .i64 sq, .int .i64 eq, .slice Aq nq cq] 24)) := below_alloc2 _ _ _
      have KA0 : Blk ((w.alloc (.cells #[.int .i64 k, .int .i64 s, .int .i64 e, .slice A n c] 24)).alloc (.cells #[.int .i64 kq, .int .i64 sq, .int .i64 eq, .slice Aq nq cq] 24)) (w.heap.size) 24 #[.int .i64 k, .int .i64 s, .int .i64 e, .slice A n c] := (Blk.new w _ _).alloc _
      have KAq0 : Blk ((w.alloc (.cells #[.int .i64 k, .int .i64 s, .int .i64 e, .slice A n c] 24)).alloc (.cells #[.int .i64 kq, .int .i64 sq, .int .i64 eq, .slice Aq nq cq] 24)) (w.heap.size + 1) 24 #[.int .i64 kq, .int .i64 sq, .int .i64 eq, .slice Aq nq cq] := Blk.new2 w _ _ _
      have SA0 := SA.next B0
      have SAq0 := SAq.next B0
      clear SA SAq
      have KA0 := Lib.hid KA0
      have KAq0 := Lib.hid KAq0
      have SA0 := Lib.hid SA0
      have SAq0 := Lib.hid SAq0
      have B0 := Lib.hid B0
      go_enter Try.func3, Try.ntmps3
      obtain ⟨A_0, A_1, A_2, A_3⟩ := KA0.out.four
      obtain ⟨Aq_0, Aq_1, Aq_2, Aq_3⟩ := KAq0.out.four
      go_wp2_with fail
      refine (szZone_in hs _ _ _ _ _ _ (by omega) (by omega) hn).mono ?_
      rintro en w1 ⟨rfl, hb1⟩
      clear A_0 A_1 A_2 A_3 Aq_0 Aq_1 Aq_2 Aq_3
      have KA1 := (KA0.out).on hb1
      have KAq1 := (KAq0.out).on hb1
      have SA1 := (SA0.out).next hb1
      have SAq1 := (SAq0.out).next hb1
      have B1 := B0.out.trans (hb1.mono B0.out.size)
      clear hb1 B0 KA0 KAq0 SA0 SAq0
      have KA1 := Lib.hid KA1
      have KAq1 := Lib.hid KAq1
      have SA1 := Lib.hid SA1
      have SAq1 := Lib.hid SAq1
      have B1 := Lib.hid B1
      obtain ⟨A_0, A_1, A_2, A_3⟩ := KA1.out.four
      obtain ⟨Aq_0, Aq_1, Aq_2, Aq_3⟩ := KAq1.out.four
      go_wp2_with fail
      refine (szZone_in hsq _ _ _ _ _ _ (by omega) (by omega) hnq).mono ?_
      rintro en w2 ⟨rfl, hb2⟩
      clear A_0 A_1 A_2 A_3 Aq_0 Aq_1 Aq_2 Aq_3
      have KA2 := (KA1.out).on hb2
      have KAq2 := (KAq1.out).on hb2
      have SA2 := (SA1.out).next hb2
      have SAq2 := (SAq1.out).next hb2
      have B2 := B1.out.trans (hb2.mono B1.out.size)
      clear hb2 B1 KA1 KAq1 SA1 SAq1
      have KA2 := Lib.hid KA2
      have KAq2 := Lib.hid KAq2
      have SA2 := Lib.hid SA2
      have SAq2 := Lib.hid SAq2
      have B2 := Lib.hid B2
      clear hn hnq
      obtain ⟨A_0, A_1, A_2, A_3⟩ := KA2.out.four
      obtain ⟨Aq_0, Aq_1, Aq_2, Aq_3⟩ := KAq2.out.four
      go_wp2_with fail
      go_region_held3 (fun w' => w'.cell? ⟨w.heap.size, 0, none⟩ = some (.int .i64 k) ∧ w'.cell? ⟨w.heap.size, 1, none⟩ = some (.int .i64 s) ∧ w'.cell? ⟨w.heap.size, 2, none⟩ = some (.int .i64 e) ∧ w'.cell? ⟨w.heap.size, 3, none⟩ = some (.slice A n c) ∧ w'.cell? ⟨w.heap.size + 1, 0, none⟩ = some (.int .i64 kq) ∧ w'.cell? ⟨w.heap.size + 1, 1, none⟩ = some (.int .i64 sq) ∧ w'.cell? ⟨w.heap.size + 1, 2, none⟩ = some (.int .i64 eq) ∧ w'.cell? ⟨w.heap.size + 1, 3, none⟩ = some (.slice Aq nq cq))
        (first | go_keep | (refine ⟨?_, ?_, ?_, ?_, ?_, ?_, ?_, ?_⟩ <;> assumption))
        (first
          | (go_at_call 16; refine (toZone_any _ _ _ _ _ _ _ _ (SA2.out.drewN 1) (by omega)).mono ?_; rintro en w3 ⟨AX, rfl, SX3, hb3⟩; clear A_0 A_1 A_2 A_3 Aq_0 Aq_1 Aq_2 Aq_3; have KA3 := (KA2.out.drewN 1).on hb3; have KAq3 := (KAq2.out.drewN 1).on hb3; have SA3 := (SA2.out.drewN 1).next hb3; have SAq3 := (SAq2.out.drewN 1).next hb3; have B3 := (below_drewN B2.out 1).trans (hb3.mono B2.out.size); clear hb3 B2 KA2 KAq2 SA2 SAq2; have KA3 := Lib.hid KA3; have KAq3 := Lib.hid KAq3; have SA3 := Lib.hid SA3; have SAq3 := Lib.hid SAq3; have SX3 := Lib.hid SX3; have B3 := Lib.hid B3; obtain ⟨A_0, A_1, A_2, A_3⟩ := KA3.out.four; obtain ⟨Aq_0, Aq_1, Aq_2, Aq_3⟩ := KAq3.out.four)
          | (go_at_call 16; refine (toZone_any _ _ _ _ _ _ _ _ SAq3.out (by omega)).mono ?_; rintro en w4 ⟨AXq, rfl, SXq4, hb4⟩; clear A_0 A_1 A_2 A_3 Aq_0 Aq_1 Aq_2 Aq_3; have KA4 := (KA3.out).on hb4; have KAq4 := (KAq3.out).on hb4; have SA4 := (SA3.out).next hb4; have SAq4 := (SAq3.out).next hb4; have SX4 := (SX3.out).next hb4; have B4 := B3.out.trans (hb4.mono B3.out.size); clear hb4 B3 KA3 KAq3 SA3 SAq3 SX3; have KA4 := Lib.hid KA4; have KAq4 := Lib.hid KAq4; have SA4 := Lib.hid SA4; have SAq4 := Lib.hid SAq4; have SX4 := Lib.hid SX4; have SXq4 := Lib.hid SXq4; have B4 := Lib.hid B4; obtain ⟨A_0, A_1, A_2, A_3⟩ := KA4.out.four; obtain ⟨Aq_0, Aq_1, Aq_2, Aq_3⟩ := KAq4.out.four)
          | (go_at_call 15; refine (H1.out _ _ _ _ _ _ _ SX4.out SXq4.out (by unfold maxLen; omega) (by unfold maxLen; omega)).mono ?_; rintro en w5 ⟨rfl, hb5⟩; clear A_0 A_1 A_2 A_3 Aq_0 Aq_1 Aq_2 Aq_3; have KA5 := (KA4.out).on hb5; have KAq5 := (KAq4.out).on hb5; have SA5 := (SA4.out).next hb5; have SAq5 := (SAq4.out).next hb5; have B5 := B4.out.trans (hb5.mono B4.out.size); clear hb5 B4 KA4 KAq4 SA4 SAq4 SX4 SXq4; have KA5 := Lib.hid KA5; have KAq5 := Lib.hid KAq5; have SA5 := Lib.hid SA5; have SAq5 := Lib.hid SAq5; have B5 := Lib.hid B5; obtain ⟨A_0, A_1, A_2, A_3⟩ := KA5.out.four; obtain ⟨Aq_0, Aq_1, Aq_2, Aq_3⟩ := KAq5.out.four))
      clear A_0 A_1 A_2 A_3 Aq_0 Aq_1 Aq_2 Aq_3
      obtain ⟨A_0, A_1, A_2, A_3⟩ := KA5.out.four
      obtain ⟨Aq_0, Aq_1, Aq_2, Aq_3⟩ := KAq5.out.four
      go_wp2_with fail
      refine (toZone_any _ _ _ _ _ _ _ _ SA5.out (by omega)).mono ?_
      rintro en w6 ⟨AY, rfl, SY6, hb6⟩
      clear A_0 A_1 A_2 A_3 Aq_0 Aq_1 Aq_2 Aq_3
      have KA6 := (KA5.out).on hb6
      have KAq6 := (KAq5.out).on hb6
      have SA6 := (SA5.out).next hb6
      have SAq6 := (SAq5.out).next hb6
      have B6 := B5.out.trans (hb6.mono B5.out.size)
      clear hb6 B5 KA5 KAq5 SA5 SAq5
      have KA6 := Lib.hid KA6
      have KAq6 := Lib.hid KAq6
      have SA6 := Lib.hid SA6
      have SAq6 := Lib.hid SAq6
      have SY6 := Lib.hid SY6
      have B6 := Lib.hid B6
      have bx := below_alloc1 w6 (.cells #[.int .i64 k, .int .i64 s, .int .i64 e, .slice AY n n] 29)
      have KA6 := Lib.hid (KA6.out.alloc (.cells #[.int .i64 k, .int .i64 s, .int .i64 e, .slice AY n n] 29))
      have KAq6 := Lib.hid (KAq6.out.alloc (.cells #[.int .i64 k, .int .i64 s, .int .i64 e, .slice AY n n] 29))
      have SA6 := Lib.hid (SA6.out.next bx)
      have SAq6 := Lib.hid (SAq6.out.next bx)
      have SY6 := Lib.hid (SY6.out.next bx)
      have KY6 := Lib.hid (Blk.new w6 29 #[.int .i64 k, .int .i64 s, .int .i64 e, .slice AY n n])
      have B6 := Lib.hid (B6.out.trans (bx.mono B6.out.size))
      clear bx
      obtain ⟨A_0, A_1, A_2, A_3⟩ := KA6.out.four
      obtain ⟨Aq_0, Aq_1, Aq_2, Aq_3⟩ := KAq6.out.four
      obtain ⟨Y_0, Y_1, Y_2, Y_3⟩ := KY6.out.four
      go_wp2_with fail
      refine (toZone_any _ _ _ _ _ _ _ _ SAq6.out (by omega)).mono ?_
      rintro en w7 ⟨AYq, rfl, SYq7, hb7⟩
      clear A_0 A_1 A_2 A_3 Aq_0 Aq_1 Aq_2 Aq_3 Y_0 Y_1 Y_2 Y_3
      have KA7 := (KA6.out).on hb7
      have KAq7 := (KAq6.out).on hb7
      have KY7 := (KY6.out).on hb7
      have SA7 := (SA6.out).next hb7
      have SAq7 := (SAq6.out).next hb7
      have SY7 := (SY6.out).next hb7
      have B7 := B6.out.trans (hb7.mono B6.out.size)
      clear hb7 B6 KA6 KAq6 KY6 SA6 SAq6 SY6
      have KA7 := Lib.hid KA7
      have KAq7 := Lib.hid KAq7
      have KY7 := Lib.hid KY7
      have SA7 := Lib.hid SA7
      have SAq7 := Lib.hid SAq7
      have SY7 := Lib.hid SY7
      have SYq7 := Lib.hid SYq7
      have B7 := Lib.hid B7
      have bx := below_alloc1 w7 (.cells #[.int .i64 kq, .int .i64 sq, .int .i64 eq, .slice AYq nq nq] 29)
      have KA7 := Lib.hid (KA7.out.alloc (.cells #[.int .i64 kq, .int .i64 sq, .int .i64 eq, .slice AYq nq nq] 29))
      have KAq7 := Lib.hid (KAq7.out.alloc (.cells #[.int .i64 kq, .int .i64 sq, .int .i64 eq, .slice AYq nq nq] 29))
      have KY7 := Lib.hid (KY7.out.alloc (.cells #[.int .i64 kq, .int .i64 sq, .int .i64 eq, .slice AYq nq nq] 29))
      have SA7 := Lib.hid (SA7.out.next bx)
      have SAq7 := Lib.hid (SAq7.out.next bx)
      have SY7 := Lib.hid (SY7.out.next bx)
      have SYq7 := Lib.hid (SYq7.out.next bx)
      have KYq7 := Lib.hid (Blk.new w7 29 #[.int .i64 kq, .int .i64 sq, .int .i64 eq, .slice AYq nq nq])
      have B7 := Lib.hid (B7.out.trans (bx.mono B7.out.size))
      clear bx
      obtain ⟨A_0, A_1, A_2, A_3⟩ := KA7.out.four
      obtain ⟨Aq_0, Aq_1, Aq_2, Aq_3⟩ := KAq7.out.four
      obtain ⟨Y_0, Y_1, Y_2, Y_3⟩ := KY7.out.four
      obtain ⟨Yq_0, Yq_1, Yq_2, Yq_3⟩ := KYq7.out.four
      go_wp2_with fail
      refine (H2.out _ _ _ _ _ _ _ SY7.out SYq7.out (by unfold maxLen; omega) (by unfold maxLen; omega)).mono ?_
      rintro en w8 ⟨rfl, hb8⟩
      clear A_0 A_1 A_2 A_3 Aq_0 Aq_1 Aq_2 Aq_3 Y_0 Y_1 Y_2 Y_3 Yq_0 Yq_1 Yq_2 Yq_3
      have KA8 := (KA7.out).on hb8
      have KAq8 := (KAq7.out).on hb8
      have KY8 := (KY7.out).on hb8
      have KYq8 := (KYq7.out).on hb8
      have SA8 := (SA7.out).next hb8
      have SAq8 := (SAq7.out).next hb8
      have SY8 := (SY7.out).next hb8
      have SYq8 := (SYq7.out).next hb8
      have B8 := B7.out.trans (hb8.mono B7.out.size)
      clear hb8 B7 KA7 KAq7 KY7 KYq7 SA7 SAq7 SY7 SYq7
      have KA8 := Lib.hid KA8
      have KAq8 := Lib.hid KAq8
      have KY8 := Lib.hid KY8
      have KYq8 := Lib.hid KYq8
      have SA8 := Lib.hid SA8
      have SAq8 := Lib.hid SAq8
      have SY8 := Lib.hid SY8
      have SYq8 := Lib.hid SYq8
      have B8 := Lib.hid B8
      obtain ⟨A_0, A_1, A_2, A_3⟩ := KA8.out.four
      obtain ⟨Aq_0, Aq_1, Aq_2, Aq_3⟩ := KAq8.out.four
      obtain ⟨Y_0, Y_1, Y_2, Y_3⟩ := KY8.out.four
      obtain ⟨Yq_0, Yq_1, Yq_2, Yq_3⟩ := KYq8.out.four
      go_wp2_with fail
      go_region_held3 (fun w' => w'.cell? ⟨w.heap.size, 0, none⟩ = some (.int .i64 k) ∧ w'.cell? ⟨w.heap.size, 1, none⟩ = some (.int .i64 s) ∧ w'.cell? ⟨w.heap.size, 2, none⟩ = some (.int .i64 e) ∧ w'.cell? ⟨w.heap.size, 3, none⟩ = some (.slice A n c) ∧ w'.cell? ⟨w.heap.size + 1, 0, none⟩ = some (.int .i64 kq) ∧ w'.cell? ⟨w.heap.size + 1, 1, none⟩ = some (.int .i64 sq) ∧ w'.cell? ⟨w.heap.size + 1, 2, none⟩ = some (.int .i64 eq) ∧ w'.cell? ⟨w.heap.size + 1, 3, none⟩ = some (.slice Aq nq cq) ∧ w'.cell? ⟨w6.heap.size, 0, none⟩ = some (.int .i64 k) ∧ w'.cell? ⟨w6.heap.size, 1, none⟩ = some (.int .i64 s) ∧ w'.cell? ⟨w6.heap.size, 2, none⟩ = some (.int .i64 e) ∧ w'.cell? ⟨w6.heap.size, 3, none⟩ = some (.slice AY n n) ∧ w'.cell? ⟨w7.heap.size, 0, none⟩ = some (.int .i64 kq) ∧ w'.cell? ⟨w7.heap.size, 1, none⟩ = some (.int .i64 sq) ∧ w'.cell? ⟨w7.heap.size, 2, none⟩ = some (.int .i64 eq) ∧ w'.cell? ⟨w7.heap.size, 3, none⟩ = some (.slice AYq nq nq))
        (first | go_keep | (refine ⟨?_, ?_, ?_, ?_, ?_, ?_, ?_, ?_, ?_, ?_, ?_, ?_, ?_, ?_, ?_, ?_⟩ <;> assumption))
        (first
          | (go_at_call 16; refine (toZone_any _ _ _ _ _ _ _ _ (SA8.out.drewN 1) (by omega)).mono ?_; rintro en w9 ⟨AZ, rfl, SZ9, hb9⟩; clear A_0 A_1 A_2 A_3 Aq_0 Aq_1 Aq_2 Aq_3 Y_0 Y_1 Y_2 Y_3 Yq_0 Yq_1 Yq_2 Yq_3; have KA9 := (KA8.out.drewN 1).on hb9; have KAq9 := (KAq8.out.drewN 1).on hb9; have KY9 := (KY8.out.drewN 1).on hb9; have KYq9 := (KYq8.out.drewN 1).on hb9; have SA9 := (SA8.out.drewN 1).next hb9; have SAq9 := (SAq8.out.drewN 1).next hb9; have SY9 := (SY8.out.drewN 1).next hb9; have SYq9 := (SYq8.out.drewN 1).next hb9; have B9 := (below_drewN B8.out 1).trans (hb9.mono B8.out.size); clear hb9 B8 KA8 KAq8 KY8 KYq8 SA8 SAq8 SY8 SYq8; have KA9 := Lib.hid KA9; have KAq9 := Lib.hid KAq9; have KY9 := Lib.hid KY9; have KYq9 := Lib.hid KYq9; have SA9 := Lib.hid SA9; have SAq9 := Lib.hid SAq9; have SY9 := Lib.hid SY9; have SYq9 := Lib.hid SYq9; have SZ9 := Lib.hid SZ9; have B9 := Lib.hid B9; obtain ⟨A_0, A_1, A_2, A_3⟩ := KA9.out.four; obtain ⟨Aq_0, Aq_1, Aq_2, Aq_3⟩ := KAq9.out.four; obtain ⟨Y_0, Y_1, Y_2, Y_3⟩ := KY9.out.four; obtain ⟨Yq_0, Yq_1, Yq_2, Yq_3⟩ := KYq9.out.four)
          | (go_at_call 18; refine (eqZone_same _ _ _ _ _ _ _ _ _ _ SY9.out SZ9.out (by unfold maxLen; omega)).mono ?_; rintro en w10 ⟨rfl, hb10⟩; clear A_0 A_1 A_2 A_3 Aq_0 Aq_1 Aq_2 Aq_3 Y_0 Y_1 Y_2 Y_3 Yq_0 Yq_1 Yq_2 Yq_3; have KA10 := (KA9.out).on hb10; have KAq10 := (KAq9.out).on hb10; have KY10 := (KY9.out).on hb10; have KYq10 := (KYq9.out).on hb10; have SA10 := (SA9.out).next hb10; have SAq10 := (SAq9.out).next hb10; have SY10 := (SY9.out).next hb10; have SYq10 := (SYq9.out).next hb10; have B10 := B9.out.trans (hb10.mono B9.out.size); clear hb10 B9 KA9 KAq9 KY9 KYq9 SA9 SAq9 SY9 SYq9 SZ9; have KA10 := Lib.hid KA10; have KAq10 := Lib.hid KAq10; have KY10 := Lib.hid KY10; have KYq10 := Lib.hid KYq10; have SA10 := Lib.hid SA10; have SAq10 := Lib.hid SAq10; have SY10 := Lib.hid SY10; have SYq10 := Lib.hid SYq10; have B10 := Lib.hid B10; obtain ⟨A_0, A_1, A_2, A_3⟩ := KA10.out.four; obtain ⟨Aq_0, Aq_1, Aq_2, Aq_3⟩ := KAq10.out.four; obtain ⟨Y_0, Y_1, Y_2, Y_3⟩ := KY10.out.four; obtain ⟨Yq_0, Yq_1, Yq_2, Yq_3⟩ := KYq10.out.four))
      clear A_0 A_1 A_2 A_3 Aq_0 Aq_1 Aq_2 Aq_3 Y_0 Y_1 Y_2 Y_3 Yq_0 Yq_1 Yq_2 Yq_3
      obtain ⟨A_0, A_1, A_2, A_3⟩ := KA10.out.four
      obtain ⟨Aq_0, Aq_1, Aq_2, Aq_3⟩ := KAq10.out.four
      obtain ⟨Y_0, Y_1, Y_2, Y_3⟩ := KY10.out.four
      obtain ⟨Yq_0, Yq_1, Yq_2, Yq_3⟩ := KYq10.out.four
      go_wp2_with fail
      go_region_held3 (fun w' => w'.cell? ⟨w.heap.size, 0, none⟩ = some (.int .i64 k) ∧ w'.cell? ⟨w.heap.size, 1, none⟩ = some (.int .i64 s) ∧ w'.cell? ⟨w.heap.size, 2, none⟩ = some (.int .i64 e) ∧ w'.cell? ⟨w.heap.size, 3, none⟩ = some (.slice A n c) ∧ w'.cell? ⟨w.heap.size + 1, 0, none⟩ = some (.int .i64 kq) ∧ w'.cell? ⟨w.heap.size + 1, 1, none⟩ = some (.int .i64 sq) ∧ w'.cell? ⟨w.heap.size + 1, 2, none⟩ = some (.int .i64 eq) ∧ w'.cell? ⟨w.heap.size + 1, 3, none⟩ = some (.slice Aq nq cq) ∧ w'.cell? ⟨w6.heap.size, 0, none⟩ = some (.int .i64 k) ∧ w'.cell? ⟨w6.heap.size, 1, none⟩ = some (.int .i64 s) ∧ w'.cell? ⟨w6.heap.size, 2, none⟩ = some (.int .i64 e) ∧ w'.cell? ⟨w6.heap.size, 3, none⟩ = some (.slice AY n n) ∧ w'.cell? ⟨w7.heap.size, 0, none⟩ = some (.int .i64 kq) ∧ w'.cell? ⟨w7.heap.size, 1, none⟩ = some (.int .i64 sq) ∧ w'.cell? ⟨w7.heap.size, 2, none⟩ = some (.int .i64 eq) ∧ w'.cell? ⟨w7.heap.size, 3, none⟩ = some (.slice AYq nq nq))
        (first | go_keep | (refine ⟨?_, ?_, ?_, ?_, ?_, ?_, ?_, ?_, ?_, ?_, ?_, ?_, ?_, ?_, ?_, ?_⟩ <;> assumption))
        (first
          | (go_at_call 16; refine (toZone_any _ _ _ _ _ _ _ _ (SAq10.out.drewN 1) (by omega)).mono ?_; rintro en w11 ⟨AZq, rfl, SZq11, hb11⟩; clear A_0 A_1 A_2 A_3 Aq_0 Aq_1 Aq_2 Aq_3 Y_0 Y_1 Y_2 Y_3 Yq_0 Yq_1 Yq_2 Yq_3; have KA11 := (KA10.out.drewN 1).on hb11; have KAq11 := (KAq10.out.drewN 1).on hb11; have KY11 := (KY10.out.drewN 1).on hb11; have KYq11 := (KYq10.out.drewN 1).on hb11; have SA11 := (SA10.out.drewN 1).next hb11; have SAq11 := (SAq10.out.drewN 1).next hb11; have SY11 := (SY10.out.drewN 1).next hb11; have SYq11 := (SYq10.out.drewN 1).next hb11; have B11 := (below_drewN B10.out 1).trans (hb11.mono B10.out.size); clear hb11 B10 KA10 KAq10 KY10 KYq10 SA10 SAq10 SY10 SYq10; have KA11 := Lib.hid KA11; have KAq11 := Lib.hid KAq11; have KY11 := Lib.hid KY11; have KYq11 := Lib.hid KYq11; have SA11 := Lib.hid SA11; have SAq11 := Lib.hid SAq11; have SY11 := Lib.hid SY11; have SYq11 := Lib.hid SYq11; have SZq11 := Lib.hid SZq11; have B11 := Lib.hid B11; obtain ⟨A_0, A_1, A_2, A_3⟩ := KA11.out.four; obtain ⟨Aq_0, Aq_1, Aq_2, Aq_3⟩ := KAq11.out.four; obtain ⟨Y_0, Y_1, Y_2, Y_3⟩ := KY11.out.four; obtain ⟨Yq_0, Yq_1, Yq_2, Yq_3⟩ := KYq11.out.four)
          | (go_at_call 18; refine (eqZone_same _ _ _ _ _ _ _ _ _ _ SYq11.out SZq11.out (by unfold maxLen; omega)).mono ?_; rintro en w12 ⟨rfl, hb12⟩; clear A_0 A_1 A_2 A_3 Aq_0 Aq_1 Aq_2 Aq_3 Y_0 Y_1 Y_2 Y_3 Yq_0 Yq_1 Yq_2 Yq_3; have KA12 := (KA11.out).on hb12; have KAq12 := (KAq11.out).on hb12; have KY12 := (KY11.out).on hb12; have KYq12 := (KYq11.out).on hb12; have SA12 := (SA11.out).next hb12; have SAq12 := (SAq11.out).next hb12; have SY12 := (SY11.out).next hb12; have SYq12 := (SYq11.out).next hb12; have B12 := B11.out.trans (hb12.mono B11.out.size); clear hb12 B11 KA11 KAq11 KY11 KYq11 SA11 SAq11 SY11 SYq11 SZq11; have KA12 := Lib.hid KA12; have KAq12 := Lib.hid KAq12; have KY12 := Lib.hid KY12; have KYq12 := Lib.hid KYq12; have SA12 := Lib.hid SA12; have SAq12 := Lib.hid SAq12; have SY12 := Lib.hid SY12; have SYq12 := Lib.hid SYq12; have B12 := Lib.hid B12; obtain ⟨A_0, A_1, A_2, A_3⟩ := KA12.out.four; obtain ⟨Aq_0, Aq_1, Aq_2, Aq_3⟩ := KAq12.out.four; obtain ⟨Y_0, Y_1, Y_2, Y_3⟩ := KY12.out.four; obtain ⟨Yq_0, Yq_1, Yq_2, Yq_3⟩ := KYq12.out.four))
      go_wp2
      go_ret
      exact ⟨rfl, B12.out⟩
    · have B0 : Below w.heap.size w ((w.alloc (.cells #[.int .i64 k, .int .i64 s, .int .i64 e, .slice A n c] 24)).alloc (.cells #[.int .i64 kq, .int .i64 sq, .int .i64 eq, .slice Aq nq cq] 24)) := below_alloc2 _ _ _
      have KA0 : Blk ((w.alloc (.cells #[.int .i64 k, .int .i64 s, .int .i64 e, .slice A n c] 24)).alloc (.cells #[.int .i64 kq, .int .i64 sq, .int .i64 eq, .slice Aq nq cq] 24)) (w.heap.size) 24 #[.int .i64 k, .int .i64 s, .int .i64 e, .slice A n c] := (Blk.new w _ _).alloc _
      have KAq0 : Blk ((w.alloc (.cells #[.int .i64 k, .int .i64 s, .int .i64 e, .slice A n c] 24)).alloc (.cells #[.int .i64 kq, .int .i64 sq, .int .i64 eq, .slice Aq nq cq] 24)) (w.heap.size + 1) 24 #[.int .i64 kq, .int .i64 sq, .int .i64 eq, .slice Aq nq cq] := Blk.new2 w _ _ _
      have SA0 := SA.next B0
      have SAq0 := SAq.next B0
      clear SA SAq
      have KA0 := Lib.hid KA0
      have KAq0 := Lib.hid KAq0
      have SA0 := Lib.hid SA0
      have SAq0 := Lib.hid SAq0
      have B0 := Lib.hid B0
      go_enter Try.func3, Try.ntmps3
      obtain ⟨A_0, A_1, A_2, A_3⟩ := KA0.out.four
      obtain ⟨Aq_0, Aq_1, Aq_2, Aq_3⟩ := KAq0.out.four
      go_wp2_with fail
      refine (szZone_in hs _ _ _ _ _ _ (by omega) (by omega) hn).mono ?_
      rintro en w1 ⟨rfl, hb1⟩
      clear A_0 A_1 A_2 A_3 Aq_0 Aq_1 Aq_2 Aq_3
      have KA1 := (KA0.out).on hb1
      have KAq1 := (KAq0.out).on hb1
      have SA1 := (SA0.out).next hb1
      have SAq1 := (SAq0.out).next hb1
      have B1 := B0.out.trans (hb1.mono B0.out.size)
      clear hb1 B0 KA0 KAq0 SA0 SAq0
      have KA1 := Lib.hid KA1
      have KAq1 := Lib.hid KAq1
      have SA1 := Lib.hid SA1
      have SAq1 := Lib.hid SAq1
      have B1 := Lib.hid B1
      obtain ⟨A_0, A_1, A_2, A_3⟩ := KA1.out.four
      obtain ⟨Aq_0, Aq_1, Aq_2, Aq_3⟩ := KAq1.out.four
      go_wp2_with fail
      refine (szZone_out (by omega) _ _ _ _ _ _ (by omega) (by omega) hnq).mono ?_
      rintro en w2 ⟨rfl, hb2⟩
      clear A_0 A_1 A_2 A_3 Aq_0 Aq_1 Aq_2 Aq_3
      have KA2 := (KA1.out).on hb2
      have KAq2 := (KAq1.out).on hb2
      have SA2 := (SA1.out).next hb2
      have SAq2 := (SAq1.out).next hb2
      have B2 := B1.out.trans (hb2.mono B1.out.size)
      clear hb2 B1 KA1 KAq1 SA1 SAq1
      have KA2 := Lib.hid KA2
      have KAq2 := Lib.hid KAq2
      have SA2 := Lib.hid SA2
      have SAq2 := Lib.hid SAq2
      have B2 := Lib.hid B2
      go_wp2
      go_ret
      exact ⟨rfl, B2.out⟩
  · have B0 : Below w.heap.size w ((w.alloc (.cells #[.int .i64 k, .int .i64 s, .int .i64 e, .slice A n c] 24)).alloc (.cells #[.int .i64 kq, .int .i64 sq, .int .i64 eq, .slice Aq nq cq] 24)) := below_alloc2 _ _ _
    have KA0 : Blk ((w.alloc (.cells #[.int .i64 k, .int .i64 s, .int .i64 e, .slice A n c] 24)).alloc (.cells #[.int .i64 kq, .int .i64 sq, .int .i64 eq, .slice Aq nq cq] 24)) (w.heap.size) 24 #[.int .i64 k, .int .i64 s, .int .i64 e, .slice A n c] := (Blk.new w _ _).alloc _
    have KAq0 : Blk ((w.alloc (.cells #[.int .i64 k, .int .i64 s, .int .i64 e, .slice A n c] 24)).alloc (.cells #[.int .i64 kq, .int .i64 sq, .int .i64 eq, .slice Aq nq cq] 24)) (w.heap.size + 1) 24 #[.int .i64 kq, .int .i64 sq, .int .i64 eq, .slice Aq nq cq] := Blk.new2 w _ _ _
    have SA0 := SA.next B0
    have SAq0 := SAq.next B0
    clear SA SAq
    have KA0 := Lib.hid KA0
    have KAq0 := Lib.hid KAq0
    have SA0 := Lib.hid SA0
    have SAq0 := Lib.hid SAq0
    have B0 := Lib.hid B0
    go_enter Try.func3, Try.ntmps3
    obtain ⟨A_0, A_1, A_2, A_3⟩ := KA0.out.four
    obtain ⟨Aq_0, Aq_1, Aq_2, Aq_3⟩ := KAq0.out.four
    go_wp2_with fail
    refine (szZone_out (by omega) _ _ _ _ _ _ (by omega) (by omega) hn).mono ?_
    rintro en w1 ⟨rfl, hb1⟩
    clear A_0 A_1 A_2 A_3 Aq_0 Aq_1 Aq_2 Aq_3
    have KA1 := (KA0.out).on hb1
    have KAq1 := (KAq0.out).on hb1
    have SA1 := (SA0.out).next hb1
    have SAq1 := (SAq0.out).next hb1
    have B1 := B0.out.trans (hb1.mono B0.out.size)
    clear hb1 B0 KA0 KAq0 SA0 SAq0
    have KA1 := Lib.hid KA1
    have KAq1 := Lib.hid KAq1
    have SA1 := Lib.hid SA1
    have SAq1 := Lib.hid SAq1
    have B1 := Lib.hid B1
    go_wp2
    go_ret
    exact ⟨rfl, B1.out⟩
end Go.Proofs.Ytbdompadkeamdaa
