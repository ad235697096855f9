/- Cranes: the walks of reaching a place on both sides, and the laws on one crane. -/
import Derived.Test.YtbdompadkeamdaaProg
import Derived.Test.YtbdompadkeamdaaKit
import Derived.Test.YtbdompadkeamdaaBasics
import Derived.Test.YtbdompadkeamdaaMem
import Derived.Test.YtbdompadkeamdaaCodeRes
import Derived.Test.YtbdompadkeamdaaLists
import Derived.Test.YtbdompadkeamdaaSteps
import Derived.Test.YtbdompadkeamdaaCharts
import Derived.Test.YtbdompadkeamdaaChartLaws
import Derived.Test.YtbdompadkeamdaaNames
import Derived.Test.YtbdompadkeamdaaPts
import Derived.Test.YtbdompadkeamdaaZonePlain
import Derived.Test.YtbdompadkeamdaaZones
import Derived.Test.YtbdompadkeamdaaDirs
import Derived.Test.YtbdompadkeamdaaFinds
import Derived.Test.YtbdompadkeamdaaLoads2
import Derived.Test.YtbdompadkeamdaaLoads3
import Derived.Test.YtbdompadkeamdaaZones7
import Derived.Test.YtbdompadkeamdaaCranes
import Derived.Test.YtbdompadkeamdaaCranes2
import Derived.Test.YtbdompadkeamdaaCranes3
import Derived.Deep.RegionHeld3
namespace Go.Proofs.Ytbdompadkeamdaa
open Go.RowKit Go.WideShapes Go.ChangeShapes Go.Joins Go.Deep Go.Sort
set_option linter.unusedVariables false
set_option linter.unusedSimpArgs false
theorem implReachesPlace_any (nm : ByteArray) (x y ht jb bk : Int) (A : Option Addr) (n c : Nat) (L : List (Int × Int)) (X Y : Int) (w : World) (hs : nm.size ≤ maxLen) (h : Steps w w.heap.size A n L) (hn : n ≤ maxLen) : Calls Try.prog 43 #[craneV nm x y ht jb bk A n c, ptV X Y] w fun en w' => en = .returned (.bool (reachB (craneB nm x y ht jb bk L && placeB X Y) L (rootV (sqD x y X Y)))) ∧ Below w.heap.size w w' := by
  have B0 := below_alloc2 w (.cells #[.string nm, .int .i64 x, .int .i64 y, .int .i64 ht, .int .i64 jb, .int .i64 bk, .slice A n c] 52) (.cells #[.int .i64 X, .int .i64 Y] 39)
  have HC := implLoadAtPlace_any nm x y ht jb bk A n c L X Y _ hs (h.next B0) hn
  obtain ⟨u, Fq⟩ := placeRes_code (craneB nm x y ht jb bk L && placeB X Y) L (rootV (sqD x y X Y))
  have RC := Lib.hid (reach_code (craneB nm x y ht jb bk L && placeB X Y) L (rootV (sqD x y X Y)))
  rw [Fq] at HC
  generalize codeOf (craneB nm x y ht jb bk L && placeB X Y) L (rootV (sqD x y X Y)) = cd at HC RC
  have HC := Lib.hid HC
  have B0 := Lib.hid B0
  clear Fq h hs hn
  go_enter Try.func43, Try.ntmps43
  go_wp2_with fail
  refine HC.out.mono ?_
  rintro en w1 ⟨rfl, hb1⟩
  have B1 := B0.out.trans (hb1.mono B0.out.size)
  clear hb1 B0
  go_wp2
  go_ret
  exact ⟨ret_bool RC.out, B1⟩
set_option maxHeartbeats 1000000 in
theorem specReachesPlace_any (nm : ByteArray) (x y ht jb bk : Int) (A : Option Addr) (n c : Nat) (L : List (Int × Int)) (X Y : Int) (w : World) (hs : nm.size ≤ maxLen) (h : Steps w w.heap.size A n L) (hn : n ≤ maxLen) : Calls Try.prog 42 #[craneV nm x y ht jb bk A n c, ptV X Y] w fun en w' => en = .returned (.bool (reachB (craneB nm x y ht jb bk L && placeB X Y) L (rootV (sqD x y X Y)))) ∧ Below w.heap.size w w' := by
  have B0 := below_alloc2 w (.cells #[.string nm, .int .i64 x, .int .i64 y, .int .i64 ht, .int .i64 jb, .int .i64 bk, .slice A n c] 52) (.cells #[.int .i64 X, .int .i64 Y] 39)
  have K0 := Lib.hid ((Blk.new w 52 #[.string nm, .int .i64 x, .int .i64 y, .int .i64 ht, .int .i64 jb, .int .i64 bk, .slice A n c]).alloc (.cells #[.int .i64 X, .int .i64 Y] 39))
  have X0 := Lib.hid (Blk.new2 w (.cells #[.string nm, .int .i64 x, .int .i64 y, .int .i64 ht, .int .i64 jb, .int .i64 bk, .slice A n c] 52) 39 #[.int .i64 X, .int .i64 Y])
  have CV := l04Ok_any nm x y ht jb bk A n c L w.heap.size _ K0.out hs (h.next B0) hn
  have S0 := Lib.hid h
  have B0 := Lib.hid B0
  unfold reachB
  clear h
  cases hz : craneB nm x y ht jb bk L
  · rw [hz] at CV
    have HC := Lib.hid CV
    simp only [Bool.false_and]
    clear CV hz K0 X0 S0
    go_enter Try.func42, Try.ntmps42
    go_wp2_with fail
    refine HC.out.mono ?_
    rintro en w1 ⟨rfl, hb1⟩
    have B1 := B0.out.trans (hb1.mono B0.out.size)
    clear hb1 B0
    go_wp2
    go_ret
    exact ⟨rfl, B1⟩
  · have ck := crane_ok hz
    rw [hz] at CV
    have HC := Lib.hid CV
    simp only [Bool.true_and]
    clear CV hz
    cases hp : placeB X Y
    · have HV := Lib.hid (fun w => hp ▸ l02Ok_any X Y w)
      simp only [Bool.false_and]
      clear hp S0 ck
      go_enter Try.func42, Try.ntmps42
      go_wp2_with fail
      refine HC.out.mono ?_
      rintro en w1 ⟨rfl, hb1⟩
      have B1 := B0.out.trans (hb1.mono B0.out.size)
      obtain ⟨p0, p1⟩ := (X0.out.on hb1).two
      clear hb1 B0 K0 X0
      go_wp2_with (go_at_call 57; refine (HV.out _).mono ?_; rintro en w2 ⟨rfl, hb2⟩)
      have B2 := B1.trans (hb2.mono B1.size)
      go_ret
      exact ⟨rfl, B2⟩
    · have HV := Lib.hid (fun w => hp ▸ l02Ok_any X Y w)
      simp only [Bool.true_and]
      have HL := fun (g : Nat) (w : World) (K : Blk w g 52 #[.string nm, .int .i64 x, .int .i64 y, .int .i64 ht, .int .i64 jb, .int .i64 bk, .slice A n c]) (h : Steps w w.heap.size A n L) => l04Load_any nm x y ht jb bk A n c L X Y g w K h hn ck.2 ck.1 hp
      have lb : -1 ≤ loadV L (rootV (sqD x y X Y)) ∧ loadV L (rootV (sqD x y X Y)) ≤ 50000 := by rcases load_sign ck.2 (rootV (sqD x y X Y)) with ⟨_, a⟩ | ⟨_, a, b⟩ <;> omega
      generalize loadV L (rootV (sqD x y X Y)) = v at HL lb ⊢
      obtain ⟨l0, l1⟩ := lb
      have HL := Lib.hid HL
      clear hp ck
      go_enter Try.func42, Try.ntmps42
      go_wp2_with fail
      refine HC.out.mono ?_
      rintro en w1 ⟨rfl, hb1⟩
      have B1 := B0.out.trans (hb1.mono B0.out.size)
      have K1 := Lib.hid (K0.out.on hb1)
      have X1 := Lib.hid (X0.out.on hb1)
      obtain ⟨p0, p1⟩ := X1.out.two
      clear hb1 B0 K0 X0
      go_wp2_with fail
      refine (HV.out _).mono ?_
      rintro en w2 ⟨rfl, hb2⟩
      have B2 := B1.trans (hb2.mono B1.size)
      have K2 := Lib.hid (K1.out.on hb2)
      have X2 := X1.out.on hb2
      clear hb2 B1 K1 X1 p0 p1
      obtain ⟨p0, p1⟩ := X2.two
      have S2 := Lib.hid (S0.out.next B2)
      clear X2 S0
      go_wp2_with fail
      refine (HL.out _ _ K2.out S2.out).mono ?_
      rintro en w3 ⟨rfl, hb3⟩
      have B3 := B2.trans (hb3.mono B2.size)
      clear hb3 B2 K2 p0 p1 S2
      go_wp2
      go_ret
      exact ⟨rfl, B3⟩
set_option maxHeartbeats 2000000 in
theorem FnExactValidCrane_walk (w : World) (nm : ByteArray) (hnm : nm.size ≤ maxLen) (x y ht jb bk : Int) (A : Option Addr) (n c : Nat) (L : List (Int × Int)) (hn : n ≤ maxLen) (SA : Steps w w.heap.size A n L)  : Calls Try.prog 10 #[craneV nm x y ht jb bk A n c] w fun en w' => en = .returned (.bool true) ∧ Below w.heap.size w w' := by
  by_cases hs : (nm.size : Int) + n ≤ 1048576
  · have B0 : Below w.heap.size w (w.alloc (.cells #[.string nm, .int .i64 x, .int .i64 y, .int .i64 ht, .int .i64 jb, .int .i64 bk, .slice A n c] 47)) := below_alloc1 _ _
    have KA0 : Blk (w.alloc (.cells #[.string nm, .int .i64 x, .int .i64 y, .int .i64 ht, .int .i64 jb, .int .i64 bk, .slice A n c] 47)) (w.heap.size) 47 #[.string nm, .int .i64 x, .int .i64 y, .int .i64 ht, .int .i64 jb, .int .i64 bk, .slice A n c] := Blk.new w _ _
    have SA0 := SA.next B0
    clear SA
    have KA0 := Lib.hid KA0
    have SA0 := Lib.hid SA0
    have B0 := Lib.hid B0
    go_enter Try.func10, Try.ntmps10
    obtain ⟨A_0, A_1, A_2, A_3, A_4, A_5, A_6⟩ := KA0.out.seven
    go_wp2_with fail
    refine (szCrane_in _ hs _ _ _ _ _ _ _ _ (by omega) (by omega)).mono ?_
    rintro en w1 ⟨rfl, hb1⟩
    clear A_0 A_1 A_2 A_3 A_4 A_5 A_6
    have KA1 := (KA0.out).on hb1
    have SA1 := (SA0.out).next hb1
    have B1 := B0.out.trans (hb1.mono B0.out.size)
    clear hb1 B0 KA0 SA0
    have KA1 := Lib.hid KA1
    have SA1 := Lib.hid SA1
    have B1 := Lib.hid B1
    clear hn hnm
    obtain ⟨A_0, A_1, A_2, A_3, A_4, A_5, A_6⟩ := KA1.out.seven
    go_wp2_with fail
    refine (toCrane_any _ _ _ _ _ _ _ _ _ _ _ SA1.out (by omega)).mono ?_
    rintro en w2 ⟨AX, rfl, SX2, hb2⟩
    clear A_0 A_1 A_2 A_3 A_4 A_5 A_6
    have KA2 := (KA1.out).on hb2
    have SA2 := (SA1.out).next hb2
    have B2 := B1.out.trans (hb2.mono B1.out.size)
    clear hb2 B1 KA1 SA1
    have KA2 := Lib.hid KA2
    have SA2 := Lib.hid SA2
    have SX2 := Lib.hid SX2
    have B2 := Lib.hid B2
    obtain ⟨A_0, A_1, A_2, A_3, A_4, A_5, A_6⟩ := KA2.out.seven
    go_wp2_with fail
    refine (specValidCrane_any _ _ _ _ _ _ _ _ _ _ _ (by unfold maxLen; omega) SX2.out (by unfold maxLen; omega)).mono ?_
    rintro en w3 ⟨rfl, hb3⟩
    clear A_0 A_1 A_2 A_3 A_4 A_5 A_6
    have KA3 := (KA2.out).on hb3
    have SA3 := (SA2.out).next hb3
    have B3 := B2.out.trans (hb3.mono B2.out.size)
    clear hb3 B2 KA2 SA2 SX2
    have KA3 := Lib.hid KA3
    have SA3 := Lib.hid SA3
    have B3 := Lib.hid B3
    obtain ⟨A_0, A_1, A_2, A_3, A_4, A_5, A_6⟩ := KA3.out.seven
    go_wp2_with fail
    refine (toCrane_any _ _ _ _ _ _ _ _ _ _ _ SA3.out (by omega)).mono ?_
    rintro en w4 ⟨AY, rfl, SY4, hb4⟩
    clear A_0 A_1 A_2 A_3 A_4 A_5 A_6
    have KA4 := (KA3.out).on hb4
    have SA4 := (SA3.out).next hb4
    have B4 := B3.out.trans (hb4.mono B3.out.size)
    clear hb4 B3 KA3 SA3
    have KA4 := Lib.hid KA4
    have SA4 := Lib.hid SA4
    have SY4 := Lib.hid SY4
    have B4 := Lib.hid B4
    have bx := below_alloc1 w4 (.cells #[.string nm, .int .i64 x, .int .i64 y, .int .i64 ht, .int .i64 jb, .int .i64 bk, .slice AY n n] 52)
    have KA4 := Lib.hid (KA4.out.alloc (.cells #[.string nm, .int .i64 x, .int .i64 y, .int .i64 ht, .int .i64 jb, .int .i64 bk, .slice AY n n] 52))
    have SA4 := Lib.hid (SA4.out.next bx)
    have SY4 := Lib.hid (SY4.out.next bx)
    have KY4 := Lib.hid (Blk.new w4 52 #[.string nm, .int .i64 x, .int .i64 y, .int .i64 ht, .int .i64 jb, .int .i64 bk, .slice AY n n])
    have B4 := Lib.hid (B4.out.trans (bx.mono B4.out.size))
    clear bx
    obtain ⟨A_0, A_1, A_2, A_3, A_4, A_5, A_6⟩ := KA4.out.seven
    obtain ⟨Y_0, Y_1, Y_2, Y_3, Y_4, Y_5, Y_6⟩ := KY4.out.seven
    go_wp2_with fail
    refine (implValidCrane_any _ _ _ _ _ _ _ _ _ _ _ (by unfold maxLen; omega) SY4.out (by unfold maxLen; omega)).mono ?_
    rintro en w5 ⟨rfl, hb5⟩
    clear A_0 A_1 A_2 A_3 A_4 A_5 A_6 Y_0 Y_1 Y_2 Y_3 Y_4 Y_5 Y_6
    have KA5 := (KA4.out).on hb5
    have KY5 := (KY4.out).on hb5
    have SA5 := (SA4.out).next hb5
    have SY5 := (SY4.out).next hb5
    have B5 := B4.out.trans (hb5.mono B4.out.size)
    clear hb5 B4 KA4 KY4 SA4 SY4
    have KA5 := Lib.hid KA5
    have KY5 := Lib.hid KY5
    have SA5 := Lib.hid SA5
    have SY5 := Lib.hid SY5
    have B5 := Lib.hid B5
    obtain ⟨A_0, A_1, A_2, A_3, A_4, A_5, A_6⟩ := KA5.out.seven
    obtain ⟨Y_0, Y_1, Y_2, Y_3, Y_4, Y_5, Y_6⟩ := KY5.out.seven
    go_wp2_with fail
    go_region_held3 (fun w' => w'.cell? ⟨w.heap.size, 0, none⟩ = some (.string nm) ∧ w'.cell? ⟨w.heap.size, 1, none⟩ = some (.int .i64 x) ∧ w'.cell? ⟨w.heap.size, 2, none⟩ = some (.int .i64 y) ∧ w'.cell? ⟨w.heap.size, 3, none⟩ = some (.int .i64 ht) ∧ w'.cell? ⟨w.heap.size, 4, none⟩ = some (.int .i64 jb) ∧ w'.cell? ⟨w.heap.size, 5, none⟩ = some (.int .i64 bk) ∧ w'.cell? ⟨w.heap.size, 6, none⟩ = some (.slice A n c) ∧ w'.cell? ⟨w4.heap.size, 0, none⟩ = some (.string nm) ∧ w'.cell? ⟨w4.heap.size, 1, none⟩ = some (.int .i64 x) ∧ w'.cell? ⟨w4.heap.size, 2, none⟩ = some (.int .i64 y) ∧ w'.cell? ⟨w4.heap.size, 3, none⟩ = some (.int .i64 ht) ∧ w'.cell? ⟨w4.heap.size, 4, none⟩ = some (.int .i64 jb) ∧ w'.cell? ⟨w4.heap.size, 5, none⟩ = some (.int .i64 bk) ∧ w'.cell? ⟨w4.heap.size, 6, none⟩ = some (.slice AY n n))
      (first | go_keep | (refine ⟨?_, ?_, ?_, ?_, ?_, ?_, ?_, ?_, ?_, ?_, ?_, ?_, ?_, ?_⟩ <;> assumption))
      (first
        | (go_at_call 34; refine (toCrane_any _ _ _ _ _ _ _ _ _ _ _ (SA5.out.drewN 1) (by omega)).mono ?_; rintro en w6 ⟨AZ, rfl, SZ6, hb6⟩; clear A_0 A_1 A_2 A_3 A_4 A_5 A_6 Y_0 Y_1 Y_2 Y_3 Y_4 Y_5 Y_6; have KA6 := (KA5.out.drewN 1).on hb6; have KY6 := (KY5.out.drewN 1).on hb6; have SA6 := (SA5.out.drewN 1).next hb6; have SY6 := (SY5.out.drewN 1).next hb6; have B6 := (below_drewN B5.out 1).trans (hb6.mono B5.out.size); clear hb6 B5 KA5 KY5 SA5 SY5; have KA6 := Lib.hid KA6; have KY6 := Lib.hid KY6; have SA6 := Lib.hid SA6; have SY6 := Lib.hid SY6; have SZ6 := Lib.hid SZ6; have B6 := Lib.hid B6; obtain ⟨A_0, A_1, A_2, A_3, A_4, A_5, A_6⟩ := KA6.out.seven; obtain ⟨Y_0, Y_1, Y_2, Y_3, Y_4, Y_5, Y_6⟩ := KY6.out.seven)
        | (go_at_call 36; refine (eqCrane_same _ _ _ _ _ _ _ _ _ _ _ _ _ SY6.out SZ6.out (by unfold maxLen; omega)).mono ?_; rintro en w7 ⟨rfl, hb7⟩; clear A_0 A_1 A_2 A_3 A_4 A_5 A_6 Y_0 Y_1 Y_2 Y_3 Y_4 Y_5 Y_6; have KA7 := (KA6.out).on hb7; have KY7 := (KY6.out).on hb7; have SA7 := (SA6.out).next hb7; have SY7 := (SY6.out).next hb7; have SZ7 := (SZ6.out).next hb7; have B7 := B6.out.trans (hb7.mono B6.out.size); clear hb7 B6 KA6 KY6 SA6 SY6 SZ6; have KA7 := Lib.hid KA7; have KY7 := Lib.hid KY7; have SA7 := Lib.hid SA7; have SY7 := Lib.hid SY7; have SZ7 := Lib.hid SZ7; have B7 := Lib.hid B7; obtain ⟨A_0, A_1, A_2, A_3, A_4, A_5, A_6⟩ := KA7.out.seven; obtain ⟨Y_0, Y_1, Y_2, Y_3, Y_4, Y_5, Y_6⟩ := KY7.out.seven))
    go_wp2
    go_ret
    exact ⟨rfl, B7.out⟩
  · have B0 : Below w.heap.size w (w.alloc (.cells #[.string nm, .int .i64 x, .int .i64 y, .int .i64 ht, .int .i64 jb, .int .i64 bk, .slice A n c] 47)) := below_alloc1 _ _
    have KA0 : Blk (w.alloc (.cells #[.string nm, .int .i64 x, .int .i64 y, .int .i64 ht, .int .i64 jb, .int .i64 bk, .slice A n c] 47)) (w.heap.size) 47 #[.string nm, .int .i64 x, .int .i64 y, .int .i64 ht, .int .i64 jb, .int .i64 bk, .slice A n c] := Blk.new w _ _
    have SA0 := SA.next B0
    clear SA
    have KA0 := Lib.hid KA0
    have SA0 := Lib.hid SA0
    have B0 := Lib.hid B0
    go_enter Try.func10, Try.ntmps10
    obtain ⟨A_0, A_1, A_2, A_3, A_4, A_5, A_6⟩ := KA0.out.seven
    go_wp2_with fail
    refine (szCrane_out _ (by omega) _ _ _ _ _ _ _ _ (by omega) (by omega) hnm hn).mono ?_
    rintro en w1 ⟨rfl, hb1⟩
    clear A_0 A_1 A_2 A_3 A_4 A_5 A_6
    have KA1 := (KA0.out).on hb1
    have SA1 := (SA0.out).next hb1
    have B1 := B0.out.trans (hb1.mono B0.out.size)
    clear hb1 B0 KA0 SA0
    have KA1 := Lib.hid KA1
    have SA1 := Lib.hid SA1
    have B1 := Lib.hid B1
    go_wp2
    go_ret
    exact ⟨rfl, B1.out⟩
set_option maxHeartbeats 2000000 in
theorem FnExactLoadAtPlace_walk (w : World) (nm : ByteArray) (hnm : nm.size ≤ maxLen) (x y ht jb bk : Int) (A : Option Addr) (n c : Nat) (L : List (Int × Int)) (hn : n ≤ maxLen) (SA : Steps w w.heap.size A n L) (X : Int) (_wX : (Lit.int .i64 X).wf = true) (Y : Int) (_wY : (Lit.int .i64 Y).wf = true) : Calls Try.prog 13 #[craneV nm x y ht jb bk A n c, ptV X Y] w fun en w' => en = .returned (.bool true) ∧ Below w.heap.size w w' := by
  clear _wX _wY
  obtain ⟨u, v, F⟩ := placeRes_form (craneB nm x y ht jb bk L && placeB X Y) L (rootV (sqD x y X Y))
  have H1 : Hid (∀ A n' c w, n' = n → nm.size ≤ maxLen → Steps w w.heap.size A n' L → n' ≤ maxLen → Calls Try.prog 44 #[craneV nm x y ht jb bk A n' c, ptV X Y] w fun en w' => en = .returned (.tuple #[.int .i64 u, .int .i64 v]) ∧ Below w.heap.size w w') := fun A n' c w e' hs h hn => by subst e'; rw [← F]; exact specLoadAtPlace_any nm x y ht jb bk A n' c L X Y w hs h hn
  have H2 : Hid (∀ A n' c w, n' = n → nm.size ≤ maxLen → Steps w w.heap.size A n' L → n' ≤ maxLen → Calls Try.prog 45 #[craneV nm x y ht jb bk A n' c, ptV X Y] w fun en w' => en = .returned (.tuple #[.int .i64 u, .int .i64 v]) ∧ Below w.heap.size w w') := fun A n' c w e' hs h hn => by subst e'; rw [← F]; exact implLoadAtPlace_any nm x y ht jb bk A n' c L X Y w hs h hn
  clear F
  by_cases hs : (nm.size : Int) + n ≤ 1048576
  · have B0 : Below w.heap.size w ((w.alloc (.cells #[.string nm, .int .i64 x, .int .i64 y, .int .i64 ht, .int .i64 jb, .int .i64 bk, .slice A n c] 47)).alloc (.cells #[.int .i64 X, .int .i64 Y] 37)) := below_alloc2 _ _ _
    have KA0 : Blk ((w.alloc (.cells #[.string nm, .int .i64 x, .int .i64 y, .int .i64 ht, .int .i64 jb, .int .i64 bk, .slice A n c] 47)).alloc (.cells #[.int .i64 X, .int .i64 Y] 37)) (w.heap.size) 47 #[.string nm, .int .i64 x, .int .i64 y, .int .i64 ht, .int .i64 jb, .int .i64 bk, .slice A n c] := (Blk.new w _ _).alloc _
    have KP0 : Blk ((w.alloc (.cells #[.string nm, .int .i64 x, .int .i64 y, .int .i64 ht, .int .i64 jb, .int .i64 bk, .slice A n c] 47)).alloc (.cells #[.int .i64 X, .int .i64 Y] 37)) (w.heap.size + 1) 37 #[.int .i64 X, .int .i64 Y] := Blk.new2 w _ _ _
    have SA0 := SA.next B0
    clear SA
    have KA0 := Lib.hid KA0
    have KP0 := Lib.hid KP0
    have SA0 := Lib.hid SA0
    have B0 := Lib.hid B0
    go_enter Try.func13, Try.ntmps13
    obtain ⟨A_0, A_1, A_2, A_3, A_4, A_5, A_6⟩ := KA0.out.seven
    obtain ⟨P_0, P_1⟩ := KP0.out.two
    go_wp2_with fail
    refine (szCrane_in _ hs _ _ _ _ _ _ _ _ (by omega) (by omega)).mono ?_
    rintro en w1 ⟨rfl, hb1⟩
    clear A_0 A_1 A_2 A_3 A_4 A_5 A_6 P_0 P_1
    have KA1 := (KA0.out).on hb1
    have KP1 := (KP0.out).on hb1
    have SA1 := (SA0.out).next hb1
    have B1 := B0.out.trans (hb1.mono B0.out.size)
    clear hb1 B0 KA0 KP0 SA0
    have KA1 := Lib.hid KA1
    have KP1 := Lib.hid KP1
    have SA1 := Lib.hid SA1
    have B1 := Lib.hid B1
    clear hn hnm
    obtain ⟨A_0, A_1, A_2, A_3, A_4, A_5, A_6⟩ := KA1.out.seven
    obtain ⟨P_0, P_1⟩ := KP1.out.two
    go_wp2_with fail
    go_region_held3 (fun w' => w'.cell? ⟨w.heap.size, 0, none⟩ = some (.string nm) ∧ w'.cell? ⟨w.heap.size, 1, none⟩ = some (.int .i64 x) ∧ w'.cell? ⟨w.heap.size, 2, none⟩ = some (.int .i64 y) ∧ w'.cell? ⟨w.heap.size, 3, none⟩ = some (.int .i64 ht) ∧ w'.cell? ⟨w.heap.size, 4, none⟩ = some (.int .i64 jb) ∧ w'.cell? ⟨w.heap.size, 5, none⟩ = some (.int .i64 bk) ∧ w'.cell? ⟨w.heap.size, 6, none⟩ = some (.slice A n c) ∧ w'.cell? ⟨w.heap.size + 1, 0, none⟩ = some (.int .i64 X) ∧ w'.cell? ⟨w.heap.size + 1, 1, none⟩ = some (.int .i64 Y))
      (first | go_keep | (refine ⟨?_, ?_, ?_, ?_, ?_, ?_, ?_, ?_, ?_⟩ <;> assumption))
      (first
        | (go_at_call 34; refine (toCrane_any _ _ _ _ _ _ _ _ _ _ _ (SA1.out.drewN 1) (by omega)).mono ?_; rintro en w2 ⟨AX, rfl, SX2, hb2⟩; clear A_0 A_1 A_2 A_3 A_4 A_5 A_6 P_0 P_1; have KA2 := (KA1.out.drewN 1).on hb2; have KP2 := (KP1.out.drewN 1).on hb2; have SA2 := (SA1.out.drewN 1).next hb2; have B2 := (below_drewN B1.out 1).trans (hb2.mono B1.out.size); clear hb2 B1 KA1 KP1 SA1; have KA2 := Lib.hid KA2; have KP2 := Lib.hid KP2; have SA2 := Lib.hid SA2; have SX2 := Lib.hid SX2; have B2 := Lib.hid B2; obtain ⟨A_0, A_1, A_2, A_3, A_4, A_5, A_6⟩ := KA2.out.seven; obtain ⟨P_0, P_1⟩ := KP2.out.two)
        | (go_at_call 26; refine (toPoint_any _ _ _).mono ?_; rintro en w3 ⟨rfl, hb3⟩; clear A_0 A_1 A_2 A_3 A_4 A_5 A_6 P_0 P_1; have KA3 := (KA2.out).on hb3; have KP3 := (KP2.out).on hb3; have SA3 := (SA2.out).next hb3; have SX3 := (SX2.out).next hb3; have B3 := B2.out.trans (hb3.mono B2.out.size); clear hb3 B2 KA2 KP2 SA2 SX2; have KA3 := Lib.hid KA3; have KP3 := Lib.hid KP3; have SA3 := Lib.hid SA3; have SX3 := Lib.hid SX3; have B3 := Lib.hid B3; obtain ⟨A_0, A_1, A_2, A_3, A_4, A_5, A_6⟩ := KA3.out.seven; obtain ⟨P_0, P_1⟩ := KP3.out.two)
        | (go_at_call 44; refine (H1.out _ _ _ _ rfl (by unfold maxLen; omega) SX3.out (by unfold maxLen; omega)).mono ?_; rintro en w4 ⟨rfl, hb4⟩; clear A_0 A_1 A_2 A_3 A_4 A_5 A_6 P_0 P_1; have KA4 := (KA3.out).on hb4; have KP4 := (KP3.out).on hb4; have SA4 := (SA3.out).next hb4; have B4 := B3.out.trans (hb4.mono B3.out.size); clear hb4 B3 KA3 KP3 SA3 SX3; have KA4 := Lib.hid KA4; have KP4 := Lib.hid KP4; have SA4 := Lib.hid SA4; have B4 := Lib.hid B4; obtain ⟨A_0, A_1, A_2, A_3, A_4, A_5, A_6⟩ := KA4.out.seven; obtain ⟨P_0, P_1⟩ := KP4.out.two))
    clear A_0 A_1 A_2 A_3 A_4 A_5 A_6 P_0 P_1
    obtain ⟨A_0, A_1, A_2, A_3, A_4, A_5, A_6⟩ := KA4.out.seven
    obtain ⟨P_0, P_1⟩ := KP4.out.two
    go_wp2_with fail
    refine (toCrane_any _ _ _ _ _ _ _ _ _ _ _ SA4.out (by omega)).mono ?_
    rintro en w5 ⟨AY, rfl, SY5, hb5⟩
    clear A_0 A_1 A_2 A_3 A_4 A_5 A_6 P_0 P_1
    have KA5 := (KA4.out).on hb5
    have KP5 := (KP4.out).on hb5
    have SA5 := (SA4.out).next hb5
    have B5 := B4.out.trans (hb5.mono B4.out.size)
    clear hb5 B4 KA4 KP4 SA4
    have KA5 := Lib.hid KA5
    have KP5 := Lib.hid KP5
    have SA5 := Lib.hid SA5
    have SY5 := Lib.hid SY5
    have B5 := Lib.hid B5
    have bx := below_alloc1 w5 (.cells #[.string nm, .int .i64 x, .int .i64 y, .int .i64 ht, .int .i64 jb, .int .i64 bk, .slice AY n n] 52)
    have KA5 := Lib.hid (KA5.out.alloc (.cells #[.string nm, .int .i64 x, .int .i64 y, .int .i64 ht, .int .i64 jb, .int .i64 bk, .slice AY n n] 52))
    have KP5 := Lib.hid (KP5.out.alloc (.cells #[.string nm, .int .i64 x, .int .i64 y, .int .i64 ht, .int .i64 jb, .int .i64 bk, .slice AY n n] 52))
    have SA5 := Lib.hid (SA5.out.next bx)
    have SY5 := Lib.hid (SY5.out.next bx)
    have KY5 := Lib.hid (Blk.new w5 52 #[.string nm, .int .i64 x, .int .i64 y, .int .i64 ht, .int .i64 jb, .int .i64 bk, .slice AY n n])
    have B5 := Lib.hid (B5.out.trans (bx.mono B5.out.size))
    clear bx
    obtain ⟨A_0, A_1, A_2, A_3, A_4, A_5, A_6⟩ := KA5.out.seven
    obtain ⟨P_0, P_1⟩ := KP5.out.two
    obtain ⟨Y_0, Y_1, Y_2, Y_3, Y_4, Y_5, Y_6⟩ := KY5.out.seven
    go_wp2_with fail
    go_region_held3 (fun w' => w'.cell? ⟨w.heap.size, 0, none⟩ = some (.string nm) ∧ w'.cell? ⟨w.heap.size, 1, none⟩ = some (.int .i64 x) ∧ w'.cell? ⟨w.heap.size, 2, none⟩ = some (.int .i64 y) ∧ w'.cell? ⟨w.heap.size, 3, none⟩ = some (.int .i64 ht) ∧ w'.cell? ⟨w.heap.size, 4, none⟩ = some (.int .i64 jb) ∧ w'.cell? ⟨w.heap.size, 5, none⟩ = some (.int .i64 bk) ∧ w'.cell? ⟨w.heap.size, 6, none⟩ = some (.slice A n c) ∧ w'.cell? ⟨w.heap.size + 1, 0, none⟩ = some (.int .i64 X) ∧ w'.cell? ⟨w.heap.size + 1, 1, none⟩ = some (.int .i64 Y) ∧ w'.cell? ⟨w5.heap.size, 0, none⟩ = some (.string nm) ∧ w'.cell? ⟨w5.heap.size, 1, none⟩ = some (.int .i64 x) ∧ w'.cell? ⟨w5.heap.size, 2, none⟩ = some (.int .i64 y) ∧ w'.cell? ⟨w5.heap.size, 3, none⟩ = some (.int .i64 ht) ∧ w'.cell? ⟨w5.heap.size, 4, none⟩ = some (.int .i64 jb) ∧ w'.cell? ⟨w5.heap.size, 5, none⟩ = some (.int .i64 bk) ∧ w'.cell? ⟨w5.heap.size, 6, none⟩ = some (.slice AY n n))
      (first | go_keep | (refine ⟨?_, ?_, ?_, ?_, ?_, ?_, ?_, ?_, ?_, ?_, ?_, ?_, ?_, ?_, ?_, ?_⟩ <;> assumption))
      (first
        | (go_at_call 26; refine (toPoint_any _ _ _).mono ?_; rintro en w6 ⟨rfl, hb6⟩; clear A_0 A_1 A_2 A_3 A_4 A_5 A_6 P_0 P_1 Y_0 Y_1 Y_2 Y_3 Y_4 Y_5 Y_6; have KA6 := (KA5.out.drewN 1).on hb6; have KP6 := (KP5.out.drewN 1).on hb6; have KY6 := (KY5.out.drewN 1).on hb6; have SA6 := (SA5.out.drewN 1).next hb6; have SY6 := (SY5.out.drewN 1).next hb6; have B6 := (below_drewN B5.out 1).trans (hb6.mono B5.out.size); clear hb6 B5 KA5 KP5 KY5 SA5 SY5; have KA6 := Lib.hid KA6; have KP6 := Lib.hid KP6; have KY6 := Lib.hid KY6; have SA6 := Lib.hid SA6; have SY6 := Lib.hid SY6; have B6 := Lib.hid B6; obtain ⟨A_0, A_1, A_2, A_3, A_4, A_5, A_6⟩ := KA6.out.seven; obtain ⟨P_0, P_1⟩ := KP6.out.two; obtain ⟨Y_0, Y_1, Y_2, Y_3, Y_4, Y_5, Y_6⟩ := KY6.out.seven)
        | (go_at_call 45; refine (H2.out _ _ _ _ rfl (by unfold maxLen; omega) SY6.out (by unfold maxLen; omega)).mono ?_; rintro en w7 ⟨rfl, hb7⟩; clear A_0 A_1 A_2 A_3 A_4 A_5 A_6 P_0 P_1 Y_0 Y_1 Y_2 Y_3 Y_4 Y_5 Y_6; have KA7 := (KA6.out).on hb7; have KP7 := (KP6.out).on hb7; have KY7 := (KY6.out).on hb7; have SA7 := (SA6.out).next hb7; have SY7 := (SY6.out).next hb7; have B7 := B6.out.trans (hb7.mono B6.out.size); clear hb7 B6 KA6 KP6 KY6 SA6 SY6; have KA7 := Lib.hid KA7; have KP7 := Lib.hid KP7; have KY7 := Lib.hid KY7; have SA7 := Lib.hid SA7; have SY7 := Lib.hid SY7; have B7 := Lib.hid B7; obtain ⟨A_0, A_1, A_2, A_3, A_4, A_5, A_6⟩ := KA7.out.seven; obtain ⟨P_0, P_1⟩ := KP7.out.two; obtain ⟨Y_0, Y_1, Y_2, Y_3, Y_4, Y_5, Y_6⟩ := KY7.out.seven))
    clear A_0 A_1 A_2 A_3 A_4 A_5 A_6 P_0 P_1 Y_0 Y_1 Y_2 Y_3 Y_4 Y_5 Y_6
    obtain ⟨A_0, A_1, A_2, A_3, A_4, A_5, A_6⟩ := KA7.out.seven
    obtain ⟨P_0, P_1⟩ := KP7.out.two
    obtain ⟨Y_0, Y_1, Y_2, Y_3, Y_4, Y_5, Y_6⟩ := KY7.out.seven
    go_wp2_with fail
    go_region_held3 (fun w' => w'.cell? ⟨w.heap.size, 0, none⟩ = some (.string nm) ∧ w'.cell? ⟨w.heap.size, 1, none⟩ = some (.int .i64 x) ∧ w'.cell? ⟨w.heap.size, 2, none⟩ = some (.int .i64 y) ∧ w'.cell? ⟨w.heap.size, 3, none⟩ = some (.int .i64 ht) ∧ w'.cell? ⟨w.heap.size, 4, none⟩ = some (.int .i64 jb) ∧ w'.cell? ⟨w.heap.size, 5, none⟩ = some (.int .i64 bk) ∧ w'.cell? ⟨w.heap.size, 6, none⟩ = some (.slice A n c) ∧ w'.cell? ⟨w.heap.size + 1, 0, none⟩ = some (.int .i64 X) ∧ w'.cell? ⟨w.heap.size + 1, 1, none⟩ = some (.int .i64 Y) ∧ w'.cell? ⟨w5.heap.size, 0, none⟩ = some (.string nm) ∧ w'.cell? ⟨w5.heap.size, 1, none⟩ = some (.int .i64 x) ∧ w'.cell? ⟨w5.heap.size, 2, none⟩ = some (.int .i64 y) ∧ w'.cell? ⟨w5.heap.size, 3, none⟩ = some (.int .i64 ht) ∧ w'.cell? ⟨w5.heap.size, 4, none⟩ = some (.int .i64 jb) ∧ w'.cell? ⟨w5.heap.size, 5, none⟩ = some (.int .i64 bk) ∧ w'.cell? ⟨w5.heap.size, 6, none⟩ = some (.slice AY n n))
      (first | go_keep | (refine ⟨?_, ?_, ?_, ?_, ?_, ?_, ?_, ?_, ?_, ?_, ?_, ?_, ?_, ?_, ?_, ?_⟩ <;> assumption))
      (first
        | (go_at_call 34; refine (toCrane_any _ _ _ _ _ _ _ _ _ _ _ (SA7.out.drewN 1) (by omega)).mono ?_; rintro en w8 ⟨AZ, rfl, SZ8, hb8⟩; clear A_0 A_1 A_2 A_3 A_4 A_5 A_6 P_0 P_1 Y_0 Y_1 Y_2 Y_3 Y_4 Y_5 Y_6; have KA8 := (KA7.out.drewN 1).on hb8; have KP8 := (KP7.out.drewN 1).on hb8; have KY8 := (KY7.out.drewN 1).on hb8; have SA8 := (SA7.out.drewN 1).next hb8; have SY8 := (SY7.out.drewN 1).next hb8; have B8 := (below_drewN B7.out 1).trans (hb8.mono B7.out.size); clear hb8 B7 KA7 KP7 KY7 SA7 SY7; have KA8 := Lib.hid KA8; have KP8 := Lib.hid KP8; have KY8 := Lib.hid KY8; have SA8 := Lib.hid SA8; have SY8 := Lib.hid SY8; have SZ8 := Lib.hid SZ8; have B8 := Lib.hid B8; obtain ⟨A_0, A_1, A_2, A_3, A_4, A_5, A_6⟩ := KA8.out.seven; obtain ⟨P_0, P_1⟩ := KP8.out.two; obtain ⟨Y_0, Y_1, Y_2, Y_3, Y_4, Y_5, Y_6⟩ := KY8.out.seven)
        | (go_at_call 36; refine (eqCrane_same _ _ _ _ _ _ _ _ _ _ _ _ _ SY8.out SZ8.out (by unfold maxLen; omega)).mono ?_; rintro en w9 ⟨rfl, hb9⟩; clear A_0 A_1 A_2 A_3 A_4 A_5 A_6 P_0 P_1 Y_0 Y_1 Y_2 Y_3 Y_4 Y_5 Y_6; have KA9 := (KA8.out).on hb9; have KP9 := (KP8.out).on hb9; have KY9 := (KY8.out).on hb9; have SA9 := (SA8.out).next hb9; have SY9 := (SY8.out).next hb9; have SZ9 := (SZ8.out).next hb9; have B9 := B8.out.trans (hb9.mono B8.out.size); clear hb9 B8 KA8 KP8 KY8 SA8 SY8 SZ8; have KA9 := Lib.hid KA9; have KP9 := Lib.hid KP9; have KY9 := Lib.hid KY9; have SA9 := Lib.hid SA9; have SY9 := Lib.hid SY9; have SZ9 := Lib.hid SZ9; have B9 := Lib.hid B9; obtain ⟨A_0, A_1, A_2, A_3, A_4, A_5, A_6⟩ := KA9.out.seven; obtain ⟨P_0, P_1⟩ := KP9.out.two; obtain ⟨Y_0, Y_1, Y_2, Y_3, Y_4, Y_5, Y_6⟩ := KY9.out.seven))
    go_wp2
    go_ret
    exact ⟨rfl, B9.out⟩
  · have B0 : Below w.heap.size w ((w.alloc (.cells #[.string nm, .int .i64 x, .int .i64 y, .int .i64 ht, .int .i64 jb, .int .i64 bk, .slice A n c] 47)).alloc (.cells #[.int .i64 X, .int .i64 Y] 37)) := below_alloc2 _ _ _
    have KA0 : Blk ((w.alloc (.cells #[.string nm, .int .i64 x, .int .i64 y, .int .i64 ht, .int .i64 jb, .int .i64 bk, .slice A n c] 47)).alloc (.cells #[.int .i64 X, .int .i64 Y] 37)) (w.heap.size) 47 #[.string nm, .int .i64 x, .int .i64 y, .int .i64 ht, .int .i64 jb, .int .i64 bk, .slice A n c] := (Blk.new w _ _).alloc _
    have KP0 : Blk ((w.alloc (.cells #[.string nm, .int .i64 x, .int .i64 y, .int .i64 ht, .int .i64 jb, .int .i64 bk, .slice A n c] 47)).alloc (.cells #[.int .i64 X, .int .i64 Y] 37)) (w.heap.size + 1) 37 #[.int .i64 X, .int .i64 Y] := Blk.new2 w _ _ _
    have SA0 := SA.next B0
    clear SA
    have KA0 := Lib.hid KA0
    have KP0 := Lib.hid KP0
    have SA0 := Lib.hid SA0
    have B0 := Lib.hid B0
    go_enter Try.func13, Try.ntmps13
    obtain ⟨A_0, A_1, A_2, A_3, A_4, A_5, A_6⟩ := KA0.out.seven
    obtain ⟨P_0, P_1⟩ := KP0.out.two
    go_wp2_with fail
    refine (szCrane_out _ (by omega) _ _ _ _ _ _ _ _ (by omega) (by omega) hnm hn).mono ?_
    rintro en w1 ⟨rfl, hb1⟩
    clear A_0 A_1 A_2 A_3 A_4 A_5 A_6 P_0 P_1
    have KA1 := (KA0.out).on hb1
    have KP1 := (KP0.out).on hb1
    have SA1 := (SA0.out).next hb1
    have B1 := B0.out.trans (hb1.mono B0.out.size)
    clear hb1 B0 KA0 KP0 SA0
    have KA1 := Lib.hid KA1
    have KP1 := Lib.hid KP1
    have SA1 := Lib.hid SA1
    have B1 := Lib.hid B1
    go_wp2
    go_ret
    exact ⟨rfl, B1.out⟩
set_option maxHeartbeats 2000000 in
theorem FnExactReachesPlace_walk (w : World) (nm : ByteArray) (hnm : nm.size ≤ maxLen) (x y ht jb bk : Int) (A : Option Addr) (n c : Nat) (L : List (Int × Int)) (hn : n ≤ maxLen) (SA : Steps w w.heap.size A n L) (X : Int) (_wX : (Lit.int .i64 X).wf = true) (Y : Int) (_wY : (Lit.int .i64 Y).wf = true) : Calls Try.prog 12 #[craneV nm x y ht jb bk A n c, ptV X Y] w fun en w' => en = .returned (.bool true) ∧ Below w.heap.size w w' := by
  clear _wX _wY
  obtain ⟨r, F⟩ : ∃ r, reachB (craneB nm x y ht jb bk L && placeB X Y) L (rootV (sqD x y X Y)) = r := ⟨_, rfl⟩
  have H1 : Hid (∀ A n' c w, n' = n → nm.size ≤ maxLen → Steps w w.heap.size A n' L → n' ≤ maxLen → Calls Try.prog 42 #[craneV nm x y ht jb bk A n' c, ptV X Y] w fun en w' => en = .returned (.bool r) ∧ Below w.heap.size w w') := fun A n' c w e' hs h hn => by subst e'; rw [← F]; exact specReachesPlace_any nm x y ht jb bk A n' c L X Y w hs h hn
  have H2 : Hid (∀ A n' c w, n' = n → nm.size ≤ maxLen → Steps w w.heap.size A n' L → n' ≤ maxLen → Calls Try.prog 43 #[craneV nm x y ht jb bk A n' c, ptV X Y] w fun en w' => en = .returned (.bool r) ∧ Below w.heap.size w w') := fun A n' c w e' hs h hn => by subst e'; rw [← F]; exact implReachesPlace_any nm x y ht jb bk A n' c L X Y w hs h hn
  clear F
  by_cases hs : (nm.size : Int) + n ≤ 1048576
  · have B0 : Below w.heap.size w ((w.alloc (.cells #[.string nm, .int .i64 x, .int .i64 y, .int .i64 ht, .int .i64 jb, .int .i64 bk, .slice A n c] 47)).alloc (.cells #[.int .i64 X, .int .i64 Y] 37)) := below_alloc2 _ _ _
    have KA0 : Blk ((w.alloc (.cells #[.string nm, .int .i64 x, .int .i64 y, .int .i64 ht, .int .i64 jb, .int .i64 bk, .slice A n c] 47)).alloc (.cells #[.int .i64 X, .int .i64 Y] 37)) (w.heap.size) 47 #[.string nm, .int .i64 x, .int .i64 y, .int .i64 ht, .int .i64 jb, .int .i64 bk, .slice A n c] := (Blk.new w _ _).alloc _
    have KP0 : Blk ((w.alloc (.cells #[.string nm, .int .i64 x, .int .i64 y, .int .i64 ht, .int .i64 jb, .int .i64 bk, .slice A n c] 47)).alloc (.cells #[.int .i64 X, .int .i64 Y] 37)) (w.heap.size + 1) 37 #[.int .i64 X, .int .i64 Y] := Blk.new2 w _ _ _
    have SA0 := SA.next B0
    clear SA
    have KA0 := Lib.hid KA0
    have KP0 := Lib.hid KP0
    have SA0 := Lib.hid SA0
    have B0 := Lib.hid B0
    go_enter Try.func12, Try.ntmps12
    obtain ⟨A_0, A_1, A_2, A_3, A_4, A_5, A_6⟩ := KA0.out.seven
    obtain ⟨P_0, P_1⟩ := KP0.out.two
    go_wp2_with fail
    refine (szCrane_in _ hs _ _ _ _ _ _ _ _ (by omega) (by omega)).mono ?_
    rintro en w1 ⟨rfl, hb1⟩
    clear A_0 A_1 A_2 A_3 A_4 A_5 A_6 P_0 P_1
    have KA1 := (KA0.out).on hb1
    have KP1 := (KP0.out).on hb1
    have SA1 := (SA0.out).next hb1
    have B1 := B0.out.trans (hb1.mono B0.out.size)
    clear hb1 B0 KA0 KP0 SA0
    have KA1 := Lib.hid KA1
    have KP1 := Lib.hid KP1
    have SA1 := Lib.hid SA1
    have B1 := Lib.hid B1
    clear hn hnm
    obtain ⟨A_0, A_1, A_2, A_3, A_4, A_5, A_6⟩ := KA1.out.seven
    obtain ⟨P_0, P_1⟩ := KP1.out.two
    go_wp2_with fail
    go_region_held3 (fun w' => w'.cell? ⟨w.heap.size, 0, none⟩ = some (.string nm) ∧ w'.cell? ⟨w.heap.size, 1, none⟩ = some (.int .i64 x) ∧ w'.cell? ⟨w.heap.size, 2, none⟩ = some (.int .i64 y) ∧ w'.cell? ⟨w.heap.size, 3, none⟩ = some (.int .i64 ht) ∧ w'.cell? ⟨w.heap.size, 4, none⟩ = some (.int .i64 jb) ∧ w'.cell? ⟨w.heap.size, 5, none⟩ = some (.int .i64 bk) ∧ w'.cell? ⟨w.heap.size, 6, none⟩ = some (.slice A n c) ∧ w'.cell? ⟨w.heap.size + 1, 0, none⟩ = some (.int .i64 X) ∧ w'.cell? ⟨w.heap.size + 1, 1, none⟩ = some (.int .i64 Y))
      (first | go_keep | (refine ⟨?_, ?_, ?_, ?_, ?_, ?_, ?_, ?_, ?_⟩ <;> assumption))
      (first
        | (go_at_call 34; refine (toCrane_any _ _ _ _ _ _ _ _ _ _ _ (SA1.out.drewN 1) (by omega)).mono ?_; rintro en w2 ⟨AX, rfl, SX2, hb2⟩; clear A_0 A_1 A_2 A_3 A_4 A_5 A_6 P_0 P_1; have KA2 := (KA1.out.drewN 1).on hb2; have KP2 := (KP1.out.drewN 1).on hb2; have SA2 := (SA1.out.drewN 1).next hb2; have B2 := (below_drewN B1.out 1).trans (hb2.mono B1.out.size); clear hb2 B1 KA1 KP1 SA1; have KA2 := Lib.hid KA2; have KP2 := Lib.hid KP2; have SA2 := Lib.hid SA2; have SX2 := Lib.hid SX2; have B2 := Lib.hid B2; obtain ⟨A_0, A_1, A_2, A_3, A_4, A_5, A_6⟩ := KA2.out.seven; obtain ⟨P_0, P_1⟩ := KP2.out.two)
        | (go_at_call 26; refine (toPoint_any _ _ _).mono ?_; rintro en w3 ⟨rfl, hb3⟩; clear A_0 A_1 A_2 A_3 A_4 A_5 A_6 P_0 P_1; have KA3 := (KA2.out).on hb3; have KP3 := (KP2.out).on hb3; have SA3 := (SA2.out).next hb3; have SX3 := (SX2.out).next hb3; have B3 := B2.out.trans (hb3.mono B2.out.size); clear hb3 B2 KA2 KP2 SA2 SX2; have KA3 := Lib.hid KA3; have KP3 := Lib.hid KP3; have SA3 := Lib.hid SA3; have SX3 := Lib.hid SX3; have B3 := Lib.hid B3; obtain ⟨A_0, A_1, A_2, A_3, A_4, A_5, A_6⟩ := KA3.out.seven; obtain ⟨P_0, P_1⟩ := KP3.out.two)
        | (go_at_call 42; refine (H1.out _ _ _ _ rfl (by unfold maxLen; omega) SX3.out (by unfold maxLen; omega)).mono ?_; rintro en w4 ⟨rfl, hb4⟩; clear A_0 A_1 A_2 A_3 A_4 A_5 A_6 P_0 P_1; have KA4 := (KA3.out).on hb4; have KP4 := (KP3.out).on hb4; have SA4 := (SA3.out).next hb4; have B4 := B3.out.trans (hb4.mono B3.out.size); clear hb4 B3 KA3 KP3 SA3 SX3; have KA4 := Lib.hid KA4; have KP4 := Lib.hid KP4; have SA4 := Lib.hid SA4; have B4 := Lib.hid B4; obtain ⟨A_0, A_1, A_2, A_3, A_4, A_5, A_6⟩ := KA4.out.seven; obtain ⟨P_0, P_1⟩ := KP4.out.two))
    clear A_0 A_1 A_2 A_3 A_4 A_5 A_6 P_0 P_1
    obtain ⟨A_0, A_1, A_2, A_3, A_4, A_5, A_6⟩ := KA4.out.seven
    obtain ⟨P_0, P_1⟩ := KP4.out.two
    go_wp2_with fail
    refine (toCrane_any _ _ _ _ _ _ _ _ _ _ _ SA4.out (by omega)).mono ?_
    rintro en w5 ⟨AY, rfl, SY5, hb5⟩
    clear A_0 A_1 A_2 A_3 A_4 A_5 A_6 P_0 P_1
    have KA5 := (KA4.out).on hb5
    have KP5 := (KP4.out).on hb5
    have SA5 := (SA4.out).next hb5
    have B5 := B4.out.trans (hb5.mono B4.out.size)
    clear hb5 B4 KA4 KP4 SA4
    have KA5 := Lib.hid KA5
    have KP5 := Lib.hid KP5
    have SA5 := Lib.hid SA5
    have SY5 := Lib.hid SY5
    have B5 := Lib.hid B5
    have bx := below_alloc1 w5 (.cells #[.string nm, .int .i64 x, .int .i64 y, .int .i64 ht, .int .i64 jb, .int .i64 bk, .slice AY n n] 52)
    have KA5 := Lib.hid (KA5.out.alloc (.cells #[.string nm, .int .i64 x, .int .i64 y, .int .i64 ht, .int .i64 jb, .int .i64 bk, .slice AY n n] 52))
    have KP5 := Lib.hid (KP5.out.alloc (.cells #[.string nm, .int .i64 x, .int .i64 y, .int .i64 ht, .int .i64 jb, .int .i64 bk, .slice AY n n] 52))
    have SA5 := Lib.hid (SA5.out.next bx)
    have SY5 := Lib.hid (SY5.out.next bx)
    have KY5 := Lib.hid (Blk.new w5 52 #[.string nm, .int .i64 x, .int .i64 y, .int .i64 ht, .int .i64 jb, .int .i64 bk, .slice AY n n])
    have B5 := Lib.hid (B5.out.trans (bx.mono B5.out.size))
    clear bx
    obtain ⟨A_0, A_1, A_2, A_3, A_4, A_5, A_6⟩ := KA5.out.seven
    obtain ⟨P_0, P_1⟩ := KP5.out.two
    obtain ⟨Y_0, Y_1, Y_2, Y_3, Y_4, Y_5, Y_6⟩ := KY5.out.seven
    go_wp2_with fail
    go_region_held3 (fun w' => w'.cell? ⟨w.heap.size, 0, none⟩ = some (.string nm) ∧ w'.cell? ⟨w.heap.size, 1, none⟩ = some (.int .i64 x) ∧ w'.cell? ⟨w.heap.size, 2, none⟩ = some (.int .i64 y) ∧ w'.cell? ⟨w.heap.size, 3, none⟩ = some (.int .i64 ht) ∧ w'.cell? ⟨w.heap.size, 4, none⟩ = some (.int .i64 jb) ∧ w'.cell? ⟨w.heap.size, 5, none⟩ = some (.int .i64 bk) ∧ w'.cell? ⟨w.heap.size, 6, none⟩ = some (.slice A n c) ∧ w'.cell? ⟨w.heap.size + 1, 0, none⟩ = some (.int .i64 X) ∧ w'.cell? ⟨w.heap.size + 1, 1, none⟩ = some (.int .i64 Y) ∧ w'.cell? ⟨w5.heap.size, 0, none⟩ = some (.string nm) ∧ w'.cell? ⟨w5.heap.size, 1, none⟩ = some (.int .i64 x) ∧ w'.cell? ⟨w5.heap.size, 2, none⟩ = some (.int .i64 y) ∧ w'.cell? ⟨w5.heap.size, 3, none⟩ = some (.int .i64 ht) ∧ w'.cell? ⟨w5.heap.size, 4, none⟩ = some (.int .i64 jb) ∧ w'.cell? ⟨w5.heap.size, 5, none⟩ = some (.int .i64 bk) ∧ w'.cell? ⟨w5.heap.size, 6, none⟩ = some (.slice AY n n))
      (first | go_keep | (refine ⟨?_, ?_, ?_, ?_, ?_, ?_, ?_, ?_, ?_, ?_, ?_, ?_, ?_, ?_, ?_, ?_⟩ <;> assumption))
      (first
        | (go_at_call 26; refine (toPoint_any _ _ _).mono ?_; rintro en w6 ⟨rfl, hb6⟩; clear A_0 A_1 A_2 A_3 A_4 A_5 A_6 P_0 P_1 Y_0 Y_1 Y_2 Y_3 Y_4 Y_5 Y_6; have KA6 := (KA5.out.drewN 1).on hb6; have KP6 := (KP5.out.drewN 1).on hb6; have KY6 := (KY5.out.drewN 1).on hb6; have SA6 := (SA5.out.drewN 1).next hb6; have SY6 := (SY5.out.drewN 1).next hb6; have B6 := (below_drewN B5.out 1).trans (hb6.mono B5.out.size); clear hb6 B5 KA5 KP5 KY5 SA5 SY5; have KA6 := Lib.hid KA6; have KP6 := Lib.hid KP6; have KY6 := Lib.hid KY6; have SA6 := Lib.hid SA6; have SY6 := Lib.hid SY6; have B6 := Lib.hid B6; obtain ⟨A_0, A_1, A_2, A_3, A_4, A_5, A_6⟩ := KA6.out.seven; obtain ⟨P_0, P_1⟩ := KP6.out.two; obtain ⟨Y_0, Y_1, Y_2, Y_3, Y_4, Y_5, Y_6⟩ := KY6.out.seven)
        | (go_at_call 43; refine (H2.out _ _ _ _ rfl (by unfold maxLen; omega) SY6.out (by unfold maxLen; omega)).mono ?_; rintro en w7 ⟨rfl, hb7⟩; clear A_0 A_1 A_2 A_3 A_4 A_5 A_6 P_0 P_1 Y_0 Y_1 Y_2 Y_3 Y_4 Y_5 Y_6; have KA7 := (KA6.out).on hb7; have KP7 := (KP6.out).on hb7; have KY7 := (KY6.out).on hb7; have SA7 := (SA6.out).next hb7; have SY7 := (SY6.out).next hb7; have B7 := B6.out.trans (hb7.mono B6.out.size); clear hb7 B6 KA6 KP6 KY6 SA6 SY6; have KA7 := Lib.hid KA7; have KP7 := Lib.hid KP7; have KY7 := Lib.hid KY7; have SA7 := Lib.hid SA7; have SY7 := Lib.hid SY7; have B7 := Lib.hid B7; obtain ⟨A_0, A_1, A_2, A_3, A_4, A_5, A_6⟩ := KA7.out.seven; obtain ⟨P_0, P_1⟩ := KP7.out.two; obtain ⟨Y_0, Y_1, Y_2, Y_3, Y_4, Y_5, Y_6⟩ := KY7.out.seven))
    clear A_0 A_1 A_2 A_3 A_4 A_5 A_6 P_0 P_1 Y_0 Y_1 Y_2 Y_3 Y_4 Y_5 Y_6
    obtain ⟨A_0, A_1, A_2, A_3, A_4, A_5, A_6⟩ := KA7.out.seven
    obtain ⟨P_0, P_1⟩ := KP7.out.two
    obtain ⟨Y_0, Y_1, Y_2, Y_3, Y_4, Y_5, Y_6⟩ := KY7.out.seven
    go_wp2_with fail
    go_region_held3 (fun w' => w'.cell? ⟨w.heap.size, 0, none⟩ = some (.string nm) ∧ w'.cell? ⟨w.heap.size, 1, none⟩ = some (.int .i64 x) ∧ w'.cell? ⟨w.heap.size, 2, none⟩ = some (.int .i64 y) ∧ w'.cell? ⟨w.heap.size, 3, none⟩ = some (.int .i64 ht) ∧ w'.cell? ⟨w.heap.size, 4, none⟩ = some (.int .i64 jb) ∧ w'.cell? ⟨w.heap.size, 5, none⟩ = some (.int .i64 bk) ∧ w'.cell? ⟨w.heap.size, 6, none⟩ = some (.slice A n c) ∧ w'.cell? ⟨w.heap.size + 1, 0, none⟩ = some (.int .i64 X) ∧ w'.cell? ⟨w.heap.size + 1, 1, none⟩ = some (.int .i64 Y) ∧ w'.cell? ⟨w5.heap.size, 0, none⟩ = some (.string nm) ∧ w'.cell? ⟨w5.heap.size, 1, none⟩ = some (.int .i64 x) ∧ w'.cell? ⟨w5.heap.size, 2, none⟩ = some (.int .i64 y) ∧ w'.cell? ⟨w5.heap.size, 3, none⟩ = some (.int .i64 ht) ∧ w'.cell? ⟨w5.heap.size, 4, none⟩ = some (.int .i64 jb) ∧ w'.cell? ⟨w5.heap.size, 5, none⟩ = some (.int .i64 bk) ∧ w'.cell? ⟨w5.heap.size, 6, none⟩ = some (.slice AY n n))
      (first | go_keep | (refine ⟨?_, ?_, ?_, ?_, ?_, ?_, ?_, ?_, ?_, ?_, ?_, ?_, ?_, ?_, ?_, ?_⟩ <;> assumption))
      (first
        | (go_at_call 34; refine (toCrane_any _ _ _ _ _ _ _ _ _ _ _ (SA7.out.drewN 1) (by omega)).mono ?_; rintro en w8 ⟨AZ, rfl, SZ8, hb8⟩; clear A_0 A_1 A_2 A_3 A_4 A_5 A_6 P_0 P_1 Y_0 Y_1 Y_2 Y_3 Y_4 Y_5 Y_6; have KA8 := (KA7.out.drewN 1).on hb8; have KP8 := (KP7.out.drewN 1).on hb8; have KY8 := (KY7.out.drewN 1).on hb8; have SA8 := (SA7.out.drewN 1).next hb8; have SY8 := (SY7.out.drewN 1).next hb8; have B8 := (below_drewN B7.out 1).trans (hb8.mono B7.out.size); clear hb8 B7 KA7 KP7 KY7 SA7 SY7; have KA8 := Lib.hid KA8; have KP8 := Lib.hid KP8; have KY8 := Lib.hid KY8; have SA8 := Lib.hid SA8; have SY8 := Lib.hid SY8; have SZ8 := Lib.hid SZ8; have B8 := Lib.hid B8; obtain ⟨A_0, A_1, A_2, A_3, A_4, A_5, A_6⟩ := KA8.out.seven; obtain ⟨P_0, P_1⟩ := KP8.out.two; obtain ⟨Y_0, Y_1, Y_2, Y_3, Y_4, Y_5, Y_6⟩ := KY8.out.seven)
        | (go_at_call 36; refine (eqCrane_same _ _ _ _ _ _ _ _ _ _ _ _ _ SY8.out SZ8.out (by unfold maxLen; omega)).mono ?_; rintro en w9 ⟨rfl, hb9⟩; clear A_0 A_1 A_2 A_3 A_4 A_5 A_6 P_0 P_1 Y_0 Y_1 Y_2 Y_3 Y_4 Y_5 Y_6; have KA9 := (KA8.out).on hb9; have KP9 := (KP8.out).on hb9; have KY9 := (KY8.out).on hb9; have SA9 := (SA8.out).next hb9; have SY9 := (SY8.out).next hb9; have SZ9 := (SZ8.out).next hb9; have B9 := B8.out.trans (hb9.mono B8.out.size); clear hb9 B8 KA8 KP8 KY8 SA8 SY8 SZ8; have KA9 := Lib.hid KA9; have KP9 := Lib.hid KP9; have KY9 := Lib.hid KY9; have SA9 := Lib.hid SA9; have SY9 := Lib.hid SY9; have SZ9 := Lib.hid SZ9; have B9 := Lib.hid B9; obtain ⟨A_0, A_1, A_2, A_3, A_4, A_5, A_6⟩ := KA9.out.seven; obtain ⟨P_0, P_1⟩ := KP9.out.two; obtain ⟨Y_0, Y_1, Y_2, Y_3, Y_4, Y_5, Y_6⟩ := KY9.out.seven))
    go_wp2
    go_ret
    exact ⟨rfl, B9.out⟩
  · have B0 : Below w.heap.size w ((w.alloc (.cells #[.string nm, .int .i64 x, .int .i64 y, .int .i64 ht, .int .i64 jb, .int .i64 bk, .slice A n c] 47)).alloc (.cells #[.int .i64 X, .int .i64 Y] 37)) := below_alloc2 _ _ _
    have KA0 : Blk ((w.alloc (.cells #[.string nm, .int .i64 x, .int .i64 y, .int .i64 ht, .int .i64 jb, .int .i64 bk, .slice A n c] 47)).alloc (.cells #[.int .i64 X, .int .i64 Y] 37)) (w.heap.size) 47 #[.string nm, .int .i64 x, .int .i64 y, .int .i64 ht, .int .i64 jb, .int .i64 bk, .slice A n c] := (Blk.new w _ _).alloc _
    have KP0 : Blk ((w.alloc (.cells #[.string nm, .int .i64 x, .int .i64 y, .int .i64 ht, .int .i64 jb, .int .i64 bk, .slice A n c] 47)).alloc (.cells #[.int .i64 X, .int .i64 Y] 37)) (w.heap.size + 1) 37 #[.int .i64 X, .int .i64 Y] := Blk.new2 w _ _ _
    have SA0 := SA.next B0
    clear SA
    have KA0 := Lib.hid KA0
    have KP0 := Lib.hid KP0
    have SA0 := Lib.hid SA0
    have B0 := Lib.hid B0
    go_enter Try.func12, Try.ntmps12
    obtain ⟨A_0, A_1, A_2, A_3, A_4, A_5, A_6⟩ := KA0.out.seven
    obtain ⟨P_0, P_1⟩ := KP0.out.two
    go_wp2_with fail
    refine (szCrane_out _ (by omega) _ _ _ _ _ _ _ _ (by omega) (by omega) hnm hn).mono ?_
    rintro en w1 ⟨rfl, hb1⟩
    clear A_0 A_1 A_2 A_3 A_4 A_5 A_6 P_0 P_1
    have KA1 := (KA0.out).on hb1
    have KP1 := (KP0.out).on hb1
    have SA1 := (SA0.out).next hb1
    have B1 := B0.out.trans (hb1.mono B0.out.size)
    clear hb1 B0 KA0 KP0 SA0
    have KA1 := Lib.hid KA1
    have KP1 := Lib.hid KP1
    have SA1 := Lib.hid SA1
    have B1 := Lib.hid B1
    go_wp2
    go_ret
    exact ⟨rfl, B1.out⟩
end Go.Proofs.Ytbdompadkeamdaa
