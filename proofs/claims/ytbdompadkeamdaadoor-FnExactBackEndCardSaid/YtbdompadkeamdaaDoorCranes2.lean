/- Cranes: the walks of the test of a crane on both sides, and the law. -/
import Derived.Test.YtbdompadkeamdaaDoorProg
import Derived.Test.YtbdompadkeamdaaDoorKit
import Derived.Test.YtbdompadkeamdaaDoorBasics
import Derived.Test.YtbdompadkeamdaaDoorMem
import Derived.Test.YtbdompadkeamdaaDoorCodeRes
import Derived.Test.YtbdompadkeamdaaDoorLists
import Derived.Test.YtbdompadkeamdaaDoorSteps
import Derived.Test.YtbdompadkeamdaaDoorCharts
import Derived.Test.YtbdompadkeamdaaDoorChartLaws
import Derived.Test.YtbdompadkeamdaaDoorNames
import Derived.Test.YtbdompadkeamdaaDoorPts
import Derived.Test.YtbdompadkeamdaaDoorZonePlain
import Derived.Test.YtbdompadkeamdaaDoorZones
import Derived.Test.YtbdompadkeamdaaDoorFinds
import Derived.Test.YtbdompadkeamdaaDoorLoads2
import Derived.Test.YtbdompadkeamdaaDoorCranes
import Derived.Deep.RegionHeld3
namespace Go.Proofs.YtbdompadkeamdaaDoor
open Go.RowKit Go.WideShapes Go.ChangeShapes Go.Joins Go.Deep Go.Sort
set_option linter.unusedVariables false
set_option linter.unusedSimpArgs false
def lastR (L : List (Int × Int)) : Int := (L.getD (L.length - 1) (0, 0)).1
def craneB (nm : ByteArray) (x y ht jb bk : Int) (L : List (Int × Int)) : Bool := nameB nm.data.toList && (placeB x y && (inB ht 1 2000 && (inB jb 1 1000 && (inB bk 0 jb && (chartB L && decide (lastR L ≤ jb))))))
theorem Steps.last {w : World} {B n : Nat} {A : Option Addr} {L : List (Int × Int)} (h : Steps w B A n L) (hn : 1 ≤ n) : ∃ b o y, A = some ⟨b, o, none⟩ ∧ b < B ∧ w.cell? ⟨b, o + (n - 1) * 2, none⟩ = some (.int .i64 (lastR L)) ∧ w.cell? ⟨b, o + (n - 1) * 2 + 1, none⟩ = some (.int .i64 y) := by
  obtain ⟨b, o, x, y, e, hb, hx, hc1, hc2⟩ := h.at_ (k := n - 1) (by omega)
  have : lastR L = x := by unfold lastR; rw [h.1, getD_of hx]
  rw [this]
  exact ⟨b, o, y, e, hb, hc1, hc2⟩
theorem l03Last_any (A : Option Addr) (n c : Nat) (L : List (Int × Int)) (w : World) (h : Steps w w.heap.size A n L) (hn : n ≤ maxLen) (h1 : 1 ≤ n) : Calls Tryd.prog 37 #[.slice A n c] w fun e w' => e = .returned (.int .i64 (lastR L)) ∧ w = w' := by
  unfold maxLen at hn
  obtain ⟨b, o, y, rfl, hb, hc1, hc2⟩ := h.last h1
  have i1 : (1 : Int) ≤ (n : Int) := by omega
  clear h
  go_enter Tryd.func37, Tryd.ntmps37
  go_wp2
  go_ret
  exact ⟨rfl, rfl⟩
set_option maxHeartbeats 4000000 in
theorem l04Ok_any (nm : ByteArray) (x y ht jb bk : Int) (A : Option Addr) (n c : Nat) (L : List (Int × Int)) (g : Nat) (w : World) (K : Blk w g 33 #[.string nm, .int .i64 x, .int .i64 y, .int .i64 ht, .int .i64 jb, .int .i64 bk, .slice A n c]) (hs : nm.size ≤ maxLen) (h : Steps w w.heap.size A n L) (hn : n ≤ maxLen) :
    Calls Tryd.prog 23 #[.pointer (some ⟨g, 0, none⟩)] w fun en w' => en = .returned (.bool (craneB nm x y ht jb bk L)) ∧ Below w.heap.size w w' := by
  have K0 := Lib.hid K
  have S0 := Lib.hid h
  have B0 := Lib.hid (Below.refl w.heap.size w)
  unfold craneB
  clear K h
  cases h0 : nameB nm.data.toList
  · have HN := Lib.hid (fun w => h0 ▸ specIsName_any nm w hs)
    simp only [h0, Bool.false_and]
    clear h0
    obtain ⟨c0, c1, c2, c3, c4, c5, c6⟩ := K0.out.seven
    go_enter Tryd.func23, Tryd.ntmps23
    go_wp2_with (first | (go_at_call 33; refine (HN.out _).mono ?_; rintro en w' ⟨rfl, rfl⟩))
    go_ret
    exact ⟨rfl, B0.out⟩
  · have HN := Lib.hid (fun w => h0 ▸ specIsName_any nm w hs)
    simp only [h0, Bool.true_and]
    clear h0
    cases h1 : placeB x y
    · have HP := Lib.hid (fun w => h1 ▸ l02Ok_any x y w)
      simp only [Bool.false_and]
      clear h1
      obtain ⟨c0, c1, c2, c3, c4, c5, c6⟩ := K0.out.seven
      go_enter Tryd.func23, Tryd.ntmps23
      go_wp2_with (first | (go_at_call 33; refine (HN.out _).mono ?_; rintro en w' ⟨rfl, rfl⟩))
      refine (HP.out _).mono ?_
      rintro en w1 ⟨rfl, hb1⟩
      have B1 := B0.out.trans (hb1.mono B0.out.size)
      have K1 := Lib.hid (K0.out.on hb1)
      clear hb1 c0 c1 c2 c3 c4 c5 c6 B0 K0
      obtain ⟨c0, c1, c2, c3, c4, c5, c6⟩ := K1.out.seven
      go_wp2
      go_ret
      exact ⟨rfl, B1⟩
    · have HP := Lib.hid (fun w => h1 ▸ l02Ok_any x y w)
      simp only [Bool.true_and]
      clear h1
      cases h2 : inB ht 1 2000
      · simp only [Bool.false_and]
        obtain ⟨c0, c1, c2, c3, c4, c5, c6⟩ := K0.out.seven
        go_enter Tryd.func23, Tryd.ntmps23
        go_wp2_with (first | (go_at_call 33; refine (HN.out _).mono ?_; rintro en w' ⟨rfl, rfl⟩))
        refine (HP.out _).mono ?_
        rintro en w1 ⟨rfl, hb1⟩
        have B1 := B0.out.trans (hb1.mono B0.out.size)
        have K1 := Lib.hid (K0.out.on hb1)
        clear hb1 c0 c1 c2 c3 c4 c5 c6 B0 K0
        obtain ⟨c0, c1, c2, c3, c4, c5, c6⟩ := K1.out.seven
        go_wp2_with (first | (go_at_call 35; refine (l00In_any _ _ _ _).mono ?_; rintro en w' ⟨rfl, rfl⟩))
        go_ret
        exact ⟨rfl, B1⟩
      · simp only [Bool.true_and]
        cases h3 : inB jb 1 1000
        · simp only [Bool.false_and]
          obtain ⟨c0, c1, c2, c3, c4, c5, c6⟩ := K0.out.seven
          go_enter Tryd.func23, Tryd.ntmps23
          go_wp2_with (first | (go_at_call 33; refine (HN.out _).mono ?_; rintro en w' ⟨rfl, rfl⟩))
          refine (HP.out _).mono ?_
          rintro en w1 ⟨rfl, hb1⟩
          have B1 := B0.out.trans (hb1.mono B0.out.size)
          have K1 := Lib.hid (K0.out.on hb1)
          clear hb1 c0 c1 c2 c3 c4 c5 c6 B0 K0
          obtain ⟨c0, c1, c2, c3, c4, c5, c6⟩ := K1.out.seven
          go_wp2_with (first | (go_at_call 35; refine (l00In_any _ _ _ _).mono ?_; rintro en w' ⟨rfl, rfl⟩))
          go_ret
          exact ⟨rfl, B1⟩
        · simp only [Bool.true_and]
          have bj := inB_of h3
          cases h4 : inB bk 0 jb
          · simp only [Bool.false_and]
            obtain ⟨c0, c1, c2, c3, c4, c5, c6⟩ := K0.out.seven
            go_enter Tryd.func23, Tryd.ntmps23
            go_wp2_with (first | (go_at_call 33; refine (HN.out _).mono ?_; rintro en w' ⟨rfl, rfl⟩))
            refine (HP.out _).mono ?_
            rintro en w1 ⟨rfl, hb1⟩
            have B1 := B0.out.trans (hb1.mono B0.out.size)
            have K1 := Lib.hid (K0.out.on hb1)
            clear hb1 c0 c1 c2 c3 c4 c5 c6 B0 K0
            obtain ⟨c0, c1, c2, c3, c4, c5, c6⟩ := K1.out.seven
            have f0 := cell_regrown c4
            have f1 := cell_regrown c5
            have f2 := cell_regrown c6
            have S1 := S0.out.next B1
            clear S1 S0
            go_wp2_with (first | (go_at_call 35; refine (l00In_any _ _ _ _).mono ?_; rintro en w' ⟨rfl, rfl⟩))
            refine wp_region_quiet_below (by kernel_rfl) (by kernel_rfl) ?_
            repeat (first | go_big_quiet_step (first | exact Calls.regrown_of (same_below (l00In_any _ _ _ _))) | quiet_step (first | exact Calls.regrown_of (same_below (l00In_any _ _ _ _))))
            refine wpQuiet_nil ?_
            intro w2 hw2
            have hb2 := class_below hw2
            have B2 := B1.trans (hb2.mono B1.size)
            clear hw2 hb2
            go_wp2
            go_ret
            exact ⟨rfl, B2⟩
          · simp only [Bool.true_and]
            cases hc : chartB L
            · simp only [Bool.false_and]
              obtain ⟨c0, c1, c2, c3, c4, c5, c6⟩ := K0.out.seven
              go_enter Tryd.func23, Tryd.ntmps23
              go_wp2_with (first | (go_at_call 33; refine (HN.out _).mono ?_; rintro en w' ⟨rfl, rfl⟩))
              refine (HP.out _).mono ?_
              rintro en w1 ⟨rfl, hb1⟩
              have B1 := B0.out.trans (hb1.mono B0.out.size)
              have K1 := Lib.hid (K0.out.on hb1)
              clear hb1 c0 c1 c2 c3 c4 c5 c6 B0 K0
              obtain ⟨c0, c1, c2, c3, c4, c5, c6⟩ := K1.out.seven
              have f0 := cell_regrown c4
              have f1 := cell_regrown c5
              have f2 := cell_regrown c6
              have S1 := S0.out.next B1
              have HCH := Lib.hid (fun d os => hc ▸ l03Ok_any A n c L (grow (redrawn w1 d) os) (S1.next (below_regrown w1 d os)) hn)
              clear S1 S0 hc
              go_wp2_with (first | (go_at_call 35; refine (l00In_any _ _ _ _).mono ?_; rintro en w' ⟨rfl, rfl⟩))
              refine wp_region_quiet_below (by kernel_rfl) (by kernel_rfl) ?_
              repeat (first | go_big_quiet_step (first | exact Calls.regrown_of (same_below (l00In_any _ _ _ _)) | exact Calls.regrown_of (HCH.out _ _)) | quiet_step (first | exact Calls.regrown_of (same_below (l00In_any _ _ _ _)) | exact Calls.regrown_of (HCH.out _ _)))
              refine wpQuiet_nil ?_
              intro w2 hw2
              have hb2 := class_below hw2
              have B2 := B1.trans (hb2.mono B1.size)
              clear hw2 hb2
              go_wp2
              go_ret
              exact ⟨rfl, B2⟩
            · simp only [Bool.true_and]
              have n1 : 1 ≤ n := by have := (chart_len hc).1; have := S0.out.1; omega
              have n2 := hn
              unfold maxLen at n2
              have i1 : (1 : Int) ≤ (n : Int) := by omega
              have v1 := IntWalk.i64_in ((n : Int) - 1) (by omega)
              by_cases hl : lastR L ≤ jb
              · have t5 : decide (lastR L ≤ jb) = true := by simpa using hl
                have E := Lib.hid t5
                clear hl
                obtain ⟨c0, c1, c2, c3, c4, c5, c6⟩ := K0.out.seven
                go_enter Tryd.func23, Tryd.ntmps23
                go_wp2_with (first | (go_at_call 33; refine (HN.out _).mono ?_; rintro en w' ⟨rfl, rfl⟩))
                refine (HP.out _).mono ?_
                rintro en w1 ⟨rfl, hb1⟩
                have B1 := B0.out.trans (hb1.mono B0.out.size)
                have K1 := Lib.hid (K0.out.on hb1)
                clear hb1 c0 c1 c2 c3 c4 c5 c6 B0 K0
                obtain ⟨c0, c1, c2, c3, c4, c5, c6⟩ := K1.out.seven
                have f0 := cell_regrown c4
                have f1 := cell_regrown c5
                have f2 := cell_regrown c6
                have S1 := S0.out.next B1
                have HCH := Lib.hid (fun d os => hc ▸ l03Ok_any A n c L (grow (redrawn w1 d) os) (S1.next (below_regrown w1 d os)) hn)
                have HLA := Lib.hid (fun d os => l03Last_any A n c L (grow (redrawn w1 d) os) (S1.next (below_regrown w1 d os)) hn n1)
                clear S1 S0 hc
                go_wp2_with (first | (go_at_call 35; refine (l00In_any _ _ _ _).mono ?_; rintro en w' ⟨rfl, rfl⟩))
                refine wp_region_quiet_below (by kernel_rfl) (by kernel_rfl) ?_
                repeat (first | go_big_quiet_step (first | exact Calls.regrown_of (same_below (l00In_any _ _ _ _)) | exact Calls.regrown_of (HCH.out _ _) | exact Calls.regrown_of (same_below (HLA.out _ _))) | quiet_step (first | exact Calls.regrown_of (same_below (l00In_any _ _ _ _)) | exact Calls.regrown_of (HCH.out _ _) | exact Calls.regrown_of (same_below (HLA.out _ _))))
                refine wpQuiet_nil ?_
                intro w2 hw2
                have hb2 := class_below hw2
                have B2 := B1.trans (hb2.mono B1.size)
                clear hw2 hb2
                go_wp2
                go_ret
                exact ⟨ret_bool E.out.symm, B2⟩
              · have t5 : decide (lastR L ≤ jb) = false := by simpa using hl
                have E := Lib.hid t5
                clear hl
                obtain ⟨c0, c1, c2, c3, c4, c5, c6⟩ := K0.out.seven
                go_enter Tryd.func23, Tryd.ntmps23
                go_wp2_with (first | (go_at_call 33; refine (HN.out _).mono ?_; rintro en w' ⟨rfl, rfl⟩))
                refine (HP.out _).mono ?_
                rintro en w1 ⟨rfl, hb1⟩
                have B1 := B0.out.trans (hb1.mono B0.out.size)
                have K1 := Lib.hid (K0.out.on hb1)
                clear hb1 c0 c1 c2 c3 c4 c5 c6 B0 K0
                obtain ⟨c0, c1, c2, c3, c4, c5, c6⟩ := K1.out.seven
                have f0 := cell_regrown c4
                have f1 := cell_regrown c5
                have f2 := cell_regrown c6
                have S1 := S0.out.next B1
                have HCH := Lib.hid (fun d os => hc ▸ l03Ok_any A n c L (grow (redrawn w1 d) os) (S1.next (below_regrown w1 d os)) hn)
                have HLA := Lib.hid (fun d os => l03Last_any A n c L (grow (redrawn w1 d) os) (S1.next (below_regrown w1 d os)) hn n1)
                clear S1 S0 hc
                go_wp2_with (first | (go_at_call 35; refine (l00In_any _ _ _ _).mono ?_; rintro en w' ⟨rfl, rfl⟩))
                refine wp_region_quiet_below (by kernel_rfl) (by kernel_rfl) ?_
                repeat (first | go_big_quiet_step (first | exact Calls.regrown_of (same_below (l00In_any _ _ _ _)) | exact Calls.regrown_of (HCH.out _ _) | exact Calls.regrown_of (same_below (HLA.out _ _))) | quiet_step (first | exact Calls.regrown_of (same_below (l00In_any _ _ _ _)) | exact Calls.regrown_of (HCH.out _ _) | exact Calls.regrown_of (same_below (HLA.out _ _))))
                refine wpQuiet_nil ?_
                intro w2 hw2
                have hb2 := class_below hw2
                have B2 := B1.trans (hb2.mono B1.size)
                clear hw2 hb2
                go_wp2
                go_ret
                exact ⟨ret_bool E.out.symm, B2⟩
set_option maxHeartbeats 4000000 in
theorem implValidCrane_any (nm : ByteArray) (x y ht jb bk : Int) (A : Option Addr) (n c : Nat) (L : List (Int × Int)) (w : World) (hs : nm.size ≤ maxLen) (h : Steps w w.heap.size A n L) (hn : n ≤ maxLen) : Calls Tryd.prog 27 #[craneV nm x y ht jb bk A n c] w fun en w' => en = .returned (.bool (craneB nm x y ht jb bk L)) ∧ Below w.heap.size w w' := by
  have K0 := Lib.hid (Blk.new w 33 #[.string nm, .int .i64 x, .int .i64 y, .int .i64 ht, .int .i64 jb, .int .i64 bk, .slice A n c])
  have S0 := Lib.hid h
  have B0 := Lib.hid (below_alloc1 w (.cells #[.string nm, .int .i64 x, .int .i64 y, .int .i64 ht, .int .i64 jb, .int .i64 bk, .slice A n c] 33))
  unfold craneB
  clear h
  cases h0 : nameB nm.data.toList
  · have HN := Lib.hid (fun w => h0 ▸ implIsName_any nm w hs)
    simp only [h0, Bool.false_and]
    clear h0
    obtain ⟨c0, c1, c2, c3, c4, c5, c6⟩ := K0.out.seven
    go_enter Tryd.func27, Tryd.ntmps27
    go_wp2_with (first | (go_at_call 39; refine (HN.out _).mono ?_; rintro en w' ⟨rfl, rfl⟩))
    go_ret
    exact ⟨rfl, B0.out⟩
  · have HN := Lib.hid (fun w => h0 ▸ implIsName_any nm w hs)
    simp only [h0, Bool.true_and]
    clear h0
    cases h1 : placeB x y
    · have HP := Lib.hid (fun w => h1 ▸ implValidPlace_any x y w)
      simp only [Bool.false_and]
      clear h1
      obtain ⟨c0, c1, c2, c3, c4, c5, c6⟩ := K0.out.seven
      go_enter Tryd.func27, Tryd.ntmps27
      go_wp2_with (first | (go_at_call 39; refine (HN.out _).mono ?_; rintro en w' ⟨rfl, rfl⟩))
      refine (HP.out _).mono ?_
      rintro en w1 ⟨rfl, hb1⟩
      have B1 := B0.out.trans (hb1.mono B0.out.size)
      have K1 := Lib.hid (K0.out.on hb1)
      clear hb1 c0 c1 c2 c3 c4 c5 c6 B0 K0
      obtain ⟨c0, c1, c2, c3, c4, c5, c6⟩ := K1.out.seven
      go_wp2
      go_ret
      exact ⟨rfl, B1⟩
    · have HP := Lib.hid (fun w => h1 ▸ implValidPlace_any x y w)
      simp only [Bool.true_and]
      clear h1
      cases h2 : inB ht 1 2000
      · simp only [Bool.false_and]
        obtain ⟨c0, c1, c2, c3, c4, c5, c6⟩ := K0.out.seven
        go_enter Tryd.func27, Tryd.ntmps27
        go_wp2_with (first | (go_at_call 39; refine (HN.out _).mono ?_; rintro en w' ⟨rfl, rfl⟩))
        refine (HP.out _).mono ?_
        rintro en w1 ⟨rfl, hb1⟩
        have B1 := B0.out.trans (hb1.mono B0.out.size)
        have K1 := Lib.hid (K0.out.on hb1)
        clear hb1 c0 c1 c2 c3 c4 c5 c6 B0 K0
        obtain ⟨c0, c1, c2, c3, c4, c5, c6⟩ := K1.out.seven
        go_wp2_with (first | (go_at_call 41; refine (within_any _ _ _ _).mono ?_; rintro en w' ⟨rfl, rfl⟩))
        go_ret
        exact ⟨rfl, B1⟩
      · simp only [Bool.true_and]
        cases h3 : inB jb 1 1000
        · simp only [Bool.false_and]
          obtain ⟨c0, c1, c2, c3, c4, c5, c6⟩ := K0.out.seven
          go_enter Tryd.func27, Tryd.ntmps27
          go_wp2_with (first | (go_at_call 39; refine (HN.out _).mono ?_; rintro en w' ⟨rfl, rfl⟩))
          refine (HP.out _).mono ?_
          rintro en w1 ⟨rfl, hb1⟩
          have B1 := B0.out.trans (hb1.mono B0.out.size)
          have K1 := Lib.hid (K0.out.on hb1)
          clear hb1 c0 c1 c2 c3 c4 c5 c6 B0 K0
          obtain ⟨c0, c1, c2, c3, c4, c5, c6⟩ := K1.out.seven
          go_wp2_with (first | (go_at_call 41; refine (within_any _ _ _ _).mono ?_; rintro en w' ⟨rfl, rfl⟩))
          go_ret
          exact ⟨rfl, B1⟩
        · simp only [Bool.true_and]
          have bj := inB_of h3
          cases h4 : inB bk 0 jb
          · simp only [Bool.false_and]
            obtain ⟨c0, c1, c2, c3, c4, c5, c6⟩ := K0.out.seven
            go_enter Tryd.func27, Tryd.ntmps27
            go_wp2_with (first | (go_at_call 39; refine (HN.out _).mono ?_; rintro en w' ⟨rfl, rfl⟩))
            refine (HP.out _).mono ?_
            rintro en w1 ⟨rfl, hb1⟩
            have B1 := B0.out.trans (hb1.mono B0.out.size)
            have K1 := Lib.hid (K0.out.on hb1)
            clear hb1 c0 c1 c2 c3 c4 c5 c6 B0 K0
            obtain ⟨c0, c1, c2, c3, c4, c5, c6⟩ := K1.out.seven
            go_wp2_with (first | (go_at_call 41; refine (within_any _ _ _ _).mono ?_; rintro en w' ⟨rfl, rfl⟩))
            go_ret
            exact ⟨rfl, B1⟩
          · simp only [Bool.true_and]
            cases hc : chartB L
            · simp only [Bool.false_and]
              obtain ⟨c0, c1, c2, c3, c4, c5, c6⟩ := K0.out.seven
              go_enter Tryd.func27, Tryd.ntmps27
              go_wp2_with (first | (go_at_call 39; refine (HN.out _).mono ?_; rintro en w' ⟨rfl, rfl⟩))
              refine (HP.out _).mono ?_
              rintro en w1 ⟨rfl, hb1⟩
              have B1 := B0.out.trans (hb1.mono B0.out.size)
              have K1 := Lib.hid (K0.out.on hb1)
              clear hb1 c0 c1 c2 c3 c4 c5 c6 B0 K0
              obtain ⟨c0, c1, c2, c3, c4, c5, c6⟩ := K1.out.seven
              have f0 := cell_regrown c4
              have f2 := cell_regrown c6
              have S1 := S0.out.next B1
              have HCH := Lib.hid (fun d os => hc ▸ implValidChart_any A n c L (grow (redrawn w1 d) os) (S1.next (below_regrown w1 d os)) hn)
              clear S1 S0 hc
              go_wp2_with (first | (go_at_call 41; refine (within_any _ _ _ _).mono ?_; rintro en w' ⟨rfl, rfl⟩))
              refine wp_region_quiet_below (by kernel_rfl) (by kernel_rfl) ?_
              repeat (first | go_big_quiet_step (first | exact Calls.regrown_of (HCH.out _ _)) | quiet_step (first | exact Calls.regrown_of (HCH.out _ _)))
              refine wpQuiet_nil ?_
              intro w2 hw2
              have hb2 := class_below hw2
              have B2 := B1.trans (hb2.mono B1.size)
              clear hw2 hb2
              go_wp2
              go_ret
              exact ⟨rfl, B2⟩
            · simp only [Bool.true_and]
              have n1 : 1 ≤ n := by have := (chart_len hc).1; have := S0.out.1; omega
              have n2 := hn
              unfold maxLen at n2
              have i1 : (1 : Int) ≤ (n : Int) := by omega
              have v1 := IntWalk.i64_in ((n : Int) - 1) (by omega)
              by_cases hl : lastR L ≤ jb
              · have t5 : decide (lastR L ≤ jb) = true := by simpa using hl
                have E := Lib.hid t5
                clear hl
                obtain ⟨c0, c1, c2, c3, c4, c5, c6⟩ := K0.out.seven
                go_enter Tryd.func27, Tryd.ntmps27
                go_wp2_with (first | (go_at_call 39; refine (HN.out _).mono ?_; rintro en w' ⟨rfl, rfl⟩))
                refine (HP.out _).mono ?_
                rintro en w1 ⟨rfl, hb1⟩
                have B1 := B0.out.trans (hb1.mono B0.out.size)
                have K1 := Lib.hid (K0.out.on hb1)
                clear hb1 c0 c1 c2 c3 c4 c5 c6 B0 K0
                obtain ⟨c0, c1, c2, c3, c4, c5, c6⟩ := K1.out.seven
                have f0 := cell_regrown c4
                have f2 := cell_regrown c6
                have S1 := S0.out.next B1
                have HCH := Lib.hid (fun d os => hc ▸ implValidChart_any A n c L (grow (redrawn w1 d) os) (S1.next (below_regrown w1 d os)) hn)
                obtain ⟨b, o, yl, rfl, hbb, hl1, hl2⟩ := S1.last n1
                have f3 := cell_regrown hl1
                clear hl1 hl2
                clear S1 S0 hc
                go_wp2_with (first | (go_at_call 41; refine (within_any _ _ _ _).mono ?_; rintro en w' ⟨rfl, rfl⟩))
                refine wp_region_quiet_below (by kernel_rfl) (by kernel_rfl) ?_
                repeat (first | go_big_quiet_step (first | exact Calls.regrown_of (HCH.out _ _)) | quiet_step (first | exact Calls.regrown_of (HCH.out _ _)))
                refine wpQuiet_nil ?_
                intro w2 hw2
                have hb2 := class_below hw2
                have B2 := B1.trans (hb2.mono B1.size)
                clear hw2 hb2
                go_wp2
                go_ret
                exact ⟨ret_bool E.out.symm, B2⟩
              · have t5 : decide (lastR L ≤ jb) = false := by simpa using hl
                have E := Lib.hid t5
                clear hl
                obtain ⟨c0, c1, c2, c3, c4, c5, c6⟩ := K0.out.seven
                go_enter Tryd.func27, Tryd.ntmps27
                go_wp2_with (first | (go_at_call 39; refine (HN.out _).mono ?_; rintro en w' ⟨rfl, rfl⟩))
                refine (HP.out _).mono ?_
                rintro en w1 ⟨rfl, hb1⟩
                have B1 := B0.out.trans (hb1.mono B0.out.size)
                have K1 := Lib.hid (K0.out.on hb1)
                clear hb1 c0 c1 c2 c3 c4 c5 c6 B0 K0
                obtain ⟨c0, c1, c2, c3, c4, c5, c6⟩ := K1.out.seven
                have f0 := cell_regrown c4
                have f2 := cell_regrown c6
                have S1 := S0.out.next B1
                have HCH := Lib.hid (fun d os => hc ▸ implValidChart_any A n c L (grow (redrawn w1 d) os) (S1.next (below_regrown w1 d os)) hn)
                obtain ⟨b, o, yl, rfl, hbb, hl1, hl2⟩ := S1.last n1
                have f3 := cell_regrown hl1
                clear hl1 hl2
                clear S1 S0 hc
                go_wp2_with (first | (go_at_call 41; refine (within_any _ _ _ _).mono ?_; rintro en w' ⟨rfl, rfl⟩))
                refine wp_region_quiet_below (by kernel_rfl) (by kernel_rfl) ?_
                repeat (first | go_big_quiet_step (first | exact Calls.regrown_of (HCH.out _ _)) | quiet_step (first | exact Calls.regrown_of (HCH.out _ _)))
                refine wpQuiet_nil ?_
                intro w2 hw2
                have hb2 := class_below hw2
                have B2 := B1.trans (hb2.mono B1.size)
                clear hw2 hb2
                go_wp2
                go_ret
                exact ⟨ret_bool E.out.symm, B2⟩
end Go.Proofs.YtbdompadkeamdaaDoor
