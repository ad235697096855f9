/- The walk of the law of charts. -/
import Derived.Test.YtihbomgbkpmojaaDoorProg
import Derived.Test.YtihbomgbkpmojaaDoorKit
import Derived.Test.YtihbomgbkpmojaaDoorBasics
import Derived.Test.YtihbomgbkpmojaaDoorCodeRes
import Derived.Test.YtihbomgbkpmojaaDoorMem
import Derived.Test.YtihbomgbkpmojaaDoorLists
import Derived.Test.YtihbomgbkpmojaaDoorSteps
import Derived.Test.YtihbomgbkpmojaaDoorCharts
import Derived.Test.YtihbomgbkpmojaaDoorSame
import Derived.Test.YtihbomgbkpmojaaDoorLaid
import Derived.Test.YtihbomgbkpmojaaDoorText
import Derived.Test.YtihbomgbkpmojaaDoorRC2
import Derived.Test.YtihbomgbkpmojaaDoorRC3
import Derived.Test.YtihbomgbkpmojaaDoorRound
import Derived.Test.YtihbomgbkpmojaaDoorLoads
import Derived.Test.YtihbomgbkpmojaaDoorLoads3
import Derived.Test.YtihbomgbkpmojaaDoorRadius
import Derived.Test.YtihbomgbkpmojaaDoorChartFacts
import Derived.Test.YtihbomgbkpmojaaDoorSrc
import Derived.Test.YtihbomgbkpmojaaDoorSrc2
import Derived.Test.YtihbomgbkpmojaaDoorDraw
namespace Go.Proofs.YtihbomgbkpmojaaDoor
open Go.RowKit Go.WideShapes Go.ChangeShapes Go.Joins Go.Deep Go.Sort
set_option linter.unusedVariables false
set_option linter.unusedSimpArgs false
theorem a2Long_any (A A' : Option Addr) (n c n' c' : Nat) (w : World) (hn : n ≤ maxLen) (hn' : n' ≤ maxLen) : Calls Tryd.prog 21 #[.slice A n c, .slice A' n' c'] w fun e w' => e = .returned (.bool (decide (3000 < n) || decide (3000 < n'))) ∧ w = w' := by
  unfold maxLen at hn hn'
  by_cases h : 3000 < n
  · have d : decide (3000 < (n : Int)) = true := by simp; omega
    rw [show decide (3000 < n) = true by simpa using h]
    go_enter Tryd.func21, Tryd.ntmps21
    go_wp2
    go_ret
    exact ⟨rfl, rfl⟩
  · have d : decide (3000 < (n : Int)) = false := by simp; omega
    rw [show decide (3000 < n) = false by simpa using h]
    by_cases h' : 3000 < n'
    · have d' : decide (3000 < (n' : Int)) = true := by simp; omega
      rw [show decide (3000 < n') = true by simpa using h']
      go_enter Tryd.func21, Tryd.ntmps21
      go_wp2
      go_ret
      exact ⟨rfl, rfl⟩
    · have d' : decide (3000 < (n' : Int)) = false := by simp; omega
      rw [show decide (3000 < n') = false by simpa using h']
      go_enter Tryd.func21, Tryd.ntmps21
      go_wp2
      go_ret
      exact ⟨rfl, rfl⟩
theorem bytes_next {w w' : World} {A : Option Addr} {n : Nat} (h : BytesAt w w.heap.size A n) (hb : Below w.heap.size w w') : BytesAt w' w'.heap.size A n := fun hn => by
  obtain ⟨b, o, e, hbb, hc⟩ := h.below hb hn
  exact ⟨b, o, e, Nat.lt_of_lt_of_le hbb hb.size, hc⟩
theorem steps_cell {w : World} {B b o n k : Nat} {L : List (Int × Int)} {x y : Int} (h : Steps w B (some ⟨b, o, none⟩) n L) (hk : k < n) (hx : L[k]? = some (x, y)) : w.cell? ⟨b, o + k * 2, none⟩ = some (.int .i64 x) ∧ w.cell? ⟨b, o + k * 2 + 1, none⟩ = some (.int .i64 y) := by
  obtain ⟨b', o', x', y', e, _, hx', h1, h2⟩ := h.at_ hk
  injection e with e
  injection e with e1 e2 _
  subst e1; subst e2
  rw [hx] at hx'
  injection hx' with hx'
  injection hx' with e1 e2
  subst e1; subst e2
  exact ⟨h1, h2⟩
set_option maxRecDepth 100000 in
set_option maxHeartbeats 4000000 in
theorem FnCharts_walk (w : World) (hW : (TabAt w ∧ ErrsAt w) ∧ MaxAt w) (A : Option Addr) (n c : Nat) (hn : n ≤ maxLen) (hB : BytesAt w w.heap.size A n) (A' : Option Addr) (n' c' : Nat) (hn' : n' ≤ maxLen) (hB' : BytesAt w w.heap.size A' n') : Calls Tryd.prog 7 #[.slice A n c, .slice A' n' c'] w fun en w' => en = .returned (.bool true) ∧ Below w.heap.size w w' := by
  have HL := Lib.hid (a2Long_any A A' n c n' c' w hn hn')
  by_cases hh : (decide (3000 < n) || decide (3000 < n')) = true
  · rw [hh] at HL
    clear hB hB' hh hn hn' hW
    go_enter Tryd.func7, Tryd.ntmps7
    go_wp2_with fail
    refine HL.out.mono ?_
    rintro en w1 ⟨rfl, rfl⟩
    go_wp2
    go_ret
    exact ⟨rfl, Below.refl _ _⟩
  · rw [show (decide (3000 < n) || decide (3000 < n')) = false by simpa using hh] at HL
    have hN : n ≤ 3000 ∧ n' ≤ 3000 := by simp at hh; omega
    obtain ⟨hN, hN'⟩ := hN
    have HA := Lib.hid (A2Charts_any A n c w hB hN)
    have D0 := Lib.hid hB'
    have HW := Lib.hid hW
    clear hB hB' hh hn hn' hW
    go_enter Tryd.func7, Tryd.ntmps7
    go_wp2_with fail
    refine HL.out.mono ?_
    rintro en w' ⟨rfl, rfl⟩
    go_wp2_with fail
    refine HA.out.mono ?_
    rintro en w1 ⟨L, M, A1, C1, m, k, c1, d1, rfl, hL, hM, cL, cM, aL, _, O1, O2, hb1⟩
    obtain ⟨lm0, lm1⟩ := chart_len cL
    rw [← hL] at lm0 lm1
    have HLn := Lib.hid hL
    have HC := Lib.hid cL
    have HL6 : Hid (lastR L ≤ 600) := by
      obtain ⟨x, y, hx, e⟩ := last_at (chart_len cL).1
      show _ ≤ _
      rw [e]
      exact aL (x, y) (List.mem_of_getElem? hx)
    have S1 := steps_own O1
    have D1 := Lib.hid (bytes_next D0.out hb1)
    have T1 := Lib.hid (HW.out.1.1.on hb1)
    have B1 := Lib.hid hb1
    have mm : m ≤ maxLen := by unfold maxLen; omega
    obtain ⟨b, o, x0, y0, rfl, _, hx0, _, _⟩ := S1.at_ (k := 0) (by omega)
    have HX0 := Lib.hid hx0
    have S1 := Lib.hid S1
    have CT : Hid (∀ w, TabAt w → Steps w w.heap.size (some ⟨b, o, none⟩) m L → Calls Tryd.prog 15 #[.slice (some ⟨b, o, none⟩) m c1] w fun e w' => e = .returned (.string (textS L)) ∧ Below w.heap.size w w') := fun w T S => implChartText_good _ _ _ L w T S cL
    have CR : Hid (∀ w, TabAt w ∧ ErrsAt w → MaxAt w → Calls Tryd.prog 18 #[.string (textS L)] w fun e w' => ∃ A' c', e = .returned (.tuple #[.slice A' m c', .bool true]) ∧ w'.ownsRow w.heap.size 43 2 (.slice A' m c') m (pairs L) ∧ Below w.heap.size w w') := fun w T X => by
      have hs : (textS L).size ≤ 1048576 := by have := text_bound cL; unfold textS; omega
      refine (implReadChart_any (textS L) w hs T X).mono ?_
      rintro en w' ⟨A', m', c', hm', e, O, hb⟩
      rw [round_trip cL] at e O hm'
      simp only [outO, Option.isSome_some] at e O hm'
      rw [← hL] at hm'
      subst hm'
      exact ⟨A', c', e, O, hb⟩
    have CV : Hid (∀ w, Steps w w.heap.size (some ⟨b, o, none⟩) m L → Calls Tryd.prog 24 #[.slice (some ⟨b, o, none⟩) m c1] w fun e w' => e = .returned (.bool true) ∧ Below w.heap.size w w') := fun w S => by have := implValidChart_any _ m c1 L w S mm; rwa [cL] at this
    have CS : Hid (∀ (X : Option Addr) (d : Nat) w, Steps w w.heap.size X m L → Steps w w.heap.size (some ⟨b, o, none⟩) m L → Calls Tryd.prog 23 #[.slice X m d, .slice (some ⟨b, o, none⟩) m c1] w fun e w' => e = .returned (.bool true) ∧ Below w.heap.size w w') := fun X d w S S' => by have := specSameChart_any X _ m m d c1 L L w S S' mm mm; rwa [show decide (L = L) = true by simp] at this
    generalize textS L = T at CT CR
    clear hL hM cL cM aL O1 O2 hb1 HA HL D0 hx0
    go_wp2_with fail
    with_reducible refine (CT.out _ T1.out S1.out).mono ?_
    rintro en w2 ⟨rfl, hb⟩
    have S2 := Lib.hid (S1.out.next hb)
    have D2 := Lib.hid (bytes_next D1.out hb)
    have B2 := Lib.hid (B1.out.trans (hb.mono B1.out.size))
    clear hb S1 D1 B1
    go_wp2_with fail
    with_reducible refine (CR.out _ ⟨HW.out.1.1.on B2.out, HW.out.1.2.on B2.out⟩ (HW.out.2.on B2.out)).mono ?_
    rintro en w3 ⟨A3, c3, rfl, O3, hb⟩
    have SB3 := Lib.hid (steps_own O3)
    clear O3
    have S3 := Lib.hid (S2.out.next hb)
    have D3 := Lib.hid (bytes_next D2.out hb)
    have B3 := Lib.hid (B2.out.trans (hb.mono B2.out.size))
    clear hb S2 D2 B2
    go_wp2_with fail
    with_reducible refine (CS.out _ _ _ SB3.out S3.out).mono ?_
    rintro en w4 ⟨rfl, hb⟩
    have S4 := Lib.hid (S3.out.next hb)
    have D4 := Lib.hid (bytes_next D3.out hb)
    have B4 := Lib.hid (B3.out.trans (hb.mono B3.out.size))
    clear hb S3 D3 B3
    go_wp2_with fail
    with_reducible refine (CV.out _ S4.out).mono ?_
    rintro en w5 ⟨rfl, hb⟩
    have S5 := Lib.hid (S4.out.next hb)
    have D5 := Lib.hid (bytes_next D4.out hb)
    have B5 := Lib.hid (B4.out.trans (hb.mono B4.out.size))
    clear hb S4 D4 B4
    clear CT CR CV CS SB3 T1 HW
    obtain ⟨xl, yl, hxl, hlast⟩ := last_at (chart_len HC.out).1
    rw [HLn.out.symm] at hxl
    have cl := (steps_cell S5.out (k := m - 1) (by omega) hxl).1
    have HLast := Lib.hid hlast
    obtain ⟨xl0, xl1⟩ := lastR_bounds HC.out
    rw [hlast] at xl0 xl1
    have i1 : (0 : Int) < (m : Int) := by omega
    clear hxl hlast
    go_wp2_with fail
    with_reducible refine (a2At_any A' n' c' 0 256 w5.heap.size w5 D5.out hN' (by omega) (by omega) (by omega) (by omega)).mono ?_
    rintro en w' ⟨r1, rfl, p0, p1, rfl⟩
    clear cl
    go_wp2_with fail
    with_reducible refine (a2At_any A' n' c' 1 3 w5.heap.size w5 D5.out hN' (by omega) (by omega) (by omega) (by omega)).mono ?_
    rintro en w' ⟨r2, rfl, p2, p3, rfl⟩
    obtain ⟨r, hr⟩ : ∃ r : Int, r = r1 * 3 + r2 := ⟨_, rfl⟩
    have r0 : 0 ≤ r := by omega
    have r3 : r ≤ 767 := by omega
    have CA : Hid (∀ (r : Int) w, Steps w w.heap.size (some ⟨b, o, none⟩) m L → Calls Tryd.prog 26 #[.slice (some ⟨b, o, none⟩) m c1, .int .i64 r] w fun e w' => e = .returned (resLoadAt L r) ∧ Below w.heap.size w w') := fun r w S => implLoadAt_any _ m c1 L r w S mm
    have CB : Hid (∀ (r : Int) w, Steps w w.heap.size (some ⟨b, o, none⟩) m L → Calls Tryd.prog 27 #[.slice (some ⟨b, o, none⟩) m c1, .int .i64 r] w fun e w' => e = .returned (resLoadStep L r) ∧ Below w.heap.size w w') := fun r w S => implLoadStep_any _ m c1 L r w S mm
    have CD : Hid (∀ (r : Int) w, Steps w w.heap.size (some ⟨b, o, none⟩) m L → Calls Tryd.prog 28 #[.slice (some ⟨b, o, none⟩) m c1, .int .i64 r] w fun e w' => e = .returned (resRadiusFor L r) ∧ Below w.heap.size w w') := fun r w S => implRadiusFor_any _ m c1 L r w S mm
    have CE : Hid (∀ (r : Int) w, Steps w w.heap.size (some ⟨b, o, none⟩) m L → Calls Tryd.prog 29 #[.slice (some ⟨b, o, none⟩) m c1, .int .i64 r] w fun e w' => e = .returned (resLoadAt L r) ∧ Below w.heap.size w w') := fun r w S => specLoadAt_any _ m c1 L r w S mm
    have FACT : ∃ a1 k1 a2 a3 k3 : Int, resLoadAt L r = .tuple #[.int .i64 a1, .int .i64 k1] ∧ resLoadStep L r = .tuple #[.int .i64 a2, .int .i64 k1] ∧ resLoadAt L (r + 1) = .tuple #[.int .i64 a3, .int .i64 k3] ∧ (k1 = 0 ↔ r ≤ xl) ∧ (k1 = 0 ∨ k1 = 3) ∧ (k3 = 0 ∨ k3 = 3) ∧ (k1 = 0 → a2 ≤ a1 ∧ a1 ≤ y0 ∧ (k3 = 0 → a3 ≤ a1)) := by
      by_cases hrl : r ≤ lastR L
      · obtain ⟨y, e2, ly⟩ := step_good HC.out r0 hrl
        have e1 := at_good HC.out r0 hrl
        have lt := load_top HC.out hrl HX0.out
        by_cases hr2 : r + 1 ≤ lastR L
        · exact ⟨_, _, _, _, _, e1, e2, at_good HC.out (by omega) hr2, by rw [← HLast.out]; simp [hrl], .inl rfl, .inl rfl, fun _ => ⟨ly, lt, fun _ => load_mono HC.out (by omega) hr2⟩⟩
        · exact ⟨_, _, _, _, _, e1, e2, at_past HC.out (by omega) (by omega) (by omega), by rw [← HLast.out]; simp [hrl], .inl rfl, .inr rfl, fun _ => ⟨ly, lt, fun h => by simp at h⟩⟩
      · exact ⟨_, _, _, _, _, at_past HC.out r0 (by omega) (by omega), step_past HC.out r0 (by omega) (by omega), at_past HC.out (by omega) (by omega) (by omega), by rw [← HLast.out]; simp [hrl], .inr rfl, .inr rfl, fun h => by simp at h⟩
    obtain ⟨a1, k1, a2, a3, k3, e1, e2, e3, q1, q2, q3, q4⟩ := FACT
    have C1 := CA.out r
    have C2 := CB.out r
    have C3 := CA.out (r + 1)
    rw [e1] at C1
    rw [e2] at C2
    rw [e3] at C3
    have C1 := Lib.hid C1
    have C2 := Lib.hid C2
    have C3 := Lib.hid C3
    clear e1 e2 e3 CA CB
    go_wp2_with fail
    rw [← hr]
    clear hr p0 p1 p2 p3
    with_reducible refine (C1.out _ S5.out).mono ?_
    rintro en w6 ⟨rfl, hb⟩
    have S6 := Lib.hid (S5.out.next hb)
    have D6 := Lib.hid (bytes_next D5.out hb)
    have B6 := Lib.hid (B5.out.trans (hb.mono B5.out.size))
    clear hb S5 D5 B5
    go_wp2_with fail
    with_reducible refine (C2.out _ S6.out).mono ?_
    rintro en w7 ⟨rfl, hb⟩
    have S7 := Lib.hid (S6.out.next hb)
    have D7 := Lib.hid (bytes_next D6.out hb)
    have B7 := Lib.hid (B6.out.trans (hb.mono B6.out.size))
    clear hb S6 D6 B6
    go_wp2_with fail
    with_reducible refine (C3.out _ S7.out).mono ?_
    rintro en w8 ⟨rfl, hb⟩
    have S8 := Lib.hid (S7.out.next hb)
    have D8 := Lib.hid (bytes_next D7.out hb)
    have B8 := Lib.hid (B7.out.trans (hb.mono B7.out.size))
    clear hb S7 D7 B7
    clear C1 C2 C3
    have c0 := (steps_cell S8.out (k := 0) (by omega) HX0.out).2
    have c0 : w8.cell? ⟨b, o + 1, none⟩ = some (.int .i64 y0) := by simpa using c0
    rcases q2 with rfl | rfl
    · have hr := q1.1 rfl
      have dr : decide (r ≤ xl) = true := by simpa using hr
      obtain ⟨b1, b2, b3⟩ := q4 rfl
      have db1 : decide (a1 < a2) = false := by simpa using b1
      have db2 : decide (y0 < a1) = false := by simpa using b2
      clear q1 q4
      rcases q3 with rfl | rfl
      · have b4 := b3 rfl
        have db3 : decide (a1 < a3) = false := by simpa using b4
        clear b3
        go_wp2_with fail
        with_reducible refine (a2At_any A' n' c' 2 256 w8.heap.size w8 D8.out hN' (by omega) (by omega) (by omega) (by omega)).mono ?_
        rintro en w' ⟨l1, rfl, p0, p1, rfl⟩
        go_wp2_with fail
        with_reducible refine (a2At_any A' n' c' 3 40 w8.heap.size w8 D8.out hN' (by omega) (by omega) (by omega) (by omega)).mono ?_
        rintro en w' ⟨l2, rfl, p2, p3, rfl⟩
        obtain ⟨ld, hld⟩ : ∃ ld : Int, ld = l1 * 40 + l2 := ⟨_, rfl⟩
        have ld0 : 0 ≤ ld := by omega
        have ld1 : ld ≤ 10239 := by omega
        have C4 := CD.out ld
        rcases rad_law HC.out ld0 (by omega) HX0.out with ⟨e4, hy⟩ | ⟨mo, mo0, mo1, e4, hl, hnext⟩
        · rw [e4] at C4
          have C4 := Lib.hid C4
          have dy : decide (y0 < ld) = true := by simpa using hy
          clear e4 CD CE
          go_wp2_with fail
          rw [← hld]
          clear hld p0 p1 p2 p3
          with_reducible refine (C4.out _ S8.out).mono ?_
          rintro en w9 ⟨rfl, hb⟩
          have S9 := Lib.hid (S8.out.next hb)
          have D9 := Lib.hid (bytes_next D8.out hb)
          have B9 := Lib.hid (B8.out.trans (hb.mono B8.out.size))
          clear hb S8 D8 B8
          have c0 := (steps_cell S9.out (k := 0) (by omega) HX0.out).2
          have c0 : w9.cell? ⟨b, o + 1, none⟩ = some (.int .i64 y0) := by simpa using c0
          go_wp2
          go_ret
          exact ⟨by simp, B9.out⟩
        · have FACT2 : ∃ a4 a5 k5 : Int, resLoadAt L mo = .tuple #[.int .i64 a4, .int .i64 0] ∧ resLoadAt L (mo + 1) = .tuple #[.int .i64 a5, .int .i64 k5] ∧ ld ≤ a4 ∧ (k5 = 3 ∨ (k5 = 0 ∧ a5 < ld)) := by
            by_cases hm2 : mo + 1 ≤ lastR L
            · exact ⟨_, _, _, at_good HC.out mo0 mo1, at_good HC.out (by omega) hm2, hl, .inr ⟨rfl, hnext (by omega)⟩⟩
            · exact ⟨_, _, _, at_good HC.out mo0 mo1, at_past HC.out (by omega) (by have := HL6.out; omega) (by omega), hl, .inl rfl⟩
          obtain ⟨a4, a5, k5, e5, e6, f1, f2⟩ := FACT2
          rw [HLast.out] at mo1
          rw [e4] at C4
          have C4 := Lib.hid C4
          have C5 := CE.out mo
          have C6 := CE.out (mo + 1)
          rw [e5] at C5
          rw [e6] at C6
          have C5 := Lib.hid C5
          have C6 := Lib.hid C6
          have dm0 : decide (0 ≤ mo) = true := by simpa using mo0
          have dm1 : decide (mo ≤ xl) = true := by simpa using mo1
          have df1 : decide (ld ≤ a4) = true := by simpa using f1
          have xl2 : xl ≤ 1000 := xl1
          clear e4 e5 e6 CD CE hl hnext
          go_wp2_with fail
          rw [← hld]
          clear hld p0 p1 p2 p3
          with_reducible refine (C4.out _ S8.out).mono ?_
          rintro en w9 ⟨rfl, hb⟩
          have S9 := Lib.hid (S8.out.next hb)
          have D9 := Lib.hid (bytes_next D8.out hb)
          have B9 := Lib.hid (B8.out.trans (hb.mono B8.out.size))
          clear hb S8 D8 B8
          go_wp2_with fail
          with_reducible refine (C5.out _ S9.out).mono ?_
          rintro en w10 ⟨rfl, hb⟩
          have S10 := Lib.hid (S9.out.next hb)
          have D10 := Lib.hid (bytes_next D9.out hb)
          have B10 := Lib.hid (B9.out.trans (hb.mono B9.out.size))
          clear hb S9 D9 B9
          go_wp2_with fail
          with_reducible refine (C6.out _ S10.out).mono ?_
          rintro en w11 ⟨rfl, hb⟩
          have S11 := Lib.hid (S10.out.next hb)
          have D11 := Lib.hid (bytes_next D10.out hb)
          have B11 := Lib.hid (B10.out.trans (hb.mono B10.out.size))
          clear hb S10 D10 B10
          rcases f2 with rfl | ⟨rfl, f3⟩
          · go_wp2
            go_ret
            exact ⟨by simp [*], B11.out⟩
          · have df3 : decide (a5 < ld) = true := by simpa using f3
            go_wp2
            go_ret
            exact ⟨by simp [*], B11.out⟩
      · clear b3
        go_wp2_with fail
        with_reducible refine (a2At_any A' n' c' 2 256 w8.heap.size w8 D8.out hN' (by omega) (by omega) (by omega) (by omega)).mono ?_
        rintro en w' ⟨l1, rfl, p0, p1, rfl⟩
        go_wp2_with fail
        with_reducible refine (a2At_any A' n' c' 3 40 w8.heap.size w8 D8.out hN' (by omega) (by omega) (by omega) (by omega)).mono ?_
        rintro en w' ⟨l2, rfl, p2, p3, rfl⟩
        obtain ⟨ld, hld⟩ : ∃ ld : Int, ld = l1 * 40 + l2 := ⟨_, rfl⟩
        have ld0 : 0 ≤ ld := by omega
        have ld1 : ld ≤ 10239 := by omega
        have C4 := CD.out ld
        rcases rad_law HC.out ld0 (by omega) HX0.out with ⟨e4, hy⟩ | ⟨mo, mo0, mo1, e4, hl, hnext⟩
        · rw [e4] at C4
          have C4 := Lib.hid C4
          have dy : decide (y0 < ld) = true := by simpa using hy
          clear e4 CD CE
          go_wp2_with fail
          rw [← hld]
          clear hld p0 p1 p2 p3
          with_reducible refine (C4.out _ S8.out).mono ?_
          rintro en w9 ⟨rfl, hb⟩
          have S9 := Lib.hid (S8.out.next hb)
          have D9 := Lib.hid (bytes_next D8.out hb)
          have B9 := Lib.hid (B8.out.trans (hb.mono B8.out.size))
          clear hb S8 D8 B8
          have c0 := (steps_cell S9.out (k := 0) (by omega) HX0.out).2
          have c0 : w9.cell? ⟨b, o + 1, none⟩ = some (.int .i64 y0) := by simpa using c0
          go_wp2
          go_ret
          exact ⟨by simp, B9.out⟩
        · have FACT2 : ∃ a4 a5 k5 : Int, resLoadAt L mo = .tuple #[.int .i64 a4, .int .i64 0] ∧ resLoadAt L (mo + 1) = .tuple #[.int .i64 a5, .int .i64 k5] ∧ ld ≤ a4 ∧ (k5 = 3 ∨ (k5 = 0 ∧ a5 < ld)) := by
            by_cases hm2 : mo + 1 ≤ lastR L
            · exact ⟨_, _, _, at_good HC.out mo0 mo1, at_good HC.out (by omega) hm2, hl, .inr ⟨rfl, hnext (by omega)⟩⟩
            · exact ⟨_, _, _, at_good HC.out mo0 mo1, at_past HC.out (by omega) (by have := HL6.out; omega) (by omega), hl, .inl rfl⟩
          obtain ⟨a4, a5, k5, e5, e6, f1, f2⟩ := FACT2
          rw [HLast.out] at mo1
          rw [e4] at C4
          have C4 := Lib.hid C4
          have C5 := CE.out mo
          have C6 := CE.out (mo + 1)
          rw [e5] at C5
          rw [e6] at C6
          have C5 := Lib.hid C5
          have C6 := Lib.hid C6
          have dm0 : decide (0 ≤ mo) = true := by simpa using mo0
          have dm1 : decide (mo ≤ xl) = true := by simpa using mo1
          have df1 : decide (ld ≤ a4) = true := by simpa using f1
          have xl2 : xl ≤ 1000 := xl1
          clear e4 e5 e6 CD CE hl hnext
          go_wp2_with fail
          rw [← hld]
          clear hld p0 p1 p2 p3
          with_reducible refine (C4.out _ S8.out).mono ?_
          rintro en w9 ⟨rfl, hb⟩
          have S9 := Lib.hid (S8.out.next hb)
          have D9 := Lib.hid (bytes_next D8.out hb)
          have B9 := Lib.hid (B8.out.trans (hb.mono B8.out.size))
          clear hb S8 D8 B8
          go_wp2_with fail
          with_reducible refine (C5.out _ S9.out).mono ?_
          rintro en w10 ⟨rfl, hb⟩
          have S10 := Lib.hid (S9.out.next hb)
          have D10 := Lib.hid (bytes_next D9.out hb)
          have B10 := Lib.hid (B9.out.trans (hb.mono B9.out.size))
          clear hb S9 D9 B9
          go_wp2_with fail
          with_reducible refine (C6.out _ S10.out).mono ?_
          rintro en w11 ⟨rfl, hb⟩
          have S11 := Lib.hid (S10.out.next hb)
          have D11 := Lib.hid (bytes_next D10.out hb)
          have B11 := Lib.hid (B10.out.trans (hb.mono B10.out.size))
          clear hb S10 D10 B10
          rcases f2 with rfl | ⟨rfl, f3⟩
          · go_wp2
            go_ret
            exact ⟨by simp [*], B11.out⟩
          · have df3 : decide (a5 < ld) = true := by simpa using f3
            go_wp2
            go_ret
            exact ⟨by simp [*], B11.out⟩
    · have hr : ¬ r ≤ xl := fun h => absurd (q1.2 h) (by decide)
      have dr : decide (r ≤ xl) = false := by simpa using hr
      clear q1 q3 q4
      go_wp2_with fail
      with_reducible refine (a2At_any A' n' c' 2 256 w8.heap.size w8 D8.out hN' (by omega) (by omega) (by omega) (by omega)).mono ?_
      rintro en w' ⟨l1, rfl, p0, p1, rfl⟩
      go_wp2_with fail
      with_reducible refine (a2At_any A' n' c' 3 40 w8.heap.size w8 D8.out hN' (by omega) (by omega) (by omega) (by omega)).mono ?_
      rintro en w' ⟨l2, rfl, p2, p3, rfl⟩
      obtain ⟨ld, hld⟩ : ∃ ld : Int, ld = l1 * 40 + l2 := ⟨_, rfl⟩
      have ld0 : 0 ≤ ld := by omega
      have ld1 : ld ≤ 10239 := by omega
      have C4 := CD.out ld
      rcases rad_law HC.out ld0 (by omega) HX0.out with ⟨e4, hy⟩ | ⟨mo, mo0, mo1, e4, hl, hnext⟩
      · rw [e4] at C4
        have C4 := Lib.hid C4
        have dy : decide (y0 < ld) = true := by simpa using hy
        clear e4 CD CE
        go_wp2_with fail
        rw [← hld]
        clear hld p0 p1 p2 p3
        with_reducible refine (C4.out _ S8.out).mono ?_
        rintro en w9 ⟨rfl, hb⟩
        have S9 := Lib.hid (S8.out.next hb)
        have D9 := Lib.hid (bytes_next D8.out hb)
        have B9 := Lib.hid (B8.out.trans (hb.mono B8.out.size))
        clear hb S8 D8 B8
        have c0 := (steps_cell S9.out (k := 0) (by omega) HX0.out).2
        have c0 : w9.cell? ⟨b, o + 1, none⟩ = some (.int .i64 y0) := by simpa using c0
        go_wp2
        go_ret
        exact ⟨by simp, B9.out⟩
      · have FACT2 : ∃ a4 a5 k5 : Int, resLoadAt L mo = .tuple #[.int .i64 a4, .int .i64 0] ∧ resLoadAt L (mo + 1) = .tuple #[.int .i64 a5, .int .i64 k5] ∧ ld ≤ a4 ∧ (k5 = 3 ∨ (k5 = 0 ∧ a5 < ld)) := by
          by_cases hm2 : mo + 1 ≤ lastR L
          · exact ⟨_, _, _, at_good HC.out mo0 mo1, at_good HC.out (by omega) hm2, hl, .inr ⟨rfl, hnext (by omega)⟩⟩
          · exact ⟨_, _, _, at_good HC.out mo0 mo1, at_past HC.out (by omega) (by have := HL6.out; omega) (by omega), hl, .inl rfl⟩
        obtain ⟨a4, a5, k5, e5, e6, f1, f2⟩ := FACT2
        rw [HLast.out] at mo1
        rw [e4] at C4
        have C4 := Lib.hid C4
        have C5 := CE.out mo
        have C6 := CE.out (mo + 1)
        rw [e5] at C5
        rw [e6] at C6
        have C5 := Lib.hid C5
        have C6 := Lib.hid C6
        have dm0 : decide (0 ≤ mo) = true := by simpa using mo0
        have dm1 : decide (mo ≤ xl) = true := by simpa using mo1
        have df1 : decide (ld ≤ a4) = true := by simpa using f1
        have xl2 : xl ≤ 1000 := xl1
        clear e4 e5 e6 CD CE hl hnext
        go_wp2_with fail
        rw [← hld]
        clear hld p0 p1 p2 p3
        with_reducible refine (C4.out _ S8.out).mono ?_
        rintro en w9 ⟨rfl, hb⟩
        have S9 := Lib.hid (S8.out.next hb)
        have D9 := Lib.hid (bytes_next D8.out hb)
        have B9 := Lib.hid (B8.out.trans (hb.mono B8.out.size))
        clear hb S8 D8 B8
        go_wp2_with fail
        with_reducible refine (C5.out _ S9.out).mono ?_
        rintro en w10 ⟨rfl, hb⟩
        have S10 := Lib.hid (S9.out.next hb)
        have D10 := Lib.hid (bytes_next D9.out hb)
        have B10 := Lib.hid (B9.out.trans (hb.mono B9.out.size))
        clear hb S9 D9 B9
        go_wp2_with fail
        with_reducible refine (C6.out _ S10.out).mono ?_
        rintro en w11 ⟨rfl, hb⟩
        have S11 := Lib.hid (S10.out.next hb)
        have D11 := Lib.hid (bytes_next D10.out hb)
        have B11 := Lib.hid (B10.out.trans (hb.mono B10.out.size))
        clear hb S10 D10 B10
        rcases f2 with rfl | ⟨rfl, f3⟩
        · go_wp2
          go_ret
          exact ⟨by simp [*], B11.out⟩
        · have df3 : decide (a5 < ld) = true := by simpa using f3
          go_wp2
          go_ret
          exact ⟨by simp [*], B11.out⟩
end Go.Proofs.YtihbomgbkpmojaaDoor
