/- The walk of the law of cut charts. -/
import Derived.Test.YtiaineljcmjfoaaProg
import Derived.Test.YtiaineljcmjfoaaKit
import Derived.Test.YtiaineljcmjfoaaBasics
import Derived.Test.YtiaineljcmjfoaaCodeRes
import Derived.Test.YtiaineljcmjfoaaMem
import Derived.Test.YtiaineljcmjfoaaLists
import Derived.Test.YtiaineljcmjfoaaSteps
import Derived.Test.YtiaineljcmjfoaaCharts
import Derived.Test.YtiaineljcmjfoaaChartLaws
import Derived.Test.YtiaineljcmjfoaaFinds
import Derived.Test.YtiaineljcmjfoaaLoads
import Derived.Test.YtiaineljcmjfoaaLoads2
import Derived.Test.YtiaineljcmjfoaaLoads3
import Derived.Test.YtiaineljcmjfoaaRadius
import Derived.Test.YtiaineljcmjfoaaChartFacts
import Derived.Test.YtiaineljcmjfoaaReduce
import Derived.Test.YtiaineljcmjfoaaReduce2
import Derived.Test.YtiaineljcmjfoaaReduce3
import Derived.Test.YtiaineljcmjfoaaLesser
import Derived.Test.YtiaineljcmjfoaaLesser2
import Derived.Test.YtiaineljcmjfoaaConcat
import Derived.Test.YtiaineljcmjfoaaRadii
import Derived.Test.YtiaineljcmjfoaaLesser3
import Derived.Test.YtiaineljcmjfoaaSrc
import Derived.Test.YtiaineljcmjfoaaSrc2
import Derived.Test.YtiaineljcmjfoaaDraw
import Derived.Test.YtiaineljcmjfoaaCuts
import Derived.Test.YtiaineljcmjfoaaCutsLex
import Derived.Deep.Cut
import Derived.Deep.CutRange
namespace Go.Proofs.Ytiaineljcmjfoaa
open Go.RowKit Go.WideShapes Go.ChangeShapes Go.Joins Go.Deep Go.Sort
set_option linter.unusedVariables false
set_option linter.unusedSimpArgs false
theorem a2LongC_any (A A' : Option Addr) (n c n' c' : Nat) (w : World) (hn : n ≤ maxLen) (hn' : n' ≤ maxLen) : Calls Try.prog 36 #[.slice A n c, .slice A' n' c'] w fun e w' => e = .returned (.bool (decide (3000 < n) || decide (3000 < n'))) ∧ w = w' := by
  unfold maxLen at hn hn'
  by_cases h : 3000 < n
  · have d : decide (3000 < (n : Int)) = true := by simp; omega
    rw [show decide (3000 < n) = true by simpa using h]
    go_enter Try.func36, Try.ntmps36
    go_wp2
    go_ret
    exact ⟨rfl, rfl⟩
  · have d : decide (3000 < (n : Int)) = false := by simp; omega
    rw [show decide (3000 < n) = false by simpa using h]
    by_cases h' : 3000 < n'
    · have d' : decide (3000 < (n' : Int)) = true := by simp; omega
      rw [show decide (3000 < n') = true by simpa using h']
      go_enter Try.func36, Try.ntmps36
      go_wp2
      go_ret
      exact ⟨rfl, rfl⟩
    · have d' : decide (3000 < (n' : Int)) = false := by simp; omega
      rw [show decide (3000 < n') = false by simpa using h']
      go_enter Try.func36, Try.ntmps36
      go_wp2
      go_ret
      exact ⟨rfl, rfl⟩
theorem bytes_nextC {w w' : World} {A : Option Addr} {n : Nat} (h : BytesAt w w.heap.size A n) (hb : Below w.heap.size w w') : BytesAt w' w'.heap.size A n := fun hn => by
  obtain ⟨b, o, e, hbb, hc⟩ := h.below hb hn
  exact ⟨b, o, e, Nat.lt_of_lt_of_le hbb hb.size, hc⟩
theorem steps_cellC {w : World} {B b o n k : Nat} {L : List (Int × Int)} {x y : Int} (h : Steps w B (some ⟨b, o, none⟩) n L) (hk : k < n) (hx : L[k]? = some (x, y)) : w.cell? ⟨b, o + k * 2, none⟩ = some (.int .i64 x) ∧ w.cell? ⟨b, o + k * 2 + 1, none⟩ = some (.int .i64 y) := by
  obtain ⟨b', o', x', y', e, _, hx', h1, h2⟩ := h.at_ hk
  injection e with e
  injection e with e1 e2 _
  subst e1; subst e2
  rw [hx] at hx'
  injection hx' with hx'
  injection hx' with e1 e2
  subst e1; subst e2
  exact ⟨h1, h2⟩
theorem steps_some {w : World} {B n : Nat} {A : Option Addr} {L : List (Int × Int)} (h : Steps w B A n L) (hn : 1 ≤ n) : ∃ b o, A = some ⟨b, o, none⟩ := by
  obtain ⟨b, o, _, _, e, _⟩ := h.at_ (k := 0) (by omega)
  exact ⟨b, o, e⟩
theorem RetList.steps {w w' : World} {M : List (Int × Int)} {code : Int} {e : Ending} (h : RetList w M code e w') : ∃ A c, e = .returned (.tuple #[.slice A M.length c, .int .i64 code]) ∧ Steps w' w'.heap.size A M.length M ∧ Below w.heap.size w w' := by
  obtain ⟨A, c, he, ho, hb⟩ := h
  exact ⟨A, c, he, steps_own ho, hb⟩
set_option maxRecDepth 100000 in
set_option maxHeartbeats 8000000 in
theorem FnChartCuts_walk (w : World) (A : Option Addr) (n c : Nat) (hn : n ≤ maxLen) (hB : BytesAt w w.heap.size A n) (A' : Option Addr) (n' c' : Nat) (hn' : n' ≤ maxLen) (hB' : BytesAt w w.heap.size A' n') : Calls Try.prog 12 #[.slice A n c, .slice A' n' c'] w fun en w' => en = .returned (.bool true) ∧ Below w.heap.size w w' := by
  have HL := Lib.hid (a2LongC_any A A' n c n' c' w hn hn')
  by_cases hh : (decide (3000 < n) || decide (3000 < n')) = true
  · rw [hh] at HL
    clear hB hB' hh hn hn'
    go_enter Try.func12, Try.ntmps12
    go_wp2_with fail
    with_reducible refine HL.out.mono ?_
    rintro en w1 ⟨rfl, rfl⟩
    go_wp2
    go_ret
    exact ⟨rfl, Below.refl _ _⟩
  · rw [show (decide (3000 < n) || decide (3000 < n')) = false by simpa using hh] at HL
    have hN : n ≤ 3000 ∧ n' ≤ 3000 := by simp at hh; omega
    obtain ⟨hN, hN'⟩ := hN
    have HA := Lib.hid (A2Charts_any A n c w hB hN)
    have D0 := Lib.hid hB'
    clear hB hB' hh hn hn'
    go_enter Try.func12, Try.ntmps12
    go_wp2_with fail
    with_reducible refine HL.out.mono ?_
    rintro en w' ⟨rfl, rfl⟩
    go_wp2_with fail
    with_reducible refine HA.out.mono ?_
    rintro en w1 ⟨L, M, A1, C1, m, k, c1, d1, rfl, hL, hM, cL, cM, aL, aM, O1, O2, hb1⟩
    obtain ⟨lm0, lm1⟩ := chart_len cL
    rw [← hL] at lm0 lm1
    obtain ⟨lk0, lk1⟩ := chart_len cM
    rw [← hM] at lk0 lk1
    have S1 := steps_own O1
    have T1 := steps_own O2
    obtain ⟨b, o, rfl⟩ := steps_some S1 lm0
    obtain ⟨b', o', rfl⟩ := steps_some T1 lk0
    have S1 := Lib.hid S1
    have T1 := Lib.hid T1
    have D1 := Lib.hid (bytes_nextC D0.out hb1)
    have B1 := Lib.hid hb1
    have few : (lesserL L M).length ≤ 20 := by have := lesser_few cL cM; have := aL.2; have := aM.2; omega
    obtain ⟨z, hz⟩ : ∃ z, z = (lesserL L M).length := ⟨_, rfl⟩
    have z0 : 1 ≤ z := by rw [hz, lesserL_length]; exact common_some cL cM
    have z1 : z ≤ 20 := by rw [hz]; exact few
    obtain ⟨q1, q2⟩ := lesser_code_good cL cM few
    have CLs : Hid (∀ w, Steps w w.heap.size (some ⟨b, o, none⟩) m L → Steps w w.heap.size (some ⟨b', o', none⟩) k M → Calls Try.prog 35 #[.slice (some ⟨b, o, none⟩) m c1, .slice (some ⟨b', o', none⟩) k d1] w fun e w' => ∃ A c, e = .returned (.tuple #[.slice A z c, .int .i64 0]) ∧ Steps w' w'.heap.size A z (lesserL L M) ∧ Below w.heap.size w w') := fun w S T => (impl_lesser_any _ _ m c1 k d1 L M w S T (by unfold maxLen; omega) (by unfold maxLen; omega)).mono fun e w' h => by
      rw [q1, q2] at h
      have := h.steps
      rwa [← hz] at this
    have CRd : Hid (∀ p w, 1 ≤ p → p ≤ 100 → Steps w w.heap.size (some ⟨b, o, none⟩) m L → Calls Try.prog 23 #[.slice (some ⟨b, o, none⟩) m c1, .int .i64 p] w fun e w' => ∃ A c, e = .returned (.tuple #[.slice A m c, .int .i64 0]) ∧ Steps w' w'.heap.size A m (reduceL p L) ∧ Below w.heap.size w w') := fun p w p0 p1 S => (impl_reduce_any _ m c1 L p w S (by unfold maxLen; omega)).mono fun e w' h => by
      have := h.list.steps
      rw [cL, inB_true p0 p1, codeV_tt] at this
      simp only [Bool.and_self, if_true, reduceL_length, ← hL] at this
      exact this
    have CLw : Hid (∀ p w, 0 ≤ p → p ≤ 50000 → Steps w w.heap.size (some ⟨b, o, none⟩) m L → Calls Try.prog 29 #[.slice (some ⟨b, o, none⟩) m c1, .int .i64 p] w fun e w' => ∃ A c, e = .returned (.tuple #[.slice A m c, .int .i64 0]) ∧ Steps w' w'.heap.size A m (lessL p L) ∧ Below w.heap.size w w') := fun p w p0 p1 S => (impl_less_any _ m c1 L p w S (by unfold maxLen; omega)).mono fun e w' h => by
      have := h.list.steps
      rw [cL, inB_true p0 p1, codeV_tt] at this
      simp only [Bool.and_self, if_true, lessL_length, ← hL] at this
      exact this
    have CGm : Hid (∀ w, Steps w w.heap.size (some ⟨b, o, none⟩) m L → Calls Try.prog 21 #[.slice (some ⟨b, o, none⟩) m c1] w fun e w' => e = .returned (.tuple #[.int .i64 (gmTo L), .int .i64 0]) ∧ Below w.heap.size w w') := fun w S => by have := implGreatestMoment_any _ m c1 L w S (by unfold maxLen; omega); rwa [cL, pairV_true] at this
    have CAa : Hid (∀ r w, 0 ≤ r → r ≤ lastR L → Steps w w.heap.size (some ⟨b, o, none⟩) m L → Calls Try.prog 32 #[.slice (some ⟨b, o, none⟩) m c1, .int .i64 r] w fun e w' => e = .returned (.tuple #[.int .i64 (loadV L r), .int .i64 0]) ∧ Below w.heap.size w w') := fun r w r0 r1 S => by have := specLoadAt_any _ m c1 L r w S (by unfold maxLen; omega); rwa [at_good cL r0 r1] at this
    have CAb : Hid (∀ r w, 0 ≤ r → r ≤ lastR M → Steps w w.heap.size (some ⟨b', o', none⟩) k M → Calls Try.prog 32 #[.slice (some ⟨b', o', none⟩) k d1, .int .i64 r] w fun e w' => e = .returned (.tuple #[.int .i64 (loadV M r), .int .i64 0]) ∧ Below w.heap.size w w') := fun r w r0 r1 S => by have := specLoadAt_any _ k d1 M r w S (by unfold maxLen; omega); rwa [at_good cM r0 r1] at this
    have CV : Hid (∀ (X : Option Addr) (l d : Nat) (N : List (Int × Int)) w, Steps w w.heap.size X l N → l ≤ 20 → chartB N = true → Calls Try.prog 18 #[.slice X l d] w fun e w' => e = .returned (.bool true) ∧ Below w.heap.size w w') := fun X l d N w S hl hc => by have := specValidChart_any X l d N w S (by unfold maxLen; omega); rwa [hc] at this
    have HCL := Lib.hid cL
    have HCM := Lib.hid cM
    have HZ := Lib.hid hz
    have HCZ := Lib.hid (lesser_chart cL cM few)
    have HLn := Lib.hid hL
    clear hL hM cL cM aL aM O1 O2 hb1 HA HL D0 few hz q1 q2
    go_wp2_with fail
    with_reducible refine (a2At_any A' n' c' 0 100 w1.heap.size w1 D1.out hN' (by omega) (by omega) (by omega) (by omega)).mono ?_
    rintro en w' ⟨r1, rfl, p0, p1, rfl⟩
    obtain ⟨p, hp⟩ : ∃ p : Int, p = 1 + r1 := ⟨_, rfl⟩
    have pp0 : 1 ≤ p := by omega
    have pp1 : p ≤ 100 := by omega
    have HP := Lib.hid hp
    clear hp
    go_wp2_with fail
    rw [← HP.out]
    clear HP p0 p1
    with_reducible refine (a2At_any A' n' c' 1 256 w1.heap.size w1 D1.out hN' (by omega) (by omega) (by omega) (by omega)).mono ?_
    rintro en w' ⟨r2, rfl, p0, p1, rfl⟩
    obtain ⟨h, hh⟩ : ∃ h : Int, h = r2 * 10 := ⟨_, rfl⟩
    have h0 : 0 ≤ h := by omega
    have h1 : h ≤ 2550 := by omega
    have HH := Lib.hid hh
    clear hh
    go_wp2_with fail
    rw [← HH.out]
    clear HH p0 p1 D1
    with_reducible refine (CRd.out p _ pp0 pp1 S1.out).mono ?_
    rintro en w2 ⟨A3, c3, rfl, x, hb⟩
    have S2 := Lib.hid (S1.out.next hb)
    have T2 := Lib.hid (T1.out.next hb)
    have B2 := Lib.hid (B1.out.trans (hb.mono B1.out.size))
    have X2 := Lib.hid x
    clear x
    clear hb B1 S1 T1
    go_wp2_with fail
    with_reducible refine (CLw.out h _ h0 (by omega) S2.out).mono ?_
    rintro en w3 ⟨A4, c4, rfl, y, hb⟩
    have S3 := Lib.hid (S2.out.next hb)
    have T3 := Lib.hid (T2.out.next hb)
    have X3 := Lib.hid (X2.out.next hb)
    have B3 := Lib.hid (B2.out.trans (hb.mono B2.out.size))
    have Y3 := Lib.hid y
    clear y
    clear hb B2 S2 T2 X2
    go_wp2_with fail
    with_reducible refine (CLs.out _ S3.out T3.out).mono ?_
    rintro en w4 ⟨A5, c5, rfl, zz, hb⟩
    have S4 := Lib.hid (S3.out.next hb)
    have T4 := Lib.hid (T3.out.next hb)
    have X4 := Lib.hid (X3.out.next hb)
    have Y4 := Lib.hid (Y3.out.next hb)
    have B4 := Lib.hid (B3.out.trans (hb.mono B3.out.size))
    have ZZ4 := Lib.hid zz
    clear zz
    clear hb B3 S3 T3 X3 Y3
    go_wp2_with fail
    with_reducible refine (CGm.out _ S4.out).mono ?_
    rintro en w5 ⟨rfl, hb⟩
    have S5 := Lib.hid (S4.out.next hb)
    have T5 := Lib.hid (T4.out.next hb)
    have X5 := Lib.hid (X4.out.next hb)
    have Y5 := Lib.hid (Y4.out.next hb)
    have ZZ5 := Lib.hid (ZZ4.out.next hb)
    have B5 := Lib.hid (B4.out.trans (hb.mono B4.out.size))
    clear hb B4 S4 T4 X4 Y4 ZZ4
    obtain ⟨g, hg⟩ : ∃ g, g = gmTo L := ⟨_, rfl⟩
    have HG := Lib.hid hg
    clear hg
    rw [← HG.out]
    clear CRd CLw CLs CGm
    go_wp2_with fail
    with_reducible refine (CV.out A3 m c3 _ _ X5.out (by omega) (reduce_chart HCL.out pp0 pp1)).mono ?_
    rintro en w6 ⟨rfl, hb⟩
    have S6 := Lib.hid (S5.out.next hb)
    have T6 := Lib.hid (T5.out.next hb)
    have X6 := Lib.hid (X5.out.next hb)
    have Y6 := Lib.hid (Y5.out.next hb)
    have ZZ6 := Lib.hid (ZZ5.out.next hb)
    have B6 := Lib.hid (B5.out.trans (hb.mono B5.out.size))
    clear hb B5 S5 T5 X5 Y5 ZZ5
    go_wp2_with fail
    with_reducible refine (CV.out A4 m c4 _ _ Y6.out (by omega) (less_chart HCL.out h0)).mono ?_
    rintro en w7 ⟨rfl, hb⟩
    have S7 := Lib.hid (S6.out.next hb)
    have T7 := Lib.hid (T6.out.next hb)
    have X7 := Lib.hid (X6.out.next hb)
    have Y7 := Lib.hid (Y6.out.next hb)
    have ZZ7 := Lib.hid (ZZ6.out.next hb)
    have B7 := Lib.hid (B6.out.trans (hb.mono B6.out.size))
    clear hb B6 S6 T6 X6 Y6 ZZ6
    obtain ⟨b3, o3, rfl⟩ := steps_some X7.out lm0
    obtain ⟨b4, o4, rfl⟩ := steps_some Y7.out lm0
    obtain ⟨b5, o5, rfl⟩ := steps_some ZZ7.out z0
    go_wp2
    go_loopw [17, 18, 19] (fun s i _ wr => ∃ j : Nat, j ≤ m ∧ i = .int .i64 j ∧ s = .bool (hitB g (L.take j)) ∧ Hid (Below w.heap.size w wr) ∧ Hid (Steps wr wr.heap.size (some ⟨b, o, none⟩) m L) ∧ Hid (Steps wr wr.heap.size (some ⟨b', o', none⟩) k M) ∧ Hid (Steps wr wr.heap.size (some ⟨b3, o3, none⟩) m (reduceL p L)) ∧ Hid (Steps wr wr.heap.size (some ⟨b4, o4, none⟩) m (lessL h L)) ∧ Hid (Steps wr wr.heap.size (some ⟨b5, o5, none⟩) z (lesserL L M))) (fun _ i _ _ => m - (intOf i).toNat)
    case atStart => exact ⟨0, Nat.zero_le _, rfl, rfl, B7, S7, T7, X7, Y7, ZZ7⟩
    case round =>
      clear B7 S7 T7 X7 Y7 ZZ7
      obtain ⟨j, hj, rfl, rfl, HB, HS, HT, HX, HY, HZZ⟩ := hrel
      by_cases hlt : j < m
      · obtain ⟨x, y, hx⟩ : ∃ x y, L[j]? = some (x, y) := ⟨_, _, List.getElem?_eq_getElem (by rw [← HLn.out]; exact hlt)⟩
        have bk := chart_at HCL.out hx
        have mo := gm_most HCL.out hx
        rw [← HG.out] at mo
        have hs1 := hit_step (m := g) hx
        have E := Lib.hid hs1
        obtain ⟨hc1, hc2⟩ := steps_cellC HS.out hlt hx
        obtain ⟨hc3, hc4⟩ := steps_cellC HX.out hlt (reduceL_at hx)
        obtain ⟨hc5, hc6⟩ := steps_cellC HY.out hlt (lessL_at hx)
        have pb := part_bounds bk.2.2.1 bk.2.2.2 pp0 pp1
        have mb := mul_bd (a := x) (b := y) (A := 1000) (B := 50000) (by omega) (by omega) (by omega) (by omega)
        obtain ⟨u, hu⟩ : ∃ u, u = y * p / 100 := ⟨_, rfl⟩
        rw [← hu] at pb hc4
        obtain ⟨v, hv⟩ : ∃ v, v = maxZ 0 (y - h) := ⟨_, rfl⟩
        rw [← hv] at hc6
        have hmax : max 0 (y - h) = v := by rw [hv]; unfold maxZ; split <;> omega
        have V1 := IntWalk.i64_in (x * y) (by omega)
        have V2 := IntWalk.i64_in (p * y) (by omega)
        have d1 : decide (g < x * y) = false := by simp; omega
        have d2 : decide (y < u) = false := by simp; omega
        have d3 : decide (p * y < 100 * u) = false := by simp; omega
        have d4 : decide (100 * (u + 1) ≤ p * y) = false := by simp; omega
        have i1 : (0 : Int) ≤ (j : Int) := Int.natCast_nonneg _
        have i2 : (j : Int) < (m : Int) := by omega
        have u0 : 0 ≤ u := by omega
        have u1 : u ≤ 50000 := by omega
        have y0 : 0 ≤ y := by omega
        have y1 : y ≤ 50000 := by omega
        clear hx mo hs1 pb mb hu hv
        go_wp2
        go_quiet (fail)
        obtain ⟨w2, hw2⟩ : ∃ w2, w2 = wr.drewN nq := ⟨_, rfl⟩
        have k1 : w2.cell? ⟨b, o + j * 2, none⟩ = some (.int .i64 x) := by rw [hw2]; exact hc1
        have k2 : w2.cell? ⟨b, o + j * 2 + 1, none⟩ = some (.int .i64 y) := by rw [hw2]; exact hc2
        have k3 : w2.cell? ⟨b3, o3 + j * 2, none⟩ = some (.int .i64 x) := by rw [hw2]; exact hc3
        have k4 : w2.cell? ⟨b3, o3 + j * 2 + 1, none⟩ = some (.int .i64 u) := by rw [hw2]; exact hc4
        have k5 : w2.cell? ⟨b4, o4 + j * 2, none⟩ = some (.int .i64 x) := by rw [hw2]; exact hc5
        have k6 : w2.cell? ⟨b4, o4 + j * 2 + 1, none⟩ = some (.int .i64 v) := by rw [hw2]; exact hc6
        rw [← hw2]
        have HB2 : Hid (Below w.heap.size w w2) := by rw [hw2]; exact below_drewN HB.out _
        have HS2 : Hid (Steps w2 w2.heap.size (some ⟨b, o, none⟩) m L) := by rw [hw2]; exact HS.out.drewN _
        have HT2 : Hid (Steps w2 w2.heap.size (some ⟨b', o', none⟩) k M) := by rw [hw2]; exact HT.out.drewN _
        have HX2 : Hid (Steps w2 w2.heap.size (some ⟨b3, o3, none⟩) m (reduceL p L)) := by rw [hw2]; exact HX.out.drewN _
        have HY2 : Hid (Steps w2 w2.heap.size (some ⟨b4, o4, none⟩) m (lessL h L)) := by rw [hw2]; exact HY.out.drewN _
        have HZ2 : Hid (Steps w2 w2.heap.size (some ⟨b5, o5, none⟩) z (lesserL L M)) := by rw [hw2]; exact HZZ.out.drewN _
        clear HB HS HT HX HY HZZ hc1 hc2 hc3 hc4 hc5 hc6 hw2
        have END : ∀ (nq2 : Nat) (e : Bool), hitB g (L.take (j + 1)) = e → ∃ j' : Nat, j' ≤ m ∧ Value.int .i64 ((j : Int) + 1) = .int .i64 (j' : Int) ∧ Value.bool e = .bool (hitB g (L.take j')) ∧ Hid (Below w.heap.size w (w2.drewN nq2)) ∧ Hid (Steps (w2.drewN nq2) (w2.drewN nq2).heap.size (some ⟨b, o, none⟩) m L) ∧ Hid (Steps (w2.drewN nq2) (w2.drewN nq2).heap.size (some ⟨b', o', none⟩) k M) ∧ Hid (Steps (w2.drewN nq2) (w2.drewN nq2).heap.size (some ⟨b3, o3, none⟩) m (reduceL p L)) ∧ Hid (Steps (w2.drewN nq2) (w2.drewN nq2).heap.size (some ⟨b4, o4, none⟩) m (lessL h L)) ∧ Hid (Steps (w2.drewN nq2) (w2.drewN nq2).heap.size (some ⟨b5, o5, none⟩) z (lesserL L M)) := fun nq2 e he => ⟨j + 1, by omega, by go_num, by rw [he], below_drewN HB2.out _, HS2.out.drewN _, HT2.out.drewN _, HX2.out.drewN _, HY2.out.drewN _, HZ2.out.drewN _⟩
        have END := Lib.hid END
        clear HB2 HS2 HT2 HX2 HY2 HZ2
        go_upto_region 17 with fail
        go_cut [17] from 104 to 217 (fun s wx => s = .bool (hitB g (L.take (j + 1))) ∧ wx = w2)
        case first =>
          cases hh : hitB g (L.take j)
          · rw [hh] at E
            by_cases he : x * y = g
            · have e1 : (x * y == g) = true := by simpa using he
              have E2 : Hid (hitB g (L.take (j + 1)) = true) := by show _ = _; rw [E.out]; simpa using he
              clear he hh E
              go_wp2
              go_meet
              exact ⟨by rw [E2.out], rfl⟩
            · have e1 : (x * y == g) = false := by simpa using he
              have E2 : Hid (hitB g (L.take (j + 1)) = false) := by show _ = _; rw [E.out]; simpa using he
              clear he hh E
              go_wp2
              go_meet
              exact ⟨by rw [E2.out], rfl⟩
          · rw [hh] at E
            have E2 : Hid (hitB g (L.take (j + 1)) = true) := by show _ = _; rw [E.out]; rfl
            clear hh E
            go_wp2
            go_meet
            exact ⟨by rw [E2.out], rfl⟩
        case rest =>
          obtain ⟨rfl, rfl⟩ := hcut
          clear E
          go_wp2
          simp only [List.append_eq, List.cons_append, List.nil_append]
          refine wp_region_quiet_lit (by kernel_rfl) (lex_of (f := Try.f12) (n := 18) lex_cuts (by kernel_rfl)) ?_
          repeat (go_big_quiet_step (fail))
          refine wpQuiet_nil ?_
          intro _ hw'
          obtain ⟨nq2, hw''⟩ := hw'
          subst hw''
          go_wp2
          go_roundw
          case rel => exact END.out _ _ rfl
          case measure => simp [intOf]; omega
      · obtain rfl : j = m := by omega
        have hh : hitB g (L.take j) = true := by rw [List.take_of_length_le (by rw [← HLn.out]; exact Nat.le_refl _), HG.out]; exact gm_hit HCL.out
        go_wp2_with fail
        with_reducible refine (CV.out (some ⟨b5, o5, none⟩) z c5 _ _ HZZ.out (by omega) HCZ.out).mono ?_
        rintro en w9 ⟨rfl, hb⟩
        have S9 := Lib.hid (HS.out.next hb)
        have T9 := Lib.hid (HT.out.next hb)
        have Z9 := Lib.hid (HZZ.out.next hb)
        have B9 := Lib.hid (HB.out.trans (hb.mono HB.out.size))
        clear hb HB HS HT HX HY HZZ CV
        go_wp2
        go_loopw [20, 21, 22, 23, 24] (fun i _ _ _ _ wr => ∃ l : Nat, l ≤ z ∧ i = .int .i64 l ∧ Hid (Below w.heap.size w wr) ∧ Hid (Steps wr wr.heap.size (some ⟨b, o, none⟩) j L) ∧ Hid (Steps wr wr.heap.size (some ⟨b', o', none⟩) k M) ∧ Hid (Steps wr wr.heap.size (some ⟨b5, o5, none⟩) z (lesserL L M))) (fun i _ _ _ _ _ => z - (intOf i).toNat)
        case atStart => exact ⟨0, Nat.zero_le _, rfl, B9, S9, T9, Z9⟩
        case round =>
          clear B9 S9 T9 Z9
          obtain ⟨l, hl, rfl, HB, HS, HT, HZZ⟩ := hrel
          by_cases hlt2 : l < z
          · obtain ⟨r, hr, r0, r1, r2, r3⟩ := lesser_at HCL.out HCM.out (k := l) (by rw [← HZ.out]; exact hlt2)
            obtain ⟨hc1, hc2⟩ := steps_cellC HZZ.out hlt2 hr
            have i1 : (0 : Int) ≤ (l : Int) := Int.natCast_nonneg _
            have i2 : (l : Int) < (z : Int) := by omega
            have R2 := Lib.hid r2
            have R3 := Lib.hid r3
            have HR := Lib.hid hr
            clear r2 r3 hr
            go_wp2_with fail
            with_reducible refine (CAa.out r _ (by omega) R2.out HS.out).mono ?_
            rintro en w10 ⟨rfl, hb⟩
            have S10 := Lib.hid (HS.out.next hb)
            have T10 := Lib.hid (HT.out.next hb)
            have Z10 := Lib.hid (HZZ.out.next hb)
            have B10 := Lib.hid (HB.out.trans (hb.mono HB.out.size))
            clear hb HB HS HT HZZ hc1 hc2
            obtain ⟨hc1, hc2⟩ := steps_cellC Z10.out hlt2 HR.out
            go_wp2_with fail
            with_reducible refine (CAb.out r _ (by omega) R3.out T10.out).mono ?_
            rintro en w11 ⟨rfl, hb⟩
            have S11 := Lib.hid (S10.out.next hb)
            have T11 := Lib.hid (T10.out.next hb)
            have Z11 := Lib.hid (Z10.out.next hb)
            have B11 := Lib.hid (B10.out.trans (hb.mono B10.out.size))
            clear hb B10 S10 T10 Z10 hc1 hc2
            obtain ⟨hc1, hc2⟩ := steps_cellC Z11.out hlt2 HR.out
            obtain ⟨x, hx⟩ : ∃ x, x = minZ (loadV L r) (loadV M r) := ⟨_, rfl⟩
            rw [← hx] at hc2
            have hmin : min (loadV L r) (loadV M r) = x := by rw [hx]; unfold minZ; split <;> omega
            clear hx
            go_wp2
            go_roundw
            case rel => exact ⟨l + 1, by omega, by go_num, B11, S11, T11, Z11⟩
            case measure => simp [intOf]; omega
          · obtain rfl : l = z := by omega
            go_wp2
            go_ret
            exact ⟨by simp, HB.out⟩
end Go.Proofs.Ytiaineljcmjfoaa
