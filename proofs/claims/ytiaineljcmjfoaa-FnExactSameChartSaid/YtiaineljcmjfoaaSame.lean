/- Charts compared: the walks of both comparisons and of their law. -/
import Derived.Test.YtiaineljcmjfoaaProg
import Derived.Test.YtiaineljcmjfoaaKit
import Derived.Test.YtiaineljcmjfoaaBasics
import Derived.Test.YtiaineljcmjfoaaMem
import Derived.Test.YtiaineljcmjfoaaLists
import Derived.Test.YtiaineljcmjfoaaSteps
import Derived.Test.YtiaineljcmjfoaaCharts
import Derived.Test.YtiaineljcmjfoaaChartLaws
import Derived.Laws.StructEq
namespace Go.Proofs.Ytiaineljcmjfoaa
open Go.RowKit Go.WideShapes Go.ChangeShapes Go.Joins Go.Deep Go.Sort
set_option linter.unusedVariables false

theorem neqStep_run (x y x' y' : Int) (w : World) : (binOp .neq 44 (.agg #[.int .i64 x, .int .i64 y]) (.agg #[.int .i64 x', .int .i64 y'])).run Try.prog w = .ok (.bool (!(x == x' && y == y'))) w := by
  have u3 := Try.underlying2
  have a3 := Try.isAgg2
  have z3 := Try.sizeOf2
  have hS : Try.prog.underlying 44 = some (.struct (Try.prog.fieldsOf 44)) := by kernel_rfl
  have hp : Try.prog.stoodInHeld 44 = false := by kernel_rfl
  rw [run_neq_struct, show (10000 : Nat) = 9999 + 1 from rfl, run_equalIn_agg w 9999 44 _ _ hS hp]
  simp only [Program.fieldsOf, Try.underlying44]
  go_simp
  by_cases h1 : x = x' <;> by_cases h2 : y = y' <;> simp [h1, h2]

theorem take_ne {L L' : List (Int × Int)} {k : Nat} {s t : Int × Int} (h : L[k]? = some s) (h' : L'[k]? = some t) (hne : s ≠ t) : decide (L = L') = false := by
  rw [decide_eq_false_iff_not]
  rintro rfl
  rw [h] at h'
  exact hne (Option.some.inj h')
theorem take_eq {L L' : List (Int × Int)} {k : Nat} {s : Int × Int} (h : L[k]? = some s) (h' : L'[k]? = some s) (h0 : L.take k = L'.take k) : L.take (k + 1) = L'.take (k + 1) := by
  rw [List.take_add_one, List.take_add_one, h, h', h0]
theorem take_all {L L' : List (Int × Int)} {n : Nat} (h1 : L.length = n) (h2 : L'.length = n) (h0 : L.take n = L'.take n) : decide (L = L') = true := by
  rw [List.take_of_length_le (by omega), List.take_of_length_le (by omega)] at h0
  simpa using h0
theorem len_ne {L L' : List (Int × Int)} {n m : Nat} (h1 : L.length = n) (h2 : L'.length = m) (h : n ≠ m) : decide (L = L') = false := by
  rw [decide_eq_false_iff_not]
  rintro rfl
  omega
set_option maxHeartbeats 1000000 in
theorem l03Same_any (A A' : Option Addr) (n m c c' : Nat) (L L' : List (Int × Int)) (w : World) (h : Steps w w.heap.size A n L) (h' : Steps w w.heap.size A' m L') (hn : n ≤ maxLen) (hm : m ≤ maxLen) :
    Calls Try.prog 39 #[.slice A n c, .slice A' m c'] w fun e w' => e = .returned (.bool (decide (L = L'))) ∧ Below w.heap.size w w' := by
  unfold maxLen at hn hm
  have H := Lib.hid h
  have H' := Lib.hid h'
  clear h h'
  have hg : Try.prog.eqGuardType Try.prog.depth 44 = false := by kernel_rfl
  by_cases hnm : n = m
  · subst hnm
    go_enter Try.func39, Try.ntmps39
    go_wp2
    go_loopw [5] (fun i wr => ∃ k : Nat, k ≤ n ∧ i = .int .i64 k ∧ Below w.heap.size w wr ∧ Hid (L.take k = L'.take k)) (fun i _ => n - (intOf i).toNat)
    case atStart => exact ⟨0, Nat.zero_le _, rfl, Below.refl _ _, by show L.take 0 = L'.take 0; simp⟩
    case round =>
      obtain ⟨k, hk, rfl, HB, HT⟩ := hrel
      by_cases hlt : k < n
      · obtain ⟨b, o, x, y, rfl, _, hx, hc1, hc2⟩ := (H.out.below HB).at_ hlt
        obtain ⟨b', o', x', y', rfl, _, hx', hc1', hc2'⟩ := (H'.out.below HB).at_ hlt
        have i1 : (0 : Int) ≤ (k : Int) := Int.natCast_nonneg _
        have i2 : (k : Int) < (n : Int) := by omega
        have kn := neqStep_run x y x' y'
        by_cases he : x = x' ∧ y = y'
        · obtain ⟨rfl, rfl⟩ := he
          have E := Lib.hid (take_eq hx hx' HT.out)
          clear hx hx'
          go_wp2
          go_quiet (fail)
          go_wp2
          exact ⟨⟨k + 1, by omega, by go_num, below_drewN HB _, E⟩, by simp [intOf]; omega⟩
        · have E := Lib.hid (take_ne hx hx' (by simpa using he))
          have ke : (!(x == x' && y == y')) = true := by
            by_cases h1 : x = x' <;> by_cases h2 : y = y' <;> simp_all
          rw [ke] at kn
          clear hx hx' he ke
          go_wp2
          go_quiet (fail)
          go_wp2
          go_ret
          exact ⟨ret_bool E.out.symm, below_drewN HB _⟩
      · obtain rfl : k = n := by omega
        have E := Lib.hid (take_all H.out.1 H'.out.1 HT.out)
        go_wp2
        go_ret
        exact ⟨ret_bool E.out.symm, HB⟩
  · have E := Lib.hid (len_ne H.out.1 H'.out.1 hnm)
    have h1 : ((n : Int) != (m : Int)) = true := by rw [bne_iff_ne]; omega
    clear hnm
    go_enter Try.func39, Try.ntmps39
    go_wp2
    go_ret
    exact ⟨ret_bool E.out.symm, Below.refl _ _⟩
set_option maxHeartbeats 1000000 in
theorem slicesEqual_any (A A' : Option Addr) (n m c c' : Nat) (L L' : List (Int × Int)) (w : World) (h : Steps w w.heap.size A n L) (h' : Steps w w.heap.size A' m L') (hn : n ≤ maxLen) (hm : m ≤ maxLen) :
    Calls Try.prog 41 #[.slice A n c, .slice A' m c'] w fun e w' => e = .returned (.bool (decide (L = L'))) ∧ Below w.heap.size w w' := by
  unfold maxLen at hn hm
  have H := Lib.hid h
  have H' := Lib.hid h'
  clear h h'
  have hg : Try.prog.eqGuardType Try.prog.depth 44 = false := by kernel_rfl
  by_cases hnm : n = m
  · subst hnm
    go_enter Try.func41, Try.ntmps41
    go_wp2
    go_loopw [5, 13] (fun _ i wr => ∃ k : Nat, k ≤ n ∧ i = .int .i64 k ∧ Below w.heap.size w wr ∧ Hid (L.take k = L'.take k)) (fun _ i _ => n - (intOf i).toNat)
    case atStart => exact ⟨0, Nat.zero_le _, rfl, Below.refl _ _, by show L.take 0 = L'.take 0; simp⟩
    case round =>
      obtain ⟨k, hk, rfl, HB, HT⟩ := hrel
      by_cases hlt : k < n
      · obtain ⟨b, o, x, y, rfl, _, hx, hc1, hc2⟩ := (H.out.below HB).at_ hlt
        obtain ⟨b', o', x', y', rfl, _, hx', hc1', hc2'⟩ := (H'.out.below HB).at_ hlt
        have i1 : (0 : Int) ≤ (k : Int) := Int.natCast_nonneg _
        have i2 : (k : Int) < (n : Int) := by omega
        have kn := neqStep_run x y x' y'
        by_cases he : x = x' ∧ y = y'
        · obtain ⟨rfl, rfl⟩ := he
          have E := Lib.hid (take_eq hx hx' HT.out)
          clear hx hx'
          go_wp2
          go_quiet (fail)
          go_wp2
          exact ⟨⟨k + 1, by omega, by go_num, below_drewN HB _, E⟩, by simp [intOf]; omega⟩
        · have E := Lib.hid (take_ne hx hx' (by simpa using he))
          have ke : (!(x == x' && y == y')) = true := by
            by_cases h1 : x = x' <;> by_cases h2 : y = y' <;> simp_all
          rw [ke] at kn
          clear hx hx' he ke
          go_wp2
          go_quiet (fail)
          go_wp2
          go_ret
          exact ⟨ret_bool E.out.symm, below_drewN HB _⟩
      · obtain rfl : k = n := by omega
        have E := Lib.hid (take_all H.out.1 H'.out.1 HT.out)
        go_wp2
        go_ret
        exact ⟨ret_bool E.out.symm, HB⟩
  · have E := Lib.hid (len_ne H.out.1 H'.out.1 hnm)
    have h1 : ((n : Int) != (m : Int)) = true := by rw [bne_iff_ne]; omega
    clear hnm
    go_enter Try.func41, Try.ntmps41
    go_wp2
    go_ret
    exact ⟨ret_bool E.out.symm, Below.refl _ _⟩
theorem specSameChart_any (A A' : Option Addr) (n m c c' : Nat) (L L' : List (Int × Int)) (w : World) (h : Steps w w.heap.size A n L) (h' : Steps w w.heap.size A' m L') (hn : n ≤ maxLen) (hm : m ≤ maxLen) :
    Calls Try.prog 14 #[.slice A n c, .slice A' m c'] w fun e w' => e = .returned (.bool (decide (L = L'))) ∧ Below w.heap.size w w' := by
  have H := Lib.hid (l03Same_any A A' n m c c' L L' w h h' hn hm)
  clear h h' hn hm
  generalize decide (L = L') = r at H ⊢
  go_enter Try.func14, Try.ntmps14
  go_wp2_with fail
  refine H.out.mono ?_
  rintro e w1 ⟨rfl, hb⟩
  go_wp2
  go_ret
  exact ⟨rfl, hb⟩
theorem implSameChart_any (A A' : Option Addr) (n m c c' : Nat) (L L' : List (Int × Int)) (w : World) (h : Steps w w.heap.size A n L) (h' : Steps w w.heap.size A' m L') (hn : n ≤ maxLen) (hm : m ≤ maxLen) :
    Calls Try.prog 16 #[.slice A n c, .slice A' m c'] w fun e w' => e = .returned (.bool (decide (L = L'))) ∧ Below w.heap.size w w' := by
  have H := Lib.hid (slicesEqual_any A A' n m c c' L L' w h h' hn hm)
  clear h h' hn hm
  generalize decide (L = L') = r at H ⊢
  go_enter Try.func16, Try.ntmps16
  go_wp2_with fail
  refine H.out.mono ?_
  rintro e w1 ⟨rfl, hb⟩
  go_wp2
  go_ret
  exact ⟨rfl, hb⟩
set_option maxHeartbeats 1000000 in
theorem FnExactSameChart_walk (w : World) (A : Option Addr) (n c : Nat) (L : List (Int × Int)) (hn : n ≤ maxLen) (S0 : Steps w w.heap.size A n L) (A' : Option Addr) (n' c' : Nat) (L' : List (Int × Int)) (hn' : n' ≤ maxLen) (S'0 : Steps w w.heap.size A' n' L') : Calls Try.prog 3 #[.slice A n c, .slice A' n' c'] w fun e w' => e = .returned (.bool true) ∧ Below w.heap.size w w' := by
  by_cases hs : (n : Int) ≤ 1048576
  · by_cases hs' : (n' : Int) ≤ 1048576 - n
    · have B0 := Below.refl w.heap.size w
      clear hn hn'
      go_enter Try.func3, Try.ntmps3
      go_wp2_with fail
      refine (sz_in (by omega) _ _ _ (by omega) (by omega) (by unfold maxLen; omega)).mono ?_
      rintro e w' ⟨rfl, rfl⟩
      go_wp2_with fail
      refine (sz_in (by omega) _ _ _ (by omega) (by omega) (by unfold maxLen; omega)).mono ?_
      rintro e w' ⟨rfl, rfl⟩
      go_wp2_with fail
      refine (toSteps_any _ _ _ _ _ S0 (by omega)).mono ?_
      rintro e w1 ⟨Aa, rfl, Oa1, hb1⟩
      have S1 := S0.next hb1
      have S'1 := S'0.next hb1
      have B1 := B0.trans (hb1.mono B0.size)
      clear hb1 B0 S0 S'0
      have Sa1 := steps_own Oa1
      go_wp2_with fail
      refine (toSteps_any _ _ _ _ _ S'1 (by omega)).mono ?_
      rintro e w2 ⟨Ab, rfl, Ob2, hb2⟩
      have S2 := S1.next hb2
      have S'2 := S'1.next hb2
      have Oa2 := own_below Oa1 hb2
      have Sa2 := Sa1.next hb2
      have B2 := B1.trans (hb2.mono B1.size)
      clear hb2 B1 S1 S'1 Oa1 Sa1
      have Sb2 := steps_own Ob2
      go_wp2_with fail
      refine (specSameChart_any _ _ _ _ _ _ _ _ _ Sa2 Sb2 (by unfold maxLen; omega) (by unfold maxLen; omega)).mono ?_
      rintro e w3 ⟨rfl, hb3⟩
      have S3 := S2.next hb3
      have S'3 := S'2.next hb3
      have B3 := B2.trans (hb3.mono B2.size)
      clear hb3 B2 S2 S'2 Oa2 Sa2 Ob2 Sb2
      go_wp2_with fail
      refine (toSteps_any _ _ _ _ _ S3 (by omega)).mono ?_
      rintro e w4 ⟨Ad, rfl, Od4, hb4⟩
      have S4 := S3.next hb4
      have S'4 := S'3.next hb4
      have B4 := B3.trans (hb4.mono B3.size)
      clear hb4 B3 S3 S'3
      have Sd4 := steps_own Od4
      go_wp2_with fail
      refine (toSteps_any _ _ _ _ _ S'4 (by omega)).mono ?_
      rintro e w5 ⟨Af, rfl, Of5, hb5⟩
      have S5 := S4.next hb5
      have S'5 := S'4.next hb5
      have Od5 := own_below Od4 hb5
      have Sd5 := Sd4.next hb5
      have B5 := B4.trans (hb5.mono B4.size)
      clear hb5 B4 S4 S'4 Od4 Sd4
      have Sf5 := steps_own Of5
      go_wp2_with fail
      refine (implSameChart_any _ _ _ _ _ _ _ _ _ Sd5 Sf5 (by unfold maxLen; omega) (by unfold maxLen; omega)).mono ?_
      rintro e w6 ⟨rfl, hb6⟩
      have S6 := S5.next hb6
      have S'6 := S'5.next hb6
      have Od6 := own_below Od5 hb6
      have Sd6 := Sd5.next hb6
      have Of6 := own_below Of5 hb6
      have Sf6 := Sf5.next hb6
      have B6 := B5.trans (hb6.mono B5.size)
      clear hb6 B5 S5 S'5 Od5 Sd5 Of5 Sf5
      go_wp2_with fail
      refine (toSteps_any _ _ _ _ _ S6 (by omega)).mono ?_
      rintro e w7 ⟨Ap, rfl, Op7, hb7⟩
      have S7 := S6.next hb7
      have S'7 := S'6.next hb7
      have Od7 := own_below Od6 hb7
      have Sd7 := Sd6.next hb7
      have Of7 := own_below Of6 hb7
      have Sf7 := Sf6.next hb7
      have B7 := B6.trans (hb7.mono B6.size)
      clear hb7 B6 S6 S'6 Od6 Sd6 Of6 Sf6
      have Sp7 := steps_own Op7
      go_wp2_with fail
      refine (eqChartStepS_same _ _ _ _ _ _ _ Sd7 Sp7 (by unfold maxLen; omega)).mono ?_
      rintro e w8 ⟨rfl, hb8⟩
      have S8 := S7.next hb8
      have S'8 := S'7.next hb8
      have Od8 := own_below Od7 hb8
      have Sd8 := Sd7.next hb8
      have Of8 := own_below Of7 hb8
      have Sf8 := Sf7.next hb8
      have B8 := B7.trans (hb8.mono B7.size)
      clear hb8 B7 S7 S'7 Od7 Sd7 Of7 Sf7 Op7 Sp7
      go_wp2_with fail
      refine (toSteps_any _ _ _ _ _ S'8 (by omega)).mono ?_
      rintro e w9 ⟨Aq, rfl, Oq9, hb9⟩
      have S9 := S8.next hb9
      have S'9 := S'8.next hb9
      have Od9 := own_below Od8 hb9
      have Sd9 := Sd8.next hb9
      have Of9 := own_below Of8 hb9
      have Sf9 := Sf8.next hb9
      have B9 := B8.trans (hb9.mono B8.size)
      clear hb9 B8 S8 S'8 Od8 Sd8 Of8 Sf8
      have Sq9 := steps_own Oq9
      go_wp2_with fail
      refine (eqChartStepS_same _ _ _ _ _ _ _ Sf9 Sq9 (by unfold maxLen; omega)).mono ?_
      rintro e w10 ⟨rfl, hb10⟩
      have S10 := S9.next hb10
      have S'10 := S'9.next hb10
      have Od10 := own_below Od9 hb10
      have Sd10 := Sd9.next hb10
      have Of10 := own_below Of9 hb10
      have Sf10 := Sf9.next hb10
      have Oq10 := own_below Oq9 hb10
      have Sq10 := Sq9.next hb10
      have B10 := B9.trans (hb10.mono B9.size)
      clear hb10 B9 S9 S'9 Od9 Sd9 Of9 Sf9 Oq9 Sq9
      go_wp2
      go_ret
      exact ⟨rfl, B10⟩
    · go_enter Try.func3, Try.ntmps3
      go_wp2_with fail
      refine (sz_in (by omega) _ _ _ (by omega) (by omega) (by unfold maxLen; omega)).mono ?_
      rintro e w' ⟨rfl, rfl⟩
      go_wp2_with fail
      refine (sz_out (by omega) _ _ _ (by omega) (by omega) hn').mono ?_
      rintro e w' ⟨rfl, rfl⟩
      go_wp2
      go_ret
      exact ⟨rfl, Below.refl _ _⟩
  · go_enter Try.func3, Try.ntmps3
    go_wp2_with fail
    refine (sz_out (by omega) _ _ _ (by omega) (by omega) hn).mono ?_
    rintro e w' ⟨rfl, rfl⟩
    go_wp2
    go_ret
    exact ⟨rfl, Below.refl _ _⟩
end Go.Proofs.Ytiaineljcmjfoaa
