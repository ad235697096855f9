/- Charts compared: the walks of both comparisons and of their law. -/
import Derived.Test.YtbdompadkeamdaaProg
import Derived.Test.YtbdompadkeamdaaKit
import Derived.Test.YtbdompadkeamdaaBasics
import Derived.Test.YtbdompadkeamdaaMem
import Derived.Test.YtbdompadkeamdaaLists
import Derived.Test.YtbdompadkeamdaaSteps
import Derived.Test.YtbdompadkeamdaaCharts
import Derived.Test.YtbdompadkeamdaaChartLaws
import Derived.Laws.StructEq
namespace Go.Proofs.Ytbdompadkeamdaa
open Go.RowKit Go.WideShapes Go.ChangeShapes Go.Joins Go.Deep Go.Sort
set_option linter.unusedVariables false

theorem neqStep_run (x y x' y' : Int) (w : World) : (binOp .neq 93 (.agg #[.int .i64 x, .int .i64 y]) (.agg #[.int .i64 x', .int .i64 y'])).run Try.prog w = .ok (.bool (!(x == x' && y == y'))) w := by
  have u3 := Try.underlying2
  have a3 := Try.isAgg2
  have z3 := Try.sizeOf2
  have hS : Try.prog.underlying 93 = some (.struct (Try.prog.fieldsOf 93)) := by kernel_rfl
  have hp : Try.prog.stoodInHeld 93 = false := by kernel_rfl
  rw [run_neq_struct, show (10000 : Nat) = 9999 + 1 from rfl, run_equalIn_agg w 9999 93 _ _ hS hp]
  simp only [Program.fieldsOf, Try.underlying93]
  go_simp
  by_cases h1 : x = x' <;> by_cases h2 : y = y' <;> simp [h1, h2]

theorem take_ne {L L' : List (Int × Int)} {k : Nat} {s t : Int × Int} (h : L[k]? = some s) (h' : L'[k]? = some t) (hne : s ≠ t) : decide (L = L') = false := by
  rw [decide_eq_false_iff_not]
  rintro rfl
  rw [h] at h'
  exact hne (Option.some.inj h')
theorem take_eq {L L' : List (Int × Int)} {k : Nat} {s : Int × Int} (h : L[k]? = some s) (h' : L'[k]? = some s) (h0 : L.take k = L'.take k) : L.take (k + 1) = L'.take (k + 1) := by
  rw [List.take_add_one, List.take_add_one, h, h', h0]
theorem take_allS {L L' : List (Int × Int)} {n : Nat} (h1 : L.length = n) (h2 : L'.length = n) (h0 : L.take n = L'.take n) : decide (L = L') = true := by
  rw [List.take_of_length_le (by omega), List.take_of_length_le (by omega)] at h0
  simpa using h0
theorem len_ne {L L' : List (Int × Int)} {n m : Nat} (h1 : L.length = n) (h2 : L'.length = m) (h : n ≠ m) : decide (L = L') = false := by
  rw [decide_eq_false_iff_not]
  rintro rfl
  omega
set_option maxHeartbeats 1000000 in
theorem l03Same_any (A A' : Option Addr) (n m c c' : Nat) (L L' : List (Int × Int)) (w : World) (h : Steps w w.heap.size A n L) (h' : Steps w w.heap.size A' m L') (hn : n ≤ maxLen) (hm : m ≤ maxLen) :
    Calls Try.prog 106 #[.slice A n c, .slice A' m c'] w fun e w' => e = .returned (.bool (decide (L = L'))) ∧ Below w.heap.size w w' := by
  unfold maxLen at hn hm
  have H := Lib.hid h
  have H' := Lib.hid h'
  clear h h'
  have hg : Try.prog.eqGuardType Try.prog.depth 93 = false := by kernel_rfl
  by_cases hnm : n = m
  · subst hnm
    go_enter Try.func106, Try.ntmps106
    go_wp2
    go_loopw [5] (fun i wr => ∃ k : Nat, k ≤ n ∧ i = .int .i64 k ∧ Below w.heap.size w wr ∧ Hid (L.take k = L'.take k)) (fun i _ => n - (intOf i).toNat)
    case atStart => exact ⟨0, Nat.zero_le _, rfl, Below.refl _ _, by show L.take 0 = L'.take 0; simp⟩
    case round =>
      obtain ⟨k, hk, rfl, HB, HT⟩ := hrel
      by_cases hlt : k < n
      · obtain ⟨b, o, x, y, rfl, _, hx, hc1, hc2⟩ := (H.out.below HB).at_ hlt
        obtain ⟨b', o', x', y', rfl, _, hx', hc1', hc2'⟩ := (H'.out.below HB).at_ hlt
        have i1 : (0 : Int) ≤ (k : Int) := Int.natCast_nonneg _
        have i2 : (k : Int) < (n : Int) := by omega
        have kn := neqStep_run x y x' y'
        by_cases he : x = x' ∧ y = y'
        · obtain ⟨rfl, rfl⟩ := he
          have E := Lib.hid (take_eq hx hx' HT.out)
          clear hx hx'
          go_wp2
          go_quiet (fail)
          go_wp2
          exact ⟨⟨k + 1, by omega, by go_num, below_drewN HB _, E⟩, by simp [intOf]; omega⟩
        · have E := Lib.hid (take_ne hx hx' (by simpa using he))
          have ke : (!(x == x' && y == y')) = true := by
            by_cases h1 : x = x' <;> by_cases h2 : y = y' <;> simp_all
          rw [ke] at kn
          clear hx hx' he ke
          go_wp2
          go_quiet (fail)
          go_wp2
          go_ret
          exact ⟨ret_bool E.out.symm, below_drewN HB _⟩
      · obtain rfl : k = n := by omega
        have E := Lib.hid (take_allS H.out.1 H'.out.1 HT.out)
        go_wp2
        go_ret
        exact ⟨ret_bool E.out.symm, HB⟩
  · have E := Lib.hid (len_ne H.out.1 H'.out.1 hnm)
    have h1 : ((n : Int) != (m : Int)) = true := by rw [bne_iff_ne]; omega
    clear hnm
    go_enter Try.func106, Try.ntmps106
    go_wp2
    go_ret
    exact ⟨ret_bool E.out.symm, Below.refl _ _⟩
set_option maxHeartbeats 1000000 in
theorem slicesEqual_any (A A' : Option Addr) (n m c c' : Nat) (L L' : List (Int × Int)) (w : World) (h : Steps w w.heap.size A n L) (h' : Steps w w.heap.size A' m L') (hn : n ≤ maxLen) (hm : m ≤ maxLen) :
    Calls Try.prog 96 #[.slice A n c, .slice A' m c'] w fun e w' => e = .returned (.bool (decide (L = L'))) ∧ Below w.heap.size w w' := by
  unfold maxLen at hn hm
  have H := Lib.hid h
  have H' := Lib.hid h'
  clear h h'
  have hg : Try.prog.eqGuardType Try.prog.depth 93 = false := by kernel_rfl
  by_cases hnm : n = m
  · subst hnm
    go_enter Try.func96, Try.ntmps96
    go_wp2
    go_loopw [5, 13] (fun _ i wr => ∃ k : Nat, k ≤ n ∧ i = .int .i64 k ∧ Below w.heap.size w wr ∧ Hid (L.take k = L'.take k)) (fun _ i _ => n - (intOf i).toNat)
    case atStart => exact ⟨0, Nat.zero_le _, rfl, Below.refl _ _, by show L.take 0 = L'.take 0; simp⟩
    case round =>
      obtain ⟨k, hk, rfl, HB, HT⟩ := hrel
      by_cases hlt : k < n
      · obtain ⟨b, o, x, y, rfl, _, hx, hc1, hc2⟩ := (H.out.below HB).at_ hlt
        obtain ⟨b', o', x', y', rfl, _, hx', hc1', hc2'⟩ := (H'.out.below HB).at_ hlt
        have i1 : (0 : Int) ≤ (k : Int) := Int.natCast_nonneg _
        have i2 : (k : Int) < (n : Int) := by omega
        have kn := neqStep_run x y x' y'
        by_cases he : x = x' ∧ y = y'
        · obtain ⟨rfl, rfl⟩ := he
          have E := Lib.hid (take_eq hx hx' HT.out)
          clear hx hx'
          go_wp2
          go_quiet (fail)
          go_wp2
          exact ⟨⟨k + 1, by omega, by go_num, below_drewN HB _, E⟩, by simp [intOf]; omega⟩
        · have E := Lib.hid (take_ne hx hx' (by simpa using he))
          have ke : (!(x == x' && y == y')) = true := by
            by_cases h1 : x = x' <;> by_cases h2 : y = y' <;> simp_all
          rw [ke] at kn
          clear hx hx' he ke
          go_wp2
          go_quiet (fail)
          go_wp2
          go_ret
          exact ⟨ret_bool E.out.symm, below_drewN HB _⟩
      · obtain rfl : k = n := by omega
        have E := Lib.hid (take_allS H.out.1 H'.out.1 HT.out)
        go_wp2
        go_ret
        exact ⟨ret_bool E.out.symm, HB⟩
  · have E := Lib.hid (len_ne H.out.1 H'.out.1 hnm)
    have h1 : ((n : Int) != (m : Int)) = true := by rw [bne_iff_ne]; omega
    clear hnm
    go_enter Try.func96, Try.ntmps96
    go_wp2
    go_ret
    exact ⟨ret_bool E.out.symm, Below.refl _ _⟩
end Go.Proofs.Ytbdompadkeamdaa
