/- Walks of the law of the test of a chart, and of what the laws on charts share. -/
import Derived.Test.YtiaineljcmjfoaaProg
import Derived.Test.YtiaineljcmjfoaaKit
import Derived.Test.YtiaineljcmjfoaaBasics
import Derived.Test.YtiaineljcmjfoaaMem
import Derived.Test.YtiaineljcmjfoaaLists
import Derived.Test.YtiaineljcmjfoaaSteps
import Derived.Test.YtiaineljcmjfoaaCharts
namespace Go.Proofs.Ytiaineljcmjfoaa
open Go.RowKit Go.WideShapes Go.ChangeShapes Go.Joins Go.Deep Go.Sort
set_option linter.unusedVariables false

theorem sz_in {n : Nat} {q : Int} (h : (n : Int) ≤ q) (A : Option Addr) (c : Nat) (w : World) (q0 : 0 ≤ q) (q1 : q ≤ 1048576) (hn : n ≤ maxLen) : Calls Try.prog 13 #[.slice A n c, .int .i64 q] w fun e w' => e = .returned (.int .i64 (q - n)) ∧ w = w' := by
  have := szChartStepS_any A n c q w q0 q1 hn
  rwa [if_pos h] at this
theorem sz_out {n : Nat} {q : Int} (h : ¬ (n : Int) ≤ q) (A : Option Addr) (c : Nat) (w : World) (q0 : 0 ≤ q) (q1 : q ≤ 1048576) (hn : n ≤ maxLen) : Calls Try.prog 13 #[.slice A n c, .int .i64 q] w fun e w' => e = .returned (.int .i64 (-1)) ∧ w = w' := by
  have := szChartStepS_any A n c q w q0 q1 hn
  rwa [if_neg h] at this
/-- a copy in memory of the call's own -/
def RetSteps (w : World) (n : Nat) (L : List (Int × Int)) (e : Ending) (w' : World) : Prop := ∃ A, e = .returned (.slice A n n) ∧ w'.ownsRow w.heap.size 44 2 (.slice A n n) n (pairs L) ∧ Below w.heap.size w w'
theorem toSteps_any (A : Option Addr) (n c : Nat) (L : List (Int × Int)) (w : World) (h : Steps w w.heap.size A n L) (hn : n ≤ 1048576) : Calls Try.prog 15 #[.slice A n c] w (RetSteps w n L) :=
  (toChartStepS_any A n c L w h hn).mono fun e w' ⟨he, hk, hb⟩ => ⟨_, he, own_of_blk hk (Nat.le_refl _) h.1 (by unfold maxLen; omega), hb⟩
theorem specValidChart_any (A : Option Addr) (n c : Nat) (L : List (Int × Int)) (w : World) (h : Steps w w.heap.size A n L) (hn : n ≤ maxLen) :
    Calls Try.prog 18 #[.slice A n c] w fun e w' => e = .returned (.bool (chartB L)) ∧ Below w.heap.size w w' := by
  have H := Lib.hid (l03Ok_any A n c L w h hn)
  go_enter Try.func18, Try.ntmps18
  go_wp2_with fail
  refine H.out.mono ?_
  rintro e w1 ⟨rfl, hb⟩
  go_wp2
  go_ret
  exact ⟨rfl, hb⟩
set_option maxHeartbeats 1000000 in
theorem FnExactValidChart_walk (A : Option Addr) (n c : Nat) (L : List (Int × Int)) (hn : n ≤ maxLen) (w : World) (S0 : Steps w w.heap.size A n L) : Calls Try.prog 4 #[.slice A n c] w fun e w' => e = .returned (.bool true) ∧ Below w.heap.size w w' := by
  by_cases hs : (n : Int) ≤ 1048576
  · have B0 := Below.refl w.heap.size w
    clear hn
    go_enter Try.func4, Try.ntmps4
    go_wp2_with fail
    refine (sz_in hs _ _ _ (by omega) (by omega) (by unfold maxLen; omega)).mono ?_
    rintro e w' ⟨rfl, rfl⟩
    go_wp2_with fail
    refine (toSteps_any _ _ _ _ _ S0 (by omega)).mono ?_
    rintro e w1 ⟨Aa, rfl, Oa1, hb1⟩
    have S1 := S0.next hb1
    have B1 := B0.trans (hb1.mono B0.size)
    clear hb1 B0 S0
    have Sa1 := steps_own Oa1
    go_wp2_with fail
    refine (specValidChart_any _ _ _ _ _ Sa1 (by unfold maxLen; omega)).mono ?_
    rintro e w2 ⟨rfl, hb2⟩
    have S2 := S1.next hb2
    have B2 := B1.trans (hb2.mono B1.size)
    clear hb2 B1 S1 Oa1 Sa1
    go_wp2_with fail
    refine (toSteps_any _ _ _ _ _ S2 (by omega)).mono ?_
    rintro e w3 ⟨Ab, rfl, Ob3, hb3⟩
    have S3 := S2.next hb3
    have B3 := B2.trans (hb3.mono B2.size)
    clear hb3 B2 S2
    have Sb3 := steps_own Ob3
    go_wp2_with fail
    refine (implValidChart_any _ _ _ _ _ Sb3 (by unfold maxLen; omega)).mono ?_
    rintro e w4 ⟨rfl, hb4⟩
    have S4 := S3.next hb4
    have Ob4 := own_below Ob3 hb4
    have Sb4 := Sb3.next hb4
    have B4 := B3.trans (hb4.mono B3.size)
    clear hb4 B3 S3 Ob3 Sb3
    go_wp2_with fail
    refine (toSteps_any _ _ _ _ _ S4 (by omega)).mono ?_
    rintro e w5 ⟨Ad, rfl, Od5, hb5⟩
    have S5 := S4.next hb5
    have Ob5 := own_below Ob4 hb5
    have Sb5 := Sb4.next hb5
    have B5 := B4.trans (hb5.mono B4.size)
    clear hb5 B4 S4 Ob4 Sb4
    have Sd5 := steps_own Od5
    go_wp2_with fail
    refine (eqChartStepS_same _ _ _ _ _ _ _ Sb5 Sd5 (by unfold maxLen; omega)).mono ?_
    rintro e w6 ⟨rfl, hb6⟩
    have S6 := S5.next hb6
    have Ob6 := own_below Ob5 hb6
    have Sb6 := Sb5.next hb6
    have Od6 := own_below Od5 hb6
    have Sd6 := Sd5.next hb6
    have B6 := B5.trans (hb6.mono B5.size)
    clear hb6 B5 S5 Ob5 Sb5 Od5 Sd5
    go_wp2
    go_ret
    exact ⟨rfl, B6⟩
  · go_enter Try.func4, Try.ntmps4
    go_wp2_with fail
    refine (sz_out (by omega) _ _ _ (by omega) (by omega) hn).mono ?_
    rintro e w' ⟨rfl, rfl⟩
    go_wp2
    go_ret
    exact ⟨rfl, Below.refl _ _⟩
end Go.Proofs.Ytiaineljcmjfoaa
