/- Walks of the law of the test of a chart, and of what the laws on charts share. -/
import Derived.Test.YtbdompadkeamdaaProg
import Derived.Test.YtbdompadkeamdaaKit
import Derived.Test.YtbdompadkeamdaaBasics
import Derived.Test.YtbdompadkeamdaaMem
import Derived.Test.YtbdompadkeamdaaLists
import Derived.Test.YtbdompadkeamdaaSteps
import Derived.Test.YtbdompadkeamdaaCharts
namespace Go.Proofs.Ytbdompadkeamdaa
open Go.RowKit Go.WideShapes Go.ChangeShapes Go.Joins Go.Deep Go.Sort
set_option linter.unusedVariables false

theorem sz_in {n : Nat} {q : Int} (h : (n : Int) ≤ q) (A : Option Addr) (c : Nat) (w : World) (q0 : 0 ≤ q) (q1 : q ≤ 1048576) (hn : n ≤ maxLen) : Calls Try.prog 68 #[.slice A n c, .int .i64 q] w fun e w' => e = .returned (.int .i64 (q - n)) ∧ w = w' := by
  have := szChartStepS_any A n c q w q0 q1 hn
  rwa [if_pos h] at this
theorem sz_out {n : Nat} {q : Int} (h : ¬ (n : Int) ≤ q) (A : Option Addr) (c : Nat) (w : World) (q0 : 0 ≤ q) (q1 : q ≤ 1048576) (hn : n ≤ maxLen) : Calls Try.prog 68 #[.slice A n c, .int .i64 q] w fun e w' => e = .returned (.int .i64 (-1)) ∧ w = w' := by
  have := szChartStepS_any A n c q w q0 q1 hn
  rwa [if_neg h] at this
/-- a copy in memory of the call's own -/
def RetSteps (w : World) (n : Nat) (L : List (Int × Int)) (e : Ending) (w' : World) : Prop := ∃ A, e = .returned (.slice A n n) ∧ w'.ownsRow w.heap.size 93 2 (.slice A n n) n (pairs L) ∧ Below w.heap.size w w'
theorem toSteps_any (A : Option Addr) (n c : Nat) (L : List (Int × Int)) (w : World) (h : Steps w w.heap.size A n L) (hn : n ≤ 1048576) : Calls Try.prog 70 #[.slice A n c] w (RetSteps w n L) :=
  (toChartStepS_any A n c L w h hn).mono fun e w' ⟨he, hk, hb⟩ => ⟨_, he, own_of_blk hk (Nat.le_refl _) h.1 (by unfold maxLen; omega), hb⟩
end Go.Proofs.Ytbdompadkeamdaa
