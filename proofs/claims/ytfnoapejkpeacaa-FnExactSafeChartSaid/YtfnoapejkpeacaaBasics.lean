/- Walks of the smallest functions: the range test, the copies of plain structs into the program's own types, places, names, code names, turns, bases. -/
import Derived.Test.YtfnoapejkpeacaaProg
import Derived.Test.YtfnoapejkpeacaaKit
namespace Go.Proofs.Ytfnoapejkpeacaa
open Go.RowKit Go.WideShapes Go.ChangeShapes Go.Joins Go.Deep
set_option linter.unusedVariables false

theorem within_any (n l h : Int) (w : World) : Calls Try.prog 63 #[.int .i64 n, .int .i64 l, .int .i64 h] w fun e w' => e = .returned (.bool (inB n l h)) ∧ w = w' := by
  by_cases h1 : l ≤ n
  · by_cases h2 : n ≤ h
    · have e := inB_true h1 h2
      rw [e]; clear e
      go_enter Try.func63, Try.ntmps63
      go_wp2
      go_ret
      exact ⟨rfl, rfl⟩
    · have e : inB n l h = false := inB_false (by omega)
      rw [e]; clear e
      go_enter Try.func63, Try.ntmps63
      go_wp2
      go_ret
      exact ⟨rfl, rfl⟩
  · have e : inB n l h = false := inB_false (by omega)
    rw [e]; clear e
    go_enter Try.func63, Try.ntmps63
    go_wp2
    go_ret
    exact ⟨rfl, rfl⟩

theorem l00In_any (n l h : Int) (w : World) : Calls Try.prog 61 #[.int .i64 n, .int .i64 l, .int .i64 h] w fun e w' => e = .returned (.bool (inB n l h)) ∧ w = w' := by
  by_cases h1 : l ≤ n
  · by_cases h2 : n ≤ h
    · have e := inB_true h1 h2
      rw [e]; clear e
      go_enter Try.func61, Try.ntmps61
      go_wp2
      go_ret
      exact ⟨rfl, rfl⟩
    · have e : inB n l h = false := inB_false (by omega)
      rw [e]; clear e
      go_enter Try.func61, Try.ntmps61
      go_wp2
      go_ret
      exact ⟨rfl, rfl⟩
  · have e : inB n l h = false := inB_false (by omega)
    rw [e]; clear e
    go_enter Try.func61, Try.ntmps61
    go_wp2
    go_ret
    exact ⟨rfl, rfl⟩


theorem toBase_any (a b c d e f g : Int) (w : World) : Calls Try.prog 13 #[.agg #[.int .i64 a, .int .i64 b, .int .i64 c, .int .i64 d, .int .i64 e, .int .i64 f, .int .i64 g]] w fun e1 w' => e1 = .returned (.agg #[.int .i64 a, .int .i64 b, .int .i64 c, .int .i64 d, .int .i64 e, .int .i64 f, .int .i64 g]) ∧ Below w.heap.size w w' := by
  go_enter Try.func13, Try.ntmps13
  go_wp2
  exact bodyPost_ret (v := .agg #[.int .i64 a, .int .i64 b, .int .i64 c, .int .i64 d, .int .i64 e, .int .i64 f, .int .i64 g]) (by simp [results, Try.results13, go_sem]) rfl ⟨rfl, below_alloc3 w _ _ _⟩

/-! ### places -/



/-! ### turns -/
end Go.Proofs.Ytfnoapejkpeacaa
