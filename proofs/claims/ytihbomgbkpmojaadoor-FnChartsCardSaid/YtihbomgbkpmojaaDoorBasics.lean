/- Walks of the smallest functions: the range test, the copies of plain structs into the program's own types, places, names, code names, turns, bases. -/
import Derived.Test.YtihbomgbkpmojaaDoorProg
import Derived.Test.YtihbomgbkpmojaaDoorKit
namespace Go.Proofs.YtihbomgbkpmojaaDoor
open Go.RowKit Go.WideShapes Go.ChangeShapes Go.Joins Go.Deep
set_option linter.unusedVariables false

theorem within_any (n l h : Int) (w : World) : Calls Tryd.prog 47 #[.int .i64 n, .int .i64 l, .int .i64 h] w fun e w' => e = .returned (.bool (inB n l h)) ∧ w = w' := by
  by_cases h1 : l ≤ n
  · by_cases h2 : n ≤ h
    · have e := inB_true h1 h2
      rw [e]; clear e
      go_enter Tryd.func47, Tryd.ntmps47
      go_wp2
      go_ret
      exact ⟨rfl, rfl⟩
    · have e : inB n l h = false := inB_false (by omega)
      rw [e]; clear e
      go_enter Tryd.func47, Tryd.ntmps47
      go_wp2
      go_ret
      exact ⟨rfl, rfl⟩
  · have e : inB n l h = false := inB_false (by omega)
    rw [e]; clear e
    go_enter Tryd.func47, Tryd.ntmps47
    go_wp2
    go_ret
    exact ⟨rfl, rfl⟩

theorem l00In_any (n l h : Int) (w : World) : Calls Tryd.prog 58 #[.int .i64 n, .int .i64 l, .int .i64 h] w fun e w' => e = .returned (.bool (inB n l h)) ∧ w = w' := by
  by_cases h1 : l ≤ n
  · by_cases h2 : n ≤ h
    · have e := inB_true h1 h2
      rw [e]; clear e
      go_enter Tryd.func58, Tryd.ntmps58
      go_wp2
      go_ret
      exact ⟨rfl, rfl⟩
    · have e : inB n l h = false := inB_false (by omega)
      rw [e]; clear e
      go_enter Tryd.func58, Tryd.ntmps58
      go_wp2
      go_ret
      exact ⟨rfl, rfl⟩
  · have e : inB n l h = false := inB_false (by omega)
    rw [e]; clear e
    go_enter Tryd.func58, Tryd.ntmps58
    go_wp2
    go_ret
    exact ⟨rfl, rfl⟩



/-! ### places -/



/-! ### turns -/
end Go.Proofs.YtihbomgbkpmojaaDoor
