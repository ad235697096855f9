/- Slices of points: the walks of the laws' copies and comparisons over them, and of both comparisons of the program and its reference. -/
import Derived.Test.YtofoihohendjgaaDoorProg
import Derived.Test.YtofoihohendjgaaDoorKit
import Derived.Test.YtofoihohendjgaaDoorBasics
import Derived.Test.YtofoihohendjgaaDoorMem
import Derived.Test.YtofoihohendjgaaDoorLists
import Derived.Laws.MakeOwn
import Derived.Laws.Entries
import Derived.Laws.StructEq
namespace Go.Proofs.YtofoihohendjgaaDoor
open Go.RowKit Go.WideShapes Go.ChangeShapes Go.Joins Go.Deep Go.Sort
set_option linter.unusedVariables false
theorem eqPoint_same (x y : Int) (w : World) : Calls Tryd.prog 9 #[.agg #[.int .i64 x, .int .i64 y], .agg #[.int .i64 x, .int .i64 y]] w fun e w' => e = .returned (.bool true) ∧ Below w.heap.size w w' := by
  go_enter Tryd.func9, Tryd.ntmps9
  go_wp2
  go_ret
  exact ⟨rfl, below_alloc2 w _ _⟩
end Go.Proofs.YtofoihohendjgaaDoor
