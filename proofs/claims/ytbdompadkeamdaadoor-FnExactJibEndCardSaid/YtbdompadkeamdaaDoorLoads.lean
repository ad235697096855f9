/- Charts and their loads: the codes, the load of a step, the load at a radius, the greatest moment, the radius for a load; their laws. -/
import Derived.Test.YtbdompadkeamdaaDoorProg
import Derived.Test.YtbdompadkeamdaaDoorKit
import Derived.Test.YtbdompadkeamdaaDoorBasics
import Derived.Test.YtbdompadkeamdaaDoorMem
import Derived.Test.YtbdompadkeamdaaDoorCodeRes
import Derived.Test.YtbdompadkeamdaaDoorLists
import Derived.Test.YtbdompadkeamdaaDoorSteps
import Derived.Test.YtbdompadkeamdaaDoorCharts
import Derived.Test.YtbdompadkeamdaaDoorChartLaws
import Derived.Test.YtbdompadkeamdaaDoorFinds
import Derived.BigRegion
namespace Go.Proofs.YtbdompadkeamdaaDoor
open Go.RowKit Go.WideShapes Go.ChangeShapes Go.Joins Go.Deep Go.Sort
set_option linter.unusedVariables false
set_option linter.unusedSimpArgs false

def resLoadStep (L : List (Int × Int)) (r : Int) : Value := codeRes (chartB L) (inB r 0 1000) (if findV L r < 0 then .tuple #[.int .i64 0, .int .i64 3] else .tuple #[.int .i64 (L.getD (findV L r).toNat (0, 0)).2, .int .i64 0]) (.int .i64 0)
theorem resLoadStep_form (L : List (Int × Int)) (r : Int) : ∃ x y : Int, resLoadStep L r = .tuple #[.int .i64 x, .int .i64 y] := by
  unfold resLoadStep codeRes
  split
  · split <;> exact ⟨_, _, rfl⟩
  · exact ⟨_, _, rfl⟩
  · exact ⟨_, _, rfl⟩
theorem resLoadStep_none {L : List (Int × Int)} {r : Int} (h : chartB L = true) (h' : inB r 0 1000 = true) (hf : findV L r = -1) : resLoadStep L r = .tuple #[.int .i64 0, .int .i64 3] := by
  unfold resLoadStep; rw [h, h', codeRes_tt, hf]; rfl
theorem resLoadStep_some {L : List (Int × Int)} {r : Int} (h : chartB L = true) (h' : inB r 0 1000 = true) {k : Nat} {x y : Int} (hf : findV L r = (k : Int)) (hk : L[k]? = some (x, y)) : resLoadStep L r = .tuple #[.int .i64 y, .int .i64 0] := by
  unfold resLoadStep; rw [h, h', codeRes_tt, hf, if_neg (by omega), Int.toNat_natCast, List.getD_eq_getElem?_getD, hk]; rfl
end Go.Proofs.YtbdompadkeamdaaDoor
