/- Charts and their loads: the load at a radius between the steps, the radius for a load, the greatest moment; their laws. -/
import Derived.Test.YtbdompadkeamdaaDoorProg
import Derived.Test.YtbdompadkeamdaaDoorKit
import Derived.Test.YtbdompadkeamdaaDoorBasics
import Derived.Test.YtbdompadkeamdaaDoorMem
import Derived.Test.YtbdompadkeamdaaDoorCodeRes
import Derived.Test.YtbdompadkeamdaaDoorLists
import Derived.Test.YtbdompadkeamdaaDoorSteps
import Derived.Test.YtbdompadkeamdaaDoorCharts
import Derived.Test.YtbdompadkeamdaaDoorChartLaws
import Derived.Test.YtbdompadkeamdaaDoorFinds
import Derived.Test.YtbdompadkeamdaaDoorLoads
import Derived.BigRegion
namespace Go.Proofs.YtbdompadkeamdaaDoor
open Go.RowKit Go.WideShapes Go.ChangeShapes Go.Joins Go.Deep Go.Sort
set_option linter.unusedVariables false
set_option linter.unusedSimpArgs false

/-! ### the plain laws -/
def ceilZ (n d : Int) : Int := (n + d - 1) / d
def interZ (p q x y r : Int) : Int := q - ceilZ ((q - y) * (r - p)) (x - p)
/-- the load at a radius, or -1 -/
def loadV (L : List (Int × Int)) (r : Int) : Int :=
  if findV L r < 0 then -1 else if findV L r = 0 then (L.getD 0 (0, 0)).2
  else interZ (L.getD ((findV L r).toNat - 1) (0, 0)).1 (L.getD ((findV L r).toNat - 1) (0, 0)).2 (L.getD (findV L r).toNat (0, 0)).1 (L.getD (findV L r).toNat (0, 0)).2 r
theorem getD_of {L : List (Int × Int)} {k : Nat} {s : Int × Int} (h : L[k]? = some s) : L.getD k (0, 0) = s := by rw [List.getD_eq_getElem?_getD, h]; rfl
theorem loadV_none {L : List (Int × Int)} {r : Int} (h : findV L r = -1) : loadV L r = -1 := by unfold loadV; rw [h]; rfl
theorem loadV_first {L : List (Int × Int)} {r x y : Int} (h : findV L r = ((0 : Nat) : Int)) (hk : L[0]? = some (x, y)) : loadV L r = y := by
  unfold loadV; rw [h, if_neg (by decide), if_pos (by simp), getD_of hk]
theorem loadV_inter {L : List (Int × Int)} {r p q x y : Int} {k : Nat} (h : findV L r = (k : Int)) (h0 : 0 < k) (hp : L[k - 1]? = some (p, q)) (hk : L[k]? = some (x, y)) : loadV L r = interZ p q x y r := by
  unfold loadV
  rw [h, if_neg (by omega), if_neg (by omega), Int.toNat_natCast, getD_of hp, getD_of hk]
theorem ceil_bounds {n d a : Int} (n0 : 0 ≤ n) (d0 : 1 ≤ d) (h : n ≤ a * d) : 0 ≤ ceilZ n d ∧ ceilZ n d ≤ a := by
  unfold ceilZ
  refine ⟨Int.ediv_nonneg (by omega) (by omega), ?_⟩
  have : (n + d - 1) / d < a + 1 := Int.ediv_lt_of_lt_mul (by omega) (by rw [Int.add_mul]; omega)
  omega
theorem inter_bounds {p q x y r : Int} (p1 : p < r) (r1 : r ≤ x) (h : y ≤ q) : y ≤ interZ p q x y r ∧ interZ p q x y r ≤ q := by
  have m : (q - y) * (r - p) ≤ (q - y) * (x - p) := Int.mul_le_mul_of_nonneg_left (show r - p ≤ x - p by omega) (show 0 ≤ q - y by omega)
  have n0 := Int.mul_nonneg (a := q - y) (b := r - p) (by omega) (by omega)
  have c := ceil_bounds (a := q - y) n0 (show 1 ≤ x - p by omega) m
  unfold interZ; omega
theorem loadV_bounds {L : List (Int × Int)} (h : chartB L = true) (r : Int) : (loadV L r = -1 ∧ findV L r = -1) ∨ (0 ≤ loadV L r ∧ loadV L r ≤ 50000 ∧ ¬ findV L r < 0) := by
  rcases findV_cases L r with ⟨hf, _⟩ | ⟨k, x, y, hf, hkl, hk, hr, hm⟩
  · exact .inl ⟨loadV_none hf, hf⟩
  · right
    have bk := chart_at h hk
    rcases Nat.eq_zero_or_pos k with h0 | h0
    · subst h0
      rw [loadV_first hf hk, hf]; omega
    · have hkp : k - 1 < L.length := by omega
      have hp : L[k - 1]? = some (L[k - 1].1, L[k - 1].2) := List.getElem?_eq_getElem hkp
      have bp := chart_at h hp
      have lk := chart_link h h0 hp hk
      have := hm (k - 1) _ (by omega) hp
      have := inter_bounds (p := L[k - 1].1) (q := L[k - 1].2) (x := x) (y := y) (r := r) this hr lk.2
      rw [loadV_inter hf h0 hp hk, hf]; omega


def loadRes (L : List (Int × Int)) (r : Int) : Value := if findV L r < 0 then .tuple #[.int .i64 0, .bool false] else .tuple #[.int .i64 (loadV L r), .bool true]
theorem loadRes_none {L : List (Int × Int)} {r : Int} (h : findV L r = -1) : loadRes L r = .tuple #[.int .i64 0, .bool false] := by unfold loadRes; rw [h]; rfl
theorem loadRes_some {L : List (Int × Int)} {r v : Int} {k : Nat} (h : findV L r = (k : Int)) (hv : loadV L r = v) : loadRes L r = .tuple #[.int .i64 v, .bool true] := by unfold loadRes; rw [h, if_neg (by omega), hv]
/-- the sums on the way to a load between two steps fit -/
theorem inter_wraps {p q x y r : Int} (p1 : p < r) (r1 : r ≤ x) (h : y ≤ q) (p0 : 1 ≤ p) (x1 : x ≤ 1000) (y0 : 0 ≤ y) (q1 : q ≤ 50000) :
    IntKind.i64.wrap (q - y) = q - y ∧ IntKind.i64.wrap (r - p) = r - p ∧ IntKind.i64.wrap ((q - y) * (r - p)) = (q - y) * (r - p) ∧ IntKind.i64.wrap (x - p) = x - p ∧
    IntKind.i64.wrap (q - ceilZ ((q - y) * (r - p)) (x - p)) = interZ p q x y r ∧ 0 ≤ (q - y) * (r - p) ∧ (q - y) * (r - p) ≤ 50000000 ∧ 1 ≤ x - p ∧ x - p ≤ 1000 := by
  have b := inter_bounds p1 r1 h
  have m := mul_bd (a := q - y) (b := r - p) (A := 50000) (B := 1000) (by omega) (by omega) (by omega) (by omega)
  refine ⟨IntWalk.i64_in _ (by omega), IntWalk.i64_in _ (by omega), IntWalk.i64_in _ (by omega), IntWalk.i64_in _ (by omega), ?_, m.1, by omega, by omega, by omega⟩
  have : q - ceilZ ((q - y) * (r - p)) (x - p) = interZ p q x y r := rfl
  rw [this]
  exact IntWalk.i64_in _ (by omega)
end Go.Proofs.YtbdompadkeamdaaDoor
