/- Zones: the plain laws of the two sums that make twice the area, and of where a point lies; of no program. -/
import Derived.Test.YtbdompadkeamdaaKit
import Derived.Test.YtbdompadkeamdaaCodeRes
import Derived.Test.YtbdompadkeamdaaZonePlain
namespace Go.Proofs.Ytbdompadkeamdaa
open Go.RowKit Go.WideShapes Go.ChangeShapes Go.Joins Go.Deep Go.Sort
set_option linter.unusedVariables false

/-- the term of the side behind corner j -/
def termZ (p q : Int × Int) : Int := p.1 * q.2 - q.1 * p.2
def loopZ (L : List (Int × Int)) : Nat → Int
  | 0 => 0
  | m + 1 => loopZ L m + termZ (ptAt L m) (ptAt L ((m + 1) % L.length))
theorem loop_chain (L : List (Int × Int)) : ∀ m, m < L.length → loopZ L m = chainZ (ptAt L) m
  | 0, _ => rfl
  | m + 1, h => by
    unfold loopZ chainZ termZ
    rw [loop_chain L m (by omega), Nat.mod_eq_of_lt h]
theorem loop_fan {L : List (Int × Int)} {m : Nat} (h : L.length = m + 1) : loopZ L (m + 1) = fanZ (ptAt L) m := by
  rw [fan_chain]
  show loopZ L m + termZ (ptAt L m) (ptAt L ((m + 1) % L.length)) = _
  rw [loop_chain L m (by omega), h, Nat.mod_self]
  rfl
theorem mul_place {x y : Int} (x0 : -10000 ≤ x) (x1 : x ≤ 10000) (y0 : -10000 ≤ y) (y1 : y ≤ 10000) : -100000000 ≤ x * y ∧ x * y ≤ 100000000 := by
  have := Int.mul_nonneg (show 0 ≤ 10000 - x by omega) (show 0 ≤ 10000 - y by omega)
  have := Int.mul_nonneg (show 0 ≤ 10000 + x by omega) (show 0 ≤ 10000 + y by omega)
  have := Int.mul_nonneg (show 0 ≤ 10000 - x by omega) (show 0 ≤ 10000 + y by omega)
  have := Int.mul_nonneg (show 0 ≤ 10000 + x by omega) (show 0 ≤ 10000 - y by omega)
  simp only [Int.sub_mul, Int.mul_sub, Int.add_mul, Int.mul_add] at *
  omega
theorem term_bounds {a b c d : Int} (h1 : placeB a b = true) (h2 : placeB c d = true) : (-100000000 ≤ a * d ∧ a * d ≤ 100000000) ∧ (-100000000 ≤ c * b ∧ c * b ≤ 100000000) := by
  rw [placeB_iff] at h1 h2
  exact ⟨mul_place (by omega) (by omega) (by omega) (by omega), mul_place (by omega) (by omega) (by omega) (by omega)⟩
theorem loop_bound {L : List (Int × Int)} (hp : placesB L = true) : ∀ m, m ≤ L.length → -200000000 * (m : Int) ≤ loopZ L m ∧ loopZ L m ≤ 200000000 * (m : Int)
  | 0, _ => by simp [loopZ]
  | m + 1, h => by
    have ih := loop_bound hp m (by omega)
    have t := term_bounds (places_get hp (show m < L.length by omega)) (places_get hp (Nat.mod_lt (m + 1) (show L.length > 0 by omega)))
    unfold loopZ termZ
    omega
theorem cross_bound2 {a b c d e f : Int} (h1 : placeB a b = true) (h2 : placeB c d = true) (h3 : placeB e f = true) : -800000000 ≤ crossV a b c d e f ∧ crossV a b c d e f ≤ 800000000 := by
  have := crossV_bound h1 h2 h3
  unfold crossV; omega
theorem fan_bound {L : List (Int × Int)} (hp : placesB L = true) : ∀ m, m < L.length → -800000000 * (m : Int) ≤ fanZ (ptAt L) m ∧ fanZ (ptAt L) m ≤ 800000000 * (m : Int)
  | 0, _ => by simp [fanZ]
  | m + 1, h => by
    have ih := fan_bound hp m (by omega)
    have t := cross_bound2 (places_get hp (show 0 < L.length by omega)) (places_get hp (show m < L.length by omega)) (places_get hp h)
    unfold fanZ
    omega
theorem fan_one (L : List (Int × Int)) : fanZ (ptAt L) 1 = 0 := by
  show (0 : Int) + crossV _ _ _ _ _ _ = 0
  unfold crossV
  simp

/-! ### where a point lies -/
def crossAt (L : List (Int × Int)) (x y : Int) (j : Nat) : Int := crossV (ptAt L j).1 (ptAt L j).2 (ptAt L ((j + 1) % L.length)).1 (ptAt L ((j + 1) % L.length)).2 x y
theorem crossAt_eq {L : List (Int × Int)} {x y a b c d : Int} {j n : Nat} (hL : L.length = n) (h1 : ptAt L j = (a, b)) (h2 : ptAt L ((j + 1) % n) = (c, d)) : crossAt L x y j = crossV a b c d x y := by
  unfold crossAt; rw [hL, h1, h2]
def inStep (v n : Int) : Int := if n < 0 then 0 else if n = 0 then (if v < 1 then v else 1) else v
def inState (L : List (Int × Int)) (x y : Int) : Nat → Int
  | 0 => 2
  | j + 1 => inStep (inState L x y j) (crossAt L x y j)
theorem inState_range (L : List (Int × Int)) (x y : Int) : ∀ j, 0 ≤ inState L x y j ∧ inState L x y j ≤ 2
  | 0 => by simp [inState]
  | j + 1 => by
    have := inState_range L x y j
    unfold inState inStep
    split
    · omega
    · split
      · split <;> omega
      · exact this
theorem inState_zero {L : List (Int × Int)} {x y : Int} {j : Nat} (h : inState L x y j = 0) : ∀ m, inState L x y (j + m) = 0
  | 0 => h
  | m + 1 => by
    have := inState_zero h m
    show inStep (inState L x y (j + m)) _ = 0
    rw [this]
    unfold inStep
    split
    · rfl
    · split <;> simp
theorem in_negative {L : List (Int × Int)} {x y v : Int} {j n : Nat} (hj : j < n) (h : crossAt L x y j = v) (hv : v < 0) : inState L x y n = 0 := by
  have h1 : inState L x y (j + 1) = 0 := by
    show inStep _ _ = 0
    rw [h]; unfold inStep; rw [if_pos hv]
  have := inState_zero h1 (n - (j + 1))
  rwa [show j + 1 + (n - (j + 1)) = n by omega] at this
theorem in_zero {L : List (Int × Int)} {x y v : Int} {j : Nat} (h : crossAt L x y j = v) (hv : v = 0) (h1 : 1 ≤ inState L x y j) : inState L x y (j + 1) = 1 := by
  show inStep _ _ = 1
  rw [h, hv]; unfold inStep
  rw [if_neg (by omega), if_pos rfl, if_neg (by omega)]
theorem in_plus {L : List (Int × Int)} {x y v : Int} {j : Nat} (h : crossAt L x y j = v) (hv : 0 < v) : inState L x y (j + 1) = inState L x y j := by
  show inStep _ _ = _
  rw [h]; unfold inStep
  rw [if_neg (by omega), if_neg (by omega)]
theorem in_next {L : List (Int × Int)} {x y v : Int} {j : Nat} (h : crossAt L x y j = v) : inState L x y (j + 1) = inStep (inState L x y j) v := by
  show inStep _ _ = _
  rw [h]
end Go.Proofs.Ytbdompadkeamdaa
