/- The plain law of distances: the way around is no shorter; of no program. -/
import Derived.Test.YtofoihohendjgaaKit
import Derived.Test.YtofoihohendjgaaDirs
namespace Go.Proofs.Ytofoihohendjgaa
open Go.RowKit Go.WideShapes Go.ChangeShapes Go.Joins Go.Deep Go.Sort
theorem cauchy {a b c d r s : Int} (r0 : 0 ≤ r) (s0 : 0 ≤ s) (h1 : a * a + b * b ≤ r * r) (h2 : c * c + d * d ≤ s * s) : a * c + b * d ≤ r * s := by
  rcases Int.lt_or_le (r * s) (a * c + b * d) with h | h
  · exfalso
    have rs := Int.mul_nonneg r0 s0
    have k1 : (r * s) * (r * s) < (a * c + b * d) * (a * c + b * d) :=
      Int.lt_of_le_of_lt (Int.mul_le_mul_of_nonneg_left (Int.le_of_lt h) rs) (Int.mul_lt_mul_of_pos_right h (by omega))
    have n1 := sq_nonneg a
    have n2 := sq_nonneg b
    have n3 := sq_nonneg c
    have n4 := sq_nonneg d
    have n5 := sq_nonneg r
    have k2 : (a * a + b * b) * (c * c + d * d) ≤ (r * r) * (s * s) := Int.mul_le_mul h1 h2 (by omega) n5
    have k3 : (a * c + b * d) * (a * c + b * d) + (a * d - b * c) * (a * d - b * c) = (a * a + b * b) * (c * c + d * d) := by grind
    have k4 : (r * s) * (r * s) = (r * r) * (s * s) := by grind
    have k5 := sq_nonneg (a * d - b * c)
    generalize (a * c + b * d) * (a * c + b * d) = A at *
    generalize (a * d - b * c) * (a * d - b * c) = B at *
    generalize (a * a + b * b) * (c * c + d * d) = C at *
    generalize (r * s) * (r * s) = D at *
    generalize (r * r) * (s * s) = E at *
    omega
  · exact h
theorem sqD_sym (ax ay bx y : Int) : sqD bx y ax ay = sqD ax ay bx y := by unfold sqD; grind
theorem tri {ax ay bx y cx z r s t : Int} (hr : IsRoot (sqD ax ay bx y) r) (hs : IsRoot (sqD bx y cx z) s) (ht : IsRoot (sqD ax ay cx z) t) : t ≤ r + s := by
  rcases Int.lt_or_le (r + s) t with h | h
  · exfalso
    have k := ht.2.2 (r + s) (by have := hr.1; have := hs.1; omega) h
    have c := cauchy (a := ax - bx) (b := ay - y) (c := bx - cx) (d := y - z) hr.1 hs.1 hr.2.1 hs.2.1
    have e : sqD ax ay cx z = sqD ax ay bx y + sqD bx y cx z + 2 * ((ax - bx) * (bx - cx) + (ay - y) * (y - z)) := by unfold sqD; grind
    have f : (r + s) * (r + s) = r * r + s * s + 2 * (r * s) := by grind
    have a := hr.2.1
    have b := hs.2.1
    rw [e, f] at k
    generalize sqD ax ay bx y = A at *
    generalize sqD bx y cx z = B at *
    generalize (ax - bx) * (bx - cx) + (ay - y) * (y - z) = C at *
    generalize r * s = D at *
    generalize r * r = E at *
    generalize s * s = F at *
    omega
  · exact h
theorem sq_zero {a : Int} (h : a * a = 0) : a = 0 := by
  rcases Int.mul_eq_zero.1 h with h | h <;> exact h
theorem sqD_zero (ax ay bx y : Int) : (ax == bx && ay == y) = (sqD ax ay bx y == 0) := by
  by_cases h : ax = bx ∧ ay = y
  · obtain ⟨rfl, rfl⟩ := h
    have e : sqD ax ay ax ay = 0 := by unfold sqD; grind
    simp [e]
  · have e : sqD ax ay bx y ≠ 0 := fun e => by
      unfold sqD at e
      have n1 := sq_nonneg (ax - bx)
      have n2 := sq_nonneg (ay - y)
      have z1 := sq_zero (a := ax - bx) (by omega)
      have z2 := sq_zero (a := ay - y) (by omega)
      omega
    have e1 : (sqD ax ay bx y == 0) = false := by simpa using e
    rw [e1]
    by_cases h1 : ax = bx <;> by_cases h2 : ay = y <;> simp_all
/-- all that the law asks of two distances and of a way around -/
theorem places_law {ax ay bx y cx z : Int} (h1 : placeB ax ay = true) (h2 : placeB bx y = true) (h3 : placeB cx z = true) : ∃ sq r s t : Int, sqD ax ay bx y = sq ∧ sqD bx y ax ay = sq ∧ rootV (sqD ax ay bx y) = r ∧ rootV (sqD bx y cx z) = s ∧ rootV (sqD ax ay cx z) = t ∧
    0 ≤ sq ∧ sq ≤ 800000000 ∧ 0 ≤ r ∧ r ≤ 1000000 ∧ 0 ≤ s ∧ s ≤ 1000000 ∧ t ≤ r + s ∧ sq ≤ r * r ∧ (r = 0 ∨ (r - 1) * (r - 1) < sq) ∧ (ax == bx && ay == y) = (sq == 0) := by
  obtain ⟨p0, p1⟩ := sqD_bound h1 h2
  obtain ⟨q0, q1⟩ := sqD_bound h2 h3
  obtain ⟨o0, o1⟩ := sqD_bound h1 h3
  have hr := rootV_is (n := sqD ax ay bx y) (by omega)
  have hs := rootV_is (n := sqD bx y cx z) (by omega)
  have ht := rootV_is (n := sqD ax ay cx z) (by omega)
  refine ⟨_, _, _, _, rfl, sqD_sym _ _ _ _, rfl, rfl, rfl, p0, p1, hr.1, (rootV_bound (by omega)).2, hs.1, (rootV_bound (by omega)).2, tri hr hs ht, hr.2.1, ?_, sqD_zero _ _ _ _⟩
  by_cases h : rootV (sqD ax ay bx y) = 0
  · exact .inl h
  · exact .inr (hr.2.2 _ (by have := hr.1; omega) (by omega))
end Go.Proofs.Ytofoihohendjgaa
