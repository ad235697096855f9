/- Walks of squares of distances, square roots rounded up, and turns; the walks of their laws. -/
import Derived.Test.YtofoihohendjgaaDoorProg
import Derived.Test.YtofoihohendjgaaDoorKit
import Derived.Test.YtofoihohendjgaaDoorBasics
namespace Go.Proofs.YtofoihohendjgaaDoor
open Go.RowKit Go.WideShapes Go.ChangeShapes Go.Joins Go.Deep
set_option linter.unusedVariables false

/-! ### the plain laws -/
theorem sq_nonneg (a : Int) : 0 ≤ a * a := by
  rcases Int.le_total 0 a with h | h
  · exact Int.mul_nonneg h h
  · have := Int.mul_nonneg (Int.neg_nonneg_of_nonpos h) (Int.neg_nonneg_of_nonpos h)
    rwa [Int.neg_mul_neg] at this
theorem mul_self_mono {a b : Int} (h0 : 0 ≤ a) (h : a ≤ b) : a * a ≤ b * b := Int.mul_le_mul h h h0 (Int.le_trans h0 h)
theorem mul_self_lt {a b : Int} (h0 : 0 ≤ a) (h : a < b) : a * a < b * b := by
  have h1 : a * a ≤ a * b := Int.mul_le_mul_of_nonneg_left (Int.le_of_lt h) h0
  have h2 : a * b < b * b := Int.mul_lt_mul_of_pos_right h (by omega)
  omega
theorem sq_bound {a M : Int} (h1 : -M ≤ a) (h2 : a ≤ M) : 0 ≤ a * a ∧ a * a ≤ M * M := by
  refine ⟨sq_nonneg a, ?_⟩
  rcases Int.le_total 0 a with h | h
  · exact mul_self_mono h h2
  · have := mul_self_mono (a := -a) (b := M) (by omega) (by omega)
    rwa [Int.neg_mul_neg] at this
def sqD (ax ay bx y : Int) : Int := (ax - bx) * (ax - bx) + (ay - y) * (ay - y)
theorem sqD_bound {ax ay bx y : Int} (h1 : placeB ax ay = true) (h2 : placeB bx y = true) : 0 ≤ sqD ax ay bx y ∧ sqD ax ay bx y ≤ 800000000 := by
  rw [placeB_iff] at h1 h2
  have a := sq_bound (a := ax - bx) (M := 20000) (by omega) (by omega)
  have b := sq_bound (a := ay - y) (M := 20000) (by omega) (by omega)
  unfold sqD
  omega

/-- the least integer whose square is at least n -/
def IsRoot (n r : Int) : Prop := 0 ≤ r ∧ n ≤ r * r ∧ ∀ q, 0 ≤ q → q < r → q * q < n
theorem IsRoot.unique {n r s : Int} (h : IsRoot n r) (k : IsRoot n s) : r = s := by
  rcases Int.lt_trichotomy r s with l | e | l
  · have := k.2.2 r h.1 l; have := h.2.1; omega
  · exact e
  · have := h.2.2 s k.1 l; have := k.2.1; omega
def rootSearch (n : Int) : Nat → Int → Int → Int
  | 0, lo, _ => lo
  | f + 1, lo, hi => if lo < hi then (if n ≤ ((lo + hi) / 2) * ((lo + hi) / 2) then rootSearch n f lo ((lo + hi) / 2) else rootSearch n f ((lo + hi) / 2 + 1) hi) else lo
theorem rootSearch_is (n : Int) : ∀ (f : Nat) (lo hi : Int), 0 ≤ lo → lo ≤ hi → hi - lo < 2 ^ f → n ≤ hi * hi → (∀ q, 0 ≤ q → q < lo → q * q < n) → IsRoot n (rootSearch n f lo hi)
  | 0, lo, hi, h0, h1, h2, h3, h4 => by
    obtain rfl : lo = hi := by simp at h2; omega
    exact ⟨h0, h3, h4⟩
  | f + 1, lo, hi, h0, h1, h2, h3, h4 => by
    unfold rootSearch
    have h2' : hi - lo < 2 * 2 ^ f := by rw [Int.pow_succ] at h2; omega
    by_cases h : lo < hi
    · rw [if_pos h]
      by_cases k : n ≤ ((lo + hi) / 2) * ((lo + hi) / 2)
      · rw [if_pos k]
        exact rootSearch_is n f lo _ h0 (by omega) (by omega) k h4
      · rw [if_neg k]
        refine rootSearch_is n f _ hi (by omega) (by omega) (by omega) h3 (fun q q0 q1 => ?_)
        have := mul_self_mono q0 (show q ≤ (lo + hi) / 2 by omega)
        omega
    · rw [if_neg h]
      obtain rfl : lo = hi := by omega
      exact ⟨h0, h3, h4⟩
def rootV (n : Int) : Int := rootSearch n 21 0 2000000
theorem rootV_is {n : Int} (h : n ≤ 4000000000000) : IsRoot n (rootV n) :=
  rootSearch_is n 21 0 2000000 (by decide) (by decide) (by decide) (by omega) (fun q q0 q1 => by omega)
theorem rootV_eq {n r : Int} (h : n ≤ 4000000000000) (hr : IsRoot n r) : rootV n = r := (rootV_is h).unique hr
theorem rootV_bound {n : Int} (h : n ≤ 1000000000000) : 0 ≤ rootV n ∧ rootV n ≤ 1000000 := by
  have k := rootV_is (n := n) (by omega)
  refine ⟨k.1, ?_⟩
  rcases Int.lt_or_le 1000000 (rootV n) with l | l
  · have := k.2.2 1000000 (by decide) l
    omega
  · exact l
/-- the loop's end -/
theorem root_end {n lo hi : Int} (h : n ≤ 4000000000000) (h0 : 0 ≤ lo) (h1 : lo ≤ hi) (h2 : ¬ lo < hi) (h3 : n ≤ hi * hi) (h4 : ∀ q, 0 ≤ q → q < lo → q * q < n) : lo = rootV n := by
  obtain rfl : lo = hi := by omega
  exact (rootV_eq h ⟨h0, h3, h4⟩).symm
theorem root_up {n lo hi : Int} (h0 : 0 ≤ lo) (h1 : lo < hi) (k : ¬ n ≤ ((lo + hi) / 2) * ((lo + hi) / 2)) : ∀ q, 0 ≤ q → q < (lo + hi) / 2 + 1 → q * q < n := fun q q0 q1 => by
  have := mul_self_mono q0 (show q ≤ (lo + hi) / 2 by omega)
  omega

def turnV (a b : Int) : Int := if 12 < (b - a) % 24 then (b - a) % 24 - 24 else (b - a) % 24

theorem turnBetween_any (a b : Int) (w : World) (a1 : 0 ≤ a) (a2 : a ≤ 23) (b1 : 0 ≤ b) (b2 : b ≤ 23) : Calls Tryd.prog 36 #[.int .i64 a, .int .i64 b] w fun e w' => e = .returned (.int .i64 (turnV a b)) ∧ w = w' := by
  by_cases h : 12 < (b + -a) % 24
  · have R : Hid ((b + -a) % 24 - 24 = turnV a b) := by
      show _ = turnV a b
      unfold turnV; rw [if_pos (by omega)]; omega
    go_enter Tryd.func36, Tryd.ntmps36
    go_wp2_with (first | (go_at_call 35; refine (turned_any _ _ _ (by omega) (by omega) (by omega) (by omega)).mono ?_; rintro e w' ⟨rfl, rfl⟩))
    go_ret
    exact ⟨ret_int R.out, rfl⟩
  · have R : Hid ((b + -a) % 24 = turnV a b) := by
      show _ = turnV a b
      unfold turnV; rw [if_neg (by omega)]; omega
    go_enter Tryd.func36, Tryd.ntmps36
    go_wp2_with (first | (go_at_call 35; refine (turned_any _ _ _ (by omega) (by omega) (by omega) (by omega)).mono ?_; rintro e w' ⟨rfl, rfl⟩))
    go_ret
    exact ⟨ret_int R.out, rfl⟩
theorem l02Turn_any (a b : Int) (w : World) (a1 : 0 ≤ a) (a2 : a ≤ 23) (b1 : 0 ≤ b) (b2 : b ≤ 23) : Calls Tryd.prog 38 #[.int .i64 a, .int .i64 b] w fun e w' => e = .returned (.int .i64 (turnV a b)) ∧ w = w' := by
  by_cases h : 12 < (b - a) % 24
  · have R : Hid ((b - a) % 24 - 24 = turnV a b) := by
      show _ = turnV a b
      unfold turnV; rw [if_pos h]
    go_enter Tryd.func38, Tryd.ntmps38
    go_wp2_with (first | (go_at_call 41; refine (l02Mod_any _ _ (by omega) (by omega)).mono ?_; rintro e w' ⟨rfl, rfl⟩))
    go_ret
    exact ⟨ret_int R.out, rfl⟩
  · have R : Hid ((b - a) % 24 = turnV a b) := by
      show _ = turnV a b
      unfold turnV; rw [if_neg h]
    go_enter Tryd.func38, Tryd.ntmps38
    go_wp2_with (first | (go_at_call 41; refine (l02Mod_any _ _ (by omega) (by omega)).mono ?_; rintro e w' ⟨rfl, rfl⟩))
    go_ret
    exact ⟨ret_int R.out, rfl⟩

/-! ### the functions with a code -/
set_option maxHeartbeats 400000 in
theorem implTurnBetween_any (a b : Int) (w : World) : Calls Tryd.prog 18 #[.int .i64 a, .int .i64 b] w fun e w' => e = .returned (pairV (inB a 0 23 && inB b 0 23) (turnV a b) 2) ∧ w = w' := by
  cases h1 : inB a 0 23
  · rw [Bool.false_and, pairV_false]
    go_enter Tryd.func18, Tryd.ntmps18
    go_wp2_with (first | (go_at_call 25; refine (isDirection_any _ _).mono ?_; rintro e w' ⟨rfl, rfl⟩))
    go_ret2
    exact ⟨rfl, rfl⟩
  · skip
    cases h2 : inB b 0 23
    · rw [Bool.true_and, pairV_false]
      go_enter Tryd.func18, Tryd.ntmps18
      go_wp2_with (first | (go_at_call 25; refine (isDirection_any _ _).mono ?_; rintro e w' ⟨rfl, rfl⟩))
      go_ret2
      exact ⟨rfl, rfl⟩
    · rw [Bool.true_and, pairV_true]
      have b1 := inB_of h1
      have b2 := inB_of h2
      go_enter Tryd.func18, Tryd.ntmps18
      go_wp2_with (first | (go_at_call 25; refine (isDirection_any _ _).mono ?_; rintro e w' ⟨rfl, rfl⟩) | (go_at_call 36; refine (turnBetween_any _ _ _ (by omega) (by omega) (by omega) (by omega)).mono ?_; rintro e w' ⟨rfl, rfl⟩))
      go_ret2
      exact ⟨rfl, rfl⟩
set_option maxHeartbeats 400000 in
theorem specTurnBetween_any (a b : Int) (w : World) : Calls Tryd.prog 20 #[.int .i64 a, .int .i64 b] w fun e w' => e = .returned (pairV (inB a 0 23 && inB b 0 23) (turnV a b) 2) ∧ w = w' := by
  cases h1 : inB a 0 23
  · rw [Bool.false_and, pairV_false]
    go_enter Tryd.func20, Tryd.ntmps20
    go_wp2_with (first | (go_at_call 23; refine (l02Dir_any _ _).mono ?_; rintro e w' ⟨rfl, rfl⟩))
    go_ret2
    exact ⟨rfl, rfl⟩
  · skip
    cases h2 : inB b 0 23
    · rw [Bool.true_and, pairV_false]
      go_enter Tryd.func20, Tryd.ntmps20
      go_wp2_with (first | (go_at_call 23; refine (l02Dir_any _ _).mono ?_; rintro e w' ⟨rfl, rfl⟩))
      go_ret2
      exact ⟨rfl, rfl⟩
    · rw [Bool.true_and, pairV_true]
      have b1 := inB_of h1
      have b2 := inB_of h2
      go_enter Tryd.func20, Tryd.ntmps20
      go_wp2_with (first | (go_at_call 23; refine (l02Dir_any _ _).mono ?_; rintro e w' ⟨rfl, rfl⟩) | (go_at_call 38; refine (l02Turn_any _ _ _ (by omega) (by omega) (by omega) (by omega)).mono ?_; rintro e w' ⟨rfl, rfl⟩))
      go_ret2
      exact ⟨rfl, rfl⟩
end Go.Proofs.YtofoihohendjgaaDoor
