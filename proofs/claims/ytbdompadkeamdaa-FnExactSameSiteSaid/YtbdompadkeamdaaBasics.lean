/- Walks of the smallest functions: the range test, the copies of plain structs into the program's own types, places, names, code names, turns, bases. -/
import Derived.Test.YtbdompadkeamdaaProg
import Derived.Test.YtbdompadkeamdaaKit
namespace Go.Proofs.Ytbdompadkeamdaa
open Go.RowKit Go.WideShapes Go.ChangeShapes Go.Joins Go.Deep
set_option linter.unusedVariables false

theorem within_any (n l h : Int) (w : World) : Calls Try.prog 52 #[.int .i64 n, .int .i64 l, .int .i64 h] w fun e w' => e = .returned (.bool (inB n l h)) ∧ w = w' := by
  by_cases h1 : l ≤ n
  · by_cases h2 : n ≤ h
    · have e := inB_true h1 h2
      rw [e]; clear e
      go_enter Try.func52, Try.ntmps52
      go_wp2
      go_ret
      exact ⟨rfl, rfl⟩
    · have e : inB n l h = false := inB_false (by omega)
      rw [e]; clear e
      go_enter Try.func52, Try.ntmps52
      go_wp2
      go_ret
      exact ⟨rfl, rfl⟩
  · have e : inB n l h = false := inB_false (by omega)
    rw [e]; clear e
    go_enter Try.func52, Try.ntmps52
    go_wp2
    go_ret
    exact ⟨rfl, rfl⟩

theorem l00In_any (n l h : Int) (w : World) : Calls Try.prog 83 #[.int .i64 n, .int .i64 l, .int .i64 h] w fun e w' => e = .returned (.bool (inB n l h)) ∧ w = w' := by
  by_cases h1 : l ≤ n
  · by_cases h2 : n ≤ h
    · have e := inB_true h1 h2
      rw [e]; clear e
      go_enter Try.func83, Try.ntmps83
      go_wp2
      go_ret
      exact ⟨rfl, rfl⟩
    · have e : inB n l h = false := inB_false (by omega)
      rw [e]; clear e
      go_enter Try.func83, Try.ntmps83
      go_wp2
      go_ret
      exact ⟨rfl, rfl⟩
  · have e : inB n l h = false := inB_false (by omega)
    rw [e]; clear e
    go_enter Try.func83, Try.ntmps83
    go_wp2
    go_ret
    exact ⟨rfl, rfl⟩

theorem toPoint_any (x y : Int) (w : World) : Calls Try.prog 26 #[.agg #[.int .i64 x, .int .i64 y]] w fun e w' => e = .returned (.agg #[.int .i64 x, .int .i64 y]) ∧ Below w.heap.size w w' := by
  go_enter Try.func26, Try.ntmps26
  go_wp2
  exact bodyPost_ret (v := .agg #[.int .i64 x, .int .i64 y]) (by simp [results, Try.results26, go_sem]) rfl ⟨rfl, below_alloc3 w _ _ _⟩


/-! ### places -/
theorem l02Ok_any (x y : Int) (w : World) : Calls Try.prog 57 #[.agg #[.int .i64 x, .int .i64 y]] w fun e w' => e = .returned (.bool (placeB x y)) ∧ Below w.heap.size w w' := by
  cases h1 : inB x (-10000) 10000
  · have e : placeB x y = false := by simp [placeB, h1]
    rw [e]; clear e
    go_enter Try.func57, Try.ntmps57
    go_wp2_with (go_at_call 83; refine (l00In_any _ _ _ _).mono ?_; rintro e w' ⟨rfl, rfl⟩)
    go_ret
    exact ⟨rfl, below_alloc1 w _⟩
  · have e : placeB x y = inB y (-10000) 10000 := by simp [placeB, h1]
    rw [e]; clear e
    go_enter Try.func57, Try.ntmps57
    go_wp2_with (go_at_call 83; refine (l00In_any _ _ _ _).mono ?_; rintro e w' ⟨rfl, rfl⟩)
    go_ret
    exact ⟨rfl, below_alloc1 w _⟩

theorem implValidPlace_any (x y : Int) (w : World) : Calls Try.prog 59 #[.agg #[.int .i64 x, .int .i64 y]] w fun e w' => e = .returned (.bool (placeB x y)) ∧ Below w.heap.size w w' := by
  cases h1 : inB x (-10000) 10000
  · have e : placeB x y = false := by simp [placeB, h1]
    rw [e]; clear e
    go_enter Try.func59, Try.ntmps59
    go_wp2_with (go_at_call 52; refine (within_any _ _ _ _).mono ?_; rintro e w' ⟨rfl, rfl⟩)
    go_ret
    exact ⟨rfl, below_alloc1 w _⟩
  · have e : placeB x y = inB y (-10000) 10000 := by simp [placeB, h1]
    rw [e]; clear e
    go_enter Try.func59, Try.ntmps59
    go_wp2_with (go_at_call 52; refine (within_any _ _ _ _).mono ?_; rintro e w' ⟨rfl, rfl⟩)
    go_ret
    exact ⟨rfl, below_alloc1 w _⟩


/-! ### turns -/
end Go.Proofs.Ytbdompadkeamdaa
