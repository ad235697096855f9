/- Walks of the smallest functions: the range test, the copies of plain structs into the program's own types, places, names, code names, turns, bases. -/
import Derived.Test.YtofoihohendjgaaProg
import Derived.Test.YtofoihohendjgaaKit
namespace Go.Proofs.Ytofoihohendjgaa
open Go.RowKit Go.WideShapes Go.ChangeShapes Go.Joins Go.Deep
set_option linter.unusedVariables false

theorem within_any (n l h : Int) (w : World) : Calls Try.prog 35 #[.int .i64 n, .int .i64 l, .int .i64 h] w fun e w' => e = .returned (.bool (inB n l h)) ∧ w = w' := by
  by_cases h1 : l ≤ n
  · by_cases h2 : n ≤ h
    · have e := inB_true h1 h2
      rw [e]; clear e
      go_enter Try.func35, Try.ntmps35
      go_wp2
      go_ret
      exact ⟨rfl, rfl⟩
    · have e : inB n l h = false := inB_false (by omega)
      rw [e]; clear e
      go_enter Try.func35, Try.ntmps35
      go_wp2
      go_ret
      exact ⟨rfl, rfl⟩
  · have e : inB n l h = false := inB_false (by omega)
    rw [e]; clear e
    go_enter Try.func35, Try.ntmps35
    go_wp2
    go_ret
    exact ⟨rfl, rfl⟩

theorem l00In_any (n l h : Int) (w : World) : Calls Try.prog 33 #[.int .i64 n, .int .i64 l, .int .i64 h] w fun e w' => e = .returned (.bool (inB n l h)) ∧ w = w' := by
  by_cases h1 : l ≤ n
  · by_cases h2 : n ≤ h
    · have e := inB_true h1 h2
      rw [e]; clear e
      go_enter Try.func33, Try.ntmps33
      go_wp2
      go_ret
      exact ⟨rfl, rfl⟩
    · have e : inB n l h = false := inB_false (by omega)
      rw [e]; clear e
      go_enter Try.func33, Try.ntmps33
      go_wp2
      go_ret
      exact ⟨rfl, rfl⟩
  · have e : inB n l h = false := inB_false (by omega)
    rw [e]; clear e
    go_enter Try.func33, Try.ntmps33
    go_wp2
    go_ret
    exact ⟨rfl, rfl⟩

theorem toPoint_any (x y : Int) (w : World) : Calls Try.prog 10 #[.agg #[.int .i64 x, .int .i64 y]] w fun e w' => e = .returned (.agg #[.int .i64 x, .int .i64 y]) ∧ Below w.heap.size w w' := by
  go_enter Try.func10, Try.ntmps10
  go_wp2
  exact bodyPost_ret (v := .agg #[.int .i64 x, .int .i64 y]) (by simp [results, Try.results10, go_sem]) rfl ⟨rfl, below_alloc3 w _ _ _⟩


/-! ### places -/
theorem l02Ok_any (x y : Int) (w : World) : Calls Try.prog 25 #[.agg #[.int .i64 x, .int .i64 y]] w fun e w' => e = .returned (.bool (placeB x y)) ∧ Below w.heap.size w w' := by
  cases h1 : inB x (-10000) 10000
  · have e : placeB x y = false := by simp [placeB, h1]
    rw [e]; clear e
    go_enter Try.func25, Try.ntmps25
    go_wp2_with (go_at_call 33; refine (l00In_any _ _ _ _).mono ?_; rintro e w' ⟨rfl, rfl⟩)
    go_ret
    exact ⟨rfl, below_alloc1 w _⟩
  · have e : placeB x y = inB y (-10000) 10000 := by simp [placeB, h1]
    rw [e]; clear e
    go_enter Try.func25, Try.ntmps25
    go_wp2_with (go_at_call 33; refine (l00In_any _ _ _ _).mono ?_; rintro e w' ⟨rfl, rfl⟩)
    go_ret
    exact ⟨rfl, below_alloc1 w _⟩

theorem implValidPlace_any (x y : Int) (w : World) : Calls Try.prog 27 #[.agg #[.int .i64 x, .int .i64 y]] w fun e w' => e = .returned (.bool (placeB x y)) ∧ Below w.heap.size w w' := by
  cases h1 : inB x (-10000) 10000
  · have e : placeB x y = false := by simp [placeB, h1]
    rw [e]; clear e
    go_enter Try.func27, Try.ntmps27
    go_wp2_with (go_at_call 35; refine (within_any _ _ _ _).mono ?_; rintro e w' ⟨rfl, rfl⟩)
    go_ret
    exact ⟨rfl, below_alloc1 w _⟩
  · have e : placeB x y = inB y (-10000) 10000 := by simp [placeB, h1]
    rw [e]; clear e
    go_enter Try.func27, Try.ntmps27
    go_wp2_with (go_at_call 35; refine (within_any _ _ _ _).mono ?_; rintro e w' ⟨rfl, rfl⟩)
    go_ret
    exact ⟨rfl, below_alloc1 w _⟩


/-! ### turns -/
theorem isDirection_any (d : Int) (w : World) : Calls Try.prog 31 #[.int .i64 d] w fun e w' => e = .returned (.bool (inB d 0 23)) ∧ w = w' := by
  go_enter Try.func31, Try.ntmps31
  go_wp2_with (go_at_call 35; refine (within_any _ _ _ _).mono ?_; rintro e w' ⟨rfl, rfl⟩)
  go_ret
  exact ⟨rfl, rfl⟩
theorem l02Dir_any (d : Int) (w : World) : Calls Try.prog 29 #[.int .i64 d] w fun e w' => e = .returned (.bool (inB d 0 23)) ∧ w = w' := by
  go_enter Try.func29, Try.ntmps29
  go_wp2_with (go_at_call 33; refine (l00In_any _ _ _ _).mono ?_; rintro e w' ⟨rfl, rfl⟩)
  go_ret
  exact ⟨rfl, rfl⟩
theorem turned_any (d b : Int) (w : World) (h1 : -100000 ≤ d) (h2 : d ≤ 100000) (h3 : -100000 ≤ b) (h4 : b ≤ 100000) : Calls Try.prog 39 #[.int .i64 d, .int .i64 b] w fun e w' => e = .returned (.int .i64 ((d + b) % 24)) ∧ w = w' := by
  have t := tmod24 (d + b)
  have T := Lib.hid (tmod24_eq (d + b))
  obtain ⟨t1, t2⟩ := t
  go_enter Try.func39, Try.ntmps39
  go_wp2
  go_ret
  exact ⟨ret_int T.out, rfl⟩
theorem l02Mod_any (n : Int) (w : World) (h1 : -200000 ≤ n) (h2 : n ≤ 200000) : Calls Try.prog 42 #[.int .i64 n] w fun e w' => e = .returned (.int .i64 (n % 24)) ∧ w = w' := by
  have t := tmod24 n
  have T := Lib.hid (tmod24_eq n)
  obtain ⟨t1, t2⟩ := t
  go_enter Try.func42, Try.ntmps42
  go_wp2
  go_ret
  exact ⟨ret_int T.out, rfl⟩
end Go.Proofs.Ytofoihohendjgaa
