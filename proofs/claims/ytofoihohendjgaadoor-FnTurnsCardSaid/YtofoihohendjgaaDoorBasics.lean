/- Walks of the smallest functions: the range test, the copies of plain structs into the program's own types, places, names, code names, turns, bases. -/
import Derived.Test.YtofoihohendjgaaDoorProg
import Derived.Test.YtofoihohendjgaaDoorKit
namespace Go.Proofs.YtofoihohendjgaaDoor
open Go.RowKit Go.WideShapes Go.ChangeShapes Go.Joins Go.Deep
set_option linter.unusedVariables false

theorem within_any (n l h : Int) (w : World) : Calls Tryd.prog 33 #[.int .i64 n, .int .i64 l, .int .i64 h] w fun e w' => e = .returned (.bool (inB n l h)) ∧ w = w' := by
  by_cases h1 : l ≤ n
  · by_cases h2 : n ≤ h
    · have e := inB_true h1 h2
      rw [e]; clear e
      go_enter Tryd.func33, Tryd.ntmps33
      go_wp2
      go_ret
      exact ⟨rfl, rfl⟩
    · have e : inB n l h = false := inB_false (by omega)
      rw [e]; clear e
      go_enter Tryd.func33, Tryd.ntmps33
      go_wp2
      go_ret
      exact ⟨rfl, rfl⟩
  · have e : inB n l h = false := inB_false (by omega)
    rw [e]; clear e
    go_enter Tryd.func33, Tryd.ntmps33
    go_wp2
    go_ret
    exact ⟨rfl, rfl⟩

theorem l00In_any (n l h : Int) (w : World) : Calls Tryd.prog 31 #[.int .i64 n, .int .i64 l, .int .i64 h] w fun e w' => e = .returned (.bool (inB n l h)) ∧ w = w' := by
  by_cases h1 : l ≤ n
  · by_cases h2 : n ≤ h
    · have e := inB_true h1 h2
      rw [e]; clear e
      go_enter Tryd.func31, Tryd.ntmps31
      go_wp2
      go_ret
      exact ⟨rfl, rfl⟩
    · have e : inB n l h = false := inB_false (by omega)
      rw [e]; clear e
      go_enter Tryd.func31, Tryd.ntmps31
      go_wp2
      go_ret
      exact ⟨rfl, rfl⟩
  · have e : inB n l h = false := inB_false (by omega)
    rw [e]; clear e
    go_enter Tryd.func31, Tryd.ntmps31
    go_wp2
    go_ret
    exact ⟨rfl, rfl⟩

theorem toPoint_any (x y : Int) (w : World) : Calls Tryd.prog 11 #[.agg #[.int .i64 x, .int .i64 y]] w fun e w' => e = .returned (.agg #[.int .i64 x, .int .i64 y]) ∧ Below w.heap.size w w' := by
  go_enter Tryd.func11, Tryd.ntmps11
  go_wp2
  exact bodyPost_ret (v := .agg #[.int .i64 x, .int .i64 y]) (by simp [results, Tryd.results11, go_sem]) rfl ⟨rfl, below_alloc3 w _ _ _⟩


/-! ### places -/
theorem l02Ok_any (x y : Int) (w : World) : Calls Tryd.prog 27 #[.agg #[.int .i64 x, .int .i64 y]] w fun e w' => e = .returned (.bool (placeB x y)) ∧ Below w.heap.size w w' := by
  cases h1 : inB x (-10000) 10000
  · have e : placeB x y = false := by simp [placeB, h1]
    rw [e]; clear e
    go_enter Tryd.func27, Tryd.ntmps27
    go_wp2_with (go_at_call 31; refine (l00In_any _ _ _ _).mono ?_; rintro e w' ⟨rfl, rfl⟩)
    go_ret
    exact ⟨rfl, below_alloc1 w _⟩
  · have e : placeB x y = inB y (-10000) 10000 := by simp [placeB, h1]
    rw [e]; clear e
    go_enter Tryd.func27, Tryd.ntmps27
    go_wp2_with (go_at_call 31; refine (l00In_any _ _ _ _).mono ?_; rintro e w' ⟨rfl, rfl⟩)
    go_ret
    exact ⟨rfl, below_alloc1 w _⟩

theorem implValidPlace_any (x y : Int) (w : World) : Calls Tryd.prog 29 #[.agg #[.int .i64 x, .int .i64 y]] w fun e w' => e = .returned (.bool (placeB x y)) ∧ Below w.heap.size w w' := by
  cases h1 : inB x (-10000) 10000
  · have e : placeB x y = false := by simp [placeB, h1]
    rw [e]; clear e
    go_enter Tryd.func29, Tryd.ntmps29
    go_wp2_with (go_at_call 33; refine (within_any _ _ _ _).mono ?_; rintro e w' ⟨rfl, rfl⟩)
    go_ret
    exact ⟨rfl, below_alloc1 w _⟩
  · have e : placeB x y = inB y (-10000) 10000 := by simp [placeB, h1]
    rw [e]; clear e
    go_enter Tryd.func29, Tryd.ntmps29
    go_wp2_with (go_at_call 33; refine (within_any _ _ _ _).mono ?_; rintro e w' ⟨rfl, rfl⟩)
    go_ret
    exact ⟨rfl, below_alloc1 w _⟩

theorem specValidPlace_any (x y : Int) (w : World) : Calls Tryd.prog 22 #[.agg #[.int .i64 x, .int .i64 y]] w fun e w' => e = .returned (.bool (placeB x y)) ∧ Below w.heap.size w w' := by
  go_enter Tryd.func22, Tryd.ntmps22
  go_wp2_with (go_at_call 27; refine (l02Ok_any _ _ _).mono ?_; rintro e w1 ⟨rfl, hb⟩)
  go_ret
  exact ⟨rfl, (below_alloc1 w _).trans (hb.mono (by simp))⟩

/-! ### turns -/
theorem isDirection_any (d : Int) (w : World) : Calls Tryd.prog 25 #[.int .i64 d] w fun e w' => e = .returned (.bool (inB d 0 23)) ∧ w = w' := by
  go_enter Tryd.func25, Tryd.ntmps25
  go_wp2_with (go_at_call 33; refine (within_any _ _ _ _).mono ?_; rintro e w' ⟨rfl, rfl⟩)
  go_ret
  exact ⟨rfl, rfl⟩
theorem l02Dir_any (d : Int) (w : World) : Calls Tryd.prog 23 #[.int .i64 d] w fun e w' => e = .returned (.bool (inB d 0 23)) ∧ w = w' := by
  go_enter Tryd.func23, Tryd.ntmps23
  go_wp2_with (go_at_call 31; refine (l00In_any _ _ _ _).mono ?_; rintro e w' ⟨rfl, rfl⟩)
  go_ret
  exact ⟨rfl, rfl⟩
theorem turned_any (d b : Int) (w : World) (h1 : -100000 ≤ d) (h2 : d ≤ 100000) (h3 : -100000 ≤ b) (h4 : b ≤ 100000) : Calls Tryd.prog 35 #[.int .i64 d, .int .i64 b] w fun e w' => e = .returned (.int .i64 ((d + b) % 24)) ∧ w = w' := by
  have t := tmod24 (d + b)
  have T := Lib.hid (tmod24_eq (d + b))
  obtain ⟨t1, t2⟩ := t
  go_enter Tryd.func35, Tryd.ntmps35
  go_wp2
  go_ret
  exact ⟨ret_int T.out, rfl⟩
theorem l02Mod_any (n : Int) (w : World) (h1 : -200000 ≤ n) (h2 : n ≤ 200000) : Calls Tryd.prog 41 #[.int .i64 n] w fun e w' => e = .returned (.int .i64 (n % 24)) ∧ w = w' := by
  have t := tmod24 n
  have T := Lib.hid (tmod24_eq n)
  obtain ⟨t1, t2⟩ := t
  go_enter Tryd.func41, Tryd.ntmps41
  go_wp2
  go_ret
  exact ⟨ret_int T.out, rfl⟩
theorem implTurnBy_any (d b : Int) (w : World) : Calls Tryd.prog 17 #[.int .i64 d, .int .i64 b] w fun e w' => e = .returned (turnByV d b) ∧ w = w' := by
  cases h1 : inB d 0 23
  · rw [turnByV_bad (.inl h1)]
    go_enter Tryd.func17, Tryd.ntmps17
    go_wp2_with (first | (go_at_call 25; refine (isDirection_any _ _).mono ?_; rintro e w' ⟨rfl, rfl⟩) | (go_at_call 33; refine (within_any _ _ _ _).mono ?_; rintro e w' ⟨rfl, rfl⟩))
    go_ret2
    exact ⟨rfl, rfl⟩
  · cases h2 : inB b (-1000) 1000
    · rw [turnByV_bad (.inr h2)]
      go_enter Tryd.func17, Tryd.ntmps17
      go_wp2_with (first | (go_at_call 25; refine (isDirection_any _ _).mono ?_; rintro e w' ⟨rfl, rfl⟩) | (go_at_call 33; refine (within_any _ _ _ _).mono ?_; rintro e w' ⟨rfl, rfl⟩))
      go_ret2
      exact ⟨rfl, rfl⟩
    · rw [turnByV_good h1 h2]
      have b1 := inB_of h1
      have b2 := inB_of h2
      go_enter Tryd.func17, Tryd.ntmps17
      go_wp2_with (first | (go_at_call 25; refine (isDirection_any _ _).mono ?_; rintro e w' ⟨rfl, rfl⟩) | (go_at_call 33; refine (within_any _ _ _ _).mono ?_; rintro e w' ⟨rfl, rfl⟩) | (go_at_call 35; refine (turned_any _ _ _ (by omega) (by omega) (by omega) (by omega)).mono ?_; rintro e w' ⟨rfl, rfl⟩))
      go_ret2
      exact ⟨rfl, rfl⟩
end Go.Proofs.YtofoihohendjgaaDoor
