/- Walks of the names of codes, and of their law. -/
import Derived.Test.YtmdlbljlnbgomaaProg
import Derived.Test.YtmdlbljlnbgomaaKit
import Derived.Test.YtmdlbljlnbgomaaBasics
namespace Go.Proofs.Ytmdlbljlnbgomaa
open Go.RowKit Go.WideShapes Go.ChangeShapes Go.Joins Go.Deep
set_option linter.unusedVariables false

/-! ### code names -/
def codeList : List ByteArray := [⟨#[111, 107]⟩, ⟨#[105, 110, 118, 97, 108, 105, 100]⟩, ⟨#[114, 97, 110, 103, 101]⟩, ⟨#[110, 111, 116, 45, 102, 111, 117, 110, 100]⟩, ⟨#[101, 120, 105, 115, 116, 115]⟩, ⟨#[102, 117, 108, 108]⟩, ⟨#[115, 116, 97, 116, 101]⟩, ⟨#[115, 121, 110, 116, 97, 120]⟩, ⟨#[102, 111, 114, 109, 97, 116]⟩, ⟨#[99, 108, 97, 115, 104]⟩, ⟨#[117, 110, 115, 97, 102, 101]⟩]
def codeStr (n : Int) : ByteArray := if inB n 0 10 then codeList.getD n.toNat ⟨#[]⟩ else ⟨#[]⟩
theorem codeStr_out {n : Int} (h : inB n 0 10 = false) : codeStr n = ⟨#[]⟩ := by simp [codeStr, h]
theorem implCodeName_out (n : Int) (h : inB n 0 10 = false) (w : World) : Calls Try.prog 13 #[.int .i64 n] w fun e w' => e = .returned (.string ⟨#[]⟩) ∧ Below w.heap.size w w' := by
  go_enter Try.func13, Try.ntmps13
  go_wp2_with (first | (go_at_call 22; refine (within_any _ _ _ _).mono ?_; rintro e w' ⟨rfl, rfl⟩))
  go_ret
  exact ⟨rfl, below_alloc1 w _⟩
set_option maxHeartbeats 2000000 in
theorem implCodeName_any (n : Int) (w : World) : Calls Try.prog 13 #[.int .i64 n] w fun e w' => e = .returned (.string (codeStr n)) ∧ Below w.heap.size w w' := by
  cases h : inB n 0 10
  · rw [codeStr_out h]
    exact implCodeName_out n h w
  · have hc : n = 0 ∨ n = 1 ∨ n = 2 ∨ n = 3 ∨ n = 4 ∨ n = 5 ∨ n = 6 ∨ n = 7 ∨ n = 8 ∨ n = 9 ∨ n = 10 := by have := inB_of h; omega
    rcases hc with rfl | rfl | rfl | rfl | rfl | rfl | rfl | rfl | rfl | rfl | rfl
    · show Calls Try.prog 13 #[.int .i64 0] w fun e w' => e = .returned (.string ⟨#[111, 107]⟩) ∧ Below w.heap.size w w'
      go_enter Try.func13, Try.ntmps13
      go_wp2_with (first | (go_at_call 22; refine (within_any _ _ _ _).mono ?_; rintro e w' ⟨rfl, rfl⟩))
      go_ret
      exact ⟨rfl, below_alloc1 w _⟩
    · show Calls Try.prog 13 #[.int .i64 1] w fun e w' => e = .returned (.string ⟨#[105, 110, 118, 97, 108, 105, 100]⟩) ∧ Below w.heap.size w w'
      go_enter Try.func13, Try.ntmps13
      go_wp2_with (first | (go_at_call 22; refine (within_any _ _ _ _).mono ?_; rintro e w' ⟨rfl, rfl⟩))
      go_ret
      exact ⟨rfl, below_alloc1 w _⟩
    · show Calls Try.prog 13 #[.int .i64 2] w fun e w' => e = .returned (.string ⟨#[114, 97, 110, 103, 101]⟩) ∧ Below w.heap.size w w'
      go_enter Try.func13, Try.ntmps13
      go_wp2_with (first | (go_at_call 22; refine (within_any _ _ _ _).mono ?_; rintro e w' ⟨rfl, rfl⟩))
      go_ret
      exact ⟨rfl, below_alloc1 w _⟩
    · show Calls Try.prog 13 #[.int .i64 3] w fun e w' => e = .returned (.string ⟨#[110, 111, 116, 45, 102, 111, 117, 110, 100]⟩) ∧ Below w.heap.size w w'
      go_enter Try.func13, Try.ntmps13
      go_wp2_with (first | (go_at_call 22; refine (within_any _ _ _ _).mono ?_; rintro e w' ⟨rfl, rfl⟩))
      go_ret
      exact ⟨rfl, below_alloc1 w _⟩
    · show Calls Try.prog 13 #[.int .i64 4] w fun e w' => e = .returned (.string ⟨#[101, 120, 105, 115, 116, 115]⟩) ∧ Below w.heap.size w w'
      go_enter Try.func13, Try.ntmps13
      go_wp2_with (first | (go_at_call 22; refine (within_any _ _ _ _).mono ?_; rintro e w' ⟨rfl, rfl⟩))
      go_ret
      exact ⟨rfl, below_alloc1 w _⟩
    · show Calls Try.prog 13 #[.int .i64 5] w fun e w' => e = .returned (.string ⟨#[102, 117, 108, 108]⟩) ∧ Below w.heap.size w w'
      go_enter Try.func13, Try.ntmps13
      go_wp2_with (first | (go_at_call 22; refine (within_any _ _ _ _).mono ?_; rintro e w' ⟨rfl, rfl⟩))
      go_ret
      exact ⟨rfl, below_alloc1 w _⟩
    · show Calls Try.prog 13 #[.int .i64 6] w fun e w' => e = .returned (.string ⟨#[115, 116, 97, 116, 101]⟩) ∧ Below w.heap.size w w'
      go_enter Try.func13, Try.ntmps13
      go_wp2_with (first | (go_at_call 22; refine (within_any _ _ _ _).mono ?_; rintro e w' ⟨rfl, rfl⟩))
      go_ret
      exact ⟨rfl, below_alloc1 w _⟩
    · show Calls Try.prog 13 #[.int .i64 7] w fun e w' => e = .returned (.string ⟨#[115, 121, 110, 116, 97, 120]⟩) ∧ Below w.heap.size w w'
      go_enter Try.func13, Try.ntmps13
      go_wp2_with (first | (go_at_call 22; refine (within_any _ _ _ _).mono ?_; rintro e w' ⟨rfl, rfl⟩))
      go_ret
      exact ⟨rfl, below_alloc1 w _⟩
    · show Calls Try.prog 13 #[.int .i64 8] w fun e w' => e = .returned (.string ⟨#[102, 111, 114, 109, 97, 116]⟩) ∧ Below w.heap.size w w'
      go_enter Try.func13, Try.ntmps13
      go_wp2_with (first | (go_at_call 22; refine (within_any _ _ _ _).mono ?_; rintro e w' ⟨rfl, rfl⟩))
      go_ret
      exact ⟨rfl, below_alloc1 w _⟩
    · show Calls Try.prog 13 #[.int .i64 9] w fun e w' => e = .returned (.string ⟨#[99, 108, 97, 115, 104]⟩) ∧ Below w.heap.size w w'
      go_enter Try.func13, Try.ntmps13
      go_wp2_with (first | (go_at_call 22; refine (within_any _ _ _ _).mono ?_; rintro e w' ⟨rfl, rfl⟩))
      go_ret
      exact ⟨rfl, below_alloc1 w _⟩
    · show Calls Try.prog 13 #[.int .i64 10] w fun e w' => e = .returned (.string ⟨#[117, 110, 115, 97, 102, 101]⟩) ∧ Below w.heap.size w w'
      go_enter Try.func13, Try.ntmps13
      go_wp2_with (first | (go_at_call 22; refine (within_any _ _ _ _).mono ?_; rintro e w' ⟨rfl, rfl⟩))
      go_ret
      exact ⟨rfl, below_alloc1 w _⟩
theorem specCodeName_out (n : Int) (h : inB n 0 10 = false) (w : World) : Calls Try.prog 12 #[.int .i64 n] w fun e w' => e = .returned (.string ⟨#[]⟩) ∧ Below w.heap.size w w' := by
  go_enter Try.func12, Try.ntmps12
  go_wp2_with (first | (go_at_call 23; refine (l00In_any _ _ _ _).mono ?_; rintro e w' ⟨rfl, rfl⟩))
  go_ret
  exact ⟨rfl, below_alloc1 w _⟩
set_option maxHeartbeats 2000000 in
theorem specCodeName_any (n : Int) (w : World) : Calls Try.prog 12 #[.int .i64 n] w fun e w' => e = .returned (.string (codeStr n)) ∧ Below w.heap.size w w' := by
  cases h : inB n 0 10
  · rw [codeStr_out h]
    exact specCodeName_out n h w
  · have hc : n = 0 ∨ n = 1 ∨ n = 2 ∨ n = 3 ∨ n = 4 ∨ n = 5 ∨ n = 6 ∨ n = 7 ∨ n = 8 ∨ n = 9 ∨ n = 10 := by have := inB_of h; omega
    rcases hc with rfl | rfl | rfl | rfl | rfl | rfl | rfl | rfl | rfl | rfl | rfl
    · show Calls Try.prog 12 #[.int .i64 0] w fun e w' => e = .returned (.string ⟨#[111, 107]⟩) ∧ Below w.heap.size w w'
      go_enter Try.func12, Try.ntmps12
      go_wp2_with (first | (go_at_call 23; refine (l00In_any _ _ _ _).mono ?_; rintro e w' ⟨rfl, rfl⟩))
      go_ret
      exact ⟨rfl, below_alloc1 w _⟩
    · show Calls Try.prog 12 #[.int .i64 1] w fun e w' => e = .returned (.string ⟨#[105, 110, 118, 97, 108, 105, 100]⟩) ∧ Below w.heap.size w w'
      go_enter Try.func12, Try.ntmps12
      go_wp2_with (first | (go_at_call 23; refine (l00In_any _ _ _ _).mono ?_; rintro e w' ⟨rfl, rfl⟩))
      go_ret
      exact ⟨rfl, below_alloc1 w _⟩
    · show Calls Try.prog 12 #[.int .i64 2] w fun e w' => e = .returned (.string ⟨#[114, 97, 110, 103, 101]⟩) ∧ Below w.heap.size w w'
      go_enter Try.func12, Try.ntmps12
      go_wp2_with (first | (go_at_call 23; refine (l00In_any _ _ _ _).mono ?_; rintro e w' ⟨rfl, rfl⟩))
      go_ret
      exact ⟨rfl, below_alloc1 w _⟩
    · show Calls Try.prog 12 #[.int .i64 3] w fun e w' => e = .returned (.string ⟨#[110, 111, 116, 45, 102, 111, 117, 110, 100]⟩) ∧ Below w.heap.size w w'
      go_enter Try.func12, Try.ntmps12
      go_wp2_with (first | (go_at_call 23; refine (l00In_any _ _ _ _).mono ?_; rintro e w' ⟨rfl, rfl⟩))
      go_ret
      exact ⟨rfl, below_alloc1 w _⟩
    · show Calls Try.prog 12 #[.int .i64 4] w fun e w' => e = .returned (.string ⟨#[101, 120, 105, 115, 116, 115]⟩) ∧ Below w.heap.size w w'
      go_enter Try.func12, Try.ntmps12
      go_wp2_with (first | (go_at_call 23; refine (l00In_any _ _ _ _).mono ?_; rintro e w' ⟨rfl, rfl⟩))
      go_ret
      exact ⟨rfl, below_alloc1 w _⟩
    · show Calls Try.prog 12 #[.int .i64 5] w fun e w' => e = .returned (.string ⟨#[102, 117, 108, 108]⟩) ∧ Below w.heap.size w w'
      go_enter Try.func12, Try.ntmps12
      go_wp2_with (first | (go_at_call 23; refine (l00In_any _ _ _ _).mono ?_; rintro e w' ⟨rfl, rfl⟩))
      go_ret
      exact ⟨rfl, below_alloc1 w _⟩
    · show Calls Try.prog 12 #[.int .i64 6] w fun e w' => e = .returned (.string ⟨#[115, 116, 97, 116, 101]⟩) ∧ Below w.heap.size w w'
      go_enter Try.func12, Try.ntmps12
      go_wp2_with (first | (go_at_call 23; refine (l00In_any _ _ _ _).mono ?_; rintro e w' ⟨rfl, rfl⟩))
      go_ret
      exact ⟨rfl, below_alloc1 w _⟩
    · show Calls Try.prog 12 #[.int .i64 7] w fun e w' => e = .returned (.string ⟨#[115, 121, 110, 116, 97, 120]⟩) ∧ Below w.heap.size w w'
      go_enter Try.func12, Try.ntmps12
      go_wp2_with (first | (go_at_call 23; refine (l00In_any _ _ _ _).mono ?_; rintro e w' ⟨rfl, rfl⟩))
      go_ret
      exact ⟨rfl, below_alloc1 w _⟩
    · show Calls Try.prog 12 #[.int .i64 8] w fun e w' => e = .returned (.string ⟨#[102, 111, 114, 109, 97, 116]⟩) ∧ Below w.heap.size w w'
      go_enter Try.func12, Try.ntmps12
      go_wp2_with (first | (go_at_call 23; refine (l00In_any _ _ _ _).mono ?_; rintro e w' ⟨rfl, rfl⟩))
      go_ret
      exact ⟨rfl, below_alloc1 w _⟩
    · show Calls Try.prog 12 #[.int .i64 9] w fun e w' => e = .returned (.string ⟨#[99, 108, 97, 115, 104]⟩) ∧ Below w.heap.size w w'
      go_enter Try.func12, Try.ntmps12
      go_wp2_with (first | (go_at_call 23; refine (l00In_any _ _ _ _).mono ?_; rintro e w' ⟨rfl, rfl⟩))
      go_ret
      exact ⟨rfl, below_alloc1 w _⟩
    · show Calls Try.prog 12 #[.int .i64 10] w fun e w' => e = .returned (.string ⟨#[117, 110, 115, 97, 102, 101]⟩) ∧ Below w.heap.size w w'
      go_enter Try.func12, Try.ntmps12
      go_wp2_with (first | (go_at_call 23; refine (l00In_any _ _ _ _).mono ?_; rintro e w' ⟨rfl, rfl⟩))
      go_ret
      exact ⟨rfl, below_alloc1 w _⟩
theorem FnExactCodeName_walk (n : Int) (wn : (Lit.int .i64 n).wf = true) (w : World) : Calls Try.prog 5 #[.int .i64 n] w fun e w' => e = .returned (.bool true) ∧ Below w.heap.size w w' := by
  clear wn
  generalize hs : codeStr n = s
  have C1 : ∀ w, Calls Try.prog 12 #[.int .i64 n] w fun e w' => e = .returned (.string s) ∧ Below w.heap.size w w' := fun w => by rw [← hs]; exact specCodeName_any n w
  have C2 : ∀ w, Calls Try.prog 13 #[.int .i64 n] w fun e w' => e = .returned (.string s) ∧ Below w.heap.size w w' := fun w => by rw [← hs]; exact implCodeName_any n w
  have H1 := Lib.hid C1
  have H2 := Lib.hid C2
  clear C1 C2 hs
  go_enter Try.func5, Try.ntmps5
  go_wp2_with fail
  refine (H1.out _).mono ?_
  rintro e w1 ⟨rfl, hb1⟩
  go_wp2_with fail
  refine (H2.out _).mono ?_
  rintro e w2 ⟨rfl, hb2⟩
  have B2 := hb1.trans (hb2.mono hb1.size)
  clear hb1 hb2
  go_wp2_with fail
  go_ret
  exact ⟨rfl, B2⟩
end Go.Proofs.Ytmdlbljlnbgomaa
