/- The safe chart: the plain law. -/
import Derived.Test.YtfnoapejkpeacaaProg
import Derived.Test.YtfnoapejkpeacaaKit
import Derived.Test.YtfnoapejkpeacaaBasics
import Derived.Test.YtfnoapejkpeacaaMem
import Derived.Test.YtfnoapejkpeacaaCodeRes
import Derived.Test.YtfnoapejkpeacaaBaseLaws
import Derived.Test.YtfnoapejkpeacaaGreat
import Derived.Test.YtfnoapejkpeacaaLists
import Derived.Test.YtfnoapejkpeacaaSteps
namespace Go.Proofs.Ytfnoapejkpeacaa
open Go.RowKit Go.WideShapes Go.ChangeShapes Go.Joins Go.Deep Go.Sort
set_option linter.unusedVariables false
def minZ (a b : Int) : Int := if b < a then b else a
/-- the steps that are safe, 'prev' being the load of the step before -/
def safeFrom (f : Int → Int → Bool) (g : Int → Int) : Int → List (Int × Int) → List (Int × Int)
  | _, [] => []
  | prev, (r, y) :: L => if g r < 0 then [] else if f (minZ (minZ (g r) y) prev) r then (r, minZ (minZ (g r) y) prev) :: safeFrom f g (minZ (minZ (g r) y) prev) L else []
theorem drop_at {L : List (Int × Int)} {k : Nat} {s : Int × Int} (h : L[k]? = some s) : L.drop k = s :: L.drop (k + 1) := by
  obtain ⟨hk, e⟩ := List.getElem?_eq_some_iff.1 h
  rw [List.drop_eq_getElem_cons hk, e]
theorem safe_none {f : Int → Int → Bool} {g : Int → Int} {prev : Int} {L : List (Int × Int)} {k : Nat} {r y : Int} (h : L[k]? = some (r, y)) (hg : g r < 0) : safeFrom f g prev (L.drop k) = [] := by
  rw [drop_at h]; unfold safeFrom; rw [if_pos hg]
theorem safe_unstable {f : Int → Int → Bool} {g : Int → Int} {prev : Int} {L : List (Int × Int)} {k : Nat} {r y : Int} (h : L[k]? = some (r, y)) (hg : ¬ g r < 0) (hf : f (minZ (minZ (g r) y) prev) r = false) : safeFrom f g prev (L.drop k) = [] := by
  rw [drop_at h]; unfold safeFrom; rw [if_neg hg, hf]; rfl
theorem safe_step {f : Int → Int → Bool} {g : Int → Int} {prev : Int} {L : List (Int × Int)} {k : Nat} {r y : Int} (h : L[k]? = some (r, y)) (hg : ¬ g r < 0) (hf : f (minZ (minZ (g r) y) prev) r = true) :
    safeFrom f g prev (L.drop k) = (r, minZ (minZ (g r) y) prev) :: safeFrom f g (minZ (minZ (g r) y) prev) (L.drop (k + 1)) := by
  rw [drop_at h]; conv => lhs; unfold safeFrom
  rw [if_neg hg, hf]; rfl
theorem safe_end {f : Int → Int → Bool} {g : Int → Int} {prev : Int} {L : List (Int × Int)} {k : Nat} (h : L.length ≤ k) : safeFrom f g prev (L.drop k) = [] := by
  rw [List.drop_eq_nil_of_le h]; rfl
/-- the state of the loops: what was laid so far, and the load of the last step -/
structure SafeAt (f : Int → Int → Bool) (g : Int → Int) (L : List (Int × Int)) (M : List (Int × Int)) (prev : Int) : Prop where
  eq : safeFrom f g 50000 L = M ++ safeFrom f g prev (L.drop M.length)
  last : (M = [] ∧ prev = 50000) ∨ (∃ r, M[M.length - 1]? = some (r, prev) ∧ 1 ≤ M.length)
  lo : 0 ≤ prev
  hi : prev ≤ 50000
theorem SafeAt.start (f : Int → Int → Bool) (g : Int → Int) (L : List (Int × Int)) : SafeAt f g L [] 50000 := ⟨rfl, .inl ⟨rfl, rfl⟩, by omega, by omega⟩
theorem SafeAt.next {f : Int → Int → Bool} {g : Int → Int} {L M : List (Int × Int)} {prev r y : Int} (s : SafeAt f g L M prev) (h : L[M.length]? = some (r, y)) (hg : ¬ g r < 0) (y0 : 0 ≤ y) (hf : f (minZ (minZ (g r) y) prev) r = true) :
    SafeAt f g L (M ++ [(r, minZ (minZ (g r) y) prev)]) (minZ (minZ (g r) y) prev) := by
  have := s.lo
  have := s.hi
  refine ⟨?_, .inr ⟨r, by simp, by simp⟩, ?_, ?_⟩
  · rw [s.eq, safe_step h hg hf]; simp
  · unfold minZ; split <;> split at * <;> omega
  · unfold minZ; split <;> omega
theorem SafeAt.none {f : Int → Int → Bool} {g : Int → Int} {L M : List (Int × Int)} {prev r y : Int} (s : SafeAt f g L M prev) (h : L[M.length]? = some (r, y)) (hg : g r < 0) : safeFrom f g 50000 L = M := by
  rw [s.eq, safe_none h hg, List.append_nil]
theorem SafeAt.unstable {f : Int → Int → Bool} {g : Int → Int} {L M : List (Int × Int)} {prev r y : Int} (s : SafeAt f g L M prev) (h : L[M.length]? = some (r, y)) (hg : ¬ g r < 0) (hf : f (minZ (minZ (g r) y) prev) r = false) : safeFrom f g 50000 L = M := by
  rw [s.eq, safe_unstable h hg hf, List.append_nil]
theorem SafeAt.done {f : Int → Int → Bool} {g : Int → Int} {L M : List (Int × Int)} {prev : Int} (s : SafeAt f g L M prev) (h : L.length ≤ M.length) : safeFrom f g 50000 L = M := by
  rw [s.eq, safe_end h, List.append_nil]
def safeL (side mass ball jm ja ct ca percent : Int) (L : List (Int × Int)) : List (Int × Int) := safeFrom (fun l r => stableB side mass ball jm ja ct ca l r percent) (fun r => greatZ side mass ball jm ja ct ca r percent) 50000 L
end Go.Proofs.Ytfnoapejkpeacaa
