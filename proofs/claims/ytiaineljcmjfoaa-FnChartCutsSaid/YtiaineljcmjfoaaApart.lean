/- Rows of the call's own that lie apart: of no program. -/
import Derived.Test.YtiaineljcmjfoaaKit
import Derived.Test.YtiaineljcmjfoaaMem
namespace Go.Proofs.Ytiaineljcmjfoaa
open Go.RowKit Go.WideShapes Go.ChangeShapes Go.Joins Go.Deep Go.Sort
set_option linter.unusedVariables false
section
variable {w w' : World} {base : Nat} {e e' : TypeId} {size size' n n' : Nat} {v v' : Value} {xs ys : List Value}
theorem apart_late (ho : w.ownsRow base e size v n xs) (hg : w'.ownsRow w.heap.size e' size' v' n' ys) : v'.ownBlock = none ∨ v'.ownBlock ≠ v.ownBlock := by
  cases hv : v'.ownBlock with
  | none => exact .inl rfl
  | some k =>
    right
    intro h
    have h1 := (hg.lt k hv).1
    have h2 := (ho.lt k h.symm).2
    omega
theorem apart_early (ho : w.ownsRow base e size v n xs) (hg : w'.ownsRow w.heap.size e' size' v' n' ys) : v.ownBlock = none ∨ v.ownBlock ≠ v'.ownBlock := by
  cases hv : v.ownBlock with
  | none => exact .inl rfl
  | some k =>
    right
    intro h
    have h1 := (hg.lt k h.symm).1
    have h2 := (ho.lt k hv).2
    omega
theorem grown_below {B : Nat} {a : World} {row : Option Nat} (h : Below B a w) (hg : w.grownBy w' row) (hB : B ≤ w.heap.size) (hr : ∀ k, row = some k → B ≤ k) : Below B a w' := h.grown hg hB hr
end
end Go.Proofs.Ytiaineljcmjfoaa
