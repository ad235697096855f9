/- Rows of the call's own that lie apart, and what stays when one of them is marked. -/
import Derived.Test.YtiaineljcmjfoaaProg
import Derived.Test.YtiaineljcmjfoaaKit
import Derived.Test.YtiaineljcmjfoaaMem
import Derived.Test.YtiaineljcmjfoaaLists
import Derived.Test.YtiaineljcmjfoaaSteps
import Derived.Test.YtiaineljcmjfoaaChartLaws
import Derived.Test.YtiaineljcmjfoaaMarks
namespace Go.Proofs.Ytiaineljcmjfoaa
open Go.RowKit Go.WideShapes Go.ChangeShapes Go.Joins Go.Deep Go.Sort
set_option linter.unusedVariables false
section
variable {w w' : World} {base : Nat} {e e' : TypeId} {size size' n n' : Nat} {v v' : Value} {xs ys : List Value}
theorem apart_late (ho : w.ownsRow base e size v n xs) (hg : w'.ownsRow w.heap.size e' size' v' n' ys) : v'.ownBlock = none ∨ v'.ownBlock ≠ v.ownBlock := by
  cases hv : v'.ownBlock with
  | none => exact .inl rfl
  | some k =>
    right
    intro h
    have h1 := (hg.lt k hv).1
    have h2 := (ho.lt k h.symm).2
    omega
theorem apart_early (ho : w.ownsRow base e size v n xs) (hg : w'.ownsRow w.heap.size e' size' v' n' ys) : v.ownBlock = none ∨ v.ownBlock ≠ v'.ownBlock := by
  cases hv : v.ownBlock with
  | none => exact .inl rfl
  | some k =>
    right
    intro h
    have h1 := (hg.lt k h.symm).1
    have h2 := (ho.lt k hv).2
    omega
theorem Steps.apart {A : Option Addr} {L : List (Int × Int)} (h : Steps w w.heap.size A n L) (hg : w'.ownsRow w.heap.size e' size' v' n' ys) : 0 < n → ∀ b o, A = some ⟨b, o, none⟩ → some b ≠ v'.ownBlock := by
  intro hn b o hA hb
  obtain ⟨b', o', e, hlt, _⟩ := h.2 hn
  rw [hA] at e
  injection e with e
  injection e with e1 e2
  have := (hg.lt b hb.symm).1
  omega
theorem Steps.marked {row : Option Nat} {A : Option Addr} {L : List (Int × Int)} (h : Steps w w.heap.size A n L) (hg : w.grownBy w' row) (D : 0 < n → ∀ b o, A = some ⟨b, o, none⟩ → some b ≠ row) : Steps w' w'.heap.size A n L := by
  refine ⟨h.1, fun hn => ?_⟩
  obtain ⟨b, o, e, hlt, hc⟩ := h.2 hn
  have hb := hg.block b hlt (D hn b o e)
  refine ⟨b, o, e, Nat.lt_of_lt_of_le hlt hg.size, fun j s hj => ?_⟩
  exact ⟨(World.cell?_of_block (w := w) (a := ⟨b, _, none⟩) hb).trans (hc j s hj).1, (World.cell?_of_block (w := w) (a := ⟨b, _, none⟩) hb).trans (hc j s hj).2⟩
theorem grown_below {B : Nat} {a : World} {row : Option Nat} (h : Below B a w) (hg : w.grownBy w' row) (hB : B ≤ w.heap.size) (hr : ∀ k, row = some k → B ≤ k) : Below B a w' := h.grown hg hB hr
end
end Go.Proofs.Ytiaineljcmjfoaa
