/- How arguments are opened: a slice of structs of two integers that is a field; of no program. -/
import Derived.Test.YtbdompadkeamdaaKit
import Derived.Test.YtbdompadkeamdaaMem
import Derived.Test.YtbdompadkeamdaaLists
import Derived.Test.YtbdompadkeamdaaOpen
namespace Go.Proofs.Ytbdompadkeamdaa
open Go.RowKit Go.WideShapes Go.ChangeShapes Go.Joins Go.Deep Go.Sort
section
variable {H : Type} {enc : TypeId × Value → H} {P : Program} {w : World} {base : Nat} {spare : Nat → Bool} {held : Bool}
theorem open_steps_at {fuel : Nat} {t e : TypeId} {f0 f1 : Field} {v : Value} {x : DataW H × List MemPlace} (ht : P.underlying t = some (.slice e)) (he : P.underlying e = some (.struct #[f0, f1])) (hone : oneCellFields P #[f0, f1] = true) (hC : P.cellsOf e = 2)
    (h0 : P.underlying f0.type = some (.int .i64)) (h1 : P.underlying f1.type = some (.int .i64)) (h : DataW.trod enc P w base spare held fuel t [v] = some x) :
    ∃ (A : Option Addr) (n c : Nat) (L : List (Int × Int)), v = .slice A n c ∧ n ≤ maxLen ∧ Steps w w.heap.size A n L := by
  rcases open_slice_fields ht he hone hC h with ⟨hcs, hx⟩ | ⟨a, len, cap, m, D, Pl, hcs, hb, hl, hm, hmm, hx, hi⟩
  · obtain rfl : v = .slice none 0 0 := by simpa using hcs
    exact ⟨_, _, _, [], rfl, by unfold maxLen; omega, rfl, fun h => absurd h (by omega)⟩
  · obtain rfl : v = .slice (some a) len cap := by simpa using hcs
    have hlm : len ≤ m := by rw [hmm]; split <;> omega
    have key : ∀ i, i < len → ∃ s : Int × Int, w.cell? (a.add (i * 2)) = some (.int .i64 s.1) ∧ w.cell? (a.add (i * 2 + 1)) = some (.int .i64 s.2) := by
      intro i hil
      obtain ⟨ys, n, _, _, _, hf'⟩ := hi i (by omega)
      obtain ⟨u0, y0, hc0, _, hy0⟩ := hf' 0 f0 rfl
      obtain ⟨u1, y1, hc1, _, hy1⟩ := hf' 1 f1 rfl
      obtain ⟨x0, e0, _, _⟩ := DataW.trod_int h0 hy0
      obtain ⟨x1, e1, _, _⟩ := DataW.trod_int h1 hy1
      simp at e0 e1
      subst e0 e1
      exact ⟨(x0, x1), hc0, hc1⟩
    obtain ⟨L, hL, hc⟩ := list_of len key
    refine ⟨_, _, _, L, rfl, by omega, hL, fun hpos => ?_⟩
    obtain ⟨b, o, spot⟩ := a
    have hspot : spot = none := by
      obtain ⟨s, hs, _⟩ := key 0 hpos
      have := World.cell?_spot hs
      simpa [Addr.add] using this
    subst hspot
    have hadd : ∀ k, (⟨b, o, none⟩ : Addr).add k = ⟨b, o + k, none⟩ := fun k => by
      unfold Addr.add; split
      · simp_all
      · rfl
    refine ⟨b, o, rfl, ?_, fun j s hj => ?_⟩
    · obtain ⟨s, hs, _⟩ := key 0 hpos
      rw [hadd] at hs
      exact World.block_lt_of_cell? w _ hs
    · have := hc j s hj
      rw [hadd, hadd] at this
      exact ⟨this.1, by rw [Nat.add_assoc]; exact this.2⟩
end
end Go.Proofs.Ytbdompadkeamdaa
