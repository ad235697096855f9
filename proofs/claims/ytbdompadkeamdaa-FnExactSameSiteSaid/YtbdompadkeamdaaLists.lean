/- Lists of pairs as cells, of no program: how a slice of structs of two integers reads; rows of the call's own that hold them. -/
import Derived.Test.YtbdompadkeamdaaKit
import Derived.Test.YtbdompadkeamdaaMem
import Derived.Laws.MakeOwn
namespace Go.Proofs.Ytbdompadkeamdaa
open Go.RowKit Go.WideShapes Go.ChangeShapes Go.Joins Go.Deep Go.Sort

/-- the cells of a list of pairs -/
def pairs : List (Int × Int) → List Value
  | [] => []
  | s :: r => .int .i64 s.1 :: .int .i64 s.2 :: pairs r
theorem pairs_length (L : List (Int × Int)) : (pairs L).length = L.length * 2 := by
  induction L with
  | nil => rfl
  | cons s r ih => simp only [pairs, List.length_cons, ih]; omega
/-- a slice of structs of two integers reads as L (nil, empty or not), below block B -/
def Steps (w : World) (B : Nat) (A : Option Addr) (n : Nat) (L : List (Int × Int)) : Prop :=
  L.length = n ∧ (0 < n → ∃ b o, A = some ⟨b, o, none⟩ ∧ b < B ∧ ∀ j s, L[j]? = some s → w.cell? ⟨b, o + j * 2, none⟩ = some (.int .i64 s.1) ∧ w.cell? ⟨b, o + j * 2 + 1, none⟩ = some (.int .i64 s.2))
section
variable {w w' : World} {B B' n : Nat} {A : Option Addr} {L : List (Int × Int)}
theorem Steps.at_ {k : Nat} (h : Steps w B A n L) (hk : k < n) : ∃ b o x y, A = some ⟨b, o, none⟩ ∧ b < B ∧ L[k]? = some (x, y) ∧ w.cell? ⟨b, o + k * 2, none⟩ = some (.int .i64 x) ∧ w.cell? ⟨b, o + k * 2 + 1, none⟩ = some (.int .i64 y) := by
  obtain ⟨b, o, e, hb, hc⟩ := h.2 (by omega)
  have hl : k < L.length := by have := h.1; omega
  obtain ⟨c1, c2⟩ := hc k _ (List.getElem?_eq_getElem hl)
  exact ⟨b, o, _, _, e, hb, List.getElem?_eq_getElem hl, c1, c2⟩
theorem Steps.keep (h : Steps w B A n L) (hk : ∀ p : Addr, p.block < B → w'.cell? p = w.cell? p) : Steps w' B A n L :=
  ⟨h.1, fun hn => by
    obtain ⟨b, o, e, hb, hc⟩ := h.2 hn
    exact ⟨b, o, e, hb, fun j s hj => ⟨(hk ⟨b, _, none⟩ hb).trans (hc j s hj).1, (hk ⟨b, _, none⟩ hb).trans (hc j s hj).2⟩⟩⟩
theorem Steps.more (h : Steps w B A n L) (hB : B ≤ B') : Steps w B' A n L :=
  ⟨h.1, fun hn => by
    obtain ⟨b, o, e, hb, hc⟩ := h.2 hn
    exact ⟨b, o, e, by omega, hc⟩⟩
theorem Steps.below (h : Steps w B A n L) (hb : Below B w w') : Steps w' B A n L := h.keep fun _ hp => hb.cell hp
theorem Steps.on (h : Steps w B A n L) (hB : B ≤ w.heap.size) (hb : Below w.heap.size w w') : Steps w' B A n L := h.keep fun _ hp => hb.cell (by omega)
theorem Steps.drewN (h : Steps w B A n L) (k : Nat) : Steps (w.drewN k) B A n L := h
end

/-- the cells of the copy after k rounds -/
def filled (L : List (Int × Int)) (k n : Nat) : Array Value := (pairs (L.take k) ++ List.replicate ((n - k) * 2) (Value.int .i64 0)).toArray
theorem pairs_append (L M : List (Int × Int)) : pairs (L ++ M) = pairs L ++ pairs M := by
  induction L with
  | nil => rfl
  | cons s r ih => simp [pairs, ih]
theorem filled_size {L : List (Int × Int)} {k n : Nat} (hL : L.length = n) (hk : k ≤ n) : (filled L k n).size = n * 2 := by
  simp only [filled, List.size_toArray, List.length_append, pairs_length, List.length_take, List.length_replicate]
  omega
theorem filled_set {L : List (Int × Int)} {k n : Nat} {x y : Int} (hL : L.length = n) (hk : k < n) (h : L[k]? = some (x, y)) :
    ((filled L k n).setIfInBounds (k * 2) (.int .i64 x)).setIfInBounds (k * 2 + 1) (.int .i64 y) = filled L (k + 1) n := by
  have e1 : (pairs (L.take k)).length = k * 2 := by rw [pairs_length, List.length_take]; omega
  have e2 : (n - k) * 2 = ((n - (k + 1)) * 2 + 1) + 1 := by omega
  have e3 : L.take (k + 1) = L.take k ++ [(x, y)] := by
    rw [List.take_add_one, h]; rfl
  unfold filled
  rw [List.setIfInBounds_toArray, List.setIfInBounds_toArray, e2, e3, pairs_append, List.replicate_succ, List.replicate_succ,
    List.set_append_right _ _ (by rw [e1]; exact Nat.le_refl _), e1, Nat.sub_self, List.set_cons_zero,
    List.set_append_right _ _ (by rw [e1]; omega), e1, show k * 2 + 1 - k * 2 = 1 by omega, List.set_cons_succ, List.set_cons_zero]
  simp [pairs]
theorem filled_zero (L : List (Int × Int)) (n : Nat) : madeCells (Value.agg #[Value.int .i64 0, Value.int .i64 0]).cells (n * 2) = filled L 0 n := by
  apply Array.ext
  · simp [madeCells, filled, pairs]
  · intro i h1 h2
    have : i % 2 = 0 ∨ i % 2 = 1 := by omega
    rcases this with e | e <;> simp [madeCells, filled, pairs, Value.cells, e]
theorem filled_end {L : List (Int × Int)} {n : Nat} (hL : L.length = n) : filled L n n = (pairs L).toArray := by
  unfold filled
  rw [List.take_of_length_le (by omega), Nat.sub_self]
  simp

theorem pairs_at : ∀ {L : List (Int × Int)} {j : Nat} {s : Int × Int}, L[j]? = some s → (pairs L)[j * 2]? = some (.int .i64 s.1) ∧ (pairs L)[j * 2 + 1]? = some (.int .i64 s.2)
  | [], j, s, h => by simp at h
  | a :: r, 0, s, h => by simp at h; subst h; simp [pairs]
  | a :: r, j + 1, s, h => by
    have := pairs_at (L := r) (j := j) (s := s) (by simpa using h)
    rw [show (j + 1) * 2 = j * 2 + 1 + 1 by omega]
    simpa [pairs] using this
theorem steps_own {w : World} {base : Nat} {e : TypeId} {A : Option Addr} {n c : Nat} {L : List (Int × Int)} (h : w.ownsRow base e 2 (.slice A n c) n (pairs L)) : Steps w w.heap.size A n L := by
  have hl : L.length = n := by have := h.1; rw [pairs_length] at this; omega
  refine ⟨hl, fun hn => ?_⟩
  obtain ⟨g, cap, hv, _, hlt⟩ := h.form hn
  injection hv with e1 e2 e3
  subst e1 e3
  refine ⟨g, 0, rfl, hlt, fun j s hj => ?_⟩
  have hjl : j < L.length := (List.getElem?_eq_some_iff.1 hj).1
  obtain ⟨p1, p2⟩ := pairs_at hj
  rw [Nat.zero_add]
  exact ⟨(h.cellAt (j * 2) (by omega)).trans p1, (h.cellAt (j * 2 + 1) (by omega)).trans p2⟩
theorem Steps.next {w w' : World} {A : Option Addr} {n : Nat} {L : List (Int × Int)} (h : Steps w w.heap.size A n L) (hb : Below w.heap.size w w') : Steps w' w'.heap.size A n L := (h.on (Nat.le_refl _) hb).more hb.size
theorem own_of_blk {w : World} {base g : Nat} {e : TypeId} {n : Nat} {L : List (Int × Int)} (h : Blk w g e (pairs L).toArray) (hb : base ≤ g) (hl : L.length = n) (hn : n ≤ maxLen) : w.ownsRow base e 2 (.slice (some ⟨g, 0, none⟩) n n) n (pairs L) :=
  ⟨by rw [pairs_length, hl], .inr ⟨g, n, (pairs L).toArray, rfl, hb, h, Nat.le_refl _, hn, by simp [pairs_length, hl], by simp [pairs_length, hl, List.take_of_length_le]⟩⟩
end Go.Proofs.Ytbdompadkeamdaa
