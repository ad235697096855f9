/- Zones: the laws' copies and comparisons; the walks of the test of a zone on both sides. -/
import Derived.Test.YtofoihohendjgaaDoorProg
import Derived.Test.YtofoihohendjgaaDoorKit
import Derived.Test.YtofoihohendjgaaDoorBasics
import Derived.Test.YtofoihohendjgaaDoorMem
import Derived.Test.YtofoihohendjgaaDoorCodeRes
import Derived.Test.YtofoihohendjgaaDoorLists
import Derived.Test.YtofoihohendjgaaDoorPts
import Derived.Test.YtofoihohendjgaaDoorZonePlain
import Derived.StillTailTactics
namespace Go.Proofs.YtofoihohendjgaaDoor
open Go.RowKit Go.WideShapes Go.ChangeShapes Go.Joins Go.Deep Go.Sort
set_option linter.unusedVariables false
set_option linter.unusedSimpArgs false

section
variable {w w' : World} {g : Nat} {t : TypeId}
theorem Blk.one {a : Value} (h : Blk w g t #[a]) : w.cell? ⟨g, 0, none⟩ = some a := h.cell 0
theorem Blk.four {a b c d : Value} (h : Blk w g t #[a, b, c, d]) : w.cell? ⟨g, 0, none⟩ = some a ∧ w.cell? ⟨g, 1, none⟩ = some b ∧ w.cell? ⟨g, 2, none⟩ = some c ∧ w.cell? ⟨g, 3, none⟩ = some d := ⟨h.cell 0, h.cell 1, h.cell 2, h.cell 3⟩
theorem Blk.fours {cs : Array Value} (h : Blk w g t cs) : w.frozen? ⟨g, 0, none⟩ = false ∧ w.frozen? ⟨g, 1, none⟩ = false ∧ w.frozen? ⟨g, 2, none⟩ = false ∧ w.frozen? ⟨g, 3, none⟩ = false := ⟨h.frozen 0, h.frozen 1, h.frozen 2, h.frozen 3⟩
theorem steps_of_blk {n : Nat} {L : List (Int × Int)} (h : Blk w g t (pairs L).toArray) (hl : L.length = n) : Steps w w.heap.size (some ⟨g, 0, none⟩) n L := by
  refine ⟨hl, fun _ => ⟨g, 0, rfl, h.lt, fun j s hj => ?_⟩⟩
  obtain ⟨p1, p2⟩ := pairs_at hj
  rw [Nat.zero_add]
  exact ⟨(h.cell _).trans (by simpa using p1), (h.cell _).trans (by simpa using p2)⟩
end
abbrev ptV (x y : Int) : Value := .agg #[.int .i64 x, .int .i64 y]
abbrev zoneV (k s e : Int) (A : Option Addr) (n c : Nat) : Value := .agg #[.int .i64 k, .int .i64 s, .int .i64 e, .slice A n c]

theorem mod_form {n k : Nat} (hk : k < n) : ∃ j, j < n ∧ (k + 1) % n = j ∧ ((k : Int) + 1) % (n : Int) = (j : Int) := by
  refine ⟨(k + 1) % n, Nat.mod_lt _ (by omega), rfl, ?_⟩
  rw [Int.natCast_emod]; rfl
end Go.Proofs.YtofoihohendjgaaDoor
