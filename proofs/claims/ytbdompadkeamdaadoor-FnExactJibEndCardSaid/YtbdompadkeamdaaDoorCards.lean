/-
  DERIVED. GIVEN WITH THE SEED: THE CARDS: each row of YtbdompadkeamdaaDoorRows.lean that lists a variable, with what it lists TIED to the program's text (the seventh form; the later family's looks); each row that meets fmt, with fmt's text TOLD by the authors' own Lean function (tested against real Go, not proved from fmt's source: count such statements apart). THE CARD IS WHAT COUNTS. Prove the row's statement (the work); the ties are given (YtbdompadkeamdaaDoorTie.lean); close each card by the builder's one call (the guide's Derived/Test/ToyasCard.lean, 'card_holds'). Laid BY PROGRAM, IN A SANDBOX (cutbox-door.mjs). By AI agents, Wed Nov 11 2026. No macro, syntax, notation, axiom, sorry.
-/
import Derived.Test.YtbdompadkeamdaaDoorRows
import GoSem.ClaimSeven
namespace Go.Proofs.YtbdompadkeamdaaDoor
namespace Rows

/-- THE TIED CARD OF 'laws.FnExactJibEnd'. -/
def fnExactJibEndCard : Claim7 := { stood := { row := fnExactJibEndRow, standIns := [], harness := (true, "2491e36a865781ddc6bce59410c38eb9536344fcb9570d15238b471eff078129"), looks := false }, kinds := [], alts := [], laidByText := true, laidKinds := [.data], laidTests := true, laidLooks := .later }
def FnExactJibEndCardSaid : Prop := Claim7.holds Tryd.pinned (.plain (OpenSpec.ofChange fnExactJibEndSpec)) fnExactJibEndCard

/-- THE TIED CARD OF 'laws.FnExactBackEnd'. -/
def fnExactBackEndCard : Claim7 := { stood := { row := fnExactBackEndRow, standIns := [], harness := (true, "2491e36a865781ddc6bce59410c38eb9536344fcb9570d15238b471eff078129"), looks := false }, kinds := [], alts := [], laidByText := true, laidKinds := [.data], laidTests := true, laidLooks := .later }
def FnExactBackEndCardSaid : Prop := Claim7.holds Tryd.pinned (.plain (OpenSpec.ofChange fnExactBackEndSpec)) fnExactBackEndCard

/-- THE SECOND FORM's CARD OF 'laws.FnExactJibEnd'. -/
def fnExactJibEndUptoCard : Claim7 := { stood := { row := fnExactJibEndUptoRow, standIns := [], harness := (true, "2491e36a865781ddc6bce59410c38eb9536344fcb9570d15238b471eff078129"), looks := false }, kinds := [], alts := [], laidByText := true, laidKinds := [.data], laidTests := true, laidLooks := .later }
def FnExactJibEndUptoCardSaid : Prop := Claim7.holds Tryd.pinned (.plain (OpenSpec.upto fnExactJibEndSpec)) fnExactJibEndUptoCard

/-- THE SECOND FORM's CARD OF 'laws.FnExactBackEnd'. -/
def fnExactBackEndUptoCard : Claim7 := { stood := { row := fnExactBackEndUptoRow, standIns := [], harness := (true, "2491e36a865781ddc6bce59410c38eb9536344fcb9570d15238b471eff078129"), looks := false }, kinds := [], alts := [], laidByText := true, laidKinds := [.data], laidTests := true, laidLooks := .later }
def FnExactBackEndUptoCardSaid : Prop := Claim7.holds Tryd.pinned (.plain (OpenSpec.upto fnExactBackEndSpec)) fnExactBackEndUptoCard
end Rows
end Go.Proofs.YtbdompadkeamdaaDoor
