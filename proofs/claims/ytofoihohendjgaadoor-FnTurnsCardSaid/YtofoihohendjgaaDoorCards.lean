/-
  DERIVED. GIVEN WITH THE SEED: THE CARDS: each row of YtofoihohendjgaaDoorRows.lean that lists a variable, with what it lists TIED to the program's text (the seventh form; the later family's looks); each row that meets fmt, with fmt's text TOLD by the authors' own Lean function (tested against real Go, not proved from fmt's source: count such statements apart). THE CARD IS WHAT COUNTS. Prove the row's statement (the work); the ties are given (YtofoihohendjgaaDoorTie.lean); close each card by the builder's one call (the guide's Derived/Test/ToyasCard.lean, 'card_holds'). Laid BY PROGRAM, IN A SANDBOX (cutbox-door.mjs). By AI agents, Wed Nov 11 2026. No macro, syntax, notation, axiom, sorry.
-/
import Derived.Test.YtofoihohendjgaaDoorRows
import GoSem.ClaimSeven
namespace Go.Proofs.YtofoihohendjgaaDoor
namespace Rows

/-- THE TIED CARD OF 'laws.FnExactVectorOf'. -/
def fnExactVectorOfCard : Claim7 := { stood := { row := fnExactVectorOfRow, standIns := [], harness := (true, "ffdf7b3cf120ca4cb7786a2b41478341ca84460a463a183781f9badbbf5416d5"), looks := false }, kinds := [], alts := [], laidByText := true, laidKinds := [.data], laidTests := true, laidLooks := .later }
def FnExactVectorOfCardSaid : Prop := Claim7.holds Tryd.pinned (.plain (OpenSpec.ofChange fnExactVectorOfSpec)) fnExactVectorOfCard

/-- THE TIED CARD OF 'laws.FnExactDirectionTo'. -/
def fnExactDirectionToCard : Claim7 := { stood := { row := fnExactDirectionToRow, standIns := [], harness := (true, "ffdf7b3cf120ca4cb7786a2b41478341ca84460a463a183781f9badbbf5416d5"), looks := false }, kinds := [], alts := [], laidByText := true, laidKinds := [.data], laidTests := true, laidLooks := .later }
def FnExactDirectionToCardSaid : Prop := Claim7.holds Tryd.pinned (.plain (OpenSpec.ofChange fnExactDirectionToSpec)) fnExactDirectionToCard

/-- THE TIED CARD OF 'laws.FnExactPlaceAt'. -/
def fnExactPlaceAtCard : Claim7 := { stood := { row := fnExactPlaceAtRow, standIns := [], harness := (true, "ffdf7b3cf120ca4cb7786a2b41478341ca84460a463a183781f9badbbf5416d5"), looks := false }, kinds := [], alts := [], laidByText := true, laidKinds := [.data], laidTests := true, laidLooks := .later }
def FnExactPlaceAtCardSaid : Prop := Claim7.holds Tryd.pinned (.plain (OpenSpec.ofChange fnExactPlaceAtSpec)) fnExactPlaceAtCard

/-- THE TIED CARD OF 'laws.FnTurns'. -/
def fnTurnsCard : Claim7 := { stood := { row := fnTurnsRow, standIns := [], harness := (true, "ffdf7b3cf120ca4cb7786a2b41478341ca84460a463a183781f9badbbf5416d5"), looks := false }, kinds := [], alts := [], laidByText := true, laidKinds := [.data], laidTests := true, laidLooks := .later }
def FnTurnsCardSaid : Prop := Claim7.holds Tryd.pinned (.plain (OpenSpec.ofChange fnTurnsSpec)) fnTurnsCard

/-- THE SECOND FORM's CARD OF 'laws.FnExactVectorOf'. -/
def fnExactVectorOfUptoCard : Claim7 := { stood := { row := fnExactVectorOfUptoRow, standIns := [], harness := (true, "ffdf7b3cf120ca4cb7786a2b41478341ca84460a463a183781f9badbbf5416d5"), looks := false }, kinds := [], alts := [], laidByText := true, laidKinds := [.data], laidTests := true, laidLooks := .later }
def FnExactVectorOfUptoCardSaid : Prop := Claim7.holds Tryd.pinned (.plain (OpenSpec.upto fnExactVectorOfSpec)) fnExactVectorOfUptoCard

/-- THE SECOND FORM's CARD OF 'laws.FnExactDirectionTo'. -/
def fnExactDirectionToUptoCard : Claim7 := { stood := { row := fnExactDirectionToUptoRow, standIns := [], harness := (true, "ffdf7b3cf120ca4cb7786a2b41478341ca84460a463a183781f9badbbf5416d5"), looks := false }, kinds := [], alts := [], laidByText := true, laidKinds := [.data], laidTests := true, laidLooks := .later }
def FnExactDirectionToUptoCardSaid : Prop := Claim7.holds Tryd.pinned (.plain (OpenSpec.upto fnExactDirectionToSpec)) fnExactDirectionToUptoCard

/-- THE SECOND FORM's CARD OF 'laws.FnExactPlaceAt'. -/
def fnExactPlaceAtUptoCard : Claim7 := { stood := { row := fnExactPlaceAtUptoRow, standIns := [], harness := (true, "ffdf7b3cf120ca4cb7786a2b41478341ca84460a463a183781f9badbbf5416d5"), looks := false }, kinds := [], alts := [], laidByText := true, laidKinds := [.data], laidTests := true, laidLooks := .later }
def FnExactPlaceAtUptoCardSaid : Prop := Claim7.holds Tryd.pinned (.plain (OpenSpec.upto fnExactPlaceAtSpec)) fnExactPlaceAtUptoCard

/-- THE SECOND FORM's CARD OF 'laws.FnTurns'. -/
def fnTurnsUptoCard : Claim7 := { stood := { row := fnTurnsUptoRow, standIns := [], harness := (true, "ffdf7b3cf120ca4cb7786a2b41478341ca84460a463a183781f9badbbf5416d5"), looks := false }, kinds := [], alts := [], laidByText := true, laidKinds := [.data], laidTests := true, laidLooks := .later }
def FnTurnsUptoCardSaid : Prop := Claim7.holds Tryd.pinned (.plain (OpenSpec.upto fnTurnsSpec)) fnTurnsUptoCard
end Rows
end Go.Proofs.YtofoihohendjgaaDoor
