/-
  DERIVED. GIVEN WITH THE SEED: THE CARDS: each row of YtihbomgbkpmojaaDoorRows.lean that lists a variable, with what it lists TIED to the program's text (the seventh form; the later family's looks); each row that meets fmt, with fmt's text TOLD by the authors' own Lean function (tested against real Go, not proved from fmt's source: count such statements apart). THE CARD IS WHAT COUNTS. Prove the row's statement (the work); the ties are given (YtihbomgbkpmojaaDoorTie.lean); close each card by the builder's one call (the guide's Derived/Test/ToyasCard.lean, 'card_holds'). Laid BY PROGRAM, IN A SANDBOX (cutbox-door.mjs). By AI agents, Wed Nov 11 2026. No macro, syntax, notation, axiom, sorry.
-/
import Derived.Test.YtihbomgbkpmojaaDoorRows
import GoSem.ClaimSeven
namespace Go.Proofs.YtihbomgbkpmojaaDoor
namespace Rows

/-- THE TIED CARD OF 'laws.FnExactDecimal'. -/
def fnExactDecimalCard : Claim7 := { stood := { row := fnExactDecimalRow, standIns := [], harness := (true, "31c55c73f8a83227bc01e884405483a0c7ea6cb016cc760c5d9d7887e945d1e1"), looks := true }, kinds := [], alts := [], laidByText := true, laidKinds := [.data, .data, .data], laidTests := true, laidLooks := .later }
def FnExactDecimalCardSaid : Prop := Claim7.holds Tryd.pinned (.plain (OpenSpec.ofChange fnExactDecimalSpec)) fnExactDecimalCard

/-- THE TIED CARD OF 'laws.FnExactReadDecimal'. -/
def fnExactReadDecimalCard : Claim7 := { stood := { row := fnExactReadDecimalRow, standIns := [], harness := (true, "31c55c73f8a83227bc01e884405483a0c7ea6cb016cc760c5d9d7887e945d1e1"), looks := true }, kinds := [], alts := [], laidByText := true, laidKinds := [.data, .data, .data, .sentinel, .sentinel], laidTests := true, laidLooks := .later }
def FnExactReadDecimalCardSaid : Prop := Claim7.holds Tryd.pinned (.plain (OpenSpec.ofChange fnExactReadDecimalSpec)) fnExactReadDecimalCard

/-- THE TIED CARD OF 'laws.FnExactChartText'. -/
def fnExactChartTextCard : Claim7 := { stood := { row := fnExactChartTextRow, standIns := [], harness := (true, "31c55c73f8a83227bc01e884405483a0c7ea6cb016cc760c5d9d7887e945d1e1"), looks := true }, kinds := [], alts := [], laidByText := true, laidKinds := [.data, .data, .data], laidTests := true, laidLooks := .later }
def FnExactChartTextCardSaid : Prop := Claim7.holds Tryd.pinned (.plain (OpenSpec.ofChange fnExactChartTextSpec)) fnExactChartTextCard

/-- THE TIED CARD OF 'laws.FnExactReadChart'. -/
def fnExactReadChartCard : Claim7 := { stood := { row := fnExactReadChartRow, standIns := [], harness := (true, "31c55c73f8a83227bc01e884405483a0c7ea6cb016cc760c5d9d7887e945d1e1"), looks := true }, kinds := [], alts := [], laidByText := true, laidKinds := [.data, .data, .data, .sentinel, .sentinel], laidTests := true, laidLooks := .later }
def FnExactReadChartCardSaid : Prop := Claim7.holds Tryd.pinned (.plain (OpenSpec.ofChange fnExactReadChartSpec)) fnExactReadChartCard

/-- THE TIED CARD OF 'laws.FnCharts'. -/
def fnChartsCard : Claim7 := { stood := { row := fnChartsRow, standIns := [], harness := (true, "31c55c73f8a83227bc01e884405483a0c7ea6cb016cc760c5d9d7887e945d1e1"), looks := true }, kinds := [], alts := [], laidByText := true, laidKinds := [.data, .data, .data, .sentinel, .sentinel], laidTests := true, laidLooks := .later }
def FnChartsCardSaid : Prop := Claim7.holds Tryd.pinned (.plain (OpenSpec.ofChange fnChartsSpec)) fnChartsCard

/-- THE SECOND FORM's CARD OF 'laws.FnExactDecimal'. -/
def fnExactDecimalUptoCard : Claim7 := { stood := { row := fnExactDecimalUptoRow, standIns := [], harness := (true, "31c55c73f8a83227bc01e884405483a0c7ea6cb016cc760c5d9d7887e945d1e1"), looks := true }, kinds := [], alts := [], laidByText := true, laidKinds := [.data, .data, .data], laidTests := true, laidLooks := .later }
def FnExactDecimalUptoCardSaid : Prop := Claim7.holds Tryd.pinned (.plain (OpenSpec.upto fnExactDecimalSpec)) fnExactDecimalUptoCard

/-- THE SECOND FORM's CARD OF 'laws.FnExactReadDecimal'. -/
def fnExactReadDecimalUptoCard : Claim7 := { stood := { row := fnExactReadDecimalUptoRow, standIns := [], harness := (true, "31c55c73f8a83227bc01e884405483a0c7ea6cb016cc760c5d9d7887e945d1e1"), looks := true }, kinds := [], alts := [], laidByText := true, laidKinds := [.data, .data, .data, .sentinel, .sentinel], laidTests := true, laidLooks := .later }
def FnExactReadDecimalUptoCardSaid : Prop := Claim7.holds Tryd.pinned (.plain (OpenSpec.upto fnExactReadDecimalSpec)) fnExactReadDecimalUptoCard

/-- THE SECOND FORM's CARD OF 'laws.FnExactChartText'. -/
def fnExactChartTextUptoCard : Claim7 := { stood := { row := fnExactChartTextUptoRow, standIns := [], harness := (true, "31c55c73f8a83227bc01e884405483a0c7ea6cb016cc760c5d9d7887e945d1e1"), looks := true }, kinds := [], alts := [], laidByText := true, laidKinds := [.data, .data, .data], laidTests := true, laidLooks := .later }
def FnExactChartTextUptoCardSaid : Prop := Claim7.holds Tryd.pinned (.plain (OpenSpec.upto fnExactChartTextSpec)) fnExactChartTextUptoCard

/-- THE SECOND FORM's CARD OF 'laws.FnExactReadChart'. -/
def fnExactReadChartUptoCard : Claim7 := { stood := { row := fnExactReadChartUptoRow, standIns := [], harness := (true, "31c55c73f8a83227bc01e884405483a0c7ea6cb016cc760c5d9d7887e945d1e1"), looks := true }, kinds := [], alts := [], laidByText := true, laidKinds := [.data, .data, .data, .sentinel, .sentinel], laidTests := true, laidLooks := .later }
def FnExactReadChartUptoCardSaid : Prop := Claim7.holds Tryd.pinned (.plain (OpenSpec.upto fnExactReadChartSpec)) fnExactReadChartUptoCard

/-- THE SECOND FORM's CARD OF 'laws.FnCharts'. -/
def fnChartsUptoCard : Claim7 := { stood := { row := fnChartsUptoRow, standIns := [], harness := (true, "31c55c73f8a83227bc01e884405483a0c7ea6cb016cc760c5d9d7887e945d1e1"), looks := true }, kinds := [], alts := [], laidByText := true, laidKinds := [.data, .data, .data, .sentinel, .sentinel], laidTests := true, laidLooks := .later }
def FnChartsUptoCardSaid : Prop := Claim7.holds Tryd.pinned (.plain (OpenSpec.upto fnChartsSpec)) fnChartsUptoCard
end Rows
end Go.Proofs.YtihbomgbkpmojaaDoor
