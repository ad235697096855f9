/-
  No cell of these rows narrows 'for every input' (looked for: loops, veiled, ifaces, maps, wideKeys, modest, calm, conditions, laid).
  DERIVED. THE GIVEN ROWS OF THIS SEAT. 9 by the template 'for every input the law returns true; each argument reads behind the call as it read before'; 0 by the template 'total and deterministic' (their statements: YtfnoapejkpeacaaTotals.lean).
  GIVEN WITH THE SEED: the statements are not yours to turn. If you find one false, say at which input.
  Laid BY PROGRAM, IN A SANDBOX (cutbox-rows.mjs): the forced cells as the released guide's own fill.sh prints them over the translation abef990de3247dc3… (all of the seat's roots in one cut). By AI agents, Wed Nov 11 2026. No macro, syntax, notation, axiom, sorry.
-/
import Derived.Test.YtfnoapejkpeacaaChecked
import GoSem.Claim
import GoSem.ClaimJoined
import GoSem.ClaimMapViews
import Derived.JoinedTies
import Derived.KernelRfl
namespace Go.Proofs.Ytfnoapejkpeacaa
/- THE CELL 'sum', in the pinned program and in every row, IS THE sha256 OF THE DUMP (.gsa) THAT YtfnoapejkpeacaaProg.lean LOADS. Nothing in Lean hashes anything: it is a label: what it is worth is what the hold of that sum in a sandbox is worth. -/
noncomputable def Try.pinned : Pinned := { name := "ytfnoapejkpeacaa", sum := "abef990de3247dc398ea5bbb536d46cbb0807ef23bcea654bc92b43145868a0a", checked := Try.checked }
namespace Rows
def none {H : Type} : Left H := { results := [], args := [] }

/-- 'laws.FnExactMomentOf': WHATEVER THE INPUT: true; the input reads as it did. -/
def fnExactMomentOfSpec : ChangeSpec := { name := "fnExactMomentOf", fn := fun _ => fun
  | [d1, d2, d3] => { results := [.lit (.bool true)], args := [d1, d2, d3] }
  | _ => none }
def fnExactMomentOfRow : OpenClaim := { program := "ytfnoapejkpeacaa", sum := "abef990de3247dc398ea5bbb536d46cbb0807ef23bcea654bc92b43145868a0a", func := "loop.example/g00932/laws.FnExactMomentOf", spec := "fnExactMomentOf", apart := false }
def FnExactMomentOfSaid : Prop := fnExactMomentOfRow.holds Try.pinned (OpenSpec.ofChange fnExactMomentOfSpec)

/-- ITS FALSE NEIGHBOUR: 'it returns false'. Refute it at one input. -/
def fnExactMomentOfWrong : ChangeSpec := { name := "fnExactMomentOf", fn := fun _ => fun
  | [d1, d2, d3] => { results := [.lit (.bool false)], args := [d1, d2, d3] }
  | _ => none }
def FnExactMomentOfWrongFalsely : Prop := fnExactMomentOfRow.holds Try.pinned (OpenSpec.ofChange fnExactMomentOfWrong)

/-- 'laws.FnExactTotalMass': WHATEVER THE INPUT: true; the input reads as it did. -/
def fnExactTotalMassSpec : ChangeSpec := { name := "fnExactTotalMass", fn := fun _ => fun
  | [d1, d2] => { results := [.lit (.bool true)], args := [d1, d2] }
  | _ => none }
def fnExactTotalMassRow : OpenClaim := { program := "ytfnoapejkpeacaa", sum := "abef990de3247dc398ea5bbb536d46cbb0807ef23bcea654bc92b43145868a0a", func := "loop.example/g00932/laws.FnExactTotalMass", spec := "fnExactTotalMass", apart := false }
def FnExactTotalMassSaid : Prop := fnExactTotalMassRow.holds Try.pinned (OpenSpec.ofChange fnExactTotalMassSpec)

/-- ITS FALSE NEIGHBOUR: 'it returns false'. Refute it at one input. -/
def fnExactTotalMassWrong : ChangeSpec := { name := "fnExactTotalMass", fn := fun _ => fun
  | [d1, d2] => { results := [.lit (.bool false)], args := [d1, d2] }
  | _ => none }
def FnExactTotalMassWrongFalsely : Prop := fnExactTotalMassRow.holds Try.pinned (OpenSpec.ofChange fnExactTotalMassWrong)

/-- 'laws.FnExactIsStable': WHATEVER THE INPUT: true; the input reads as it did. -/
def fnExactIsStableSpec : ChangeSpec := { name := "fnExactIsStable", fn := fun _ => fun
  | [d1, d2, d3, d4] => { results := [.lit (.bool true)], args := [d1, d2, d3, d4] }
  | _ => none }
def fnExactIsStableRow : OpenClaim := { program := "ytfnoapejkpeacaa", sum := "abef990de3247dc398ea5bbb536d46cbb0807ef23bcea654bc92b43145868a0a", func := "loop.example/g00932/laws.FnExactIsStable", spec := "fnExactIsStable", apart := false }
def FnExactIsStableSaid : Prop := fnExactIsStableRow.holds Try.pinned (OpenSpec.ofChange fnExactIsStableSpec)

/-- ITS FALSE NEIGHBOUR: 'it returns false'. Refute it at one input. -/
def fnExactIsStableWrong : ChangeSpec := { name := "fnExactIsStable", fn := fun _ => fun
  | [d1, d2, d3, d4] => { results := [.lit (.bool false)], args := [d1, d2, d3, d4] }
  | _ => none }
def FnExactIsStableWrongFalsely : Prop := fnExactIsStableRow.holds Try.pinned (OpenSpec.ofChange fnExactIsStableWrong)

/-- 'laws.FnExactOffsetOf': WHATEVER THE INPUT: true; the input reads as it did. -/
def fnExactOffsetOfSpec : ChangeSpec := { name := "fnExactOffsetOf", fn := fun _ => fun
  | [d1, d2, d3] => { results := [.lit (.bool true)], args := [d1, d2, d3] }
  | _ => none }
def fnExactOffsetOfRow : OpenClaim := { program := "ytfnoapejkpeacaa", sum := "abef990de3247dc398ea5bbb536d46cbb0807ef23bcea654bc92b43145868a0a", func := "loop.example/g00932/laws.FnExactOffsetOf", spec := "fnExactOffsetOf", apart := false }
def FnExactOffsetOfSaid : Prop := fnExactOffsetOfRow.holds Try.pinned (OpenSpec.ofChange fnExactOffsetOfSpec)

/-- ITS FALSE NEIGHBOUR: 'it returns false'. Refute it at one input. -/
def fnExactOffsetOfWrong : ChangeSpec := { name := "fnExactOffsetOf", fn := fun _ => fun
  | [d1, d2, d3] => { results := [.lit (.bool false)], args := [d1, d2, d3] }
  | _ => none }
def FnExactOffsetOfWrongFalsely : Prop := fnExactOffsetOfRow.holds Try.pinned (OpenSpec.ofChange fnExactOffsetOfWrong)

/-- 'laws.FnExactSafetyOf': WHATEVER THE INPUT: true; the input reads as it did. -/
def fnExactSafetyOfSpec : ChangeSpec := { name := "fnExactSafetyOf", fn := fun _ => fun
  | [d1, d2, d3] => { results := [.lit (.bool true)], args := [d1, d2, d3] }
  | _ => none }
def fnExactSafetyOfRow : OpenClaim := { program := "ytfnoapejkpeacaa", sum := "abef990de3247dc398ea5bbb536d46cbb0807ef23bcea654bc92b43145868a0a", func := "loop.example/g00932/laws.FnExactSafetyOf", spec := "fnExactSafetyOf", apart := false }
def FnExactSafetyOfSaid : Prop := fnExactSafetyOfRow.holds Try.pinned (OpenSpec.ofChange fnExactSafetyOfSpec)

/-- ITS FALSE NEIGHBOUR: 'it returns false'. Refute it at one input. -/
def fnExactSafetyOfWrong : ChangeSpec := { name := "fnExactSafetyOf", fn := fun _ => fun
  | [d1, d2, d3] => { results := [.lit (.bool false)], args := [d1, d2, d3] }
  | _ => none }
def FnExactSafetyOfWrongFalsely : Prop := fnExactSafetyOfRow.holds Try.pinned (OpenSpec.ofChange fnExactSafetyOfWrong)

/-- 'laws.FnExactLeastBallast': WHATEVER THE INPUT: true; the input reads as it did. -/
def fnExactLeastBallastSpec : ChangeSpec := { name := "fnExactLeastBallast", fn := fun _ => fun
  | [d1, d2, d3, d4] => { results := [.lit (.bool true)], args := [d1, d2, d3, d4] }
  | _ => none }
def fnExactLeastBallastRow : OpenClaim := { program := "ytfnoapejkpeacaa", sum := "abef990de3247dc398ea5bbb536d46cbb0807ef23bcea654bc92b43145868a0a", func := "loop.example/g00932/laws.FnExactLeastBallast", spec := "fnExactLeastBallast", apart := false }
def FnExactLeastBallastSaid : Prop := fnExactLeastBallastRow.holds Try.pinned (OpenSpec.ofChange fnExactLeastBallastSpec)

/-- ITS FALSE NEIGHBOUR: 'it returns false'. Refute it at one input. -/
def fnExactLeastBallastWrong : ChangeSpec := { name := "fnExactLeastBallast", fn := fun _ => fun
  | [d1, d2, d3, d4] => { results := [.lit (.bool false)], args := [d1, d2, d3, d4] }
  | _ => none }
def FnExactLeastBallastWrongFalsely : Prop := fnExactLeastBallastRow.holds Try.pinned (OpenSpec.ofChange fnExactLeastBallastWrong)

/-- 'laws.FnExactGreatestLoad': WHATEVER THE INPUT: true; the input reads as it did. -/
def fnExactGreatestLoadSpec : ChangeSpec := { name := "fnExactGreatestLoad", fn := fun _ => fun
  | [d1, d2, d3] => { results := [.lit (.bool true)], args := [d1, d2, d3] }
  | _ => none }
def fnExactGreatestLoadRow : OpenClaim := { program := "ytfnoapejkpeacaa", sum := "abef990de3247dc398ea5bbb536d46cbb0807ef23bcea654bc92b43145868a0a", func := "loop.example/g00932/laws.FnExactGreatestLoad", spec := "fnExactGreatestLoad", apart := false }
def FnExactGreatestLoadSaid : Prop := fnExactGreatestLoadRow.holds Try.pinned (OpenSpec.ofChange fnExactGreatestLoadSpec)

/-- ITS FALSE NEIGHBOUR: 'it returns false'. Refute it at one input. -/
def fnExactGreatestLoadWrong : ChangeSpec := { name := "fnExactGreatestLoad", fn := fun _ => fun
  | [d1, d2, d3] => { results := [.lit (.bool false)], args := [d1, d2, d3] }
  | _ => none }
def FnExactGreatestLoadWrongFalsely : Prop := fnExactGreatestLoadRow.holds Try.pinned (OpenSpec.ofChange fnExactGreatestLoadWrong)

/-- 'laws.FnExactPressureOf': WHATEVER THE INPUT: true; the input reads as it did. -/
def fnExactPressureOfSpec : ChangeSpec := { name := "fnExactPressureOf", fn := fun _ => fun
  | [d1, d2, d3] => { results := [.lit (.bool true)], args := [d1, d2, d3] }
  | _ => none }
def fnExactPressureOfRow : OpenClaim := { program := "ytfnoapejkpeacaa", sum := "abef990de3247dc398ea5bbb536d46cbb0807ef23bcea654bc92b43145868a0a", func := "loop.example/g00932/laws.FnExactPressureOf", spec := "fnExactPressureOf", apart := false }
def FnExactPressureOfSaid : Prop := fnExactPressureOfRow.holds Try.pinned (OpenSpec.ofChange fnExactPressureOfSpec)

/-- ITS FALSE NEIGHBOUR: 'it returns false'. Refute it at one input. -/
def fnExactPressureOfWrong : ChangeSpec := { name := "fnExactPressureOf", fn := fun _ => fun
  | [d1, d2, d3] => { results := [.lit (.bool false)], args := [d1, d2, d3] }
  | _ => none }
def FnExactPressureOfWrongFalsely : Prop := fnExactPressureOfRow.holds Try.pinned (OpenSpec.ofChange fnExactPressureOfWrong)

/-- 'laws.FnExactSafeChart': WHATEVER THE INPUT: true; the input reads as it did. -/
def fnExactSafeChartSpec : ChangeSpec := { name := "fnExactSafeChart", fn := fun _ => fun
  | [d1, d2, d3] => { results := [.lit (.bool true)], args := [d1, d2, d3] }
  | _ => none }
def fnExactSafeChartRow : OpenClaim := { program := "ytfnoapejkpeacaa", sum := "abef990de3247dc398ea5bbb536d46cbb0807ef23bcea654bc92b43145868a0a", func := "loop.example/g00932/laws.FnExactSafeChart", spec := "fnExactSafeChart", apart := false }
def FnExactSafeChartSaid : Prop := fnExactSafeChartRow.holds Try.pinned (OpenSpec.ofChange fnExactSafeChartSpec)

/-- ITS FALSE NEIGHBOUR: 'it returns false'. Refute it at one input. -/
def fnExactSafeChartWrong : ChangeSpec := { name := "fnExactSafeChart", fn := fun _ => fun
  | [d1, d2, d3] => { results := [.lit (.bool false)], args := [d1, d2, d3] }
  | _ => none }
def FnExactSafeChartWrongFalsely : Prop := fnExactSafeChartRow.holds Try.pinned (OpenSpec.ofChange fnExactSafeChartWrong)

/- THE SECOND FORM. 'bulk': how many values and letters a reading holds, each counted each time it is reached (what is shared counts as often as it is met; a slice's spare places count too). A statement '..UptoSaid' is the law's where the arguments, and the package variables that the reading takes, are together of bulk at most 1048576: NARROWER than '..Said'. Prove '..Said' where nothing that the law and all that it calls make is longer than what came in: it says more and counts as full. Else prove '..UptoSaid'. A law counts once. -/
mutual
def uptoBulk {H : Type} : DataW H → Nat
  | .lit (.string bytes) => bytes.length + 1
  | .lit _ => 1
  | .nil => 1
  | .ptr d => uptoBulk d + 1
  | .slice elems spare => uptoBulkAll elems + uptoBulkAll spare + 1
  | .agg parts => uptoBulkAll parts + 1
  | .iface _ d => uptoBulk d + 1
  | .map entries => uptoBulkEntries entries + 1
  | .held _ => 1
def uptoBulkAll {H : Type} : List (DataW H) → Nat
  | [] => 0
  | d :: r => uptoBulk d + uptoBulkAll r
def uptoBulkEntries {H : Type} : List (Lit × DataW H) → Nat
  | [] => 0
  | x :: r => uptoBulkEntry x + uptoBulkEntries r
def uptoBulkEntry {H : Type} : Lit × DataW H → Nat
  | (.string bytes, d) => bytes.length + uptoBulk d + 1
  | (_, d) => uptoBulk d + 1
 end
def uptoSmall : (H : Type) → List (DataW H) → Bool := fun _ ds => decide (uptoBulkAll ds ≤ 1048576)
def OpenSpec.upto (s : _root_.Go.ChangeSpec) : _root_.Go.OpenSpec := { _root_.Go.OpenSpec.ofChange s with cond := some uptoSmall }

/-- 'laws.FnExactMomentOf', WHERE WHAT IT READS IS OF BULK AT MOST 1048576: true; the input reads as it did. -/
def fnExactMomentOfUptoRow : OpenClaim := { program := "ytfnoapejkpeacaa", sum := "abef990de3247dc398ea5bbb536d46cbb0807ef23bcea654bc92b43145868a0a", func := "loop.example/g00932/laws.FnExactMomentOf", spec := "fnExactMomentOf", apart := false, narrowed := true }
def FnExactMomentOfUptoSaid : Prop := fnExactMomentOfUptoRow.holds Try.pinned (OpenSpec.upto fnExactMomentOfSpec)

/-- 'laws.FnExactTotalMass', WHERE WHAT IT READS IS OF BULK AT MOST 1048576: true; the input reads as it did. -/
def fnExactTotalMassUptoRow : OpenClaim := { program := "ytfnoapejkpeacaa", sum := "abef990de3247dc398ea5bbb536d46cbb0807ef23bcea654bc92b43145868a0a", func := "loop.example/g00932/laws.FnExactTotalMass", spec := "fnExactTotalMass", apart := false, narrowed := true }
def FnExactTotalMassUptoSaid : Prop := fnExactTotalMassUptoRow.holds Try.pinned (OpenSpec.upto fnExactTotalMassSpec)

/-- 'laws.FnExactIsStable', WHERE WHAT IT READS IS OF BULK AT MOST 1048576: true; the input reads as it did. -/
def fnExactIsStableUptoRow : OpenClaim := { program := "ytfnoapejkpeacaa", sum := "abef990de3247dc398ea5bbb536d46cbb0807ef23bcea654bc92b43145868a0a", func := "loop.example/g00932/laws.FnExactIsStable", spec := "fnExactIsStable", apart := false, narrowed := true }
def FnExactIsStableUptoSaid : Prop := fnExactIsStableUptoRow.holds Try.pinned (OpenSpec.upto fnExactIsStableSpec)

/-- 'laws.FnExactOffsetOf', WHERE WHAT IT READS IS OF BULK AT MOST 1048576: true; the input reads as it did. -/
def fnExactOffsetOfUptoRow : OpenClaim := { program := "ytfnoapejkpeacaa", sum := "abef990de3247dc398ea5bbb536d46cbb0807ef23bcea654bc92b43145868a0a", func := "loop.example/g00932/laws.FnExactOffsetOf", spec := "fnExactOffsetOf", apart := false, narrowed := true }
def FnExactOffsetOfUptoSaid : Prop := fnExactOffsetOfUptoRow.holds Try.pinned (OpenSpec.upto fnExactOffsetOfSpec)

/-- 'laws.FnExactSafetyOf', WHERE WHAT IT READS IS OF BULK AT MOST 1048576: true; the input reads as it did. -/
def fnExactSafetyOfUptoRow : OpenClaim := { program := "ytfnoapejkpeacaa", sum := "abef990de3247dc398ea5bbb536d46cbb0807ef23bcea654bc92b43145868a0a", func := "loop.example/g00932/laws.FnExactSafetyOf", spec := "fnExactSafetyOf", apart := false, narrowed := true }
def FnExactSafetyOfUptoSaid : Prop := fnExactSafetyOfUptoRow.holds Try.pinned (OpenSpec.upto fnExactSafetyOfSpec)

/-- 'laws.FnExactLeastBallast', WHERE WHAT IT READS IS OF BULK AT MOST 1048576: true; the input reads as it did. -/
def fnExactLeastBallastUptoRow : OpenClaim := { program := "ytfnoapejkpeacaa", sum := "abef990de3247dc398ea5bbb536d46cbb0807ef23bcea654bc92b43145868a0a", func := "loop.example/g00932/laws.FnExactLeastBallast", spec := "fnExactLeastBallast", apart := false, narrowed := true }
def FnExactLeastBallastUptoSaid : Prop := fnExactLeastBallastUptoRow.holds Try.pinned (OpenSpec.upto fnExactLeastBallastSpec)

/-- 'laws.FnExactGreatestLoad', WHERE WHAT IT READS IS OF BULK AT MOST 1048576: true; the input reads as it did. -/
def fnExactGreatestLoadUptoRow : OpenClaim := { program := "ytfnoapejkpeacaa", sum := "abef990de3247dc398ea5bbb536d46cbb0807ef23bcea654bc92b43145868a0a", func := "loop.example/g00932/laws.FnExactGreatestLoad", spec := "fnExactGreatestLoad", apart := false, narrowed := true }
def FnExactGreatestLoadUptoSaid : Prop := fnExactGreatestLoadUptoRow.holds Try.pinned (OpenSpec.upto fnExactGreatestLoadSpec)

/-- 'laws.FnExactPressureOf', WHERE WHAT IT READS IS OF BULK AT MOST 1048576: true; the input reads as it did. -/
def fnExactPressureOfUptoRow : OpenClaim := { program := "ytfnoapejkpeacaa", sum := "abef990de3247dc398ea5bbb536d46cbb0807ef23bcea654bc92b43145868a0a", func := "loop.example/g00932/laws.FnExactPressureOf", spec := "fnExactPressureOf", apart := false, narrowed := true }
def FnExactPressureOfUptoSaid : Prop := fnExactPressureOfUptoRow.holds Try.pinned (OpenSpec.upto fnExactPressureOfSpec)

/-- 'laws.FnExactSafeChart', WHERE WHAT IT READS IS OF BULK AT MOST 1048576: true; the input reads as it did. -/
def fnExactSafeChartUptoRow : OpenClaim := { program := "ytfnoapejkpeacaa", sum := "abef990de3247dc398ea5bbb536d46cbb0807ef23bcea654bc92b43145868a0a", func := "loop.example/g00932/laws.FnExactSafeChart", spec := "fnExactSafeChart", apart := false, narrowed := true }
def FnExactSafeChartUptoSaid : Prop := fnExactSafeChartUptoRow.holds Try.pinned (OpenSpec.upto fnExactSafeChartSpec)

end Rows
end Go.Proofs.Ytfnoapejkpeacaa
