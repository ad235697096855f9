/-
  No cell of these rows narrows 'for every input' (looked for: loops, veiled, ifaces, maps, wideKeys, modest, calm, conditions, laid).
  DERIVED. THE GIVEN ROWS OF THIS SEAT. 10 by the template 'for every input the law returns true; each argument reads behind the call as it read before'; 0 by the template 'total and deterministic' (their statements: YtiaineljcmjfoaaTotals.lean).
  GIVEN WITH THE SEED: the statements are not yours to turn. If you find one false, say at which input.
  Laid BY PROGRAM, IN A SANDBOX (cutbox-rows.mjs): the forced cells as the released guide's own fill.sh prints them over the translation 394ae54f81e06b95… (all of the seat's roots in one cut). By AI agents, Wed Nov 11 2026. No macro, syntax, notation, axiom, sorry.
-/
import Derived.Test.YtiaineljcmjfoaaChecked
import GoSem.Claim
import GoSem.ClaimJoined
import GoSem.ClaimMapViews
import Derived.JoinedTies
import Derived.KernelRfl
namespace Go.Proofs.Ytiaineljcmjfoaa
/- THE CELL 'sum', in the pinned program and in every row, IS THE sha256 OF THE DUMP (.gsa) THAT YtiaineljcmjfoaaProg.lean LOADS. Nothing in Lean hashes anything: it is a label: what it is worth is what the hold of that sum in a sandbox is worth. -/
noncomputable def Try.pinned : Pinned := { name := "ytiaineljcmjfoaa", sum := "394ae54f81e06b95db1510369a99cbfbe2e18ddcd950ce8498d8344034018e96", checked := Try.checked }
namespace Rows
def none {H : Type} : Left H := { results := [], args := [] }

/-- 'laws.FnExactSameChart': WHATEVER THE INPUT: true; the input reads as it did. -/
def fnExactSameChartSpec : ChangeSpec := { name := "fnExactSameChart", fn := fun _ => fun
  | [d1, d2] => { results := [.lit (.bool true)], args := [d1, d2] }
  | _ => none }
def fnExactSameChartRow : OpenClaim := { program := "ytiaineljcmjfoaa", sum := "394ae54f81e06b95db1510369a99cbfbe2e18ddcd950ce8498d8344034018e96", func := "loop.example/g00932/laws.FnExactSameChart", spec := "fnExactSameChart", apart := false }
def FnExactSameChartSaid : Prop := fnExactSameChartRow.holds Try.pinned (OpenSpec.ofChange fnExactSameChartSpec)

/-- ITS FALSE NEIGHBOUR: 'it returns false'. Refute it at one input. -/
def fnExactSameChartWrong : ChangeSpec := { name := "fnExactSameChart", fn := fun _ => fun
  | [d1, d2] => { results := [.lit (.bool false)], args := [d1, d2] }
  | _ => none }
def FnExactSameChartWrongFalsely : Prop := fnExactSameChartRow.holds Try.pinned (OpenSpec.ofChange fnExactSameChartWrong)

/-- 'laws.FnExactValidChart': WHATEVER THE INPUT: true; the input reads as it did. -/
def fnExactValidChartSpec : ChangeSpec := { name := "fnExactValidChart", fn := fun _ => fun
  | [d] => { results := [.lit (.bool true)], args := [d] }
  | _ => none }
def fnExactValidChartRow : OpenClaim := { program := "ytiaineljcmjfoaa", sum := "394ae54f81e06b95db1510369a99cbfbe2e18ddcd950ce8498d8344034018e96", func := "loop.example/g00932/laws.FnExactValidChart", spec := "fnExactValidChart", apart := false }
def FnExactValidChartSaid : Prop := fnExactValidChartRow.holds Try.pinned (OpenSpec.ofChange fnExactValidChartSpec)

/-- ITS FALSE NEIGHBOUR: 'it returns false'. Refute it at one input. -/
def fnExactValidChartWrong : ChangeSpec := { name := "fnExactValidChart", fn := fun _ => fun
  | [d] => { results := [.lit (.bool false)], args := [d] }
  | _ => none }
def FnExactValidChartWrongFalsely : Prop := fnExactValidChartRow.holds Try.pinned (OpenSpec.ofChange fnExactValidChartWrong)

/-- 'laws.FnExactGreatestMoment': WHATEVER THE INPUT: true; the input reads as it did. -/
def fnExactGreatestMomentSpec : ChangeSpec := { name := "fnExactGreatestMoment", fn := fun _ => fun
  | [d] => { results := [.lit (.bool true)], args := [d] }
  | _ => none }
def fnExactGreatestMomentRow : OpenClaim := { program := "ytiaineljcmjfoaa", sum := "394ae54f81e06b95db1510369a99cbfbe2e18ddcd950ce8498d8344034018e96", func := "loop.example/g00932/laws.FnExactGreatestMoment", spec := "fnExactGreatestMoment", apart := false }
def FnExactGreatestMomentSaid : Prop := fnExactGreatestMomentRow.holds Try.pinned (OpenSpec.ofChange fnExactGreatestMomentSpec)

/-- ITS FALSE NEIGHBOUR: 'it returns false'. Refute it at one input. -/
def fnExactGreatestMomentWrong : ChangeSpec := { name := "fnExactGreatestMoment", fn := fun _ => fun
  | [d] => { results := [.lit (.bool false)], args := [d] }
  | _ => none }
def FnExactGreatestMomentWrongFalsely : Prop := fnExactGreatestMomentRow.holds Try.pinned (OpenSpec.ofChange fnExactGreatestMomentWrong)

/-- 'laws.FnExactReduceChart': WHATEVER THE INPUT: true; the input reads as it did. -/
def fnExactReduceChartSpec : ChangeSpec := { name := "fnExactReduceChart", fn := fun _ => fun
  | [d1, d2] => { results := [.lit (.bool true)], args := [d1, d2] }
  | _ => none }
def fnExactReduceChartRow : OpenClaim := { program := "ytiaineljcmjfoaa", sum := "394ae54f81e06b95db1510369a99cbfbe2e18ddcd950ce8498d8344034018e96", func := "loop.example/g00932/laws.FnExactReduceChart", spec := "fnExactReduceChart", unfollowed := true, recurses := true, apart := false }
def FnExactReduceChartSaid : Prop := fnExactReduceChartRow.holds Try.pinned (OpenSpec.ofChange fnExactReduceChartSpec)

/-- ITS FALSE NEIGHBOUR: 'it returns false'. Refute it at one input. -/
def fnExactReduceChartWrong : ChangeSpec := { name := "fnExactReduceChart", fn := fun _ => fun
  | [d1, d2] => { results := [.lit (.bool false)], args := [d1, d2] }
  | _ => none }
def FnExactReduceChartWrongFalsely : Prop := fnExactReduceChartRow.holds Try.pinned (OpenSpec.ofChange fnExactReduceChartWrong)

/-- 'laws.FnExactLoadStep': WHATEVER THE INPUT: true; the input reads as it did. -/
def fnExactLoadStepSpec : ChangeSpec := { name := "fnExactLoadStep", fn := fun _ => fun
  | [d1, d2] => { results := [.lit (.bool true)], args := [d1, d2] }
  | _ => none }
def fnExactLoadStepRow : OpenClaim := { program := "ytiaineljcmjfoaa", sum := "394ae54f81e06b95db1510369a99cbfbe2e18ddcd950ce8498d8344034018e96", func := "loop.example/g00932/laws.FnExactLoadStep", spec := "fnExactLoadStep", unfollowed := true, recurses := true, apart := false }
def FnExactLoadStepSaid : Prop := fnExactLoadStepRow.holds Try.pinned (OpenSpec.ofChange fnExactLoadStepSpec)

/-- ITS FALSE NEIGHBOUR: 'it returns false'. Refute it at one input. -/
def fnExactLoadStepWrong : ChangeSpec := { name := "fnExactLoadStep", fn := fun _ => fun
  | [d1, d2] => { results := [.lit (.bool false)], args := [d1, d2] }
  | _ => none }
def FnExactLoadStepWrongFalsely : Prop := fnExactLoadStepRow.holds Try.pinned (OpenSpec.ofChange fnExactLoadStepWrong)

/-- 'laws.FnExactLessWeight': WHATEVER THE INPUT: true; the input reads as it did. -/
def fnExactLessWeightSpec : ChangeSpec := { name := "fnExactLessWeight", fn := fun _ => fun
  | [d1, d2] => { results := [.lit (.bool true)], args := [d1, d2] }
  | _ => none }
def fnExactLessWeightRow : OpenClaim := { program := "ytiaineljcmjfoaa", sum := "394ae54f81e06b95db1510369a99cbfbe2e18ddcd950ce8498d8344034018e96", func := "loop.example/g00932/laws.FnExactLessWeight", spec := "fnExactLessWeight", unfollowed := true, recurses := true, apart := false }
def FnExactLessWeightSaid : Prop := fnExactLessWeightRow.holds Try.pinned (OpenSpec.ofChange fnExactLessWeightSpec)

/-- ITS FALSE NEIGHBOUR: 'it returns false'. Refute it at one input. -/
def fnExactLessWeightWrong : ChangeSpec := { name := "fnExactLessWeight", fn := fun _ => fun
  | [d1, d2] => { results := [.lit (.bool false)], args := [d1, d2] }
  | _ => none }
def FnExactLessWeightWrongFalsely : Prop := fnExactLessWeightRow.holds Try.pinned (OpenSpec.ofChange fnExactLessWeightWrong)

/-- 'laws.FnExactRadiusFor': WHATEVER THE INPUT: true; the input reads as it did. -/
def fnExactRadiusForSpec : ChangeSpec := { name := "fnExactRadiusFor", fn := fun _ => fun
  | [d1, d2] => { results := [.lit (.bool true)], args := [d1, d2] }
  | _ => none }
def fnExactRadiusForRow : OpenClaim := { program := "ytiaineljcmjfoaa", sum := "394ae54f81e06b95db1510369a99cbfbe2e18ddcd950ce8498d8344034018e96", func := "loop.example/g00932/laws.FnExactRadiusFor", spec := "fnExactRadiusFor", unfollowed := true, recurses := true, apart := false }
def FnExactRadiusForSaid : Prop := fnExactRadiusForRow.holds Try.pinned (OpenSpec.ofChange fnExactRadiusForSpec)

/-- ITS FALSE NEIGHBOUR: 'it returns false'. Refute it at one input. -/
def fnExactRadiusForWrong : ChangeSpec := { name := "fnExactRadiusFor", fn := fun _ => fun
  | [d1, d2] => { results := [.lit (.bool false)], args := [d1, d2] }
  | _ => none }
def FnExactRadiusForWrongFalsely : Prop := fnExactRadiusForRow.holds Try.pinned (OpenSpec.ofChange fnExactRadiusForWrong)

/-- 'laws.FnExactLoadAt': WHATEVER THE INPUT: true; the input reads as it did. -/
def fnExactLoadAtSpec : ChangeSpec := { name := "fnExactLoadAt", fn := fun _ => fun
  | [d1, d2] => { results := [.lit (.bool true)], args := [d1, d2] }
  | _ => none }
def fnExactLoadAtRow : OpenClaim := { program := "ytiaineljcmjfoaa", sum := "394ae54f81e06b95db1510369a99cbfbe2e18ddcd950ce8498d8344034018e96", func := "loop.example/g00932/laws.FnExactLoadAt", spec := "fnExactLoadAt", unfollowed := true, recurses := true, apart := false }
def FnExactLoadAtSaid : Prop := fnExactLoadAtRow.holds Try.pinned (OpenSpec.ofChange fnExactLoadAtSpec)

/-- ITS FALSE NEIGHBOUR: 'it returns false'. Refute it at one input. -/
def fnExactLoadAtWrong : ChangeSpec := { name := "fnExactLoadAt", fn := fun _ => fun
  | [d1, d2] => { results := [.lit (.bool false)], args := [d1, d2] }
  | _ => none }
def FnExactLoadAtWrongFalsely : Prop := fnExactLoadAtRow.holds Try.pinned (OpenSpec.ofChange fnExactLoadAtWrong)

/-- 'laws.FnExactLesserChart': WHATEVER THE INPUT: true; the input reads as it did. -/
def fnExactLesserChartSpec : ChangeSpec := { name := "fnExactLesserChart", fn := fun _ => fun
  | [d1, d2] => { results := [.lit (.bool true)], args := [d1, d2] }
  | _ => none }
def fnExactLesserChartRow : OpenClaim := { program := "ytiaineljcmjfoaa", sum := "394ae54f81e06b95db1510369a99cbfbe2e18ddcd950ce8498d8344034018e96", func := "loop.example/g00932/laws.FnExactLesserChart", spec := "fnExactLesserChart", unfollowed := true, recurses := true, apart := false }
def FnExactLesserChartSaid : Prop := fnExactLesserChartRow.holds Try.pinned (OpenSpec.ofChange fnExactLesserChartSpec)

/-- ITS FALSE NEIGHBOUR: 'it returns false'. Refute it at one input. -/
def fnExactLesserChartWrong : ChangeSpec := { name := "fnExactLesserChart", fn := fun _ => fun
  | [d1, d2] => { results := [.lit (.bool false)], args := [d1, d2] }
  | _ => none }
def FnExactLesserChartWrongFalsely : Prop := fnExactLesserChartRow.holds Try.pinned (OpenSpec.ofChange fnExactLesserChartWrong)

/-- 'laws.FnChartCuts': WHATEVER THE INPUT: true; the input reads as it did. -/
def fnChartCutsSpec : ChangeSpec := { name := "fnChartCuts", fn := fun _ => fun
  | [d1, d2] => { results := [.lit (.bool true)], args := [d1, d2] }
  | _ => none }
def fnChartCutsRow : OpenClaim := { program := "ytiaineljcmjfoaa", sum := "394ae54f81e06b95db1510369a99cbfbe2e18ddcd950ce8498d8344034018e96", func := "loop.example/g00932/laws.FnChartCuts", spec := "fnChartCuts", unfollowed := true, recurses := true, apart := false }
def FnChartCutsSaid : Prop := fnChartCutsRow.holds Try.pinned (OpenSpec.ofChange fnChartCutsSpec)

/-- ITS FALSE NEIGHBOUR: 'it returns false'. Refute it at one input. -/
def fnChartCutsWrong : ChangeSpec := { name := "fnChartCuts", fn := fun _ => fun
  | [d1, d2] => { results := [.lit (.bool false)], args := [d1, d2] }
  | _ => none }
def FnChartCutsWrongFalsely : Prop := fnChartCutsRow.holds Try.pinned (OpenSpec.ofChange fnChartCutsWrong)

/- THE SECOND FORM. 'bulk': how many values and letters a reading holds, each counted each time it is reached (what is shared counts as often as it is met; a slice's spare places count too). A statement '..UptoSaid' is the law's where the arguments, and the package variables that the reading takes, are together of bulk at most 1048576: NARROWER than '..Said'. Prove '..Said' where nothing that the law and all that it calls make is longer than what came in: it says more and counts as full. Else prove '..UptoSaid'. A law counts once. -/
mutual
def uptoBulk {H : Type} : DataW H → Nat
  | .lit (.string bytes) => bytes.length + 1
  | .lit _ => 1
  | .nil => 1
  | .ptr d => uptoBulk d + 1
  | .slice elems spare => uptoBulkAll elems + uptoBulkAll spare + 1
  | .agg parts => uptoBulkAll parts + 1
  | .iface _ d => uptoBulk d + 1
  | .map entries => uptoBulkEntries entries + 1
  | .held _ => 1
def uptoBulkAll {H : Type} : List (DataW H) → Nat
  | [] => 0
  | d :: r => uptoBulk d + uptoBulkAll r
def uptoBulkEntries {H : Type} : List (Lit × DataW H) → Nat
  | [] => 0
  | x :: r => uptoBulkEntry x + uptoBulkEntries r
def uptoBulkEntry {H : Type} : Lit × DataW H → Nat
  | (.string bytes, d) => bytes.length + uptoBulk d + 1
  | (_, d) => uptoBulk d + 1
 end
def uptoSmall : (H : Type) → List (DataW H) → Bool := fun _ ds => decide (uptoBulkAll ds ≤ 1048576)
def OpenSpec.upto (s : _root_.Go.ChangeSpec) : _root_.Go.OpenSpec := { _root_.Go.OpenSpec.ofChange s with cond := some uptoSmall }

/-- 'laws.FnExactSameChart', WHERE WHAT IT READS IS OF BULK AT MOST 1048576: true; the input reads as it did. -/
def fnExactSameChartUptoRow : OpenClaim := { program := "ytiaineljcmjfoaa", sum := "394ae54f81e06b95db1510369a99cbfbe2e18ddcd950ce8498d8344034018e96", func := "loop.example/g00932/laws.FnExactSameChart", spec := "fnExactSameChart", apart := false, narrowed := true }
def FnExactSameChartUptoSaid : Prop := fnExactSameChartUptoRow.holds Try.pinned (OpenSpec.upto fnExactSameChartSpec)

/-- 'laws.FnExactValidChart', WHERE WHAT IT READS IS OF BULK AT MOST 1048576: true; the input reads as it did. -/
def fnExactValidChartUptoRow : OpenClaim := { program := "ytiaineljcmjfoaa", sum := "394ae54f81e06b95db1510369a99cbfbe2e18ddcd950ce8498d8344034018e96", func := "loop.example/g00932/laws.FnExactValidChart", spec := "fnExactValidChart", apart := false, narrowed := true }
def FnExactValidChartUptoSaid : Prop := fnExactValidChartUptoRow.holds Try.pinned (OpenSpec.upto fnExactValidChartSpec)

/-- 'laws.FnExactGreatestMoment', WHERE WHAT IT READS IS OF BULK AT MOST 1048576: true; the input reads as it did. -/
def fnExactGreatestMomentUptoRow : OpenClaim := { program := "ytiaineljcmjfoaa", sum := "394ae54f81e06b95db1510369a99cbfbe2e18ddcd950ce8498d8344034018e96", func := "loop.example/g00932/laws.FnExactGreatestMoment", spec := "fnExactGreatestMoment", apart := false, narrowed := true }
def FnExactGreatestMomentUptoSaid : Prop := fnExactGreatestMomentUptoRow.holds Try.pinned (OpenSpec.upto fnExactGreatestMomentSpec)

/-- 'laws.FnExactReduceChart', WHERE WHAT IT READS IS OF BULK AT MOST 1048576: true; the input reads as it did. -/
def fnExactReduceChartUptoRow : OpenClaim := { program := "ytiaineljcmjfoaa", sum := "394ae54f81e06b95db1510369a99cbfbe2e18ddcd950ce8498d8344034018e96", func := "loop.example/g00932/laws.FnExactReduceChart", spec := "fnExactReduceChart", unfollowed := true, recurses := true, apart := false, narrowed := true }
def FnExactReduceChartUptoSaid : Prop := fnExactReduceChartUptoRow.holds Try.pinned (OpenSpec.upto fnExactReduceChartSpec)

/-- 'laws.FnExactLoadStep', WHERE WHAT IT READS IS OF BULK AT MOST 1048576: true; the input reads as it did. -/
def fnExactLoadStepUptoRow : OpenClaim := { program := "ytiaineljcmjfoaa", sum := "394ae54f81e06b95db1510369a99cbfbe2e18ddcd950ce8498d8344034018e96", func := "loop.example/g00932/laws.FnExactLoadStep", spec := "fnExactLoadStep", unfollowed := true, recurses := true, apart := false, narrowed := true }
def FnExactLoadStepUptoSaid : Prop := fnExactLoadStepUptoRow.holds Try.pinned (OpenSpec.upto fnExactLoadStepSpec)

/-- 'laws.FnExactLessWeight', WHERE WHAT IT READS IS OF BULK AT MOST 1048576: true; the input reads as it did. -/
def fnExactLessWeightUptoRow : OpenClaim := { program := "ytiaineljcmjfoaa", sum := "394ae54f81e06b95db1510369a99cbfbe2e18ddcd950ce8498d8344034018e96", func := "loop.example/g00932/laws.FnExactLessWeight", spec := "fnExactLessWeight", unfollowed := true, recurses := true, apart := false, narrowed := true }
def FnExactLessWeightUptoSaid : Prop := fnExactLessWeightUptoRow.holds Try.pinned (OpenSpec.upto fnExactLessWeightSpec)

/-- 'laws.FnExactRadiusFor', WHERE WHAT IT READS IS OF BULK AT MOST 1048576: true; the input reads as it did. -/
def fnExactRadiusForUptoRow : OpenClaim := { program := "ytiaineljcmjfoaa", sum := "394ae54f81e06b95db1510369a99cbfbe2e18ddcd950ce8498d8344034018e96", func := "loop.example/g00932/laws.FnExactRadiusFor", spec := "fnExactRadiusFor", unfollowed := true, recurses := true, apart := false, narrowed := true }
def FnExactRadiusForUptoSaid : Prop := fnExactRadiusForUptoRow.holds Try.pinned (OpenSpec.upto fnExactRadiusForSpec)

/-- 'laws.FnExactLoadAt', WHERE WHAT IT READS IS OF BULK AT MOST 1048576: true; the input reads as it did. -/
def fnExactLoadAtUptoRow : OpenClaim := { program := "ytiaineljcmjfoaa", sum := "394ae54f81e06b95db1510369a99cbfbe2e18ddcd950ce8498d8344034018e96", func := "loop.example/g00932/laws.FnExactLoadAt", spec := "fnExactLoadAt", unfollowed := true, recurses := true, apart := false, narrowed := true }
def FnExactLoadAtUptoSaid : Prop := fnExactLoadAtUptoRow.holds Try.pinned (OpenSpec.upto fnExactLoadAtSpec)

/-- 'laws.FnExactLesserChart', WHERE WHAT IT READS IS OF BULK AT MOST 1048576: true; the input reads as it did. -/
def fnExactLesserChartUptoRow : OpenClaim := { program := "ytiaineljcmjfoaa", sum := "394ae54f81e06b95db1510369a99cbfbe2e18ddcd950ce8498d8344034018e96", func := "loop.example/g00932/laws.FnExactLesserChart", spec := "fnExactLesserChart", unfollowed := true, recurses := true, apart := false, narrowed := true }
def FnExactLesserChartUptoSaid : Prop := fnExactLesserChartUptoRow.holds Try.pinned (OpenSpec.upto fnExactLesserChartSpec)

/-- 'laws.FnChartCuts', WHERE WHAT IT READS IS OF BULK AT MOST 1048576: true; the input reads as it did. -/
def fnChartCutsUptoRow : OpenClaim := { program := "ytiaineljcmjfoaa", sum := "394ae54f81e06b95db1510369a99cbfbe2e18ddcd950ce8498d8344034018e96", func := "loop.example/g00932/laws.FnChartCuts", spec := "fnChartCuts", unfollowed := true, recurses := true, apart := false, narrowed := true }
def FnChartCutsUptoSaid : Prop := fnChartCutsUptoRow.holds Try.pinned (OpenSpec.upto fnChartCutsSpec)

end Rows
end Go.Proofs.Ytiaineljcmjfoaa
