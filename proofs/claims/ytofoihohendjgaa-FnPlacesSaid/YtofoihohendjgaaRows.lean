/-
  No cell of these rows narrows 'for every input' (looked for: loops, veiled, ifaces, maps, wideKeys, modest, calm, conditions, laid).
  DERIVED. THE GIVEN ROWS OF THIS SEAT. 6 by the template 'for every input the law returns true; each argument reads behind the call as it read before'; 0 by the template 'total and deterministic' (their statements: YtofoihohendjgaaTotals.lean).
  GIVEN WITH THE SEED: the statements are not yours to turn. If you find one false, say at which input.
  Laid BY PROGRAM, IN A SANDBOX (cutbox-rows.mjs): the forced cells as the released guide's own fill.sh prints them over the translation 9f4a95114af0fc62… (all of the seat's roots in one cut). By AI agents, Wed Nov 11 2026. No macro, syntax, notation, axiom, sorry.
-/
import Derived.Test.YtofoihohendjgaaChecked
import GoSem.Claim
import GoSem.ClaimJoined
import GoSem.ClaimMapViews
import Derived.JoinedTies
import Derived.KernelRfl
namespace Go.Proofs.Ytofoihohendjgaa
/- THE CELL 'sum', in the pinned program and in every row, IS THE sha256 OF THE DUMP (.gsa) THAT YtofoihohendjgaaProg.lean LOADS. Nothing in Lean hashes anything: it is a label: what it is worth is what the hold of that sum in a sandbox is worth. -/
noncomputable def Try.pinned : Pinned := { name := "ytofoihohendjgaa", sum := "9f4a95114af0fc62592a25b344325ffd078c8fc56adfaaa31fd10cb174149685", checked := Try.checked }
namespace Rows
def none {H : Type} : Left H := { results := [], args := [] }

/-- 'laws.FnExactSquareBetween': WHATEVER THE INPUT: true; the input reads as it did. -/
def fnExactSquareBetweenSpec : ChangeSpec := { name := "fnExactSquareBetween", fn := fun _ => fun
  | [d1, d2] => { results := [.lit (.bool true)], args := [d1, d2] }
  | _ => none }
def fnExactSquareBetweenRow : OpenClaim := { program := "ytofoihohendjgaa", sum := "9f4a95114af0fc62592a25b344325ffd078c8fc56adfaaa31fd10cb174149685", func := "loop.example/g00932/laws.FnExactSquareBetween", spec := "fnExactSquareBetween", apart := false }
def FnExactSquareBetweenSaid : Prop := fnExactSquareBetweenRow.holds Try.pinned (OpenSpec.ofChange fnExactSquareBetweenSpec)

/-- ITS FALSE NEIGHBOUR: 'it returns false'. Refute it at one input. -/
def fnExactSquareBetweenWrong : ChangeSpec := { name := "fnExactSquareBetween", fn := fun _ => fun
  | [d1, d2] => { results := [.lit (.bool false)], args := [d1, d2] }
  | _ => none }
def FnExactSquareBetweenWrongFalsely : Prop := fnExactSquareBetweenRow.holds Try.pinned (OpenSpec.ofChange fnExactSquareBetweenWrong)

/-- 'laws.FnExactTurnBetween': WHATEVER THE INPUT: true; the input reads as it did. -/
def fnExactTurnBetweenSpec : ChangeSpec := { name := "fnExactTurnBetween", fn := fun _ => fun
  | [d1, d2] => { results := [.lit (.bool true)], args := [d1, d2] }
  | _ => none }
def fnExactTurnBetweenRow : OpenClaim := { program := "ytofoihohendjgaa", sum := "9f4a95114af0fc62592a25b344325ffd078c8fc56adfaaa31fd10cb174149685", func := "loop.example/g00932/laws.FnExactTurnBetween", spec := "fnExactTurnBetween", apart := false }
def FnExactTurnBetweenSaid : Prop := fnExactTurnBetweenRow.holds Try.pinned (OpenSpec.ofChange fnExactTurnBetweenSpec)

/-- ITS FALSE NEIGHBOUR: 'it returns false'. Refute it at one input. -/
def fnExactTurnBetweenWrong : ChangeSpec := { name := "fnExactTurnBetween", fn := fun _ => fun
  | [d1, d2] => { results := [.lit (.bool false)], args := [d1, d2] }
  | _ => none }
def FnExactTurnBetweenWrongFalsely : Prop := fnExactTurnBetweenRow.holds Try.pinned (OpenSpec.ofChange fnExactTurnBetweenWrong)

/-- 'laws.FnExactRootUp': WHATEVER THE INPUT: true; the input reads as it did. -/
def fnExactRootUpSpec : ChangeSpec := { name := "fnExactRootUp", fn := fun _ => fun
  | [d] => { results := [.lit (.bool true)], args := [d] }
  | _ => none }
def fnExactRootUpRow : OpenClaim := { program := "ytofoihohendjgaa", sum := "9f4a95114af0fc62592a25b344325ffd078c8fc56adfaaa31fd10cb174149685", func := "loop.example/g00932/laws.FnExactRootUp", spec := "fnExactRootUp", apart := false }
def FnExactRootUpSaid : Prop := fnExactRootUpRow.holds Try.pinned (OpenSpec.ofChange fnExactRootUpSpec)

/-- ITS FALSE NEIGHBOUR: 'it returns false'. Refute it at one input. -/
def fnExactRootUpWrong : ChangeSpec := { name := "fnExactRootUp", fn := fun _ => fun
  | [d] => { results := [.lit (.bool false)], args := [d] }
  | _ => none }
def FnExactRootUpWrongFalsely : Prop := fnExactRootUpRow.holds Try.pinned (OpenSpec.ofChange fnExactRootUpWrong)

/-- 'laws.FnExactRadiusBetween': WHATEVER THE INPUT: true; the input reads as it did. -/
def fnExactRadiusBetweenSpec : ChangeSpec := { name := "fnExactRadiusBetween", fn := fun _ => fun
  | [d1, d2] => { results := [.lit (.bool true)], args := [d1, d2] }
  | _ => none }
def fnExactRadiusBetweenRow : OpenClaim := { program := "ytofoihohendjgaa", sum := "9f4a95114af0fc62592a25b344325ffd078c8fc56adfaaa31fd10cb174149685", func := "loop.example/g00932/laws.FnExactRadiusBetween", spec := "fnExactRadiusBetween", apart := false }
def FnExactRadiusBetweenSaid : Prop := fnExactRadiusBetweenRow.holds Try.pinned (OpenSpec.ofChange fnExactRadiusBetweenSpec)

/-- ITS FALSE NEIGHBOUR: 'it returns false'. Refute it at one input. -/
def fnExactRadiusBetweenWrong : ChangeSpec := { name := "fnExactRadiusBetween", fn := fun _ => fun
  | [d1, d2] => { results := [.lit (.bool false)], args := [d1, d2] }
  | _ => none }
def FnExactRadiusBetweenWrongFalsely : Prop := fnExactRadiusBetweenRow.holds Try.pinned (OpenSpec.ofChange fnExactRadiusBetweenWrong)

/-- 'laws.FnExactWayOf': WHATEVER THE INPUT: true; the input reads as it did. -/
def fnExactWayOfSpec : ChangeSpec := { name := "fnExactWayOf", fn := fun _ => fun
  | [d1, d2] => { results := [.lit (.bool true)], args := [d1, d2] }
  | _ => none }
def fnExactWayOfRow : OpenClaim := { program := "ytofoihohendjgaa", sum := "9f4a95114af0fc62592a25b344325ffd078c8fc56adfaaa31fd10cb174149685", func := "loop.example/g00932/laws.FnExactWayOf", spec := "fnExactWayOf", apart := false }
def FnExactWayOfSaid : Prop := fnExactWayOfRow.holds Try.pinned (OpenSpec.ofChange fnExactWayOfSpec)

/-- ITS FALSE NEIGHBOUR: 'it returns false'. Refute it at one input. -/
def fnExactWayOfWrong : ChangeSpec := { name := "fnExactWayOf", fn := fun _ => fun
  | [d1, d2] => { results := [.lit (.bool false)], args := [d1, d2] }
  | _ => none }
def FnExactWayOfWrongFalsely : Prop := fnExactWayOfRow.holds Try.pinned (OpenSpec.ofChange fnExactWayOfWrong)

/-- 'laws.FnPlaces': WHATEVER THE INPUT: true; the input reads as it did. -/
def fnPlacesSpec : ChangeSpec := { name := "fnPlaces", fn := fun _ => fun
  | [d] => { results := [.lit (.bool true)], args := [d] }
  | _ => none }
def fnPlacesRow : OpenClaim := { program := "ytofoihohendjgaa", sum := "9f4a95114af0fc62592a25b344325ffd078c8fc56adfaaa31fd10cb174149685", func := "loop.example/g00932/laws.FnPlaces", spec := "fnPlaces", apart := false }
def FnPlacesSaid : Prop := fnPlacesRow.holds Try.pinned (OpenSpec.ofChange fnPlacesSpec)

/-- ITS FALSE NEIGHBOUR: 'it returns false'. Refute it at one input. -/
def fnPlacesWrong : ChangeSpec := { name := "fnPlaces", fn := fun _ => fun
  | [d] => { results := [.lit (.bool false)], args := [d] }
  | _ => none }
def FnPlacesWrongFalsely : Prop := fnPlacesRow.holds Try.pinned (OpenSpec.ofChange fnPlacesWrong)

/- THE SECOND FORM. 'bulk': how many values and letters a reading holds, each counted each time it is reached (what is shared counts as often as it is met; a slice's spare places count too). A statement '..UptoSaid' is the law's where the arguments, and the package variables that the reading takes, are together of bulk at most 1048576: NARROWER than '..Said'. Prove '..Said' where nothing that the law and all that it calls make is longer than what came in: it says more and counts as full. Else prove '..UptoSaid'. A law counts once. -/
mutual
def uptoBulk {H : Type} : DataW H → Nat
  | .lit (.string bytes) => bytes.length + 1
  | .lit _ => 1
  | .nil => 1
  | .ptr d => uptoBulk d + 1
  | .slice elems spare => uptoBulkAll elems + uptoBulkAll spare + 1
  | .agg parts => uptoBulkAll parts + 1
  | .iface _ d => uptoBulk d + 1
  | .map entries => uptoBulkEntries entries + 1
  | .held _ => 1
def uptoBulkAll {H : Type} : List (DataW H) → Nat
  | [] => 0
  | d :: r => uptoBulk d + uptoBulkAll r
def uptoBulkEntries {H : Type} : List (Lit × DataW H) → Nat
  | [] => 0
  | x :: r => uptoBulkEntry x + uptoBulkEntries r
def uptoBulkEntry {H : Type} : Lit × DataW H → Nat
  | (.string bytes, d) => bytes.length + uptoBulk d + 1
  | (_, d) => uptoBulk d + 1
 end
def uptoSmall : (H : Type) → List (DataW H) → Bool := fun _ ds => decide (uptoBulkAll ds ≤ 1048576)
def OpenSpec.upto (s : _root_.Go.ChangeSpec) : _root_.Go.OpenSpec := { _root_.Go.OpenSpec.ofChange s with cond := some uptoSmall }

/-- 'laws.FnExactSquareBetween', WHERE WHAT IT READS IS OF BULK AT MOST 1048576: true; the input reads as it did. -/
def fnExactSquareBetweenUptoRow : OpenClaim := { program := "ytofoihohendjgaa", sum := "9f4a95114af0fc62592a25b344325ffd078c8fc56adfaaa31fd10cb174149685", func := "loop.example/g00932/laws.FnExactSquareBetween", spec := "fnExactSquareBetween", apart := false, narrowed := true }
def FnExactSquareBetweenUptoSaid : Prop := fnExactSquareBetweenUptoRow.holds Try.pinned (OpenSpec.upto fnExactSquareBetweenSpec)

/-- 'laws.FnExactTurnBetween', WHERE WHAT IT READS IS OF BULK AT MOST 1048576: true; the input reads as it did. -/
def fnExactTurnBetweenUptoRow : OpenClaim := { program := "ytofoihohendjgaa", sum := "9f4a95114af0fc62592a25b344325ffd078c8fc56adfaaa31fd10cb174149685", func := "loop.example/g00932/laws.FnExactTurnBetween", spec := "fnExactTurnBetween", apart := false, narrowed := true }
def FnExactTurnBetweenUptoSaid : Prop := fnExactTurnBetweenUptoRow.holds Try.pinned (OpenSpec.upto fnExactTurnBetweenSpec)

/-- 'laws.FnExactRootUp', WHERE WHAT IT READS IS OF BULK AT MOST 1048576: true; the input reads as it did. -/
def fnExactRootUpUptoRow : OpenClaim := { program := "ytofoihohendjgaa", sum := "9f4a95114af0fc62592a25b344325ffd078c8fc56adfaaa31fd10cb174149685", func := "loop.example/g00932/laws.FnExactRootUp", spec := "fnExactRootUp", apart := false, narrowed := true }
def FnExactRootUpUptoSaid : Prop := fnExactRootUpUptoRow.holds Try.pinned (OpenSpec.upto fnExactRootUpSpec)

/-- 'laws.FnExactRadiusBetween', WHERE WHAT IT READS IS OF BULK AT MOST 1048576: true; the input reads as it did. -/
def fnExactRadiusBetweenUptoRow : OpenClaim := { program := "ytofoihohendjgaa", sum := "9f4a95114af0fc62592a25b344325ffd078c8fc56adfaaa31fd10cb174149685", func := "loop.example/g00932/laws.FnExactRadiusBetween", spec := "fnExactRadiusBetween", apart := false, narrowed := true }
def FnExactRadiusBetweenUptoSaid : Prop := fnExactRadiusBetweenUptoRow.holds Try.pinned (OpenSpec.upto fnExactRadiusBetweenSpec)

/-- 'laws.FnExactWayOf', WHERE WHAT IT READS IS OF BULK AT MOST 1048576: true; the input reads as it did. -/
def fnExactWayOfUptoRow : OpenClaim := { program := "ytofoihohendjgaa", sum := "9f4a95114af0fc62592a25b344325ffd078c8fc56adfaaa31fd10cb174149685", func := "loop.example/g00932/laws.FnExactWayOf", spec := "fnExactWayOf", apart := false, narrowed := true }
def FnExactWayOfUptoSaid : Prop := fnExactWayOfUptoRow.holds Try.pinned (OpenSpec.upto fnExactWayOfSpec)

/-- 'laws.FnPlaces', WHERE WHAT IT READS IS OF BULK AT MOST 1048576: true; the input reads as it did. -/
def fnPlacesUptoRow : OpenClaim := { program := "ytofoihohendjgaa", sum := "9f4a95114af0fc62592a25b344325ffd078c8fc56adfaaa31fd10cb174149685", func := "loop.example/g00932/laws.FnPlaces", spec := "fnPlaces", apart := false, narrowed := true }
def FnPlacesUptoSaid : Prop := fnPlacesUptoRow.holds Try.pinned (OpenSpec.upto fnPlacesSpec)

end Rows
end Go.Proofs.Ytofoihohendjgaa
