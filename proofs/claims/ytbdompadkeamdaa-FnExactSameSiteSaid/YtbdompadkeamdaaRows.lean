/-
  No cell of these rows narrows 'for every input' (looked for: loops, veiled, ifaces, maps, wideKeys, modest, calm, conditions, laid).
  DERIVED. THE GIVEN ROWS OF THIS SEAT. 11 by the template 'for every input the law returns true; each argument reads behind the call as it read before'; 0 by the template 'total and deterministic' (their statements: YtbdompadkeamdaaTotals.lean).
  GIVEN WITH THE SEED: the statements are not yours to turn. If you find one false, say at which input.
  Laid BY PROGRAM, IN A SANDBOX (cutbox-rows.mjs): the forced cells as the released guide's own fill.sh prints them over the translation 5a4c4510a6e7b27b… (all of the seat's roots in one cut). By AI agents, Wed Nov 11 2026. No macro, syntax, notation, axiom, sorry.
-/
import Derived.Test.YtbdompadkeamdaaChecked
import GoSem.Claim
import GoSem.ClaimJoined
import GoSem.ClaimMapViews
import Derived.JoinedTies
import Derived.KernelRfl
namespace Go.Proofs.Ytbdompadkeamdaa
/- THE CELL 'sum', in the pinned program and in every row, IS THE sha256 OF THE DUMP (.gsa) THAT YtbdompadkeamdaaProg.lean LOADS. Nothing in Lean hashes anything: it is a label: what it is worth is what the hold of that sum in a sandbox is worth. -/
noncomputable def Try.pinned : Pinned := { name := "ytbdompadkeamdaa", sum := "5a4c4510a6e7b27b032dcdb350128f9d35452c4f050a1c0a9b85c420ee8900d8", checked := Try.checked }
namespace Rows
def none {H : Type} : Left H := { results := [], args := [] }

/-- 'laws.FnExactSameZone': WHATEVER THE INPUT: true; the input reads as it did. -/
def fnExactSameZoneSpec : ChangeSpec := { name := "fnExactSameZone", fn := fun _ => fun
  | [d1, d2] => { results := [.lit (.bool true)], args := [d1, d2] }
  | _ => none }
def fnExactSameZoneRow : OpenClaim := { program := "ytbdompadkeamdaa", sum := "5a4c4510a6e7b27b032dcdb350128f9d35452c4f050a1c0a9b85c420ee8900d8", func := "loop.example/g00932/laws.FnExactSameZone", spec := "fnExactSameZone", apart := false }
def FnExactSameZoneSaid : Prop := fnExactSameZoneRow.holds Try.pinned (OpenSpec.ofChange fnExactSameZoneSpec)

/-- ITS FALSE NEIGHBOUR: 'it returns false'. Refute it at one input. -/
def fnExactSameZoneWrong : ChangeSpec := { name := "fnExactSameZone", fn := fun _ => fun
  | [d1, d2] => { results := [.lit (.bool false)], args := [d1, d2] }
  | _ => none }
def FnExactSameZoneWrongFalsely : Prop := fnExactSameZoneRow.holds Try.pinned (OpenSpec.ofChange fnExactSameZoneWrong)

/-- 'laws.FnExactValidZone': WHATEVER THE INPUT: true; the input reads as it did. -/
def fnExactValidZoneSpec : ChangeSpec := { name := "fnExactValidZone", fn := fun _ => fun
  | [d] => { results := [.lit (.bool true)], args := [d] }
  | _ => none }
def fnExactValidZoneRow : OpenClaim := { program := "ytbdompadkeamdaa", sum := "5a4c4510a6e7b27b032dcdb350128f9d35452c4f050a1c0a9b85c420ee8900d8", func := "loop.example/g00932/laws.FnExactValidZone", spec := "fnExactValidZone", unfollowed := true, recurses := true, apart := false }
def FnExactValidZoneSaid : Prop := fnExactValidZoneRow.holds Try.pinned (OpenSpec.ofChange fnExactValidZoneSpec)

/-- ITS FALSE NEIGHBOUR: 'it returns false'. Refute it at one input. -/
def fnExactValidZoneWrong : ChangeSpec := { name := "fnExactValidZone", fn := fun _ => fun
  | [d] => { results := [.lit (.bool false)], args := [d] }
  | _ => none }
def FnExactValidZoneWrongFalsely : Prop := fnExactValidZoneRow.holds Try.pinned (OpenSpec.ofChange fnExactValidZoneWrong)

/-- 'laws.FnExactZoneHeight': WHATEVER THE INPUT: true; the input reads as it did. -/
def fnExactZoneHeightSpec : ChangeSpec := { name := "fnExactZoneHeight", fn := fun _ => fun
  | [d] => { results := [.lit (.bool true)], args := [d] }
  | _ => none }
def fnExactZoneHeightRow : OpenClaim := { program := "ytbdompadkeamdaa", sum := "5a4c4510a6e7b27b032dcdb350128f9d35452c4f050a1c0a9b85c420ee8900d8", func := "loop.example/g00932/laws.FnExactZoneHeight", spec := "fnExactZoneHeight", unfollowed := true, recurses := true, apart := false }
def FnExactZoneHeightSaid : Prop := fnExactZoneHeightRow.holds Try.pinned (OpenSpec.ofChange fnExactZoneHeightSpec)

/-- ITS FALSE NEIGHBOUR: 'it returns false'. Refute it at one input. -/
def fnExactZoneHeightWrong : ChangeSpec := { name := "fnExactZoneHeight", fn := fun _ => fun
  | [d] => { results := [.lit (.bool false)], args := [d] }
  | _ => none }
def FnExactZoneHeightWrongFalsely : Prop := fnExactZoneHeightRow.holds Try.pinned (OpenSpec.ofChange fnExactZoneHeightWrong)

/-- 'laws.FnExactDoubleAreaOf': WHATEVER THE INPUT: true; the input reads as it did. -/
def fnExactDoubleAreaOfSpec : ChangeSpec := { name := "fnExactDoubleAreaOf", fn := fun _ => fun
  | [d] => { results := [.lit (.bool true)], args := [d] }
  | _ => none }
def fnExactDoubleAreaOfRow : OpenClaim := { program := "ytbdompadkeamdaa", sum := "5a4c4510a6e7b27b032dcdb350128f9d35452c4f050a1c0a9b85c420ee8900d8", func := "loop.example/g00932/laws.FnExactDoubleAreaOf", spec := "fnExactDoubleAreaOf", unfollowed := true, recurses := true, apart := false }
def FnExactDoubleAreaOfSaid : Prop := fnExactDoubleAreaOfRow.holds Try.pinned (OpenSpec.ofChange fnExactDoubleAreaOfSpec)

/-- ITS FALSE NEIGHBOUR: 'it returns false'. Refute it at one input. -/
def fnExactDoubleAreaOfWrong : ChangeSpec := { name := "fnExactDoubleAreaOf", fn := fun _ => fun
  | [d] => { results := [.lit (.bool false)], args := [d] }
  | _ => none }
def FnExactDoubleAreaOfWrongFalsely : Prop := fnExactDoubleAreaOfRow.holds Try.pinned (OpenSpec.ofChange fnExactDoubleAreaOfWrong)

/-- 'laws.FnExactPlaceInZone': WHATEVER THE INPUT: true; the input reads as it did. -/
def fnExactPlaceInZoneSpec : ChangeSpec := { name := "fnExactPlaceInZone", fn := fun _ => fun
  | [d1, d2] => { results := [.lit (.bool true)], args := [d1, d2] }
  | _ => none }
def fnExactPlaceInZoneRow : OpenClaim := { program := "ytbdompadkeamdaa", sum := "5a4c4510a6e7b27b032dcdb350128f9d35452c4f050a1c0a9b85c420ee8900d8", func := "loop.example/g00932/laws.FnExactPlaceInZone", spec := "fnExactPlaceInZone", unfollowed := true, recurses := true, apart := false }
def FnExactPlaceInZoneSaid : Prop := fnExactPlaceInZoneRow.holds Try.pinned (OpenSpec.ofChange fnExactPlaceInZoneSpec)

/-- ITS FALSE NEIGHBOUR: 'it returns false'. Refute it at one input. -/
def fnExactPlaceInZoneWrong : ChangeSpec := { name := "fnExactPlaceInZone", fn := fun _ => fun
  | [d1, d2] => { results := [.lit (.bool false)], args := [d1, d2] }
  | _ => none }
def FnExactPlaceInZoneWrongFalsely : Prop := fnExactPlaceInZoneRow.holds Try.pinned (OpenSpec.ofChange fnExactPlaceInZoneWrong)

/-- 'laws.FnExactBlocksJib': WHATEVER THE INPUT: true; the input reads as it did. -/
def fnExactBlocksJibSpec : ChangeSpec := { name := "fnExactBlocksJib", fn := fun _ => fun
  | [d1, d2] => { results := [.lit (.bool true)], args := [d1, d2] }
  | _ => none }
def fnExactBlocksJibRow : OpenClaim := { program := "ytbdompadkeamdaa", sum := "5a4c4510a6e7b27b032dcdb350128f9d35452c4f050a1c0a9b85c420ee8900d8", func := "loop.example/g00932/laws.FnExactBlocksJib", spec := "fnExactBlocksJib", unfollowed := true, recurses := true, apart := false }
def FnExactBlocksJibSaid : Prop := fnExactBlocksJibRow.holds Try.pinned (OpenSpec.ofChange fnExactBlocksJibSpec)

/-- ITS FALSE NEIGHBOUR: 'it returns false'. Refute it at one input. -/
def fnExactBlocksJibWrong : ChangeSpec := { name := "fnExactBlocksJib", fn := fun _ => fun
  | [d1, d2] => { results := [.lit (.bool false)], args := [d1, d2] }
  | _ => none }
def FnExactBlocksJibWrongFalsely : Prop := fnExactBlocksJibRow.holds Try.pinned (OpenSpec.ofChange fnExactBlocksJibWrong)

/-- 'laws.FnExactBlocksLoad': WHATEVER THE INPUT: true; the input reads as it did. -/
def fnExactBlocksLoadSpec : ChangeSpec := { name := "fnExactBlocksLoad", fn := fun _ => fun
  | [d1, d2] => { results := [.lit (.bool true)], args := [d1, d2] }
  | _ => none }
def fnExactBlocksLoadRow : OpenClaim := { program := "ytbdompadkeamdaa", sum := "5a4c4510a6e7b27b032dcdb350128f9d35452c4f050a1c0a9b85c420ee8900d8", func := "loop.example/g00932/laws.FnExactBlocksLoad", spec := "fnExactBlocksLoad", unfollowed := true, recurses := true, apart := false }
def FnExactBlocksLoadSaid : Prop := fnExactBlocksLoadRow.holds Try.pinned (OpenSpec.ofChange fnExactBlocksLoadSpec)

/-- ITS FALSE NEIGHBOUR: 'it returns false'. Refute it at one input. -/
def fnExactBlocksLoadWrong : ChangeSpec := { name := "fnExactBlocksLoad", fn := fun _ => fun
  | [d1, d2] => { results := [.lit (.bool false)], args := [d1, d2] }
  | _ => none }
def FnExactBlocksLoadWrongFalsely : Prop := fnExactBlocksLoadRow.holds Try.pinned (OpenSpec.ofChange fnExactBlocksLoadWrong)

/-- 'laws.FnExactValidCrane': WHATEVER THE INPUT: true; the input reads as it did. -/
def fnExactValidCraneSpec : ChangeSpec := { name := "fnExactValidCrane", fn := fun _ => fun
  | [d] => { results := [.lit (.bool true)], args := [d] }
  | _ => none }
def fnExactValidCraneRow : OpenClaim := { program := "ytbdompadkeamdaa", sum := "5a4c4510a6e7b27b032dcdb350128f9d35452c4f050a1c0a9b85c420ee8900d8", func := "loop.example/g00932/laws.FnExactValidCrane", spec := "fnExactValidCrane", apart := false }
def FnExactValidCraneSaid : Prop := fnExactValidCraneRow.holds Try.pinned (OpenSpec.ofChange fnExactValidCraneSpec)

/-- ITS FALSE NEIGHBOUR: 'it returns false'. Refute it at one input. -/
def fnExactValidCraneWrong : ChangeSpec := { name := "fnExactValidCrane", fn := fun _ => fun
  | [d] => { results := [.lit (.bool false)], args := [d] }
  | _ => none }
def FnExactValidCraneWrongFalsely : Prop := fnExactValidCraneRow.holds Try.pinned (OpenSpec.ofChange fnExactValidCraneWrong)

/-- 'laws.FnExactSameSite': WHATEVER THE INPUT: true; the input reads as it did. -/
def fnExactSameSiteSpec : ChangeSpec := { name := "fnExactSameSite", fn := fun _ => fun
  | [d1, d2] => { results := [.lit (.bool true)], args := [d1, d2] }
  | _ => none }
def fnExactSameSiteRow : OpenClaim := { program := "ytbdompadkeamdaa", sum := "5a4c4510a6e7b27b032dcdb350128f9d35452c4f050a1c0a9b85c420ee8900d8", func := "loop.example/g00932/laws.FnExactSameSite", spec := "fnExactSameSite", unfollowed := true, recurses := true, apart := false }
def FnExactSameSiteSaid : Prop := fnExactSameSiteRow.holds Try.pinned (OpenSpec.ofChange fnExactSameSiteSpec)

/-- ITS FALSE NEIGHBOUR: 'it returns false'. Refute it at one input. -/
def fnExactSameSiteWrong : ChangeSpec := { name := "fnExactSameSite", fn := fun _ => fun
  | [d1, d2] => { results := [.lit (.bool false)], args := [d1, d2] }
  | _ => none }
def FnExactSameSiteWrongFalsely : Prop := fnExactSameSiteRow.holds Try.pinned (OpenSpec.ofChange fnExactSameSiteWrong)

/-- 'laws.FnExactReachesPlace': WHATEVER THE INPUT: true; the input reads as it did. -/
def fnExactReachesPlaceSpec : ChangeSpec := { name := "fnExactReachesPlace", fn := fun _ => fun
  | [d1, d2] => { results := [.lit (.bool true)], args := [d1, d2] }
  | _ => none }
def fnExactReachesPlaceRow : OpenClaim := { program := "ytbdompadkeamdaa", sum := "5a4c4510a6e7b27b032dcdb350128f9d35452c4f050a1c0a9b85c420ee8900d8", func := "loop.example/g00932/laws.FnExactReachesPlace", spec := "fnExactReachesPlace", unfollowed := true, recurses := true, apart := false }
def FnExactReachesPlaceSaid : Prop := fnExactReachesPlaceRow.holds Try.pinned (OpenSpec.ofChange fnExactReachesPlaceSpec)

/-- ITS FALSE NEIGHBOUR: 'it returns false'. Refute it at one input. -/
def fnExactReachesPlaceWrong : ChangeSpec := { name := "fnExactReachesPlace", fn := fun _ => fun
  | [d1, d2] => { results := [.lit (.bool false)], args := [d1, d2] }
  | _ => none }
def FnExactReachesPlaceWrongFalsely : Prop := fnExactReachesPlaceRow.holds Try.pinned (OpenSpec.ofChange fnExactReachesPlaceWrong)

/-- 'laws.FnExactLoadAtPlace': WHATEVER THE INPUT: true; the input reads as it did. -/
def fnExactLoadAtPlaceSpec : ChangeSpec := { name := "fnExactLoadAtPlace", fn := fun _ => fun
  | [d1, d2] => { results := [.lit (.bool true)], args := [d1, d2] }
  | _ => none }
def fnExactLoadAtPlaceRow : OpenClaim := { program := "ytbdompadkeamdaa", sum := "5a4c4510a6e7b27b032dcdb350128f9d35452c4f050a1c0a9b85c420ee8900d8", func := "loop.example/g00932/laws.FnExactLoadAtPlace", spec := "fnExactLoadAtPlace", unfollowed := true, recurses := true, apart := false }
def FnExactLoadAtPlaceSaid : Prop := fnExactLoadAtPlaceRow.holds Try.pinned (OpenSpec.ofChange fnExactLoadAtPlaceSpec)

/-- ITS FALSE NEIGHBOUR: 'it returns false'. Refute it at one input. -/
def fnExactLoadAtPlaceWrong : ChangeSpec := { name := "fnExactLoadAtPlace", fn := fun _ => fun
  | [d1, d2] => { results := [.lit (.bool false)], args := [d1, d2] }
  | _ => none }
def FnExactLoadAtPlaceWrongFalsely : Prop := fnExactLoadAtPlaceRow.holds Try.pinned (OpenSpec.ofChange fnExactLoadAtPlaceWrong)

/- THE SECOND FORM. 'bulk': how many values and letters a reading holds, each counted each time it is reached (what is shared counts as often as it is met; a slice's spare places count too). A statement '..UptoSaid' is the law's where the arguments, and the package variables that the reading takes, are together of bulk at most 1048576: NARROWER than '..Said'. Prove '..Said' where nothing that the law and all that it calls make is longer than what came in: it says more and counts as full. Else prove '..UptoSaid'. A law counts once. -/
mutual
def uptoBulk {H : Type} : DataW H → Nat
  | .lit (.string bytes) => bytes.length + 1
  | .lit _ => 1
  | .nil => 1
  | .ptr d => uptoBulk d + 1
  | .slice elems spare => uptoBulkAll elems + uptoBulkAll spare + 1
  | .agg parts => uptoBulkAll parts + 1
  | .iface _ d => uptoBulk d + 1
  | .map entries => uptoBulkEntries entries + 1
  | .held _ => 1
def uptoBulkAll {H : Type} : List (DataW H) → Nat
  | [] => 0
  | d :: r => uptoBulk d + uptoBulkAll r
def uptoBulkEntries {H : Type} : List (Lit × DataW H) → Nat
  | [] => 0
  | x :: r => uptoBulkEntry x + uptoBulkEntries r
def uptoBulkEntry {H : Type} : Lit × DataW H → Nat
  | (.string bytes, d) => bytes.length + uptoBulk d + 1
  | (_, d) => uptoBulk d + 1
 end
def uptoSmall : (H : Type) → List (DataW H) → Bool := fun _ ds => decide (uptoBulkAll ds ≤ 1048576)
def OpenSpec.upto (s : _root_.Go.ChangeSpec) : _root_.Go.OpenSpec := { _root_.Go.OpenSpec.ofChange s with cond := some uptoSmall }

/-- 'laws.FnExactSameZone', WHERE WHAT IT READS IS OF BULK AT MOST 1048576: true; the input reads as it did. -/
def fnExactSameZoneUptoRow : OpenClaim := { program := "ytbdompadkeamdaa", sum := "5a4c4510a6e7b27b032dcdb350128f9d35452c4f050a1c0a9b85c420ee8900d8", func := "loop.example/g00932/laws.FnExactSameZone", spec := "fnExactSameZone", apart := false, narrowed := true }
def FnExactSameZoneUptoSaid : Prop := fnExactSameZoneUptoRow.holds Try.pinned (OpenSpec.upto fnExactSameZoneSpec)

/-- 'laws.FnExactValidZone', WHERE WHAT IT READS IS OF BULK AT MOST 1048576: true; the input reads as it did. -/
def fnExactValidZoneUptoRow : OpenClaim := { program := "ytbdompadkeamdaa", sum := "5a4c4510a6e7b27b032dcdb350128f9d35452c4f050a1c0a9b85c420ee8900d8", func := "loop.example/g00932/laws.FnExactValidZone", spec := "fnExactValidZone", unfollowed := true, recurses := true, apart := false, narrowed := true }
def FnExactValidZoneUptoSaid : Prop := fnExactValidZoneUptoRow.holds Try.pinned (OpenSpec.upto fnExactValidZoneSpec)

/-- 'laws.FnExactZoneHeight', WHERE WHAT IT READS IS OF BULK AT MOST 1048576: true; the input reads as it did. -/
def fnExactZoneHeightUptoRow : OpenClaim := { program := "ytbdompadkeamdaa", sum := "5a4c4510a6e7b27b032dcdb350128f9d35452c4f050a1c0a9b85c420ee8900d8", func := "loop.example/g00932/laws.FnExactZoneHeight", spec := "fnExactZoneHeight", unfollowed := true, recurses := true, apart := false, narrowed := true }
def FnExactZoneHeightUptoSaid : Prop := fnExactZoneHeightUptoRow.holds Try.pinned (OpenSpec.upto fnExactZoneHeightSpec)

/-- 'laws.FnExactDoubleAreaOf', WHERE WHAT IT READS IS OF BULK AT MOST 1048576: true; the input reads as it did. -/
def fnExactDoubleAreaOfUptoRow : OpenClaim := { program := "ytbdompadkeamdaa", sum := "5a4c4510a6e7b27b032dcdb350128f9d35452c4f050a1c0a9b85c420ee8900d8", func := "loop.example/g00932/laws.FnExactDoubleAreaOf", spec := "fnExactDoubleAreaOf", unfollowed := true, recurses := true, apart := false, narrowed := true }
def FnExactDoubleAreaOfUptoSaid : Prop := fnExactDoubleAreaOfUptoRow.holds Try.pinned (OpenSpec.upto fnExactDoubleAreaOfSpec)

/-- 'laws.FnExactPlaceInZone', WHERE WHAT IT READS IS OF BULK AT MOST 1048576: true; the input reads as it did. -/
def fnExactPlaceInZoneUptoRow : OpenClaim := { program := "ytbdompadkeamdaa", sum := "5a4c4510a6e7b27b032dcdb350128f9d35452c4f050a1c0a9b85c420ee8900d8", func := "loop.example/g00932/laws.FnExactPlaceInZone", spec := "fnExactPlaceInZone", unfollowed := true, recurses := true, apart := false, narrowed := true }
def FnExactPlaceInZoneUptoSaid : Prop := fnExactPlaceInZoneUptoRow.holds Try.pinned (OpenSpec.upto fnExactPlaceInZoneSpec)

/-- 'laws.FnExactBlocksJib', WHERE WHAT IT READS IS OF BULK AT MOST 1048576: true; the input reads as it did. -/
def fnExactBlocksJibUptoRow : OpenClaim := { program := "ytbdompadkeamdaa", sum := "5a4c4510a6e7b27b032dcdb350128f9d35452c4f050a1c0a9b85c420ee8900d8", func := "loop.example/g00932/laws.FnExactBlocksJib", spec := "fnExactBlocksJib", unfollowed := true, recurses := true, apart := false, narrowed := true }
def FnExactBlocksJibUptoSaid : Prop := fnExactBlocksJibUptoRow.holds Try.pinned (OpenSpec.upto fnExactBlocksJibSpec)

/-- 'laws.FnExactBlocksLoad', WHERE WHAT IT READS IS OF BULK AT MOST 1048576: true; the input reads as it did. -/
def fnExactBlocksLoadUptoRow : OpenClaim := { program := "ytbdompadkeamdaa", sum := "5a4c4510a6e7b27b032dcdb350128f9d35452c4f050a1c0a9b85c420ee8900d8", func := "loop.example/g00932/laws.FnExactBlocksLoad", spec := "fnExactBlocksLoad", unfollowed := true, recurses := true, apart := false, narrowed := true }
def FnExactBlocksLoadUptoSaid : Prop := fnExactBlocksLoadUptoRow.holds Try.pinned (OpenSpec.upto fnExactBlocksLoadSpec)

/-- 'laws.FnExactValidCrane', WHERE WHAT IT READS IS OF BULK AT MOST 1048576: true; the input reads as it did. -/
def fnExactValidCraneUptoRow : OpenClaim := { program := "ytbdompadkeamdaa", sum := "5a4c4510a6e7b27b032dcdb350128f9d35452c4f050a1c0a9b85c420ee8900d8", func := "loop.example/g00932/laws.FnExactValidCrane", spec := "fnExactValidCrane", apart := false, narrowed := true }
def FnExactValidCraneUptoSaid : Prop := fnExactValidCraneUptoRow.holds Try.pinned (OpenSpec.upto fnExactValidCraneSpec)

/-- 'laws.FnExactSameSite', WHERE WHAT IT READS IS OF BULK AT MOST 1048576: true; the input reads as it did. -/
def fnExactSameSiteUptoRow : OpenClaim := { program := "ytbdompadkeamdaa", sum := "5a4c4510a6e7b27b032dcdb350128f9d35452c4f050a1c0a9b85c420ee8900d8", func := "loop.example/g00932/laws.FnExactSameSite", spec := "fnExactSameSite", unfollowed := true, recurses := true, apart := false, narrowed := true }
def FnExactSameSiteUptoSaid : Prop := fnExactSameSiteUptoRow.holds Try.pinned (OpenSpec.upto fnExactSameSiteSpec)

/-- 'laws.FnExactReachesPlace', WHERE WHAT IT READS IS OF BULK AT MOST 1048576: true; the input reads as it did. -/
def fnExactReachesPlaceUptoRow : OpenClaim := { program := "ytbdompadkeamdaa", sum := "5a4c4510a6e7b27b032dcdb350128f9d35452c4f050a1c0a9b85c420ee8900d8", func := "loop.example/g00932/laws.FnExactReachesPlace", spec := "fnExactReachesPlace", unfollowed := true, recurses := true, apart := false, narrowed := true }
def FnExactReachesPlaceUptoSaid : Prop := fnExactReachesPlaceUptoRow.holds Try.pinned (OpenSpec.upto fnExactReachesPlaceSpec)

/-- 'laws.FnExactLoadAtPlace', WHERE WHAT IT READS IS OF BULK AT MOST 1048576: true; the input reads as it did. -/
def fnExactLoadAtPlaceUptoRow : OpenClaim := { program := "ytbdompadkeamdaa", sum := "5a4c4510a6e7b27b032dcdb350128f9d35452c4f050a1c0a9b85c420ee8900d8", func := "loop.example/g00932/laws.FnExactLoadAtPlace", spec := "fnExactLoadAtPlace", unfollowed := true, recurses := true, apart := false, narrowed := true }
def FnExactLoadAtPlaceUptoSaid : Prop := fnExactLoadAtPlaceUptoRow.holds Try.pinned (OpenSpec.upto fnExactLoadAtPlaceSpec)

end Rows
end Go.Proofs.Ytbdompadkeamdaa
