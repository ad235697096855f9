/- The card 'FnTurnsCardSaid': the law's row, its listed table tied to the program's text: whatever comes in, the law returns true and its arguments read as before; the condition is what the table holds at start. The walk lies in YtofoihohendjgaaDoorTurns2. -/
import Derived.Test.YtofoihohendjgaaDoorOpenB
import Derived.Test.YtofoihohendjgaaDoorOpen
import Derived.Test.YtofoihohendjgaaDoorRows
import Derived.Test.YtofoihohendjgaaDoorKit
import Derived.Test.YtofoihohendjgaaDoorTurns2
import Derived.Test.YtofoihohendjgaaDoorTie
import Derived.Test.YtofoihohendjgaaDoorCards
import Derived.Test.YtofoihohendjgaaDoorDoor
import Derived.LaidMore
import Derived.Lay
import Derived.SevenTiedAt
import Derived.Stop.Joined
import Derived.OpenVars
import Derived.ChangeVars
import Derived.ProofKit
import Derived.OpenShut
import Derived.Lib.SmallJoins
namespace Go.Proofs.YtofoihohendjgaaDoor.lawFnTurns
open Go.ChangeShapes Go.WideShapes Go.ChangeAt Go.RowKit Go.Joins Go.Deep Go.WideElems
open Go.ChangeMaps (open_string shut_string)
set_option linter.unusedVariables false
theorem own : ownKnob Tryd.prog.godebug = none := by kernel_rfl
theorem lo : laidOutB Tryd.prog = true := by kernel_rfl
theorem types_ok : ∀ t ∈ Tryd.f6.params.toList, Tryd.prog.readableRec t = true ∧ t < Tryd.prog.types.size := by
  have h : ([35].all fun t => Tryd.prog.readableRec t && decide (t < Tryd.prog.types.size)) = true := by kernel_rfl
  intro t ht
  rw [Tryd.params6] at ht
  have := List.all_eq_true.1 h t (by simpa using ht)
  simpa using this
section
variable {H : Type} {enc : TypeId × Value → H}
set_option maxRecDepth 100000 in
theorem call {W : World} {base : Nat} {args : Array Value} {ds : List (DataW H)} {p : List MemPlace} (hQ : QuarterAt W)
    (hval : ∀ (j : Nat) t v, Tryd.f6.params[j]? = some t → args[j]? = some v → Value.okWide Tryd.prog W .any base t v)
    (hA : DataW.TrodAll enc Tryd.prog W 0 (fun _ => true) true Tryd.f6.params.toList args.toList ds p) (hlt : ∀ x ∈ p, x.block < W.heap.size) :
    Calls Tryd.prog 6 args W (fun e w' => e = .returned (.bool true) ∧ Below W.heap.size W w') ∧ ∃ d0, ds = [d0] := by
  rw [Tryd.params6] at hA hval
  obtain ⟨v0, vs0, d0, ds0, p0, q0, hargs, rfl, rfl, h0, r0⟩ := trodAll_cons hA
  obtain ⟨rfl, rfl, rfl⟩ := trodAll_nil r0
  obtain rfl : args = #[v0] := by cases args; simp_all
  refine ⟨?_, _, rfl⟩
  obtain ⟨A0, n0, c0, rfl, m0, S0⟩ := open_bytes Tryd.underlying35 Tryd.underlying5 (by kernel_rfl) (hval 0 35 v0 rfl rfl) h0
  exact FnTurns_walk W hQ A0 n0 c0 m0 S0
end
def laidL : List (String × DataW Unit) := [("loop.example/g00932/impl.quarter", Rows.laid_loop_example_g00932_impl_quarter)]
set_option maxRecDepth 100000 in
theorem lifted (os : Os) (started : os.Started) (H : Type) (enc : TypeId × Value → H) :
    ReturnsInHanded {} Tryd.checked os 6 .any (fun w args => (Rows.fnTurnsSpec.pre enc Tryd.prog Tryd.f6 Rows.fnTurnsRow.domain false w args ∧ laidMetH Tryd.prog laidL w) ∧ sizedMet enc Tryd.prog Tryd.f6 (OpenSpec.ofChange Rows.fnTurnsSpec) false w args)
      (Rows.fnTurnsSpec.post enc Tryd.prog Tryd.f6 false true false false) := by
  refine returnsInHanded_of_change_and (C := Tryd.checked) (X := fun w _ => laidMetH Tryd.prog laidL w) (fun _ _ _ hh h => h.of_heap hh) own started (by kernel_rfl) Tryd.func6
    (ChangeSpec.witness_shaped (enc := enc) (C := Tryd.checked) (os := os) (X := fun w _ => laidMetH Tryd.prog laidL w) false (World.laidAll Tryd.prog os laidL) #[.slice none 0 0] 8 (World.laidAll_os _ _ _)
      (World.shaped_of_ZipB (by kernel_rfl) (by kernel_rfl)) (by kernel_rfl) (by kernel_rfl) (by kernel_rfl)
      (by rw [MakeChecks.laidMetH_plain _ _ _ (by kernel_rfl)]; exact laidMet_laidAll _ (by kernel_rfl) (by kernel_rfl))) ?_
  intro W base args ds gs before hval0 hW _ _ hL _
  have hQ : QuarterAt W := quarter_of_laid hL
  have hW' := hW
  have hltW : ∀ x ∈ before, x.block < W.heap.size := fun x hx => hW.lt x hx
  obtain ⟨p, q, hA0, hV, rfl, hfz, hnd⟩ := hW
  obtain ⟨g, rfl⟩ : ∃ g, gs = [g] := by
    obtain ⟨_, _, _, _, g, _, hg, _⟩ := trodVars_one hV
    exact ⟨g, hg⟩
  have hltp : ∀ x ∈ p, x.block < W.heap.size := fun x hx => hltW x (List.mem_append_left _ hx)
  obtain ⟨hc, d0, rfl⟩ := call hQ hval0 hA0 hltp
  refine hc.mono fun e W' ⟨he, hb⟩ => ?_
  subst he
  exact ⟨_, rfl, post_of_below (pa := p) (pv := q) hW' (fun _ _ _ => (trodAll_cons_mk (shut_bool Tryd.underlying4 _) trodAll_mk0)) (fun sp hsp => trodAll_below lo types_ok hA0 hb hltp (fun x hx => hsp x (List.mem_append_left _ hx))) (fun sp hsp => trodVars_below lo hb (by kernel_rfl) hV (fun x hx => hsp x (List.mem_append_right _ hx))) rfl
    hb (ok_one (by kernel_rfl) rfl (okWide_bool_mk Tryd.underlying4 _))⟩
theorem over : Rows.fnTurnsRow.holds Tryd.pinned (OpenSpec.ofChange Rows.fnTurnsSpec) :=
  OpenClaim.holds_of_wide 6 Tryd.f6 rfl rfl rfl rfl rfl rfl rfl ⟨rfl, rfl, rfl, rfl, rfl⟩ rfl rfl rfl rfl rfl (by kernel_rfl) Tryd.func6 (by kernel_rfl)
    (of_decide_eq_true (by kernel_rfl)) (by unfold Func.isWrapper; first | (rw [if_pos (by decide +kernel)]; kernel_rfl) | (rw [if_neg (by decide +kernel)]; exact ⟨rfl, rfl⟩))
    (fun os started H enc _ => lifted os started H enc)
theorem proved : Rows.FnTurnsCardSaid :=
  Claim7.holds_tied_plain_at .later [] [.data] true (true, "ffdf7b3cf120ca4cb7786a2b41478341ca84460a463a183781f9badbbf5416d5") false over (fun _ h => by cases h) (by kernel_rfl) (fun _ h => by cases h) fnTurns_row_tie rfl ⟨rfl, rfl⟩ (by kernel_rfl) rfl
    (fun f fn hf hfn => by
      obtain rfl : f = 6 := Option.some.inj ((show Tryd.prog.funcNamed "loop.example/g00932/laws.FnTurns" = some 6 by kernel_rfl).symm.trans hf) |>.symm
      obtain rfl : fn = Tryd.f6 := (Option.some.inj (Tryd.func6.symm.trans hfn)).symm
      exact ⟨by kernel_rfl, fun j t ht => by
        rw [Tryd.params6] at ht
        have hm : t ∈ [35] := by simpa using Array.mem_of_getElem? ht
        have hall : ([35].all fun u => !Tryd.prog.wantsStandIn u) = true := by kernel_rfl
        exact (show Tryd.prog.wantsStandIn t = false by simpa using List.all_eq_true.1 hall t hm)⟩)
    (by kernel_rfl)
#print axioms proved
end Go.Proofs.YtofoihohendjgaaDoor.lawFnTurns
