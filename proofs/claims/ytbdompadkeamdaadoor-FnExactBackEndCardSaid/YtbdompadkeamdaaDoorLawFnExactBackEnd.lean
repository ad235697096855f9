/- The card 'FnExactBackEndCardSaid': the law's row, its listed table tied to the program's text: whatever comes in, the law returns true and its arguments read as before; the condition is what the table holds at start. The walk lies in YtbdompadkeamdaaDoorEnds. -/
import Derived.Test.YtbdompadkeamdaaDoorOpen3
import Derived.Test.YtbdompadkeamdaaDoorRows
import Derived.Test.YtbdompadkeamdaaDoorKit
import Derived.Test.YtbdompadkeamdaaDoorEnds
import Derived.Test.YtbdompadkeamdaaDoorTie
import Derived.Test.YtbdompadkeamdaaDoorCards
import Derived.Test.YtbdompadkeamdaaDoorDoor
import Derived.LaidMore
import Derived.Lay
import Derived.SevenTiedAt
import Derived.Stop.Joined
import Derived.OpenVars
import Derived.ChangeVars
import Derived.ProofKit
import Derived.OpenShut
import Derived.Lib.SmallJoins
namespace Go.Proofs.YtbdompadkeamdaaDoor.lawFnExactBackEnd
open Go.ChangeShapes Go.WideShapes Go.ChangeAt Go.RowKit Go.Joins Go.Deep Go.WideElems
open Go.ChangeMaps (open_string shut_string)
set_option linter.unusedVariables false
theorem own : ownKnob Tryd.prog.godebug = none := by kernel_rfl
theorem lo : laidOutB Tryd.prog = true := by kernel_rfl
theorem types_ok : ∀ t ∈ Tryd.f4.params.toList, Tryd.prog.readableRec t = true ∧ t < Tryd.prog.types.size := by
  have h : ([26, 2].all fun t => Tryd.prog.readableRec t && decide (t < Tryd.prog.types.size)) = true := by kernel_rfl
  intro t ht
  rw [Tryd.params4] at ht
  have := List.all_eq_true.1 h t (by simpa using ht)
  simpa using this
section
variable {H : Type} {enc : TypeId × Value → H}
set_option maxRecDepth 100000 in
theorem call {W : World} {base : Nat} {args : Array Value} {ds : List (DataW H)} {p : List MemPlace} (hQ : QuarterAt W)
    (hval : ∀ (j : Nat) t v, Tryd.f4.params[j]? = some t → args[j]? = some v → Value.okWide Tryd.prog W .any base t v)
    (hA : DataW.TrodAll enc Tryd.prog W 0 (fun _ => true) true Tryd.f4.params.toList args.toList ds p) (hlt : ∀ x ∈ p, x.block < W.heap.size) :
    Calls Tryd.prog 4 args W (fun e w' => e = .returned (.bool true) ∧ Below W.heap.size W w') ∧ ∃ d0 d1, ds = [d0, d1] := by
  rw [Tryd.params4] at hA hval
  obtain ⟨v0, vs0, d0, ds0, p0, q0, hargs, rfl, rfl, h0, r0⟩ := trodAll_cons hA
  obtain ⟨v1, vs1, d1, ds1, p1, q1, rfl, rfl, rfl, h1, r1⟩ := trodAll_cons r0
  obtain ⟨rfl, rfl, rfl⟩ := trodAll_nil r1
  obtain rfl : args = #[v0, v1] := by cases args; simp_all
  refine ⟨?_, _, _, rfl⟩
  obtain ⟨nm0, x0, y0, ht0, jb0, bk0, A0, m0, c0, L0, rfl, wn0, b0, S0⟩ := open_crane Tryd.underlying26 (by kernel_rfl) (by kernel_rfl) Tryd.underlying9 Tryd.underlying23 (by kernel_rfl) Tryd.underlying2 Tryd.underlying2 Tryd.underlying2 Tryd.underlying2 Tryd.underlying2 Tryd.underlying24 Tryd.underlying54 (by kernel_rfl) (by kernel_rfl) Tryd.underlying2 Tryd.underlying2 (hval 0 26 v0 rfl rfl) h0
  obtain ⟨a1, rfl, rfl, rfl, w1⟩ := open_int Tryd.underlying2 (hval 1 2 v1 rfl rfl) h1
  exact FnExactBackEnd_walk W hQ nm0 wn0 x0 y0 ht0 jb0 bk0 A0 m0 c0 L0 b0 S0 a1 w1
end
def laidL : List (String × DataW Unit) := [("loop.example/g00932/impl.quarter", Rows.laid_loop_example_g00932_impl_quarter)]
set_option maxRecDepth 100000 in
theorem lifted (os : Os) (started : os.Started) (H : Type) (enc : TypeId × Value → H) :
    ReturnsInHanded {} Tryd.checked os 4 .any (fun w args => (Rows.fnExactBackEndSpec.pre enc Tryd.prog Tryd.f4 Rows.fnExactBackEndRow.domain false w args ∧ laidMetH Tryd.prog laidL w) ∧ sizedMet enc Tryd.prog Tryd.f4 (OpenSpec.ofChange Rows.fnExactBackEndSpec) false w args)
      (Rows.fnExactBackEndSpec.post enc Tryd.prog Tryd.f4 false true false false) := by
  refine returnsInHanded_of_change_and (C := Tryd.checked) (X := fun w _ => laidMetH Tryd.prog laidL w) (fun _ _ _ hh h => h.of_heap hh) own started (by kernel_rfl) Tryd.func4
    (ChangeSpec.witness_shaped (enc := enc) (C := Tryd.checked) (os := os) (X := fun w _ => laidMetH Tryd.prog laidL w) false (World.laidAll Tryd.prog os laidL) #[.agg #[.string ⟨#[]⟩, .int .i64 0, .int .i64 0, .int .i64 0, .int .i64 0, .int .i64 0, .slice none 0 0], .int .i64 0] 8 (World.laidAll_os _ _ _)
      (World.shaped_of_ZipB (by kernel_rfl) (by kernel_rfl)) (by kernel_rfl) (by kernel_rfl) (by kernel_rfl)
      (by rw [MakeChecks.laidMetH_plain _ _ _ (by kernel_rfl)]; exact laidMet_laidAll _ (by kernel_rfl) (by kernel_rfl))) ?_
  intro W base args ds gs before hval0 hW _ _ hL _
  have hQ : QuarterAt W := quarter_of_laid hL
  have hW' := hW
  have hltW : ∀ x ∈ before, x.block < W.heap.size := fun x hx => hW.lt x hx
  obtain ⟨p, q, hA0, hV, rfl, hfz, hnd⟩ := hW
  obtain ⟨g, rfl⟩ : ∃ g, gs = [g] := by
    obtain ⟨_, _, _, _, g, _, hg, _⟩ := trodVars_one hV
    exact ⟨g, hg⟩
  have hltp : ∀ x ∈ p, x.block < W.heap.size := fun x hx => hltW x (List.mem_append_left _ hx)
  obtain ⟨hc, d0, d1, rfl⟩ := call hQ hval0 hA0 hltp
  refine hc.mono fun e W' ⟨he, hb⟩ => ?_
  subst he
  exact ⟨_, rfl, post_of_below (pa := p) (pv := q) hW' (fun _ _ _ => (trodAll_cons_mk (shut_bool Tryd.underlying4 _) trodAll_mk0)) (fun sp hsp => trodAll_below lo types_ok hA0 hb hltp (fun x hx => hsp x (List.mem_append_left _ hx))) (fun sp hsp => trodVars_below lo hb (by kernel_rfl) hV (fun x hx => hsp x (List.mem_append_right _ hx))) rfl
    hb (ok_one (by kernel_rfl) rfl (okWide_bool_mk Tryd.underlying4 _))⟩
theorem over : Rows.fnExactBackEndRow.holds Tryd.pinned (OpenSpec.ofChange Rows.fnExactBackEndSpec) :=
  OpenClaim.holds_of_wide 4 Tryd.f4 rfl rfl rfl rfl rfl rfl rfl ⟨rfl, rfl, rfl, rfl, rfl⟩ rfl rfl rfl rfl rfl (by kernel_rfl) Tryd.func4 (by kernel_rfl)
    (of_decide_eq_true (by kernel_rfl)) (by unfold Func.isWrapper; first | (rw [if_pos (by decide +kernel)]; kernel_rfl) | (rw [if_neg (by decide +kernel)]; exact ⟨rfl, rfl⟩))
    (fun os started H enc _ => lifted os started H enc)
theorem proved : Rows.FnExactBackEndCardSaid :=
  Claim7.holds_tied_plain_at .later [] [.data] true (true, "2491e36a865781ddc6bce59410c38eb9536344fcb9570d15238b471eff078129") false over (fun _ h => by cases h) (by kernel_rfl) (fun _ h => by cases h) fnExactBackEnd_row_tie rfl ⟨rfl, rfl⟩ (by kernel_rfl) rfl
    (fun f fn hf hfn => by
      obtain rfl : f = 4 := Option.some.inj ((show Tryd.prog.funcNamed "loop.example/g00932/laws.FnExactBackEnd" = some 4 by kernel_rfl).symm.trans hf) |>.symm
      obtain rfl : fn = Tryd.f4 := (Option.some.inj (Tryd.func4.symm.trans hfn)).symm
      exact ⟨by kernel_rfl, fun j t ht => by
        rw [Tryd.params4] at ht
        have hm : t ∈ [26, 2] := by simpa using Array.mem_of_getElem? ht
        have hall : ([26, 2].all fun u => !Tryd.prog.wantsStandIn u) = true := by kernel_rfl
        exact (show Tryd.prog.wantsStandIn t = false by simpa using List.all_eq_true.1 hall t hm)⟩)
    (by kernel_rfl)
#print axioms proved
end Go.Proofs.YtbdompadkeamdaaDoor.lawFnExactBackEnd
