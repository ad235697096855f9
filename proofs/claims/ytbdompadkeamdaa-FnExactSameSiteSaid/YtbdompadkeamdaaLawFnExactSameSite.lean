/- The statement 'FnExactSameSiteSaid': whatever comes in, the law returns true and its arguments read as before; no condition. The walk lies in YtbdompadkeamdaaSites4. -/
import Derived.Test.YtbdompadkeamdaaOpen4
import Derived.Test.YtbdompadkeamdaaRows
import Derived.Test.YtbdompadkeamdaaKit
import Derived.Test.YtbdompadkeamdaaSites4
import Derived.ProofKit
import Derived.OpenShut
import Derived.Lib.SmallJoins
namespace Go.Proofs.Ytbdompadkeamdaa.lawFnExactSameSite
open Go.ChangeShapes Go.WideShapes Go.ChangeAt Go.RowKit Go.Joins Go.Deep Go.WideElems
open Go.ChangeMaps (open_string shut_string)
set_option linter.unusedVariables false
theorem own : ownKnob Try.prog.godebug = none := by kernel_rfl
theorem lo : laidOutB Try.prog = true := by kernel_rfl
theorem types_ok : ∀ t ∈ Try.f11.params.toList, Try.prog.readableRec t = true ∧ t < Try.prog.types.size := by
  have h : ([58, 58].all fun t => Try.prog.readableRec t && decide (t < Try.prog.types.size)) = true := by kernel_rfl
  intro t ht
  rw [Try.params11] at ht
  have := List.all_eq_true.1 h t (by simpa using ht)
  simpa using this
section
variable {H : Type} {enc : TypeId × Value → H}
set_option maxRecDepth 100000 in
theorem call {W : World} {base : Nat} {args : Array Value} {ds : List (DataW H)} {p : List MemPlace}
    (hval : ∀ (j : Nat) t v, Try.f11.params[j]? = some t → args[j]? = some v → Value.okWide Try.prog W .any base t v)
    (hA : DataW.TrodAll enc Try.prog W 0 (fun _ => true) true Try.f11.params.toList args.toList ds p) (hlt : ∀ x ∈ p, x.block < W.heap.size) :
    Calls Try.prog 11 args W (fun e w' => e = .returned (.bool true) ∧ Below W.heap.size W w') ∧ ∃ d0 d1, ds = [d0, d1] := by
  rw [Try.params11] at hA hval
  obtain ⟨v0, vs0, d0, ds0, p0, q0, hargs, rfl, rfl, h0, r0⟩ := trodAll_cons hA
  obtain ⟨v1, vs1, d1, ds1, p1, q1, rfl, rfl, rfl, h1, r1⟩ := trodAll_cons r0
  obtain ⟨rfl, rfl, rfl⟩ := trodAll_nil r1
  obtain rfl : args = #[v0, v1] := by cases args; simp_all
  refine ⟨?_, _, _, rfl⟩
  obtain ⟨A0, m0, c0, L0, rfl, b0, S0⟩ := open_site Try.underlying58 (by kernel_rfl) (by kernel_rfl) Try.underlying56 Try.underlying47 (by kernel_rfl) (by kernel_rfl) Try.underlying9 Try.underlying37 (by kernel_rfl) Try.underlying2 Try.underlying2 Try.underlying2 Try.underlying2 Try.underlying2 Try.underlying45 Try.underlying110 (by kernel_rfl) (by kernel_rfl) Try.underlying2 Try.underlying2 (hval 0 58 v0 rfl rfl) h0
  obtain ⟨A1, m1, c1, L1, rfl, b1, S1⟩ := open_site Try.underlying58 (by kernel_rfl) (by kernel_rfl) Try.underlying56 Try.underlying47 (by kernel_rfl) (by kernel_rfl) Try.underlying9 Try.underlying37 (by kernel_rfl) Try.underlying2 Try.underlying2 Try.underlying2 Try.underlying2 Try.underlying2 Try.underlying45 Try.underlying110 (by kernel_rfl) (by kernel_rfl) Try.underlying2 Try.underlying2 (hval 1 58 v1 rfl rfl) h1
  exact FnExactSameSite_walk (w := W) A0 m0 c0 L0 b0 S0 A1 m1 c1 L1 b1 S1
end
set_option maxRecDepth 100000 in
theorem lifted (os : Os) (started : os.Started) (H : Type) (enc : TypeId × Value → H) :
    ReturnsInHanded {} Try.checked os 11 .any (Rows.fnExactSameSiteSpec.pre6 enc Try.prog Try.f11 Rows.fnExactSameSiteRow.domain false) (Rows.fnExactSameSiteSpec.post enc Try.prog Try.f11 false true false false) := by
  refine returnsInHanded_of_change (C := Try.checked) own started (by kernel_rfl) Try.func11
    (ChangeSpec.witness6 (enc := enc) (C := Try.checked) false ⟨#[], #[.agg #[.slice none 0 0], .agg #[.slice none 0 0]], []⟩ 8 (by kernel_rfl) (by kernel_rfl) (by kernel_rfl) (by kernel_rfl)) ?_
  intro W base args ds gs before hval0 hW hcnd _
  have hW' := hW
  have hltW : ∀ x ∈ before, x.block < W.heap.size := fun x hx => hW.lt x hx
  obtain ⟨p, q, hA0, hV, rfl, hfz, hnd⟩ := hW
  obtain ⟨rfl, rfl⟩ := trodVars_none hV
  simp only [List.append_nil] at hW' hltW
  obtain ⟨hc, d0, d1, rfl⟩ := call hval0 hA0 hltW
  refine hc.mono fun e W' ⟨he, hb⟩ => ?_
  subst he
  exact ⟨_, rfl, post_of_below (pa := p) (pv := []) hW' (fun _ _ _ => (trodAll_cons_mk (shut_bool Try.underlying4 _) trodAll_mk0)) (fun sp hsp => trodAll_below lo types_ok hA0 hb hltW hsp) (fun _ _ => rfl) (by simp)
    hb (ok_one (by kernel_rfl) rfl (okWide_bool_mk Try.underlying4 _))⟩
theorem over : Rows.fnExactSameSiteRow.holds Try.pinned (OpenSpec.ofChange Rows.fnExactSameSiteSpec) :=
  OpenClaim.holds_of_wide 11 Try.f11 rfl rfl rfl rfl rfl rfl rfl ⟨rfl, rfl, rfl, rfl, rfl⟩ rfl rfl rfl rfl rfl (by kernel_rfl) Try.func11 (by kernel_rfl)
    (of_decide_eq_true (by kernel_rfl)) (by unfold Func.isWrapper; rw [if_neg (of_decide_eq_false (by kernel_rfl))]; exact ⟨rfl, rfl⟩)
    (fun os started H enc _ => lifted os started H enc)
theorem proved : Rows.FnExactSameSiteSaid := over
#print axioms proved
end Go.Proofs.Ytbdompadkeamdaa.lawFnExactSameSite
