/- The statement 'FnExactLoadAtPlaceSaid': whatever comes in, the law returns true and its arguments read as before; no condition. The walk lies in YtbdompadkeamdaaCranes4. -/
import Derived.Test.YtbdompadkeamdaaOpen3
import Derived.Test.YtbdompadkeamdaaRows
import Derived.Test.YtbdompadkeamdaaKit
import Derived.Test.YtbdompadkeamdaaCranes4
import Derived.ProofKit
import Derived.OpenShut
import Derived.Lib.SmallJoins
namespace Go.Proofs.Ytbdompadkeamdaa.lawFnExactLoadAtPlace
open Go.ChangeShapes Go.WideShapes Go.ChangeAt Go.RowKit Go.Joins Go.Deep Go.WideElems
open Go.ChangeMaps (open_string shut_string)
set_option linter.unusedVariables false
theorem own : ownKnob Try.prog.godebug = none := by kernel_rfl
theorem lo : laidOutB Try.prog = true := by kernel_rfl
theorem types_ok : ∀ t ∈ Try.f13.params.toList, Try.prog.readableRec t = true ∧ t < Try.prog.types.size := by
  have h : ([47, 37].all fun t => Try.prog.readableRec t && decide (t < Try.prog.types.size)) = true := by kernel_rfl
  intro t ht
  rw [Try.params13] at ht
  have := List.all_eq_true.1 h t (by simpa using ht)
  simpa using this
section
variable {H : Type} {enc : TypeId × Value → H}
set_option maxRecDepth 100000 in
theorem call {W : World} {base : Nat} {args : Array Value} {ds : List (DataW H)} {p : List MemPlace}
    (hval : ∀ (j : Nat) t v, Try.f13.params[j]? = some t → args[j]? = some v → Value.okWide Try.prog W .any base t v)
    (hA : DataW.TrodAll enc Try.prog W 0 (fun _ => true) true Try.f13.params.toList args.toList ds p) (hlt : ∀ x ∈ p, x.block < W.heap.size) :
    Calls Try.prog 13 args W (fun e w' => e = .returned (.bool true) ∧ Below W.heap.size W w') ∧ ∃ d0 d1, ds = [d0, d1] := by
  rw [Try.params13] at hA hval
  obtain ⟨v0, vs0, d0, ds0, p0, q0, hargs, rfl, rfl, h0, r0⟩ := trodAll_cons hA
  obtain ⟨v1, vs1, d1, ds1, p1, q1, rfl, rfl, rfl, h1, r1⟩ := trodAll_cons r0
  obtain ⟨rfl, rfl, rfl⟩ := trodAll_nil r1
  obtain rfl : args = #[v0, v1] := by cases args; simp_all
  refine ⟨?_, _, _, rfl⟩
  obtain ⟨nm0, x0, y0, ht0, jb0, bk0, A0, m0, c0, L0, rfl, wn0, b0, S0⟩ := open_crane Try.underlying47 (by kernel_rfl) (by kernel_rfl) Try.underlying9 Try.underlying37 (by kernel_rfl) Try.underlying2 Try.underlying2 Try.underlying2 Try.underlying2 Try.underlying2 Try.underlying45 Try.underlying110 (by kernel_rfl) (by kernel_rfl) Try.underlying2 Try.underlying2 (hval 0 47 v0 rfl rfl) h0
  obtain ⟨c1_0, c1_1, y1_0, y1_1, n1, rfl, rfl, rfl, hy1_0, hy1_1⟩ := open_agg2 Try.underlying37 (by kernel_rfl) (by kernel_rfl) (hval 1 37 v1 rfl rfl) h1
  obtain ⟨a1_0, e1_0, hz1_0, w1_0⟩ := DataW.trod_int Try.underlying2 hy1_0
  simp at e1_0; subst e1_0
  obtain ⟨a1_1, e1_1, hz1_1, w1_1⟩ := DataW.trod_int Try.underlying2 hy1_1
  simp at e1_1; subst e1_1
  exact FnExactLoadAtPlace_walk (w := W) nm0 wn0 x0 y0 ht0 jb0 bk0 A0 m0 c0 L0 b0 S0 a1_0 w1_0 a1_1 w1_1
end
set_option maxRecDepth 100000 in
theorem lifted (os : Os) (started : os.Started) (H : Type) (enc : TypeId × Value → H) :
    ReturnsInHanded {} Try.checked os 13 .any (Rows.fnExactLoadAtPlaceSpec.pre6 enc Try.prog Try.f13 Rows.fnExactLoadAtPlaceRow.domain false) (Rows.fnExactLoadAtPlaceSpec.post enc Try.prog Try.f13 false true false false) := by
  refine returnsInHanded_of_change (C := Try.checked) own started (by kernel_rfl) Try.func13
    (ChangeSpec.witness6 (enc := enc) (C := Try.checked) false ⟨#[], #[.agg #[.string ⟨#[]⟩, .int .i64 0, .int .i64 0, .int .i64 0, .int .i64 0, .int .i64 0, .slice none 0 0], .agg #[.int .i64 0, .int .i64 0]], []⟩ 8 (by kernel_rfl) (by kernel_rfl) (by kernel_rfl) (by kernel_rfl)) ?_
  intro W base args ds gs before hval0 hW hcnd _
  have hW' := hW
  have hltW : ∀ x ∈ before, x.block < W.heap.size := fun x hx => hW.lt x hx
  obtain ⟨p, q, hA0, hV, rfl, hfz, hnd⟩ := hW
  obtain ⟨rfl, rfl⟩ := trodVars_none hV
  simp only [List.append_nil] at hW' hltW
  obtain ⟨hc, d0, d1, rfl⟩ := call hval0 hA0 hltW
  refine hc.mono fun e W' ⟨he, hb⟩ => ?_
  subst he
  exact ⟨_, rfl, post_of_below (pa := p) (pv := []) hW' (fun _ _ _ => (trodAll_cons_mk (shut_bool Try.underlying4 _) trodAll_mk0)) (fun sp hsp => trodAll_below lo types_ok hA0 hb hltW hsp) (fun _ _ => rfl) (by simp)
    hb (ok_one (by kernel_rfl) rfl (okWide_bool_mk Try.underlying4 _))⟩
theorem over : Rows.fnExactLoadAtPlaceRow.holds Try.pinned (OpenSpec.ofChange Rows.fnExactLoadAtPlaceSpec) :=
  OpenClaim.holds_of_wide 13 Try.f13 rfl rfl rfl rfl rfl rfl rfl ⟨rfl, rfl, rfl, rfl, rfl⟩ rfl rfl rfl rfl rfl (by kernel_rfl) Try.func13 (by kernel_rfl)
    (of_decide_eq_true (by kernel_rfl)) (by unfold Func.isWrapper; rw [if_neg (of_decide_eq_false (by kernel_rfl))]; exact ⟨rfl, rfl⟩)
    (fun os started H enc _ => lifted os started H enc)
theorem proved : Rows.FnExactLoadAtPlaceSaid := over
#print axioms proved
end Go.Proofs.Ytbdompadkeamdaa.lawFnExactLoadAtPlace
