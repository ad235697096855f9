/- The statement 'FnExactSafeChartSaid': whatever comes in, the law returns true and its arguments read as before; no condition. The walk lies in YtfnoapejkpeacaaSafe4. -/
import Derived.Test.YtfnoapejkpeacaaOpen
import Derived.Test.YtfnoapejkpeacaaRows
import Derived.Test.YtfnoapejkpeacaaKit
import Derived.Test.YtfnoapejkpeacaaSafe4
import Derived.ProofKit
import Derived.OpenShut
import Derived.Lib.SmallJoins
namespace Go.Proofs.Ytfnoapejkpeacaa.lawFnExactSafeChart
open Go.ChangeShapes Go.WideShapes Go.ChangeAt Go.RowKit Go.Joins Go.Deep Go.WideElems
open Go.ChangeMaps (open_string shut_string)
set_option linter.unusedVariables false
theorem own : ownKnob Try.prog.godebug = none := by kernel_rfl
theorem lo : laidOutB Try.prog = true := by kernel_rfl
theorem types_ok : ∀ t ∈ Try.f11.params.toList, Try.prog.readableRec t = true ∧ t < Try.prog.types.size := by
  have h : ([23, 40, 2].all fun t => Try.prog.readableRec t && decide (t < Try.prog.types.size)) = true := by kernel_rfl
  intro t ht
  rw [Try.params11] at ht
  have := List.all_eq_true.1 h t (by simpa using ht)
  simpa using this
section
variable {H : Type} {enc : TypeId × Value → H}
set_option maxRecDepth 100000 in
theorem call {W : World} {base : Nat} {args : Array Value} {ds : List (DataW H)} {p : List MemPlace}
    (hval : ∀ (j : Nat) t v, Try.f11.params[j]? = some t → args[j]? = some v → Value.okWide Try.prog W .any base t v)
    (hA : DataW.TrodAll enc Try.prog W 0 (fun _ => true) true Try.f11.params.toList args.toList ds p) (hlt : ∀ x ∈ p, x.block < W.heap.size) :
    Calls Try.prog 11 args W (fun e w' => e = .returned (.bool true) ∧ Below W.heap.size W w') ∧ ∃ d0 d1 d2, ds = [d0, d1, d2] := by
  rw [Try.params11] at hA hval
  obtain ⟨v0, vs0, d0, ds0, p0, q0, hargs, rfl, rfl, h0, r0⟩ := trodAll_cons hA
  obtain ⟨v1, vs1, d1, ds1, p1, q1, rfl, rfl, rfl, h1, r1⟩ := trodAll_cons r0
  obtain ⟨v2, vs2, d2, ds2, p2, q2, rfl, rfl, rfl, h2, r2⟩ := trodAll_cons r1
  obtain ⟨rfl, rfl, rfl⟩ := trodAll_nil r2
  obtain rfl : args = #[v0, v1, v2] := by cases args; simp_all
  refine ⟨?_, _, _, _, rfl⟩
  obtain ⟨c0_0, c0_1, c0_2, c0_3, c0_4, c0_5, c0_6, y0_0, y0_1, y0_2, y0_3, y0_4, y0_5, y0_6, n0, rfl, rfl, rfl, hy0_0, hy0_1, hy0_2, hy0_3, hy0_4, hy0_5, hy0_6⟩ := open_agg7 Try.underlying23 (by kernel_rfl) (by kernel_rfl) (hval 0 23 v0 rfl rfl) h0
  obtain ⟨a0_0, e0_0, hz0_0, w0_0⟩ := DataW.trod_int Try.underlying2 hy0_0
  simp at e0_0; subst e0_0
  obtain ⟨a0_1, e0_1, hz0_1, w0_1⟩ := DataW.trod_int Try.underlying2 hy0_1
  simp at e0_1; subst e0_1
  obtain ⟨a0_2, e0_2, hz0_2, w0_2⟩ := DataW.trod_int Try.underlying2 hy0_2
  simp at e0_2; subst e0_2
  obtain ⟨a0_3, e0_3, hz0_3, w0_3⟩ := DataW.trod_int Try.underlying2 hy0_3
  simp at e0_3; subst e0_3
  obtain ⟨a0_4, e0_4, hz0_4, w0_4⟩ := DataW.trod_int Try.underlying2 hy0_4
  simp at e0_4; subst e0_4
  obtain ⟨a0_5, e0_5, hz0_5, w0_5⟩ := DataW.trod_int Try.underlying2 hy0_5
  simp at e0_5; subst e0_5
  obtain ⟨a0_6, e0_6, hz0_6, w0_6⟩ := DataW.trod_int Try.underlying2 hy0_6
  simp at e0_6; subst e0_6
  obtain ⟨A1, n1, c1, L1, rfl, m1, S1⟩ := open_steps Try.underlying40 Try.underlying67 (by kernel_rfl) (by kernel_rfl) Try.underlying2 Try.underlying2 (hval 1 40 v1 rfl rfl) h1
  obtain ⟨a2, rfl, rfl, rfl, w2⟩ := open_int Try.underlying2 (hval 2 2 v2 rfl rfl) h2
  exact FnExactSafeChart_walk (w := W) a0_0 w0_0 a0_1 w0_1 a0_2 w0_2 a0_3 w0_3 a0_4 w0_4 a0_5 w0_5 a0_6 w0_6 A1 n1 c1 L1 m1 S1 a2 w2
end
set_option maxRecDepth 100000 in
theorem lifted (os : Os) (started : os.Started) (H : Type) (enc : TypeId × Value → H) :
    ReturnsInHanded {} Try.checked os 11 .any (Rows.fnExactSafeChartSpec.pre6 enc Try.prog Try.f11 Rows.fnExactSafeChartRow.domain false) (Rows.fnExactSafeChartSpec.post enc Try.prog Try.f11 false true false false) := by
  refine returnsInHanded_of_change (C := Try.checked) own started (by kernel_rfl) Try.func11
    (ChangeSpec.witness6 (enc := enc) (C := Try.checked) false ⟨#[], #[.agg #[.int .i64 0, .int .i64 0, .int .i64 0, .int .i64 0, .int .i64 0, .int .i64 0, .int .i64 0], .slice none 0 0, .int .i64 0], []⟩ 8 (by kernel_rfl) (by kernel_rfl) (by kernel_rfl) (by kernel_rfl)) ?_
  intro W base args ds gs before hval0 hW hcnd _
  have hW' := hW
  have hltW : ∀ x ∈ before, x.block < W.heap.size := fun x hx => hW.lt x hx
  obtain ⟨p, q, hA0, hV, rfl, hfz, hnd⟩ := hW
  obtain ⟨rfl, rfl⟩ := trodVars_none hV
  simp only [List.append_nil] at hW' hltW
  obtain ⟨hc, d0, d1, d2, rfl⟩ := call hval0 hA0 hltW
  refine hc.mono fun e W' ⟨he, hb⟩ => ?_
  subst he
  exact ⟨_, rfl, post_of_below (pa := p) (pv := []) hW' (fun _ _ _ => (trodAll_cons_mk (shut_bool Try.underlying4 _) trodAll_mk0)) (fun sp hsp => trodAll_below lo types_ok hA0 hb hltW hsp) (fun _ _ => rfl) (by simp)
    hb (ok_one (by kernel_rfl) rfl (okWide_bool_mk Try.underlying4 _))⟩
theorem over : Rows.fnExactSafeChartRow.holds Try.pinned (OpenSpec.ofChange Rows.fnExactSafeChartSpec) :=
  OpenClaim.holds_of_wide 11 Try.f11 rfl rfl rfl rfl rfl rfl rfl ⟨rfl, rfl, rfl, rfl, rfl⟩ rfl rfl rfl rfl rfl (by kernel_rfl) Try.func11 (by kernel_rfl)
    (of_decide_eq_true (by kernel_rfl)) (by unfold Func.isWrapper; rw [if_neg (of_decide_eq_false (by kernel_rfl))]; exact ⟨rfl, rfl⟩)
    (fun os started H enc _ => lifted os started H enc)
theorem proved : Rows.FnExactSafeChartSaid := over
#print axioms proved
end Go.Proofs.Ytfnoapejkpeacaa.lawFnExactSafeChart
