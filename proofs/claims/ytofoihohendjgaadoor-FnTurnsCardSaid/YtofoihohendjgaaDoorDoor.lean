/- What a row's condition on the table of the quarter's vectors gives a walk; variables read on behind a call that leaves old memory alone. -/
import Derived.Test.YtofoihohendjgaaDoorRows
import Derived.Test.YtofoihohendjgaaDoorKit
import Derived.Test.YtofoihohendjgaaDoorMem
import Derived.Test.YtofoihohendjgaaDoorLists
import Derived.OpenVars
import Derived.LaidMore
import Derived.ChangeVars
import Derived.Stop.Joined
namespace Go.Proofs.YtofoihohendjgaaDoor
open Go.RowKit Go.WideShapes Go.ChangeShapes Go.Joins Go.Deep Go.Sort Go.WideElems
set_option linter.unusedVariables false

theorem trodVars_below {H : Type} {enc : TypeId × Value → H} {P : Program} (hl : laidOutB P = true) {W W' : World} (hb : Below W.heap.size W W') {sp : Nat → Bool} :
    ∀ {ns : List String} {gs : List (DataW H)} {ps : List MemPlace}, varsRowed P ns = true → DataW.TrodVars enc P W (fun _ => true) ns gs ps → (∀ x ∈ ps, sp x.block = true) → DataW.TrodVars enc P W' sp ns gs ps
  | [], [], _, _, h, _ => h
  | [], _ :: _, _, _, h, _ => h.elim
  | _ :: _, [], _, _, h, _ => h.elim
  | n :: ns, d :: ds, ps, hv, h, hs0 => by
    have hlt := h.lt
    obtain ⟨g, t, cs, fuel, p, q, h1, h2, h3, h4, hs, e⟩ := h
    simp only [varsRowed, List.all_cons, Bool.and_eq_true] at hv
    have ht : P.readableRec t = true ∧ t < P.types.size := by
      have := hv.1
      rw [h1] at this
      cases hg : P.globals[g]? with
      | none => rw [hg] at h2; cases h2
      | some gl =>
        rw [hg] at h2
        obtain rfl : gl.type = t := Option.some.inj h2
        simpa [hg] using this
    have hp : ∀ x ∈ p, x.block < W.heap.size := fun x hx => hlt x (by rw [e]; simp [hx])
    have h3' : W'.var? P n = some cs := by
      unfold World.var? at h3 ⊢
      rw [h1] at h3 ⊢
      simp only [Option.bind_some] at h3 ⊢
      have hg : g < W.heap.size := by
        cases hh : W.heap[g]? with
        | none => rw [hh] at h3; cases h3
        | some o => exact (Array.getElem?_eq_some_iff.1 hh).1
      rw [hb.block g hg]; exact h3
    exact ⟨g, t, cs, fuel, p, q, h1, h2, h3', DataW.trod_stays (kids_book hl ht.1) (book_sized ht.1) (fun h => by cases h) ⟨ht.2, book_self t⟩ h4 (fun x hx => hb.same (hp x hx)) (fun x hx => hs0 x (by rw [e]; simp [hx])),
      trodVars_below hl hb (by simpa [varsRowed] using hv.2) hs (fun x hx => hs0 x (by rw [e]; simp [hx])), e⟩

/-- the vectors of the first quarter -/
def quarterL : List (Int × Int) := [(1000, 0), (966, 259), (866, 500), (707, 707), (500, 866), (259, 966)]
/-- an array of structs of two integers that reads as L holds L's numbers -/
theorem pairs_of_trod {H : Type} {enc : TypeId × Value → H} {P : Program} {w : World} {base : Nat} {sp : Nat → Bool} {held : Bool} {fuel n : Nat} {t e : TypeId} {f0 f1 : Field} {cs : List Value} {L : List (Int × Int)} {p : List MemPlace}
    (ht : P.underlying t = some (.array n e)) (he : P.underlying e = some (.struct #[f0, f1])) (hone : oneCellFields P #[f0, f1] = true) (hC : P.cellsOf e = 2) (h0 : P.underlying f0.type = some (.int .i64)) (h1 : P.underlying f1.type = some (.int .i64))
    (h : DataW.trod enc P w base sp held fuel t cs = some (.agg (L.map fun s => .agg [.lit (.int .i64 s.1), .lit (.int .i64 s.2)]), p)) :
    L.length = n ∧ ∀ j s, L[j]? = some s → cs[j * 2]? = some (.int .i64 s.1) ∧ cs[j * 2 + 1]? = some (.int .i64 s.2) := by
  obtain ⟨xs, m, _, ex, hl0, hl, hel⟩ := DataW.trod_array ht h
  have e3 : xs.map (·.1) = L.map fun s => (DataW.agg [.lit (.int .i64 s.1), .lit (.int .i64 s.2)] : DataW H) := (DataW.agg.inj (Prod.mk.inj ex).1).symm
  have hLl : L.length = n := by
    have := congrArg List.length e3
    simp at this
    omega
  refine ⟨hLl, fun j s hj => ?_⟩
  have hjl : j < L.length := (List.getElem?_eq_some_iff.1 hj).1
  have hE := hel j (by omega)
  rw [hC, List.getElem?_eq_getElem (by omega : j < xs.length)] at hE
  have e4 : (xs.map (·.1))[j]? = (L.map fun s => (DataW.agg [.lit (.int .i64 s.1), .lit (.int .i64 s.2)] : DataW H))[j]? := by rw [e3]
  rw [List.getElem?_map, List.getElem?_map, List.getElem?_eq_getElem (by omega : j < xs.length), hj] at e4
  simp only [Option.map_some, Option.some.injEq] at e4
  obtain ⟨ys, n', _, hy, _, hyl, hf⟩ := DataW.trod_struct he hE
  have hy1 : xs[j].1 = .agg (ys.map (·.1)) := (Prod.mk.inj hy).1
  rw [e4] at hy1
  obtain ⟨o0, k0⟩ := hone_of hone 0 f0 rfl
  obtain ⟨o1, k1⟩ := hone_of hone 1 f1 rfl
  have g0 := hf 0 f0 rfl
  have g1 := hf 1 f1 rfl
  rw [o0, k0] at g0
  rw [o1, k1] at g1
  match ys, hyl, hy1 with
  | [y0, y1], _, hy1 =>
    simp only [List.map_cons, List.map_nil, DataW.agg.injEq, List.cons.injEq, and_true] at hy1
    obtain ⟨z0, a0, b0, _⟩ := DataW.trod_int h0 (show _ = some y0 from g0)
    obtain ⟨z1, a1, b1, _⟩ := DataW.trod_int h1 (show _ = some y1 from g1)
    have c0 : s.1 = z0 := by simpa using hy1.1.trans (congrArg Prod.fst b0)
    have c1 : s.2 = z1 := by simpa using hy1.2.trans (congrArg Prod.fst b1)
    subst c0 c1
    have q0 : ((((cs.drop (j * 2)).take 2).drop 0).take 1)[0]? = some (.int .i64 s.1) := by rw [a0]; rfl
    have q1 : ((((cs.drop (j * 2)).take 2).drop 1).take 1)[0]? = some (.int .i64 s.2) := by rw [a1]; rfl
    constructor
    · simpa using q0
    · simpa using q1
/-- WHAT THE CONDITION GIVES A WALK -/
theorem quarter_of_laid {W : World} (h : laidMetH Tryd.prog [("loop.example/g00932/impl.quarter", Rows.laid_loop_example_g00932_impl_quarter)] W) :
    Steps W W.heap.size (some ⟨0, 0, none⟩) 6 quarterL := by
  rw [MakeChecks.laidMetH_plain _ _ _ (by kernel_rfl)] at h
  obtain ⟨ps, ⟨g, t, cs, fuel, p, q, hg, ht, hv, hd, _, _⟩, _, _⟩ := h
  obtain rfl := Option.some.inj ((show Tryd.prog.globalNamed "loop.example/g00932/impl.quarter" = some 0 by kernel_rfl).symm.trans hg)
  obtain rfl := Option.some.inj ((show (Tryd.prog.globals[0]?).map (·.type) = some 56 by kernel_rfl).symm.trans ht)
  have hp := pairs_of_trod (L := quarterL) Tryd.underlying56 Tryd.underlying23 (by kernel_rfl) (by kernel_rfl) Tryd.underlying2 Tryd.underlying2 hd
  refine ⟨rfl, fun _ => ⟨0, 0, rfl, ?_, fun j s hj => ?_⟩⟩
  · obtain ⟨c1, _⟩ := hp.2 0 _ rfl
    have := World.var?_cell hg hv 0
    exact World.block_lt_of_cell? W _ (this.trans (by simpa using c1))
  · obtain ⟨c1, c2⟩ := hp.2 j s hj
    rw [Nat.zero_add]
    exact ⟨(World.var?_cell hg hv _).trans (by simpa using c1), (World.var?_cell hg hv _).trans (by simpa using c2)⟩
end Go.Proofs.YtofoihohendjgaaDoor
