/- How arguments are opened: a struct with a name, a place, three integers and a slice of pairs; of no program. -/
import Derived.Test.YtbdompadkeamdaaKit
import Derived.Test.YtbdompadkeamdaaMem
import Derived.Test.YtbdompadkeamdaaLists
import Derived.Test.YtbdompadkeamdaaOpen
import Derived.Test.YtbdompadkeamdaaOpen2
namespace Go.Proofs.Ytbdompadkeamdaa
open Go.RowKit Go.WideShapes Go.ChangeShapes Go.Joins Go.Deep Go.Sort
section
variable {H : Type} {enc : TypeId × Value → H} {P : Program} {w : World} {base : Nat} {spare : Nat → Bool} {held : Bool}
/-- where the fields of such a struct lie -/
def craneLaid (P : Program) (f0 f1 f2 f3 f4 f5 : Field) : Bool :=
  (f0.offset == 0 && f1.offset == 1 && f2.offset == 3 && f3.offset == 4 && f4.offset == 5 && f5.offset == 6) &&
  (P.cellsOf f0.type == 1 && P.cellsOf f1.type == 2 && P.cellsOf f2.type == 1 && P.cellsOf f3.type == 1 && P.cellsOf f4.type == 1 && P.cellsOf f5.type == 1)
theorem crane_cells {fuel : Nat} {t te : TypeId} {f0 f1 f2 f3 f4 f5 g0 g1 e0 e1 : Field} {cs : List Value} {x : DataW H × List MemPlace} (hs : P.underlying t = some (.struct #[f0, f1, f2, f3, f4, f5])) (hC : P.cellsOf t = 7) (hl : craneLaid P f0 f1 f2 f3 f4 f5 = true)
    (h0 : P.underlying f0.type = some .string) (h1 : P.underlying f1.type = some (.struct #[g0, g1])) (h1o : oneCellFields P #[g0, g1] = true) (hg0 : P.underlying g0.type = some (.int .i64)) (hg1 : P.underlying g1.type = some (.int .i64))
    (h2 : P.underlying f2.type = some (.int .i64)) (h3 : P.underlying f3.type = some (.int .i64)) (h4 : P.underlying f4.type = some (.int .i64))
    (h5 : P.underlying f5.type = some (.slice te)) (he : P.underlying te = some (.struct #[e0, e1])) (heo : oneCellFields P #[e0, e1] = true) (heC : P.cellsOf te = 2) (he0 : P.underlying e0.type = some (.int .i64)) (he1 : P.underlying e1.type = some (.int .i64))
    (h : DataW.trod enc P w base spare held fuel t cs = some x) :
    ∃ (nm : ByteArray) (px py ht jb bk : Int) (A : Option Addr) (n c : Nat) (L : List (Int × Int)), cs = [.string nm, .int .i64 px, .int .i64 py, .int .i64 ht, .int .i64 jb, .int .i64 bk, .slice A n c] ∧ nm.size ≤ maxLen ∧ n ≤ maxLen ∧ Steps w w.heap.size A n L := by
  obtain ⟨xs, m, _, hx, hlen, hxl, hf⟩ := DataW.trod_struct hs h
  rw [hC] at hlen
  simp only [craneLaid, Bool.and_eq_true, beq_iff_eq] at hl
  obtain ⟨⟨⟨⟨⟨⟨o0, o1⟩, o2⟩, o3⟩, o4⟩, o5⟩, ⟨⟨⟨⟨⟨k0, k1⟩, k2⟩, k3⟩, k4⟩, k5⟩⟩ := hl
  match cs, hlen, xs, hxl with
  | [c0, c1, c2, c3, c4, c5, c6], _, [y0, y1, y2, y3, y4, y5], _ =>
    have t0 := hf 0 f0 rfl
    have t1 := hf 1 f1 rfl
    have t2 := hf 2 f2 rfl
    have t3 := hf 3 f3 rfl
    have t4 := hf 4 f4 rfl
    have t5 := hf 5 f5 rfl
    rw [o0, k0] at t0
    rw [o1, k1] at t1
    rw [o2, k2] at t2
    rw [o3, k3] at t3
    rw [o4, k4] at t4
    rw [o5, k5] at t5
    obtain ⟨s, es, _, ws⟩ := DataW.trod_string h0 (show DataW.trod enc P w base spare held m f0.type [c0] = some y0 from t0)
    obtain ⟨a2, e2, _, _⟩ := DataW.trod_int h2 (show DataW.trod enc P w base spare held m f2.type [c3] = some y2 from t2)
    obtain ⟨a3, e3, _, _⟩ := DataW.trod_int h3 (show DataW.trod enc P w base spare held m f3.type [c4] = some y3 from t3)
    obtain ⟨a4, e4, _, _⟩ := DataW.trod_int h4 (show DataW.trod enc P w base spare held m f4.type [c5] = some y4 from t4)
    obtain ⟨A, n, c, L, rfl, hn, S⟩ := open_steps_at h5 he heo heC he0 he1 (show DataW.trod enc P w base spare held m f5.type [c6] = some y5 from t5)
    obtain ⟨zs, m', _, _, _, hzl, hz⟩ := DataW.trod_struct h1 (show DataW.trod enc P w base spare held m f1.type [c1, c2] = some y1 from t1)
    obtain ⟨q0, r0⟩ := hone_of h1o 0 g0 rfl
    obtain ⟨q1, r1⟩ := hone_of h1o 1 g1 rfl
    match zs, hzl with
    | [z0, z1], _ =>
      have u0 := hz 0 g0 rfl
      have u1 := hz 1 g1 rfl
      rw [q0, r0] at u0
      rw [q1, r1] at u1
      obtain ⟨b0, d0, _, _⟩ := DataW.trod_int hg0 (show DataW.trod enc P w base spare held m' g0.type [c1] = some z0 from u0)
      obtain ⟨b1, d1, _, _⟩ := DataW.trod_int hg1 (show DataW.trod enc P w base spare held m' g1.type [c2] = some z1 from u1)
      simp at es e2 e3 e4 d0 d1
      subst es e2 e3 e4 d0 d1
      exact ⟨s, b0, b1, a2, a3, a4, A, n, c, L, rfl, ws, hn, S⟩
/-- a crane by value -/
theorem open_crane {r : Reach} {bb : Nat} {t te : TypeId} {f0 f1 f2 f3 f4 f5 g0 g1 e0 e1 : Field} {v : Value} {d : DataW H} {p : List MemPlace} (hs : P.underlying t = some (.struct #[f0, f1, f2, f3, f4, f5])) (hC : P.cellsOf t = 7) (hl : craneLaid P f0 f1 f2 f3 f4 f5 = true)
    (h0 : P.underlying f0.type = some .string) (h1 : P.underlying f1.type = some (.struct #[g0, g1])) (h1o : oneCellFields P #[g0, g1] = true) (hg0 : P.underlying g0.type = some (.int .i64)) (hg1 : P.underlying g1.type = some (.int .i64))
    (h2 : P.underlying f2.type = some (.int .i64)) (h3 : P.underlying f3.type = some (.int .i64)) (h4 : P.underlying f4.type = some (.int .i64))
    (h5 : P.underlying f5.type = some (.slice te)) (he : P.underlying te = some (.struct #[e0, e1])) (heo : oneCellFields P #[e0, e1] = true) (heC : P.cellsOf te = 2) (he0 : P.underlying e0.type = some (.int .i64)) (he1 : P.underlying e1.type = some (.int .i64))
    (hv : Value.okWide P w r bb t v) (h : DataW.Trod enc P w base spare held t v d p) :
    ∃ (nm : ByteArray) (px py ht jb bk : Int) (A : Option Addr) (n c : Nat) (L : List (Int × Int)), v = .agg #[.string nm, .int .i64 px, .int .i64 py, .int .i64 ht, .int .i64 jb, .int .i64 bk, .slice A n c] ∧ nm.size ≤ maxLen ∧ n ≤ maxLen ∧ Steps w w.heap.size A n L := by
  obtain ⟨cs, rfl, hsz⟩ := okWide_struct hs hv
  obtain ⟨fuel, hf⟩ := h
  obtain ⟨nm, px, py, ht, jb, bk, A, n, c, L, e, w1, w2, S⟩ := crane_cells hs hC hl h0 h1 h1o hg0 hg1 h2 h3 h4 h5 he heo heC he0 he1 hf
  obtain ⟨l⟩ := cs
  refine ⟨nm, px, py, ht, jb, bk, A, n, c, L, ?_, w1, w2, S⟩
  have : l = [.string nm, .int .i64 px, .int .i64 py, .int .i64 ht, .int .i64 jb, .int .i64 bk, .slice A n c] := by simpa [Value.cells] using e
  rw [this]
end
end Go.Proofs.Ytbdompadkeamdaa
