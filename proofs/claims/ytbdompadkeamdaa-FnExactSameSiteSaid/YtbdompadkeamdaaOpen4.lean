/- How arguments are opened: a struct with a slice of cranes; of no program. -/
import Derived.Test.YtbdompadkeamdaaKit
import Derived.Test.YtbdompadkeamdaaMem
import Derived.Test.YtbdompadkeamdaaLists
import Derived.Test.YtbdompadkeamdaaOpen
import Derived.Test.YtbdompadkeamdaaOpen2
import Derived.Test.YtbdompadkeamdaaOpen3
import Derived.Test.YtbdompadkeamdaaSites
namespace Go.Proofs.Ytbdompadkeamdaa
open Go.RowKit Go.WideShapes Go.ChangeShapes Go.Joins Go.Deep Go.Sort
section
variable {H : Type} {enc : TypeId × Value → H} {P : Program} {w : World} {base : Nat} {spare : Nat → Bool} {held : Bool}
theorem open_site {r : Reach} {bb : Nat} {ts t te : TypeId} {k0 f0 f1 f2 f3 f4 f5 g0 g1 e0 e1 : Field} {v : Value} {d : DataW H} {p : List MemPlace} (hts : P.underlying ts = some (.struct #[k0])) (hk : oneCellFields P #[k0] = true) (hkC : P.cellsOf ts = 1) (htl : P.underlying k0.type = some (.slice t))
    (hs : P.underlying t = some (.struct #[f0, f1, f2, f3, f4, f5])) (hC : P.cellsOf t = 7) (hl : craneLaid P f0 f1 f2 f3 f4 f5 = true)
    (h0 : P.underlying f0.type = some .string) (h1 : P.underlying f1.type = some (.struct #[g0, g1])) (h1o : oneCellFields P #[g0, g1] = true) (hg0 : P.underlying g0.type = some (.int .i64)) (hg1 : P.underlying g1.type = some (.int .i64))
    (h2 : P.underlying f2.type = some (.int .i64)) (h3 : P.underlying f3.type = some (.int .i64)) (h4 : P.underlying f4.type = some (.int .i64))
    (h5 : P.underlying f5.type = some (.slice te)) (he : P.underlying te = some (.struct #[e0, e1])) (heo : oneCellFields P #[e0, e1] = true) (heC : P.cellsOf te = 2) (he0 : P.underlying e0.type = some (.int .i64)) (he1 : P.underlying e1.type = some (.int .i64))
    (hv : Value.okWide P w r bb ts v) (h : DataW.Trod enc P w base spare held ts v d p) :
    ∃ (A : Option Addr) (n c : Nat) (Cs : List Crn), v = .agg #[.slice A n c] ∧ n ≤ maxLen ∧ Crns w w.heap.size A n Cs := by
  obtain ⟨cs, rfl, hsz⟩ := okWide_struct hts hv
  obtain ⟨fuel, hf⟩ := h
  obtain ⟨xs, fu, _, hx, _, hlen, hg⟩ := DataW.trod_struct hts hf
  obtain ⟨o0, q0⟩ := hone_of hk 0 k0 rfl
  obtain ⟨l⟩ := cs
  match l, hsz.trans hkC, xs, hlen with
  | [c0], _, [y0], _ =>
    have t0 := hg 0 k0 rfl
    rw [o0, q0] at t0
    have t0' : DataW.trod enc P w base spare held fu k0.type [c0] = some y0 := t0
    rcases open_slice htl t0' with ⟨hcs, hx⟩ | ⟨a, len, cap, m, n, D, Pl, hcs, hb, hlc, hm, hmm, hx, hi⟩
    · have e : c0 = .slice none 0 0 := by simpa using hcs
      subst e
      exact ⟨none, 0, 0, [], rfl, by unfold maxLen; omega, rfl, fun h => absurd h (by omega)⟩
    · have e : c0 = .slice (some a) len cap := by simpa using hcs
      subst e
      have hlm : len ≤ m := by rw [hmm]; split <;> omega
      have key : ∀ i, i < len → ∃ (C : Crn) (A : Option Addr) (k c : Nat), (∀ j u, ([.string C.nm, .int .i64 C.x, .int .i64 C.y, .int .i64 C.ht, .int .i64 C.jb, .int .i64 C.bk, .slice A k c] : List Value)[j]? = some u → w.cell? ((a.add (i * 7)).add j) = some u) ∧ Steps w w.heap.size A k C.L ∧ k ≤ maxLen ∧ C.nm.size ≤ maxLen := by
        intro i hil
        obtain ⟨cs', hc, ht'⟩ := hi i (by omega)
        rw [hC] at hc
        obtain ⟨nm, px, py, ht, jb, bk, A, k, c, L, e, w1, w2, S⟩ := crane_cells hs hC hl h0 h1 h1o hg0 hg1 h2 h3 h4 h5 he heo heC he0 he1 ht'
        obtain ⟨_, hcl, hat⟩ := World.cells?_some hc
        refine ⟨⟨nm, px, py, ht, jb, bk, L⟩, A, k, c, fun j u hu => ?_, S, w2, w1⟩
        have hj : j < 7 := by have := (List.getElem?_eq_some_iff.1 hu).1; simpa using this
        rw [hat j hj, e]
        exact hu
      obtain ⟨Cs, hL, hc⟩ := list_of len key
      refine ⟨_, _, _, Cs, rfl, by omega, hL, fun hpos => ?_⟩
      obtain ⟨b, o, spot⟩ := a
      have hspot : spot = none := by
        obtain ⟨C, A, k, c, hcell, _⟩ := key 0 hpos
        have := World.cell?_spot (hcell 0 _ rfl)
        simpa [Addr.add] using this
      subst hspot
      have hadd : ∀ k, (⟨b, o, none⟩ : Addr).add k = ⟨b, o + k, none⟩ := fun k => by
        unfold Addr.add; split
        · simp_all
        · rfl
      have hadd2 : ∀ i j, ((⟨b, o, none⟩ : Addr).add i).add j = ⟨b, o + i + j, none⟩ := fun i j => by
        rw [hadd]
        unfold Addr.add; split
        · simp_all
        · rfl
      refine ⟨b, o, rfl, ?_, fun j C hj => ?_⟩
      · obtain ⟨C, A, k, c, hcell, _⟩ := key 0 hpos
        have := hcell 0 _ rfl
        rw [hadd2] at this
        exact World.block_lt_of_cell? w _ this
      · obtain ⟨A, k, c, hcell, S, s1, s2⟩ := hc j C hj
        refine ⟨A, k, c, ⟨?_, ?_, ?_, ?_, ?_, ?_, ?_⟩, S, s1, s2⟩
        · have := hcell 0 _ rfl; rwa [hadd2] at this
        · have := hcell 1 _ rfl; rwa [hadd2] at this
        · have := hcell 2 _ rfl; rwa [hadd2] at this
        · have := hcell 3 _ rfl; rwa [hadd2] at this
        · have := hcell 4 _ rfl; rwa [hadd2] at this
        · have := hcell 5 _ rfl; rwa [hadd2] at this
        · have := hcell 6 _ rfl; rwa [hadd2] at this
end
end Go.Proofs.Ytbdompadkeamdaa
