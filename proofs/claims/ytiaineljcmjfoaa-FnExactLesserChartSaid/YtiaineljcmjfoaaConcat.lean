/- Two charts laid one behind the other: the library's growing, laid, and the walk of the library's joining at two slices. -/
import Derived.Test.YtiaineljcmjfoaaProg
import Derived.Test.YtiaineljcmjfoaaKit
import Derived.Test.YtiaineljcmjfoaaMem
import Derived.Test.YtiaineljcmjfoaaLists
import Derived.Test.YtiaineljcmjfoaaSteps
import Derived.Test.YtiaineljcmjfoaaLays
namespace Go.Proofs.Ytiaineljcmjfoaa
open Go.RowKit Go.WideShapes Go.ChangeShapes Go.Joins Go.Deep Go.Sort Go.Shelf
set_option linter.unusedVariables false

theorem pairs_cells {w : World} {B n b o : Nat} {L : List (Int × Int)} (h : Steps w B (some ⟨b, o, none⟩) n L) : ∀ j u, (pairs L)[j]? = some u → w.cell? ((⟨b, o, none⟩ : Addr).add j) = some u := by
  intro j u hu
  have hj : j < (pairs L).length := (List.getElem?_eq_some_iff.1 hu).1
  rw [pairs_length] at hj
  have hn : 0 < n := by have := h.1; omega
  obtain ⟨b', o', e, _, hc⟩ := h.2 hn
  injection e with e
  injection e with e1 e2
  subst e1 e2
  have hadd : (⟨b, o, none⟩ : Addr).add j = ⟨b, o + j, none⟩ := by
    unfold Addr.add; split
    · simp_all
    · rfl
  rw [hadd]
  have hk : j / 2 < L.length := by omega
  obtain ⟨c1, c2⟩ := hc (j / 2) _ (List.getElem?_eq_getElem hk)
  obtain ⟨p1, p2⟩ := pairs_at (List.getElem?_eq_getElem hk)
  have hj2 : j = j / 2 * 2 ∨ j = j / 2 * 2 + 1 := by omega
  rcases hj2 with e | e
  · rw [← e] at p1 c1
    rw [p1] at hu
    injection hu with hu
    rw [← hu]; exact c1
  · rw [← e] at p2
    rw [show o + j / 2 * 2 + 1 = o + j by omega] at c2
    rw [p2] at hu
    injection hu with hu
    rw [← hu]; exact c2
theorem pairs_one : ∀ (L : List (Int × Int)), ∀ u ∈ pairs L, u.oneCell' = true
  | [], u, h => by simp [pairs] at h
  | s :: r, u, h => by
    simp only [pairs, List.mem_cons] at h
    rcases h with rfl | rfl | h
    · rfl
    · rfl
    · exact pairs_one r u h
theorem grown_row (w : World) (e n G : Nat) (z : Value) (hz : z.cells.size = 2) (hG : n ≤ G) (hm : G ≤ maxLen) :
    (w.drew.alloc (.cells (([] : List Value).toArray ++ Builtin.zeroCells z.cells (0 + n - 0) ++ Builtin.zeroCells z.cells (G - (0 + n))) e)).ownsRow w.heap.size e 2 (.slice (some ⟨w.heap.size, 0, none⟩) 0 G) 0 (pairs []) := by
  refine ⟨rfl, .inr ⟨w.heap.size, G, _, rfl, Nat.le_refl _, Blk.new w.drew e _, Nat.zero_le _, hm, ?_, by simp [pairs]⟩⟩
  simp only [Array.size_append, size_zeroCells, hz]
  simp
  omega

set_option maxRecDepth 100000 in
set_option maxHeartbeats 8000000 in
theorem concat_any (Aa Ab : Option Addr) (n ca m cb : Nat) (L M : List (Int × Int)) (g : Nat) (w : World) (ha : Steps w w.heap.size Aa n L) (hb : Steps w w.heap.size Ab m M) (hg : Blk w g 25 #[.slice Aa n ca, .slice Ab m cb]) (n0 : 1 ≤ n) (n1 : n ≤ 20) (m0 : 1 ≤ m) (m1 : m ≤ 20) :
    Calls Try.prog 59 #[.slice (some ⟨g, 0, none⟩) 2 2] w fun e w' => ∃ v, e = .returned v ∧ w'.ownsRow w.heap.size 44 2 v (n + m) (pairs (L ++ M)) ∧ Below w.heap.size w w' := by
  obtain ⟨i0, hi0, hz0, hz1, hz2⟩ := info_parts infoStep
  obtain ⟨q, hq⟩ : ∃ q : Nat, q = n + m := ⟨_, rfl⟩
  have Q0 : Hid ((q : Int) = (n : Int) + (m : Int)) := by show _ = _; omega
  have q1 : q ≤ 40 := by omega
  have hG := Any8.slices_Grow_grow Try.laysGrow i0 _ hi0 hz0 (by rw [hz1]; omega) none 0 0 q [] w (Nat.le_refl _) (by omega) (by rw [hz2]; omega) (by omega) (by simp) (fun _ => rfl) (fun a e => by cases e)
  obtain ⟨G, hGe⟩ : ∃ G, G = grownCap w (0 + q) 0 44 := ⟨_, rfl⟩
  have hO := grown_row w 44 q G (Value.agg #[Value.int .i64 0, Value.int .i64 0]) rfl (by rw [hGe]; have := grownCap_ge w (0 + q) 0 44; omega) (by rw [hGe]; exact grownCap_le_maxLen w (0 + q) 0 _ (by unfold maxLen; omega))
  have HG : Hid (Calls Try.prog 68 #[.slice none 0 0, .int .i64 (q : Int)] w fun e w' => ∃ v, e = .returned v ∧ w'.ownsRow w.heap.size 44 2 v 0 (pairs []) ∧ Below w.heap.size w w') := by
    refine hG.mono ?_
    rintro e w' ⟨he, hw⟩
    refine ⟨_, he, ?_, ?_⟩
    · rw [hw]
      have := hO
      rw [hGe] at this
      exact this
    · rw [hw]; exact Below.alloc (below_drewN (Below.refl _ _) 1) (Nat.le_refl _) _
  have HA := Lib.hid ha
  have HB := Lib.hid hb
  have HK := Lib.hid hg
  obtain ⟨c0, c1⟩ := hg.two
  have HQ := Lib.hid hq
  clear hG hO ha hb hg hq hGe
  go_enter Try.func59, Try.ntmps59
  go_wp2
  go_loop [3, 5, 11] (fun s _ i => (i = .int .i64 0 ∧ s = .int .i64 0) ∨ (i = .int .i64 1 ∧ s = .int .i64 (n : Int)) ∨ (i = .int .i64 2 ∧ s = .int .i64 (q : Int))) (fun _ _ i => 2 - (intOf i).toNat)
  case atStart => exact .inl ⟨rfl, rfl⟩
  case round =>
    rcases hrel with ⟨rfl, rfl⟩ | ⟨rfl, rfl⟩ | ⟨rfl, rfl⟩
    · go_wp2
      exact ⟨.inr (.inl ⟨rfl, rfl⟩), by simp [intOf]⟩
    · go_wp2
      exact ⟨.inr (.inr ⟨rfl, ret_val (by have := Q0.out; omega)⟩), by simp [intOf]⟩
    · clear c0 c1
      go_wp2_with fail
      with_reducible refine HG.out.mono ?_
      rintro e w1 ⟨v1, rfl, O1, hb1⟩
      have HO1 := Lib.hid O1
      have HB1 := Lib.hid hb1
      clear O1 HG
      go_wp2
      go_loopw [6, 8, 27] (fun v _ i wr => Hid (Below w.heap.size w wr) ∧ ((i = .int .i64 0 ∧ Hid (wr.ownsRow w.heap.size 44 2 v 0 (pairs []))) ∨ (i = .int .i64 1 ∧ Hid (wr.ownsRow w.heap.size 44 2 v n (pairs L))) ∨ (i = .int .i64 2 ∧ Hid (wr.ownsRow w.heap.size 44 2 v (n + m) (pairs (L ++ M)))))) (fun _ _ i _ => 2 - (intOf i).toNat)
      case atStart => exact ⟨hb1, .inl ⟨rfl, HO1⟩⟩
      case round =>
        clear HO1 hb1 HB1
        obtain ⟨HBW, h3⟩ := hrel
        have zw := HBW.out.size
        obtain ⟨c0, c1⟩ := (HK.out.on HBW.out).two
        rcases h3 with ⟨rfl, HO⟩ | ⟨rfl, HO⟩ | ⟨rfl, HO⟩
        · have S1 := HA.out.next HBW.out
          obtain ⟨b, o, x, y, rfl, _, _, _, _⟩ := S1.at_ (k := 0) (by omega)
          have P1 := Lib.hid (pairs_cells S1)
          have PL : Hid ((pairs L).length = n * 2) := by show _ = _; rw [pairs_length, S1.1]
          clear S1
          go_wp2_with (at_builtin; refine wpList_append_own _ rfl _ _ 25 rfl w.heap.size 44 i0 _ 2 16 Try.underlying25 hi0 hz0 hz1 hz2 rfl (by omega) _ _ _ rfl HO.out ⟨b, o, none⟩ n ca (pairs L) rfl PL.out P1.out (pairs_one L) (by unfold maxLen; omega) (by omega) (by omega) ?_; intro v' w2 hown' hgrow _)
          have B2 : Below w.heap.size w w2 := HBW.out.grown hgrow (by omega) (fun j hj => (HO.out.lt j hj).1)
          have O2 : Hid (w2.ownsRow w.heap.size 44 2 v' n (pairs L)) := by show World.ownsRow _ _ _ _ _ _ _; simpa [pairs] using hown'
          clear hown' hgrow c0 c1
          go_wp2
          exact ⟨⟨B2, .inr (.inl ⟨rfl, O2⟩)⟩, by simp [intOf]⟩
        · have S1 := HB.out.next HBW.out
          obtain ⟨b, o, x, y, rfl, _, _, _, _⟩ := S1.at_ (k := 0) (by omega)
          have P1 := Lib.hid (pairs_cells S1)
          have PL : Hid ((pairs M).length = m * 2) := by show _ = _; rw [pairs_length, S1.1]
          clear S1
          go_wp2_with (at_builtin; refine wpList_append_own _ rfl _ _ 25 rfl w.heap.size 44 i0 _ 2 16 Try.underlying25 hi0 hz0 hz1 hz2 rfl (by omega) _ _ _ rfl HO.out ⟨b, o, none⟩ m cb (pairs M) rfl PL.out P1.out (pairs_one M) (by unfold maxLen; omega) (by omega) (by omega) ?_; intro v' w2 hown' hgrow _)
          have B2 : Below w.heap.size w w2 := HBW.out.grown hgrow (by omega) (fun j hj => (HO.out.lt j hj).1)
          have O2 : Hid (w2.ownsRow w.heap.size 44 2 v' (n + m) (pairs (L ++ M))) := by show World.ownsRow _ _ _ _ _ _ _; rw [pairs_append]; exact hown'
          clear hown' hgrow c0 c1
          go_wp2
          exact ⟨⟨B2, .inr (.inr ⟨rfl, O2⟩)⟩, by simp [intOf]⟩
        · go_wp2
          go_ret
          exact ⟨_, rfl, HO.out, HBW.out⟩
end Go.Proofs.Ytiaineljcmjfoaa
