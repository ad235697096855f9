/- Sites compared: the walks of both sides, and the law. -/
import Derived.Test.YtbdompadkeamdaaProg
import Derived.Test.YtbdompadkeamdaaKit
import Derived.Test.YtbdompadkeamdaaBasics
import Derived.Test.YtbdompadkeamdaaMem
import Derived.Test.YtbdompadkeamdaaCodeRes
import Derived.Test.YtbdompadkeamdaaLists
import Derived.Test.YtbdompadkeamdaaSteps
import Derived.Test.YtbdompadkeamdaaCharts
import Derived.Test.YtbdompadkeamdaaChartLaws
import Derived.Test.YtbdompadkeamdaaPts
import Derived.Test.YtbdompadkeamdaaSame
import Derived.Test.YtbdompadkeamdaaSites
import Derived.Test.YtbdompadkeamdaaSiteLex
import Derived.Test.YtbdompadkeamdaaSites2
import Derived.Test.YtbdompadkeamdaaCranes
import Derived.Test.YtbdompadkeamdaaSites3
import Derived.Lib.QuietBelow
import Derived.BigQuiet
namespace Go.Proofs.Ytbdompadkeamdaa
open Go.RowKit Go.WideShapes Go.ChangeShapes Go.Joins Go.Deep Go.Sort
set_option linter.unusedVariables false
set_option linter.unusedSimpArgs false
theorem CrnAt.on {w w' : World} {b o : Nat} {C : Crn} (h : CrnAt w w.heap.size b o C) (hb : b < w.heap.size) (hl : Below w.heap.size w w') : CrnAt w' w'.heap.size b o C := (h.keep hb fun _ hp => hl.cell hp).more hl.size
theorem same_next {Cs Ds : List Crn} {k : Nat} {C D : Crn} (h : ∀ j C D, j < k → Cs[j]? = some C → Ds[j]? = some D → sameC C D = true) (hC : Cs[k]? = some C) (hD : Ds[k]? = some D) (e : sameC C D = true) : ∀ j C D, j < k + 1 → Cs[j]? = some C → Ds[j]? = some D → sameC C D = true := by
  intro j C' D' hj hC' hD'
  by_cases ej : j = k
  · subst ej
    rw [hC] at hC'
    rw [hD] at hD'
    injection hC' with hC'
    injection hD' with hD'
    subst hC' hD'
    exact e
  · exact h j C' D' (by omega) hC' hD'
theorem same_end {Cs Ds : List Crn} {n : Nat} (h : ∀ j C D, j < n → Cs[j]? = some C → Ds[j]? = some D → sameC C D = true) (h1 : Cs.length = n) (h2 : Ds.length = n) : sameL Cs Ds = true :=
  sameL_all (by rw [h1, h2]) fun j C D hC hD => h j C D (by have := (List.getElem?_eq_some_iff.1 hC).1; omega) hC hD
set_option maxHeartbeats 2000000 in
theorem l04Sites_any (g1 g2 : Nat) (A A' : Option Addr) (n c m c' : Nat) (Cs Ds : List Crn) (w : World) (k1 : w.cell? ⟨g1, 0, none⟩ = some (.slice A n c)) (k2 : w.cell? ⟨g2, 0, none⟩ = some (.slice A' m c')) (h : Crns w w.heap.size A n Cs) (h' : Crns w w.heap.size A' m Ds) (hn : n ≤ maxLen) (hm : m ≤ maxLen) :
    Calls Try.prog 76 #[.pointer (some ⟨g1, 0, none⟩), .pointer (some ⟨g2, 0, none⟩)] w fun e w' => e = .returned (.bool (sameL Cs Ds)) ∧ Below w.heap.size w w' := by
  unfold maxLen at hn hm
  have l1 := World.block_lt_of_cell? w _ k1
  have l2 := World.block_lt_of_cell? w _ k2
  have H := Lib.hid h
  have H' := Lib.hid h'
  clear h h'
  by_cases hnm : n = m
  · subst hnm
    have K1 := Lib.hid k1
    have K2 := Lib.hid k2
    go_enter Try.func76, Try.ntmps76
    go_wp2
    go_quiet (fail)
    clear k1 k2
    go_wp2
    go_loopw [5] (fun i wr => ∃ k : Nat, k ≤ n ∧ i = .int .i64 k ∧ Below w.heap.size w wr ∧ Hid (∀ j C D, j < k → Cs[j]? = some C → Ds[j]? = some D → sameC C D = true)) (fun i _ => n - (intOf i).toNat)
    case atStart => exact ⟨0, Nat.zero_le _, rfl, below_drewN (Below.refl _ _) _, fun j C D hj => absurd hj (by omega)⟩
    case round =>
      obtain ⟨k, hk, rfl, HB, HA⟩ := hrel
      have k1 : wr.cell? ⟨g1, 0, none⟩ = some (.slice A n c) := (HB.cell (p := ⟨g1, 0, none⟩) l1).trans K1.out
      have k2 : wr.cell? ⟨g2, 0, none⟩ = some (.slice A' n c') := (HB.cell (p := ⟨g2, 0, none⟩) l2).trans K2.out
      by_cases hlt : k < n
      · obtain ⟨b, o, C, rfl, hbb, hC, X⟩ := (H.out.next HB).at_ hlt
        obtain ⟨b', o', D, rfl, hbb', hD, X'⟩ := (H'.out.next HB).at_ hlt
        have i1 : (0 : Int) ≤ (k : Int) := Int.natCast_nonneg _
        have i2 : (k : Int) < (n : Int) := by omega
        have HC : Hid (∀ d os, Calls Try.prog 95 #[.pointer (some ⟨b, o + k * 7, none⟩), .pointer (some ⟨b', o' + k * 7, none⟩)] (grow (redrawn wr d) os) fun e w' => e = .returned (.bool (sameC C D)) ∧ ∃ p : Regrown, w' = grow (redrawn wr p.d) p.os) := fun d os => Calls.regrown_of (l04Same_any b (o + k * 7) b' (o' + k * 7) C D _ (X.on hbb (below_regrown wr d os)) (X'.on hbb' (below_regrown wr d os)))
        have f1 := cell_regrown k1
        have f2 := cell_regrown k2
        have HX := Lib.hid hC
        have HY := Lib.hid hD
        clear X X' hC hD
        cases hs : sameC C D
        · rw [hs] at HC
          have E := Lib.hid (sameL_at HX.out HY.out hs)
          clear hs
          go_wp2_with fail
          refine wp_region_quiet_below (by kernel_rfl) (by kernel_rfl) ?_
          repeat (first | go_big_quiet_step (first | exact HC.out _ _) | quiet_step (first | exact HC.out _ _))
          refine wpQuiet_nil ?_
          intro w1 hw1
          have hb1 := class_below hw1
          clear f1 f2 hw1 k1 k2
          go_wp2
          go_ret
          exact ⟨ret_bool E.out.symm, HB.trans (hb1.mono HB.size)⟩
        · rw [hs] at HC
          have E := Lib.hid (same_next HA.out HX.out HY.out hs)
          clear hs
          go_wp2_with fail
          refine wp_region_quiet_below (by kernel_rfl) (by kernel_rfl) ?_
          repeat (first | go_big_quiet_step (first | exact HC.out _ _) | quiet_step (first | exact HC.out _ _))
          refine wpQuiet_nil ?_
          intro w1 hw1
          have hb1 := class_below hw1
          clear f1 f2 hw1 k1 k2
          go_wp2
          exact ⟨⟨k + 1, by omega, by go_num, HB.trans (hb1.mono HB.size), E⟩, by simp [intOf]; omega⟩
      · obtain rfl : k = n := by omega
        have E := Lib.hid (same_end HA.out H.out.1 H'.out.1)
        go_wp2
        go_ret
        exact ⟨ret_bool E.out.symm, HB⟩
  · have E := Lib.hid (sameL_len (Cs := Cs) (Ds := Ds) (by rw [H.out.1, H'.out.1]; exact hnm))
    have h1 : ((n : Int) != (m : Int)) = true := by rw [bne_iff_ne]; omega
    clear hnm
    go_enter Try.func76, Try.ntmps76
    go_wp2
    go_quiet (fail)
    go_wp2
    go_ret
    exact ⟨ret_bool E.out.symm, below_drewN (Below.refl _ _) _⟩
set_option maxHeartbeats 1000000 in
theorem specSameSite_any (A A' : Option Addr) (n c m c' : Nat) (Cs Ds : List Crn) (w : World) (h : Crns w w.heap.size A n Cs) (h' : Crns w w.heap.size A' m Ds) (hn : n ≤ maxLen) (hm : m ≤ maxLen) :
    Calls Try.prog 38 #[.agg #[.slice A n c], .agg #[.slice A' m c']] w fun e w' => e = .returned (.bool (sameL Cs Ds)) ∧ Below w.heap.size w w' := by
  have B0 := below_alloc2 w (.cells #[.slice A n c] 63) (.cells #[.slice A' m c'] 63)
  have k1 := ((Blk.new w 63 #[.slice A n c]).alloc (.cells #[.slice A' m c'] 63)).cell 0
  have k2 := (Blk.new2 w (.cells #[.slice A n c] 63) 63 #[.slice A' m c']).cell 0
  have HC := Lib.hid (l04Sites_any w.heap.size (w.heap.size + 1) A A' n c m c' Cs Ds _ k1 k2 (h.next B0) (h'.next B0) hn hm)
  have H0 := Lib.hid B0
  clear h h' B0 k1 k2
  go_enter Try.func38, Try.ntmps38
  go_wp2_with fail
  with_reducible refine HC.out.mono ?_
  rintro e w1 ⟨rfl, hb1⟩
  have B1 := H0.out.trans (hb1.mono H0.out.size)
  clear hb1 H0 HC
  go_wp2
  go_ret
  exact ⟨rfl, B1⟩
set_option maxHeartbeats 4000000 in
theorem equalFunc_any (A A' : Option Addr) (n c m c' : Nat) (Cs Ds : List Crn) (w : World) (h : Crns w w.heap.size A n Cs) (h' : Crns w w.heap.size A' m Ds) (hn : n ≤ maxLen) (hm : m ≤ maxLen) :
    Calls Try.prog 78 #[.slice A n c, .slice A' m c', .func (.func 79) #[] #[]] w fun e w' => e = .returned (.bool (sameL Cs Ds)) ∧ Below w.heap.size w w' := by
  unfold maxLen at hn hm
  have H := Lib.hid h
  have H' := Lib.hid h'
  clear h h'
  by_cases hnm : n = m
  · subst hnm
    go_enter Try.func78, Try.ntmps78
    go_wp2
    go_loopw [7, 8, 9, 17] (fun _ _ _ i wr => ∃ k : Nat, k ≤ n ∧ i = .int .i64 k ∧ Below w.heap.size w wr ∧ Hid (∀ j C D, j < k → Cs[j]? = some C → Ds[j]? = some D → sameC C D = true)) (fun _ _ _ i _ => n - (intOf i).toNat)
    case atStart => exact ⟨0, Nat.zero_le _, rfl, Below.refl _ _, fun j C D hj => absurd hj (by omega)⟩
    case round =>
      obtain ⟨k, hk, rfl, HB, HA⟩ := hrel
      by_cases hlt : k < n
      · obtain ⟨b, o, C, rfl, hbb, hC, A1, p1, e1, ⟨c0, c1, c2, c3, c4, c5, c6⟩, S, hp, hz⟩ := (H.out.next HB).at_ hlt
        obtain ⟨b', o', D, rfl, hbb', hD, A2, p2, e2, ⟨d0, d1, d2, d3, d4, d5, d6⟩, S', hp', hz'⟩ := (H'.out.next HB).at_ hlt
        have i1 : (0 : Int) ≤ (k : Int) := Int.natCast_nonneg _
        have i2 : (k : Int) < (n : Int) := by omega
        have zw := HB.size
        have nb1 : b ≠ wr.heap.size := by omega
        have nb2 : b' ≠ wr.heap.size := by omega
        have B2 := Lib.hid (below_alloc2 wr (.cells #[.string C.nm, .int .i64 C.x, .int .i64 C.y, .int .i64 C.ht, .int .i64 C.jb, .int .i64 C.bk, .slice A1 p1 e1] 52) (.cells #[.string D.nm, .int .i64 D.x, .int .i64 D.y, .int .i64 D.ht, .int .i64 D.jb, .int .i64 D.bk, .slice A2 p2 e2] 52))
        have KX := (Blk.new wr 52 #[.string C.nm, .int .i64 C.x, .int .i64 C.y, .int .i64 C.ht, .int .i64 C.jb, .int .i64 C.bk, .slice A1 p1 e1]).alloc (.cells #[.string D.nm, .int .i64 D.x, .int .i64 D.y, .int .i64 D.ht, .int .i64 D.jb, .int .i64 D.bk, .slice A2 p2 e2] 52)
        have KY := Blk.new2 wr (.cells #[.string C.nm, .int .i64 C.x, .int .i64 C.y, .int .i64 C.ht, .int .i64 C.jb, .int .i64 C.bk, .slice A1 p1 e1] 52) 52 #[.string D.nm, .int .i64 D.x, .int .i64 D.y, .int .i64 D.ht, .int .i64 D.jb, .int .i64 D.bk, .slice A2 p2 e2]
        obtain ⟨x0, x1, x2, x3, x4, x5, x6⟩ := KX.seven
        obtain ⟨y0, y1, y2, y3, y4, y5, y6⟩ := KY.seven
        have a0 : (wr.alloc (.cells #[.string C.nm, .int .i64 C.x, .int .i64 C.y, .int .i64 C.ht, .int .i64 C.jb, .int .i64 C.bk, .slice A1 p1 e1] 52)).cell? ⟨b', o' + k * 7, none⟩ = some (.string D.nm) := (World.cell?_alloc_lt wr _ ⟨b', _, none⟩ hbb').trans d0
        have a1 : (wr.alloc (.cells #[.string C.nm, .int .i64 C.x, .int .i64 C.y, .int .i64 C.ht, .int .i64 C.jb, .int .i64 C.bk, .slice A1 p1 e1] 52)).cell? ⟨b', o' + k * 7 + 1, none⟩ = some (.int .i64 D.x) := (World.cell?_alloc_lt wr _ ⟨b', _, none⟩ hbb').trans d1
        have a2 : (wr.alloc (.cells #[.string C.nm, .int .i64 C.x, .int .i64 C.y, .int .i64 C.ht, .int .i64 C.jb, .int .i64 C.bk, .slice A1 p1 e1] 52)).cell? ⟨b', o' + k * 7 + 2, none⟩ = some (.int .i64 D.y) := (World.cell?_alloc_lt wr _ ⟨b', _, none⟩ hbb').trans d2
        have a3 : (wr.alloc (.cells #[.string C.nm, .int .i64 C.x, .int .i64 C.y, .int .i64 C.ht, .int .i64 C.jb, .int .i64 C.bk, .slice A1 p1 e1] 52)).cell? ⟨b', o' + k * 7 + 3, none⟩ = some (.int .i64 D.ht) := (World.cell?_alloc_lt wr _ ⟨b', _, none⟩ hbb').trans d3
        have a4 : (wr.alloc (.cells #[.string C.nm, .int .i64 C.x, .int .i64 C.y, .int .i64 C.ht, .int .i64 C.jb, .int .i64 C.bk, .slice A1 p1 e1] 52)).cell? ⟨b', o' + k * 7 + 4, none⟩ = some (.int .i64 D.jb) := (World.cell?_alloc_lt wr _ ⟨b', _, none⟩ hbb').trans d4
        have a5 : (wr.alloc (.cells #[.string C.nm, .int .i64 C.x, .int .i64 C.y, .int .i64 C.ht, .int .i64 C.jb, .int .i64 C.bk, .slice A1 p1 e1] 52)).cell? ⟨b', o' + k * 7 + 5, none⟩ = some (.int .i64 D.bk) := (World.cell?_alloc_lt wr _ ⟨b', _, none⟩ hbb').trans d5
        have a6 : (wr.alloc (.cells #[.string C.nm, .int .i64 C.x, .int .i64 C.y, .int .i64 C.ht, .int .i64 C.jb, .int .i64 C.bk, .slice A1 p1 e1] 52)).cell? ⟨b', o' + k * 7 + 6, none⟩ = some (.slice A2 p2 e2) := (World.cell?_alloc_lt wr _ ⟨b', _, none⟩ hbb').trans d6
        have HC := Lib.hid (sameCrane_any C.nm D.nm C.x C.y C.ht C.jb C.bk D.x D.y D.ht D.jb D.bk C.L D.L A1 A2 p1 e1 p2 e2 _ (S.next B2.out) (S'.next B2.out) hp hp')
        have hcd : sameC ⟨C.nm, C.x, C.y, C.ht, C.jb, C.bk, C.L⟩ ⟨D.nm, D.x, D.y, D.ht, D.jb, D.bk, D.L⟩ = sameC C D := rfl
        rw [hcd] at HC
        have HX := Lib.hid hC
        have HY := Lib.hid hD
        clear S S' hC hD hcd KX KY
        cases hs : sameC C D
        · rw [hs] at HC
          have E := Lib.hid (sameL_at HX.out HY.out hs)
          clear hs
          go_wp2_with fail
          with_reducible refine HC.out.mono ?_
          rintro en w1 ⟨rfl, hb1⟩
          have B1 := HB.trans ((B2.out.trans (hb1.mono B2.out.size)).mono zw)
          clear hb1 B2 HC c0 c1 c2 c3 c4 c5 c6 d0 d1 d2 d3 d4 d5 d6 x0 x1 x2 x3 x4 x5 x6 y0 y1 y2 y3 y4 y5 y6 a0 a1 a2 a3 a4 a5 a6
          go_wp2
          go_ret
          exact ⟨ret_bool E.out.symm, B1⟩
        · rw [hs] at HC
          have E := Lib.hid (same_next HA.out HX.out HY.out hs)
          clear hs
          go_wp2_with fail
          with_reducible refine HC.out.mono ?_
          rintro en w1 ⟨rfl, hb1⟩
          have B1 := HB.trans ((B2.out.trans (hb1.mono B2.out.size)).mono zw)
          clear hb1 B2 HC c0 c1 c2 c3 c4 c5 c6 d0 d1 d2 d3 d4 d5 d6 x0 x1 x2 x3 x4 x5 x6 y0 y1 y2 y3 y4 y5 y6 a0 a1 a2 a3 a4 a5 a6
          go_wp2
          exact ⟨⟨k + 1, by omega, by go_num, B1, E⟩, by simp [intOf]; omega⟩
      · obtain rfl : k = n := by omega
        have E := Lib.hid (same_end HA.out H.out.1 H'.out.1)
        go_wp2
        go_ret
        exact ⟨ret_bool E.out.symm, HB⟩
  · have E := Lib.hid (sameL_len (Cs := Cs) (Ds := Ds) (by rw [H.out.1, H'.out.1]; exact hnm))
    have h1 : ((n : Int) != (m : Int)) = true := by rw [bne_iff_ne]; omega
    clear hnm
    go_enter Try.func78, Try.ntmps78
    go_wp2
    go_ret
    exact ⟨ret_bool E.out.symm, Below.refl _ _⟩
set_option maxHeartbeats 1000000 in
theorem implSameSite_any (A A' : Option Addr) (n c m c' : Nat) (Cs Ds : List Crn) (w : World) (h : Crns w w.heap.size A n Cs) (h' : Crns w w.heap.size A' m Ds) (hn : n ≤ maxLen) (hm : m ≤ maxLen) :
    Calls Try.prog 40 #[.agg #[.slice A n c], .agg #[.slice A' m c']] w fun e w' => e = .returned (.bool (sameL Cs Ds)) ∧ Below w.heap.size w w' := by
  have B0 := below_alloc2 w (.cells #[.slice A n c] 63) (.cells #[.slice A' m c'] 63)
  have HC := Lib.hid (equalFunc_any A A' n c m c' Cs Ds _ (h.next B0) (h'.next B0) hn hm)
  have H0 := Lib.hid B0
  clear h h' B0
  go_enter Try.func40, Try.ntmps40
  go_wp2_with fail
  with_reducible refine HC.out.mono ?_
  rintro e w1 ⟨rfl, hb1⟩
  have B1 := H0.out.trans (hb1.mono H0.out.size)
  clear hb1 H0 HC
  go_wp2
  go_ret
  exact ⟨rfl, B1⟩
set_option maxHeartbeats 4000000 in
theorem FnExactSameSite_walk (w : World) (A : Option Addr) (n c : Nat) (Cs : List Crn) (hn : n ≤ maxLen) (SA : Crns w w.heap.size A n Cs) (A' : Option Addr) (n' c' : Nat) (Ds : List Crn) (hn' : n' ≤ maxLen) (SAq : Crns w w.heap.size A' n' Ds) : Calls Try.prog 11 #[.agg #[.slice A n c], .agg #[.slice A' n' c']] w fun e w' => e = .returned (.bool true) ∧ Below w.heap.size w w' := by
  obtain ⟨s, hs⟩ : ∃ s, sameL Cs Ds = s := ⟨_, rfl⟩
  have H1 : Hid (∀ A n c A' n' c' w, Crns w w.heap.size A n Cs → Crns w w.heap.size A' n' Ds → n ≤ maxLen → n' ≤ maxLen → Calls Try.prog 38 #[.agg #[.slice A n c], .agg #[.slice A' n' c']] w fun e w' => e = .returned (.bool s) ∧ Below w.heap.size w w') := fun A n c A' n' c' w h h' hn hn' => by rw [← hs]; exact specSameSite_any A A' n c n' c' Cs Ds w h h' hn hn'
  have H2 : Hid (∀ A n c A' n' c' w, Crns w w.heap.size A n Cs → Crns w w.heap.size A' n' Ds → n ≤ maxLen → n' ≤ maxLen → Calls Try.prog 40 #[.agg #[.slice A n c], .agg #[.slice A' n' c']] w fun e w' => e = .returned (.bool s) ∧ Below w.heap.size w w') := fun A n c A' n' c' w h h' hn hn' => by rw [← hs]; exact implSameSite_any A A' n c n' c' Cs Ds w h h' hn hn'
  clear hs
  have B0 : Below w.heap.size w ((w.alloc (.cells #[.slice A n c] 58)).alloc (.cells #[.slice A' n' c'] 58)) := below_alloc2 _ _ _
  have KA0 : Blk ((w.alloc (.cells #[.slice A n c] 58)).alloc (.cells #[.slice A' n' c'] 58)) (w.heap.size) 58 #[.slice A n c] := (Blk.new w _ _).alloc _
  have KAq0 : Blk ((w.alloc (.cells #[.slice A n c] 58)).alloc (.cells #[.slice A' n' c'] 58)) (w.heap.size + 1) 58 #[.slice A' n' c'] := Blk.new2 w _ _ _
  have SA0 := SA.next B0
  have SAq0 := SAq.next B0
  clear SA SAq
  have KA0 := Lib.hid KA0
  have KAq0 := Lib.hid KAq0
  have SA0 := Lib.hid SA0
  have SAq0 := Lib.hid SAq0
  have B0 := Lib.hid B0
  go_enter Try.func11, Try.ntmps11
  have A_0 := KA0.out.one
  have Aq_0 := KAq0.out.one
  go_wp2_with fail
  refine (szSite_any A n c Cs 1048576 _ SA0.out hn (by omega) (by omega)).mono ?_
  rintro en w1 ⟨r, rfl, hr, hb1⟩
  clear A_0 Aq_0
  have KA1 := (KA0.out).on hb1
  have KAq1 := (KAq0.out).on hb1
  have SA1 := (SA0.out).next hb1
  have SAq1 := (SAq0.out).next hb1
  have B1 := B0.out.trans (hb1.mono B0.out.size)
  clear hb1 B0 KA0 KAq0 SA0 SAq0
  have KA1 := Lib.hid KA1
  have KAq1 := Lib.hid KAq1
  have SA1 := Lib.hid SA1
  have SAq1 := Lib.hid SAq1
  have B1 := Lib.hid B1
  rcases hr with rfl | ⟨r0, r1, r2, r3⟩
  · go_wp2
    go_ret
    exact ⟨rfl, B1.out⟩
  · have R3 := Lib.hid r3
    clear r3
    have A_0 := KA1.out.one
    have Aq_0 := KAq1.out.one
    go_wp2_with fail
    refine (szSite_any A' n' c' Ds r _ SAq1.out hn' r0 r1).mono ?_
    rintro en w2 ⟨q, rfl, hq, hb2⟩
    clear A_0 Aq_0
    have KA2 := (KA1.out).on hb2
    have KAq2 := (KAq1.out).on hb2
    have SA2 := (SA1.out).next hb2
    have SAq2 := (SAq1.out).next hb2
    have B2 := B1.out.trans (hb2.mono B1.out.size)
    clear hb2 B1 KA1 KAq1 SA1 SAq1
    have KA2 := Lib.hid KA2
    have KAq2 := Lib.hid KAq2
    have SA2 := Lib.hid SA2
    have SAq2 := Lib.hid SAq2
    have B2 := Lib.hid B2
    rcases hq with rfl | ⟨q0, q1, q2, q3⟩
    · go_wp2
      go_ret
      exact ⟨rfl, B2.out⟩
    · have Q3 := Lib.hid q3
      clear q3
      have m1 : n ≤ 1048576 := by omega
      have m2 : n' ≤ 1048576 := by omega
      have A_0 := KA2.out.one
      have Aq_0 := KAq2.out.one
      go_wp2_with fail
      go_region_held3 (fun w' => w'.cell? ⟨w.heap.size, 0, none⟩ = some (.slice A n c) ∧ w'.cell? ⟨w.heap.size + 1, 0, none⟩ = some (.slice A' n' c'))
        (first | go_keep | (refine ⟨?_, ?_⟩ <;> assumption))
        (first
          | (go_at_call 39; refine (toSite_any A n c Cs _ (SA2.out.drewN 1) m1 R3.out).mono ?_; rintro en w3 ⟨AX, rfl, SX3, hb3⟩; clear A_0 Aq_0; have KA3 := (KA2.out.drewN 1).on hb3; have KAq3 := (KAq2.out.drewN 1).on hb3; have SA3 := (SA2.out.drewN 1).next hb3; have SAq3 := (SAq2.out.drewN 1).next hb3; have B3 := (below_drewN B2.out 1).trans (hb3.mono B2.out.size); clear hb3 B2 KA2 KAq2 SA2 SAq2; have KA3 := Lib.hid KA3; have KAq3 := Lib.hid KAq3; have SA3 := Lib.hid SA3; have SAq3 := Lib.hid SAq3; have SX3 := Lib.hid SX3; have B3 := Lib.hid B3; have A_0 := KA3.out.one; have Aq_0 := KAq3.out.one)
          | (go_at_call 39; refine (toSite_any A' n' c' Ds _ SAq3.out m2 Q3.out).mono ?_; rintro en w4 ⟨AXq, rfl, SXq4, hb4⟩; clear A_0 Aq_0; have KA4 := (KA3.out).on hb4; have KAq4 := (KAq3.out).on hb4; have SA4 := (SA3.out).next hb4; have SAq4 := (SAq3.out).next hb4; have SX4 := (SX3.out).next hb4; have B4 := B3.out.trans (hb4.mono B3.out.size); clear hb4 B3 KA3 KAq3 SA3 SAq3 SX3; have KA4 := Lib.hid KA4; have KAq4 := Lib.hid KAq4; have SA4 := Lib.hid SA4; have SAq4 := Lib.hid SAq4; have SX4 := Lib.hid SX4; have SXq4 := Lib.hid SXq4; have B4 := Lib.hid B4; have A_0 := KA4.out.one; have Aq_0 := KAq4.out.one)
          | (go_at_call 38; refine (H1.out _ _ _ _ _ _ _ SX4.out SXq4.out hn hn').mono ?_; rintro en w5 ⟨rfl, hb5⟩; clear A_0 Aq_0; have KA5 := (KA4.out).on hb5; have KAq5 := (KAq4.out).on hb5; have SA5 := (SA4.out).next hb5; have SAq5 := (SAq4.out).next hb5; have B5 := B4.out.trans (hb5.mono B4.out.size); clear hb5 B4 KA4 KAq4 SA4 SAq4 SX4 SXq4; have KA5 := Lib.hid KA5; have KAq5 := Lib.hid KAq5; have SA5 := Lib.hid SA5; have SAq5 := Lib.hid SAq5; have B5 := Lib.hid B5; have A_0 := KA5.out.one; have Aq_0 := KAq5.out.one))
      clear A_0 Aq_0
      have A_0 := KA5.out.one
      have Aq_0 := KAq5.out.one
      go_wp2_with fail
      refine (toSite_any A n c Cs _ SA5.out m1 R3.out).mono ?_
      rintro en w6 ⟨AY, rfl, SY6, hb6⟩
      clear A_0 Aq_0
      have KA6 := (KA5.out).on hb6
      have KAq6 := (KAq5.out).on hb6
      have SA6 := (SA5.out).next hb6
      have SAq6 := (SAq5.out).next hb6
      have B6 := B5.out.trans (hb6.mono B5.out.size)
      clear hb6 B5 KA5 KAq5 SA5 SAq5
      have KA6 := Lib.hid KA6
      have KAq6 := Lib.hid KAq6
      have SA6 := Lib.hid SA6
      have SAq6 := Lib.hid SAq6
      have SY6 := Lib.hid SY6
      have B6 := Lib.hid B6
      have bx := below_alloc1 w6 (.cells #[.slice AY n n] 63)
      have KA6 := Lib.hid (KA6.out.alloc (.cells #[.slice AY n n] 63))
      have KAq6 := Lib.hid (KAq6.out.alloc (.cells #[.slice AY n n] 63))
      have SA6 := Lib.hid (SA6.out.next bx)
      have SAq6 := Lib.hid (SAq6.out.next bx)
      have SY6 := Lib.hid (SY6.out.next bx)
      have KY6 := Lib.hid (Blk.new w6 63 #[.slice AY n n])
      have B6 := Lib.hid (B6.out.trans (bx.mono B6.out.size))
      clear bx
      have A_0 := KA6.out.one
      have Aq_0 := KAq6.out.one
      have Y_0 := KY6.out.one
      go_wp2_with fail
      refine (toSite_any A' n' c' Ds _ SAq6.out m2 Q3.out).mono ?_
      rintro en w7 ⟨AYq, rfl, SYq7, hb7⟩
      clear A_0 Aq_0 Y_0
      have KA7 := (KA6.out).on hb7
      have KAq7 := (KAq6.out).on hb7
      have KY7 := (KY6.out).on hb7
      have SA7 := (SA6.out).next hb7
      have SAq7 := (SAq6.out).next hb7
      have SY7 := (SY6.out).next hb7
      have B7 := B6.out.trans (hb7.mono B6.out.size)
      clear hb7 B6 KA6 KAq6 KY6 SA6 SAq6 SY6
      have KA7 := Lib.hid KA7
      have KAq7 := Lib.hid KAq7
      have KY7 := Lib.hid KY7
      have SA7 := Lib.hid SA7
      have SAq7 := Lib.hid SAq7
      have SY7 := Lib.hid SY7
      have SYq7 := Lib.hid SYq7
      have B7 := Lib.hid B7
      have bx := below_alloc1 w7 (.cells #[.slice AYq n' n'] 63)
      have KA7 := Lib.hid (KA7.out.alloc (.cells #[.slice AYq n' n'] 63))
      have KAq7 := Lib.hid (KAq7.out.alloc (.cells #[.slice AYq n' n'] 63))
      have KY7 := Lib.hid (KY7.out.alloc (.cells #[.slice AYq n' n'] 63))
      have SA7 := Lib.hid (SA7.out.next bx)
      have SAq7 := Lib.hid (SAq7.out.next bx)
      have SY7 := Lib.hid (SY7.out.next bx)
      have SYq7 := Lib.hid (SYq7.out.next bx)
      have KYq7 := Lib.hid (Blk.new w7 63 #[.slice AYq n' n'])
      have B7 := Lib.hid (B7.out.trans (bx.mono B7.out.size))
      clear bx
      have A_0 := KA7.out.one
      have Aq_0 := KAq7.out.one
      have Y_0 := KY7.out.one
      have Yq_0 := KYq7.out.one
      go_wp2_with fail
      refine (H2.out _ _ _ _ _ _ _ SY7.out SYq7.out hn hn').mono ?_
      rintro en w8 ⟨rfl, hb8⟩
      clear A_0 Aq_0 Y_0 Yq_0
      have KA8 := (KA7.out).on hb8
      have KAq8 := (KAq7.out).on hb8
      have KY8 := (KY7.out).on hb8
      have KYq8 := (KYq7.out).on hb8
      have SA8 := (SA7.out).next hb8
      have SAq8 := (SAq7.out).next hb8
      have SY8 := (SY7.out).next hb8
      have SYq8 := (SYq7.out).next hb8
      have B8 := B7.out.trans (hb8.mono B7.out.size)
      clear hb8 B7 KA7 KAq7 KY7 KYq7 SA7 SAq7 SY7 SYq7
      have KA8 := Lib.hid KA8
      have KAq8 := Lib.hid KAq8
      have KY8 := Lib.hid KY8
      have KYq8 := Lib.hid KYq8
      have SA8 := Lib.hid SA8
      have SAq8 := Lib.hid SAq8
      have SY8 := Lib.hid SY8
      have SYq8 := Lib.hid SYq8
      have B8 := Lib.hid B8
      have A_0 := KA8.out.one
      have Aq_0 := KAq8.out.one
      have Y_0 := KY8.out.one
      have Yq_0 := KYq8.out.one
      go_wp2_with fail
      go_region_held3 (fun w' => w'.cell? ⟨w.heap.size, 0, none⟩ = some (.slice A n c) ∧ w'.cell? ⟨w.heap.size + 1, 0, none⟩ = some (.slice A' n' c') ∧ w'.cell? ⟨w6.heap.size, 0, none⟩ = some (.slice AY n n) ∧ w'.cell? ⟨w7.heap.size, 0, none⟩ = some (.slice AYq n' n'))
        (first | go_keep | (refine ⟨?_, ?_, ?_, ?_⟩ <;> assumption))
        (first
          | (go_at_call 39; refine (toSite_any A n c Cs _ (SA8.out.drewN 1) m1 R3.out).mono ?_; rintro en w9 ⟨AZ, rfl, SZ9, hb9⟩; clear A_0 Aq_0 Y_0 Yq_0; have KA9 := (KA8.out.drewN 1).on hb9; have KAq9 := (KAq8.out.drewN 1).on hb9; have KY9 := (KY8.out.drewN 1).on hb9; have KYq9 := (KYq8.out.drewN 1).on hb9; have SA9 := (SA8.out.drewN 1).next hb9; have SAq9 := (SAq8.out.drewN 1).next hb9; have SY9 := (SY8.out.drewN 1).next hb9; have SYq9 := (SYq8.out.drewN 1).next hb9; have B9 := (below_drewN B8.out 1).trans (hb9.mono B8.out.size); clear hb9 B8 KA8 KAq8 KY8 KYq8 SA8 SAq8 SY8 SYq8; have KA9 := Lib.hid KA9; have KAq9 := Lib.hid KAq9; have KY9 := Lib.hid KY9; have KYq9 := Lib.hid KYq9; have SA9 := Lib.hid SA9; have SAq9 := Lib.hid SAq9; have SY9 := Lib.hid SY9; have SYq9 := Lib.hid SYq9; have SZ9 := Lib.hid SZ9; have B9 := Lib.hid B9; have A_0 := KA9.out.one; have Aq_0 := KAq9.out.one; have Y_0 := KY9.out.one; have Yq_0 := KYq9.out.one)
          | (go_at_call 41; refine (eqSite_same AY AZ n n n Cs _ SY9.out SZ9.out hn).mono ?_; rintro en w10 ⟨rfl, hb10⟩; clear A_0 Aq_0 Y_0 Yq_0; have KA10 := (KA9.out).on hb10; have KAq10 := (KAq9.out).on hb10; have KY10 := (KY9.out).on hb10; have KYq10 := (KYq9.out).on hb10; have SA10 := (SA9.out).next hb10; have SAq10 := (SAq9.out).next hb10; have SY10 := (SY9.out).next hb10; have SYq10 := (SYq9.out).next hb10; have B10 := B9.out.trans (hb10.mono B9.out.size); clear hb10 B9 KA9 KAq9 KY9 KYq9 SA9 SAq9 SY9 SYq9 SZ9; have KA10 := Lib.hid KA10; have KAq10 := Lib.hid KAq10; have KY10 := Lib.hid KY10; have KYq10 := Lib.hid KYq10; have SA10 := Lib.hid SA10; have SAq10 := Lib.hid SAq10; have SY10 := Lib.hid SY10; have SYq10 := Lib.hid SYq10; have B10 := Lib.hid B10; have A_0 := KA10.out.one; have Aq_0 := KAq10.out.one; have Y_0 := KY10.out.one; have Yq_0 := KYq10.out.one))
      clear A_0 Aq_0 Y_0 Yq_0
      have A_0 := KA10.out.one
      have Aq_0 := KAq10.out.one
      have Y_0 := KY10.out.one
      have Yq_0 := KYq10.out.one
      go_wp2_with fail
      go_region_held3 (fun w' => w'.cell? ⟨w.heap.size, 0, none⟩ = some (.slice A n c) ∧ w'.cell? ⟨w.heap.size + 1, 0, none⟩ = some (.slice A' n' c') ∧ w'.cell? ⟨w6.heap.size, 0, none⟩ = some (.slice AY n n) ∧ w'.cell? ⟨w7.heap.size, 0, none⟩ = some (.slice AYq n' n'))
        (first | go_keep | (refine ⟨?_, ?_, ?_, ?_⟩ <;> assumption))
        (first
          | (go_at_call 39; refine (toSite_any A' n' c' Ds _ (SAq10.out.drewN 1) m2 Q3.out).mono ?_; rintro en w11 ⟨AZq, rfl, SZq11, hb11⟩; clear A_0 Aq_0 Y_0 Yq_0; have KA11 := (KA10.out.drewN 1).on hb11; have KAq11 := (KAq10.out.drewN 1).on hb11; have KY11 := (KY10.out.drewN 1).on hb11; have KYq11 := (KYq10.out.drewN 1).on hb11; have SA11 := (SA10.out.drewN 1).next hb11; have SAq11 := (SAq10.out.drewN 1).next hb11; have SY11 := (SY10.out.drewN 1).next hb11; have SYq11 := (SYq10.out.drewN 1).next hb11; have B11 := (below_drewN B10.out 1).trans (hb11.mono B10.out.size); clear hb11 B10 KA10 KAq10 KY10 KYq10 SA10 SAq10 SY10 SYq10; have KA11 := Lib.hid KA11; have KAq11 := Lib.hid KAq11; have KY11 := Lib.hid KY11; have KYq11 := Lib.hid KYq11; have SA11 := Lib.hid SA11; have SAq11 := Lib.hid SAq11; have SY11 := Lib.hid SY11; have SYq11 := Lib.hid SYq11; have SZq11 := Lib.hid SZq11; have B11 := Lib.hid B11; have A_0 := KA11.out.one; have Aq_0 := KAq11.out.one; have Y_0 := KY11.out.one; have Yq_0 := KYq11.out.one)
          | (go_at_call 41; refine (eqSite_same AYq AZq n' n' n' Ds _ SYq11.out SZq11.out hn').mono ?_; rintro en w12 ⟨rfl, hb12⟩; clear A_0 Aq_0 Y_0 Yq_0; have KA12 := (KA11.out).on hb12; have KAq12 := (KAq11.out).on hb12; have KY12 := (KY11.out).on hb12; have KYq12 := (KYq11.out).on hb12; have SA12 := (SA11.out).next hb12; have SAq12 := (SAq11.out).next hb12; have SY12 := (SY11.out).next hb12; have SYq12 := (SYq11.out).next hb12; have B12 := B11.out.trans (hb12.mono B11.out.size); clear hb12 B11 KA11 KAq11 KY11 KYq11 SA11 SAq11 SY11 SYq11 SZq11; have KA12 := Lib.hid KA12; have KAq12 := Lib.hid KAq12; have KY12 := Lib.hid KY12; have KYq12 := Lib.hid KYq12; have SA12 := Lib.hid SA12; have SAq12 := Lib.hid SAq12; have SY12 := Lib.hid SY12; have SYq12 := Lib.hid SYq12; have B12 := Lib.hid B12; have A_0 := KA12.out.one; have Aq_0 := KAq12.out.one; have Y_0 := KY12.out.one; have Yq_0 := KYq12.out.one))
      go_wp2
      go_ret
      exact ⟨rfl, B12.out⟩
end Go.Proofs.Ytbdompadkeamdaa
