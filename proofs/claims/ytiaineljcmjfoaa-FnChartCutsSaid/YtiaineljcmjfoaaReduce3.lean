/- Charts with other loads: the laws. -/
import Derived.Test.YtiaineljcmjfoaaProg
import Derived.Test.YtiaineljcmjfoaaKit
import Derived.Test.YtiaineljcmjfoaaBasics
import Derived.Test.YtiaineljcmjfoaaMem
import Derived.Test.YtiaineljcmjfoaaCodeRes
import Derived.Test.YtiaineljcmjfoaaLists
import Derived.Test.YtiaineljcmjfoaaSteps
import Derived.Test.YtiaineljcmjfoaaCharts
import Derived.Test.YtiaineljcmjfoaaChartLaws
import Derived.Test.YtiaineljcmjfoaaFinds
import Derived.Test.YtiaineljcmjfoaaLoads
import Derived.Test.YtiaineljcmjfoaaLoads2
import Derived.Test.YtiaineljcmjfoaaLoads3
import Derived.Test.YtiaineljcmjfoaaReduce
import Derived.Test.YtiaineljcmjfoaaReduce2
import Derived.Test.YtiaineljcmjfoaaMarks
import Derived.Test.YtiaineljcmjfoaaDisj
import Derived.Deep.RegionHeld3
import Derived.Deep.AppendLies
namespace Go.Proofs.Ytiaineljcmjfoaa
open Go.RowKit Go.WideShapes Go.ChangeShapes Go.Joins Go.Deep Go.Sort
set_option linter.unusedVariables false
set_option linter.unusedSimpArgs false


/-- what comes back, as a list and a code -/
def RetList (w : World) (M : List (Int × Int)) (code : Int) (e : Ending) (w' : World) : Prop := ∃ A c, e = .returned (.tuple #[.slice A M.length c, .int .i64 code]) ∧ w'.ownsRow w.heap.size 44 2 (.slice A M.length c) M.length (pairs M) ∧ Below w.heap.size w w'
theorem RetChart.list {w w' : World} {valid rng : Bool} {M : List (Int × Int)} {e : Ending} (h : RetChart w valid rng M e w') : RetList w (if valid && rng then M else []) (codeV valid rng) e w' := by
  unfold RetChart RetRow at h
  cases hv : (valid && rng)
  · rw [hv] at h
    obtain ⟨v, he, ho, hb⟩ := h
    obtain ⟨A, c, rfl⟩ := own_form ho
    exact ⟨A, c, he, ho, hb⟩
  · rw [hv] at h
    obtain ⟨v, he, ho, hb⟩ := h
    obtain ⟨A, c, rfl⟩ := own_form ho
    exact ⟨A, c, he, ho, hb⟩
set_option maxHeartbeats 1000000 in
theorem impl_reduce_any (A : Option Addr) (n c : Nat) (L : List (Int × Int)) (p : Int) (w : World) (h : Steps w w.heap.size A n L) (hn : n ≤ maxLen) :
    Calls Try.prog 23 #[.slice A n c, .int .i64 p] w (RetChart w (chartB L) (inB p 1 100) (reduceL p L)) := by
  have hmf : ∀ (fn : Fn) (first cap : Array Value) (w : World), (Instr.makeFunc fn first cap).run Try.prog w = .ok (.func fn first cap) w := fun _ _ _ _ => rfl
  have S1 := h.next (below_alloc1 w (.cells #[.int .i64 p] 2))
  have C := chartCode_any A n c L p 1 100 _ S1 hn
  cases h0 : chartB L
  · have HE := Lib.hid (fun w' hb => RetChart.bad (w := w) (w' := w') (valid := false) (rng := inB p 1 100) (M := reduceL p L) rfl hb)
    rw [codeV_f] at HE
    rw [h0, codeV_f] at C
    have HC := Lib.hid C
    clear C h h0 S1
    go_enter Try.func23, Try.ntmps23
    go_wp2_with fail
    refine HC.out.mono ?_
    rintro e w1 ⟨rfl, hb1⟩
    have B1 := (below_alloc1 w _).trans (hb1.mono (by simp))
    clear hb1
    go_wp2
    go_ret2
    exact HE.out _ B1
  · cases h1 : inB p 1 100
    · have HE := Lib.hid (fun w' hb => RetChart.bad (w := w) (w' := w') (valid := true) (rng := false) (M := reduceL p L) rfl hb)
      rw [codeV_tf] at HE
      rw [h0, h1, codeV_tf] at C
      have HC := Lib.hid C
      clear C h h0 h1 S1
      go_enter Try.func23, Try.ntmps23
      go_wp2_with fail
      refine HC.out.mono ?_
      rintro e w1 ⟨rfl, hb1⟩
      have B1 := (below_alloc1 w _).trans (hb1.mono (by simp))
      clear hb1
      go_wp2
      go_ret2
      exact HE.out _ B1
    · rw [h0, h1, codeV_tt] at C
      have HC := Lib.hid C
      have HS := Lib.hid S1
      have H0 := Lib.hid h0
      have H1 := Lib.hid h1
      have hln : (reduceL p L).length = n := by unfold reduceL; rw [List.length_map]; exact h.1
      have HL := Lib.hid hln
      clear C h h0 h1 S1 hln
      go_enter Try.func23, Try.ntmps23
      go_wp2_with fail
      refine HC.out.mono ?_
      rintro e w1 ⟨rfl, hb1⟩
      have K1 := (Blk.new w 2 #[.int .i64 p]).on hb1
      have S2 := HS.out.next hb1
      have B1 := (below_alloc1 w _).trans (hb1.mono (by simp))
      clear hb1
      go_wp2_with fail
      refine (with_reduce _ _ _ _ p _ _ S2 hn H0.out H1.out (K1.cell 0) K1.lt).mono ?_
      rintro e w2 ⟨v, rfl, ho, hb2⟩
      have B2 := B1.trans (hb2.mono B1.size)
      have z1 := B1.size
      clear hb2 B1 K1 S2
      go_wp2
      go_ret2
      exact RetChart.good HL.out (own_mono ho z1) B2
set_option maxHeartbeats 1000000 in
theorem impl_less_any (A : Option Addr) (n c : Nat) (L : List (Int × Int)) (p : Int) (w : World) (h : Steps w w.heap.size A n L) (hn : n ≤ maxLen) :
    Calls Try.prog 29 #[.slice A n c, .int .i64 p] w (RetChart w (chartB L) (inB p 0 50000) (lessL p L)) := by
  have hmf : ∀ (fn : Fn) (first cap : Array Value) (w : World), (Instr.makeFunc fn first cap).run Try.prog w = .ok (.func fn first cap) w := fun _ _ _ _ => rfl
  have S1 := h.next (below_alloc1 w (.cells #[.int .i64 p] 2))
  have C := chartCode_any A n c L p 0 50000 _ S1 hn
  cases h0 : chartB L
  · have HE := Lib.hid (fun w' hb => RetChart.bad (w := w) (w' := w') (valid := false) (rng := inB p 0 50000) (M := lessL p L) rfl hb)
    rw [codeV_f] at HE
    rw [h0, codeV_f] at C
    have HC := Lib.hid C
    clear C h h0 S1
    go_enter Try.func29, Try.ntmps29
    go_wp2_with fail
    refine HC.out.mono ?_
    rintro e w1 ⟨rfl, hb1⟩
    have B1 := (below_alloc1 w _).trans (hb1.mono (by simp))
    clear hb1
    go_wp2
    go_ret2
    exact HE.out _ B1
  · cases h1 : inB p 0 50000
    · have HE := Lib.hid (fun w' hb => RetChart.bad (w := w) (w' := w') (valid := true) (rng := false) (M := lessL p L) rfl hb)
      rw [codeV_tf] at HE
      rw [h0, h1, codeV_tf] at C
      have HC := Lib.hid C
      clear C h h0 h1 S1
      go_enter Try.func29, Try.ntmps29
      go_wp2_with fail
      refine HC.out.mono ?_
      rintro e w1 ⟨rfl, hb1⟩
      have B1 := (below_alloc1 w _).trans (hb1.mono (by simp))
      clear hb1
      go_wp2
      go_ret2
      exact HE.out _ B1
    · rw [h0, h1, codeV_tt] at C
      have HC := Lib.hid C
      have HS := Lib.hid S1
      have H0 := Lib.hid h0
      have H1 := Lib.hid h1
      have hln : (lessL p L).length = n := by unfold lessL; rw [List.length_map]; exact h.1
      have HL := Lib.hid hln
      clear C h h0 h1 S1 hln
      go_enter Try.func29, Try.ntmps29
      go_wp2_with fail
      refine HC.out.mono ?_
      rintro e w1 ⟨rfl, hb1⟩
      have K1 := (Blk.new w 2 #[.int .i64 p]).on hb1
      have S2 := HS.out.next hb1
      have B1 := (below_alloc1 w _).trans (hb1.mono (by simp))
      clear hb1
      go_wp2_with fail
      refine (with_less _ _ _ _ p _ _ S2 hn H0.out H1.out (K1.cell 0) K1.lt).mono ?_
      rintro e w2 ⟨v, rfl, ho, hb2⟩
      have B2 := B1.trans (hb2.mono B1.size)
      have z1 := B1.size
      clear hb2 B1 K1 S2
      go_wp2
      go_ret2
      exact RetChart.good HL.out (own_mono ho z1) B2
set_option maxHeartbeats 4000000 in
theorem FnExactReduceChart_walk (w : World) (A : Option Addr) (n c : Nat) (L : List (Int × Int)) (hn : n ≤ maxLen) (SS0 : Steps w w.heap.size A n L) (p : Int) (_wp : (Lit.int .i64 p).wf = true) : Calls Try.prog 6 #[.slice A n c, .int .i64 p] w fun e w' => e = .returned (.bool true) ∧ Below w.heap.size w w' := by
  clear _wp
  obtain ⟨M, hM, hlen⟩ : ∃ M : List (Int × Int), M = (if chartB L && inB p 1 100 then reduceL p L else []) ∧ M.length ≤ 20 := by
    refine ⟨_, rfl, ?_⟩
    cases h : (chartB L && inB p 1 100)
    · exact Nat.zero_le _
    · simp only [Bool.and_eq_true] at h
      show (reduceL p L).length ≤ 20
      unfold reduceL; rw [List.length_map]; exact (chart_len h.1).2
  obtain ⟨y, hy⟩ : ∃ y, y = codeV (chartB L) (inB p 1 100) := ⟨_, rfl⟩
  have H1 : Hid (∀ A n c w, Steps w w.heap.size A n L → n ≤ maxLen → Calls Try.prog 22 #[.slice A n c, .int .i64 p] w (RetList w M y)) := fun A n c w h hn => by rw [hM, hy]; exact (spec_reduce_any A n c L p w h hn).mono fun e w' h => h.list
  have H2 : Hid (∀ A n c w, Steps w w.heap.size A n L → n ≤ maxLen → Calls Try.prog 23 #[.slice A n c, .int .i64 p] w (RetList w M y)) := fun A n c w h hn => by rw [hM, hy]; exact (impl_reduce_any A n c L p w h hn).mono fun e w' h => h.list
  clear hM hy
  obtain ⟨m, hm⟩ : ∃ m : Nat, m = M.length := ⟨_, rfl⟩
  have HM := Lib.hid hm
  unfold RetList at H1 H2
  rw [← hm] at H1 H2 hlen
  clear hm
  by_cases hs : (n : Int) ≤ 1048576
  · have B0 := Below.refl w.heap.size w
    clear hn
    go_enter Try.func6, Try.ntmps6
    go_wp2_with fail
    refine (sz_in hs _ _ _ (by omega) (by omega) (by unfold maxLen; omega)).mono ?_
    rintro e w' ⟨rfl, rfl⟩
    go_wp2_with fail
    refine (toSteps_any _ _ _ _ _ SS0 (by omega)).mono ?_
    rintro e w1 ⟨Aa, rfl, Oa1, hb1⟩
    have Qa : ∀ k, (Value.slice Aa n n).ownBlock = some k → w.heap.size ≤ k := fun k hk => Nat.le_trans B0.size (Oa1.lt k hk).1
    have Qa := Lib.hid Qa
    have SS1 := SS0.next hb1
    have B1 := B0.trans (hb1.mono B0.size)
    clear hb1 B0 SS0
    go_wp2_with fail
    refine (H1.out _ _ _ _ (steps_own Oa1) (by unfold maxLen; omega)).mono ?_
    rintro e w2 ⟨Av, cv, rfl, Ov2, hb2⟩
    have Qv : ∀ k, (Value.slice Av m cv).ownBlock = some k → w.heap.size ≤ k := fun k hk => Nat.le_trans B1.size (Ov2.lt k hk).1
    have Qv := Lib.hid Qv
    have SS2 := SS1.next hb2
    have B2 := B1.trans (hb2.mono B1.size)
    clear hb2 B1 SS1 Oa1
    go_wp2_with fail
    refine (toSteps_any _ _ _ _ _ SS2 (by omega)).mono ?_
    rintro e w3 ⟨Ab, rfl, Ob3, hb3⟩
    have PS_b := Lib.hid (SS2.apart Ob3)
    have Pv_b := Lib.hid (apart_early Ov2 Ob3)
    have Qb : ∀ k, (Value.slice Ab n n).ownBlock = some k → w.heap.size ≤ k := fun k hk => Nat.le_trans B2.size (Ob3.lt k hk).1
    have Qb := Lib.hid Qb
    have SS3 := SS2.next hb3
    have Ov3 := own_below Ov2 hb3
    have B3 := B2.trans (hb3.mono B2.size)
    clear hb3 B2 SS2 Ov2
    go_wp2_with fail
    refine (H2.out _ _ _ _ (steps_own Ob3) (by unfold maxLen; omega)).mono ?_
    rintro e w4 ⟨Ag, cg, rfl, Og4, hb4⟩
    have PS_g := Lib.hid (SS3.apart Og4)
    have Pv_g := Lib.hid (apart_early Ov3 Og4)
    have Pg_b := Lib.hid (apart_late Ob3 Og4)
    have Qg : ∀ k, (Value.slice Ag m cg).ownBlock = some k → w.heap.size ≤ k := fun k hk => Nat.le_trans B3.size (Og4.lt k hk).1
    have Qg := Lib.hid Qg
    have SS4 := SS3.next hb4
    have Ov4 := own_below Ov3 hb4
    have Ob4 := own_below Ob3 hb4
    have B4 := B3.trans (hb4.mono B3.size)
    clear hb4 B3 SS3 Ov3 Ob3
    go_wp2_with fail
    refine (eqChartStepS_same _ _ _ _ _ _ _ (steps_own Og4) (steps_own Ov4) (by unfold maxLen; omega)).mono ?_
    rintro e w5 ⟨rfl, hb5⟩
    have SS5 := SS4.next hb5
    have Ov5 := own_below Ov4 hb5
    have Ob5 := own_below Ob4 hb5
    have Og5 := own_below Og4 hb5
    have B5 := B4.trans (hb5.mono B4.size)
    clear hb5 B4 SS4 Ov4 Ob4 Og4
    go_wp2_with fail
    refine (toSteps_any _ _ _ _ _ SS5 (by omega)).mono ?_
    rintro e w6 ⟨Ad, rfl, Od6, hb6⟩
    have Qd : ∀ k, (Value.slice Ad n n).ownBlock = some k → w.heap.size ≤ k := fun k hk => Nat.le_trans B5.size (Od6.lt k hk).1
    have Qd := Lib.hid Qd
    have SS6 := SS5.next hb6
    have Ov6 := own_below Ov5 hb6
    have Ob6 := own_below Ob5 hb6
    have Og6 := own_below Og5 hb6
    have B6 := B5.trans (hb6.mono B5.size)
    clear hb6 B5 SS5 Ov5 Ob5 Og5
    go_wp2_with fail
    refine (eqChartStepS_same _ _ _ _ _ _ _ (steps_own Ob6) (steps_own Od6) (by unfold maxLen; omega)).mono ?_
    rintro e w7 ⟨rfl, hb7⟩
    have SS7 := SS6.next hb7
    have Ov7 := own_below Ov6 hb7
    have Ob7 := own_below Ob6 hb7
    have Og7 := own_below Og6 hb7
    have B7 := B6.trans (hb7.mono B6.size)
    clear hb7 B6 SS6 Ov6 Ob6 Og6 Od6
    go_wp2_with fail
    refine (markSteps_any _ _ _ _ _ 1 _ Ob7 (by omega) (by omega) (by omega)).mono ?_
    rintro e w8 ⟨rfl, Ob8, hg8⟩
    have SS8 := SS7.marked hg8 PS_b.out
    have Ov8 := Ov7.kept hg8 Pv_b.out
    have Og8 := Og7.kept hg8 Pg_b.out
    have B8 := grown_below B7 hg8 B7.size Qb.out
    clear hg8 B7 SS7 Ov7 Ob7 Og7
    go_wp2_with fail
    refine (eqChartStepS_same _ _ _ _ _ _ _ (steps_own Og8) (steps_own Ov8) (by unfold maxLen; omega)).mono ?_
    rintro e w9 ⟨rfl, hb9⟩
    have SS9 := SS8.next hb9
    have Ov9 := own_below Ov8 hb9
    have Og9 := own_below Og8 hb9
    have B9 := B8.trans (hb9.mono B8.size)
    clear hb9 B8 SS8 Ov8 Ob8 Og8
    go_wp2_with fail
    refine (markSteps_any _ _ _ _ _ 1 _ Og9 (by omega) (by omega) (by omega)).mono ?_
    rintro e w10 ⟨rfl, Og10, hg10⟩
    have SS10 := SS9.marked hg10 PS_g.out
    have Ov10 := Ov9.kept hg10 Pv_g.out
    have B10 := grown_below B9 hg10 B9.size Qg.out
    clear hg10 B9 SS9 Ov9 Og9
    go_wp2_with fail
    refine (heldSteps_any _ _ _ 1 _ (steps_own Og10) (by omega) (by omega) (by omega)).mono ?_
    rintro e w' ⟨rfl, rfl⟩
    go_wp2_with fail
    refine (toSteps_any _ _ _ _ _ SS10 (by omega)).mono ?_
    rintro e w11 ⟨Af, rfl, Of11, hb11⟩
    have Qf : ∀ k, (Value.slice Af n n).ownBlock = some k → w.heap.size ≤ k := fun k hk => Nat.le_trans B10.size (Of11.lt k hk).1
    have Qf := Lib.hid Qf
    have SS11 := SS10.next hb11
    have Ov11 := own_below Ov10 hb11
    have Og11 := own_below Og10 hb11
    have B11 := B10.trans (hb11.mono B10.size)
    clear hb11 B10 SS10 Ov10 Og10
    go_wp2_with fail
    refine (H2.out _ _ _ _ (steps_own Of11) (by unfold maxLen; omega)).mono ?_
    rintro e w12 ⟨Ah, ch, rfl, Oh12, hb12⟩
    have Qh : ∀ k, (Value.slice Ah m ch).ownBlock = some k → w.heap.size ≤ k := fun k hk => Nat.le_trans B11.size (Oh12.lt k hk).1
    have Qh := Lib.hid Qh
    have SS12 := SS11.next hb12
    have Ov12 := own_below Ov11 hb12
    have Og12 := own_below Og11 hb12
    have B12 := B11.trans (hb12.mono B11.size)
    clear hb12 B11 SS11 Ov11 Og11 Of11
    go_wp2_with fail
    refine (eqChartStepS_same _ _ _ _ _ _ _ (steps_own Oh12) (steps_own Ov12) (by unfold maxLen; omega)).mono ?_
    rintro e w13 ⟨rfl, hb13⟩
    have SS13 := SS12.next hb13
    have Ov13 := own_below Ov12 hb13
    have Og13 := own_below Og12 hb13
    have B13 := B12.trans (hb13.mono B12.size)
    clear hb13 B12 SS12 Ov12 Og12 Oh12
    go_wp2_with fail
    refine (heldSteps_any _ _ _ 1 _ (steps_own Og13) (by omega) (by omega) (by omega)).mono ?_
    rintro e w' ⟨rfl, rfl⟩
    go_wp2
    go_ret
    exact ⟨rfl, B13⟩
  · go_enter Try.func6, Try.ntmps6
    go_wp2_with fail
    refine (sz_out (by omega) _ _ _ (by omega) (by omega) hn).mono ?_
    rintro e w' ⟨rfl, rfl⟩
    go_wp2
    go_ret
    exact ⟨rfl, Below.refl _ _⟩
set_option maxHeartbeats 4000000 in
theorem FnExactLessWeight_walk (w : World) (A : Option Addr) (n c : Nat) (L : List (Int × Int)) (hn : n ≤ maxLen) (SS0 : Steps w w.heap.size A n L) (p : Int) (_wp : (Lit.int .i64 p).wf = true) : Calls Try.prog 8 #[.slice A n c, .int .i64 p] w fun e w' => e = .returned (.bool true) ∧ Below w.heap.size w w' := by
  clear _wp
  obtain ⟨M, hM, hlen⟩ : ∃ M : List (Int × Int), M = (if chartB L && inB p 0 50000 then lessL p L else []) ∧ M.length ≤ 20 := by
    refine ⟨_, rfl, ?_⟩
    cases h : (chartB L && inB p 0 50000)
    · exact Nat.zero_le _
    · simp only [Bool.and_eq_true] at h
      show (lessL p L).length ≤ 20
      unfold lessL; rw [List.length_map]; exact (chart_len h.1).2
  obtain ⟨y, hy⟩ : ∃ y, y = codeV (chartB L) (inB p 0 50000) := ⟨_, rfl⟩
  have H1 : Hid (∀ A n c w, Steps w w.heap.size A n L → n ≤ maxLen → Calls Try.prog 28 #[.slice A n c, .int .i64 p] w (RetList w M y)) := fun A n c w h hn => by rw [hM, hy]; exact (spec_less_any A n c L p w h hn).mono fun e w' h => h.list
  have H2 : Hid (∀ A n c w, Steps w w.heap.size A n L → n ≤ maxLen → Calls Try.prog 29 #[.slice A n c, .int .i64 p] w (RetList w M y)) := fun A n c w h hn => by rw [hM, hy]; exact (impl_less_any A n c L p w h hn).mono fun e w' h => h.list
  clear hM hy
  obtain ⟨m, hm⟩ : ∃ m : Nat, m = M.length := ⟨_, rfl⟩
  have HM := Lib.hid hm
  unfold RetList at H1 H2
  rw [← hm] at H1 H2 hlen
  clear hm
  by_cases hs : (n : Int) ≤ 1048576
  · have B0 := Below.refl w.heap.size w
    clear hn
    go_enter Try.func8, Try.ntmps8
    go_wp2_with fail
    refine (sz_in hs _ _ _ (by omega) (by omega) (by unfold maxLen; omega)).mono ?_
    rintro e w' ⟨rfl, rfl⟩
    go_wp2_with fail
    refine (toSteps_any _ _ _ _ _ SS0 (by omega)).mono ?_
    rintro e w1 ⟨Aa, rfl, Oa1, hb1⟩
    have Qa : ∀ k, (Value.slice Aa n n).ownBlock = some k → w.heap.size ≤ k := fun k hk => Nat.le_trans B0.size (Oa1.lt k hk).1
    have Qa := Lib.hid Qa
    have SS1 := SS0.next hb1
    have B1 := B0.trans (hb1.mono B0.size)
    clear hb1 B0 SS0
    go_wp2_with fail
    refine (H1.out _ _ _ _ (steps_own Oa1) (by unfold maxLen; omega)).mono ?_
    rintro e w2 ⟨Av, cv, rfl, Ov2, hb2⟩
    have Qv : ∀ k, (Value.slice Av m cv).ownBlock = some k → w.heap.size ≤ k := fun k hk => Nat.le_trans B1.size (Ov2.lt k hk).1
    have Qv := Lib.hid Qv
    have SS2 := SS1.next hb2
    have B2 := B1.trans (hb2.mono B1.size)
    clear hb2 B1 SS1 Oa1
    go_wp2_with fail
    refine (toSteps_any _ _ _ _ _ SS2 (by omega)).mono ?_
    rintro e w3 ⟨Ab, rfl, Ob3, hb3⟩
    have PS_b := Lib.hid (SS2.apart Ob3)
    have Pv_b := Lib.hid (apart_early Ov2 Ob3)
    have Qb : ∀ k, (Value.slice Ab n n).ownBlock = some k → w.heap.size ≤ k := fun k hk => Nat.le_trans B2.size (Ob3.lt k hk).1
    have Qb := Lib.hid Qb
    have SS3 := SS2.next hb3
    have Ov3 := own_below Ov2 hb3
    have B3 := B2.trans (hb3.mono B2.size)
    clear hb3 B2 SS2 Ov2
    go_wp2_with fail
    refine (H2.out _ _ _ _ (steps_own Ob3) (by unfold maxLen; omega)).mono ?_
    rintro e w4 ⟨Ag, cg, rfl, Og4, hb4⟩
    have PS_g := Lib.hid (SS3.apart Og4)
    have Pv_g := Lib.hid (apart_early Ov3 Og4)
    have Pg_b := Lib.hid (apart_late Ob3 Og4)
    have Qg : ∀ k, (Value.slice Ag m cg).ownBlock = some k → w.heap.size ≤ k := fun k hk => Nat.le_trans B3.size (Og4.lt k hk).1
    have Qg := Lib.hid Qg
    have SS4 := SS3.next hb4
    have Ov4 := own_below Ov3 hb4
    have Ob4 := own_below Ob3 hb4
    have B4 := B3.trans (hb4.mono B3.size)
    clear hb4 B3 SS3 Ov3 Ob3
    go_wp2_with fail
    refine (eqChartStepS_same _ _ _ _ _ _ _ (steps_own Og4) (steps_own Ov4) (by unfold maxLen; omega)).mono ?_
    rintro e w5 ⟨rfl, hb5⟩
    have SS5 := SS4.next hb5
    have Ov5 := own_below Ov4 hb5
    have Ob5 := own_below Ob4 hb5
    have Og5 := own_below Og4 hb5
    have B5 := B4.trans (hb5.mono B4.size)
    clear hb5 B4 SS4 Ov4 Ob4 Og4
    go_wp2_with fail
    refine (toSteps_any _ _ _ _ _ SS5 (by omega)).mono ?_
    rintro e w6 ⟨Ad, rfl, Od6, hb6⟩
    have Qd : ∀ k, (Value.slice Ad n n).ownBlock = some k → w.heap.size ≤ k := fun k hk => Nat.le_trans B5.size (Od6.lt k hk).1
    have Qd := Lib.hid Qd
    have SS6 := SS5.next hb6
    have Ov6 := own_below Ov5 hb6
    have Ob6 := own_below Ob5 hb6
    have Og6 := own_below Og5 hb6
    have B6 := B5.trans (hb6.mono B5.size)
    clear hb6 B5 SS5 Ov5 Ob5 Og5
    go_wp2_with fail
    refine (eqChartStepS_same _ _ _ _ _ _ _ (steps_own Ob6) (steps_own Od6) (by unfold maxLen; omega)).mono ?_
    rintro e w7 ⟨rfl, hb7⟩
    have SS7 := SS6.next hb7
    have Ov7 := own_below Ov6 hb7
    have Ob7 := own_below Ob6 hb7
    have Og7 := own_below Og6 hb7
    have B7 := B6.trans (hb7.mono B6.size)
    clear hb7 B6 SS6 Ov6 Ob6 Og6 Od6
    go_wp2_with fail
    refine (markSteps_any _ _ _ _ _ 1 _ Ob7 (by omega) (by omega) (by omega)).mono ?_
    rintro e w8 ⟨rfl, Ob8, hg8⟩
    have SS8 := SS7.marked hg8 PS_b.out
    have Ov8 := Ov7.kept hg8 Pv_b.out
    have Og8 := Og7.kept hg8 Pg_b.out
    have B8 := grown_below B7 hg8 B7.size Qb.out
    clear hg8 B7 SS7 Ov7 Ob7 Og7
    go_wp2_with fail
    refine (eqChartStepS_same _ _ _ _ _ _ _ (steps_own Og8) (steps_own Ov8) (by unfold maxLen; omega)).mono ?_
    rintro e w9 ⟨rfl, hb9⟩
    have SS9 := SS8.next hb9
    have Ov9 := own_below Ov8 hb9
    have Og9 := own_below Og8 hb9
    have B9 := B8.trans (hb9.mono B8.size)
    clear hb9 B8 SS8 Ov8 Ob8 Og8
    go_wp2_with fail
    refine (markSteps_any _ _ _ _ _ 1 _ Og9 (by omega) (by omega) (by omega)).mono ?_
    rintro e w10 ⟨rfl, Og10, hg10⟩
    have SS10 := SS9.marked hg10 PS_g.out
    have Ov10 := Ov9.kept hg10 Pv_g.out
    have B10 := grown_below B9 hg10 B9.size Qg.out
    clear hg10 B9 SS9 Ov9 Og9
    go_wp2_with fail
    refine (heldSteps_any _ _ _ 1 _ (steps_own Og10) (by omega) (by omega) (by omega)).mono ?_
    rintro e w' ⟨rfl, rfl⟩
    go_wp2_with fail
    refine (toSteps_any _ _ _ _ _ SS10 (by omega)).mono ?_
    rintro e w11 ⟨Af, rfl, Of11, hb11⟩
    have Qf : ∀ k, (Value.slice Af n n).ownBlock = some k → w.heap.size ≤ k := fun k hk => Nat.le_trans B10.size (Of11.lt k hk).1
    have Qf := Lib.hid Qf
    have SS11 := SS10.next hb11
    have Ov11 := own_below Ov10 hb11
    have Og11 := own_below Og10 hb11
    have B11 := B10.trans (hb11.mono B10.size)
    clear hb11 B10 SS10 Ov10 Og10
    go_wp2_with fail
    refine (H2.out _ _ _ _ (steps_own Of11) (by unfold maxLen; omega)).mono ?_
    rintro e w12 ⟨Ah, ch, rfl, Oh12, hb12⟩
    have Qh : ∀ k, (Value.slice Ah m ch).ownBlock = some k → w.heap.size ≤ k := fun k hk => Nat.le_trans B11.size (Oh12.lt k hk).1
    have Qh := Lib.hid Qh
    have SS12 := SS11.next hb12
    have Ov12 := own_below Ov11 hb12
    have Og12 := own_below Og11 hb12
    have B12 := B11.trans (hb12.mono B11.size)
    clear hb12 B11 SS11 Ov11 Og11 Of11
    go_wp2_with fail
    refine (eqChartStepS_same _ _ _ _ _ _ _ (steps_own Oh12) (steps_own Ov12) (by unfold maxLen; omega)).mono ?_
    rintro e w13 ⟨rfl, hb13⟩
    have SS13 := SS12.next hb13
    have Ov13 := own_below Ov12 hb13
    have Og13 := own_below Og12 hb13
    have B13 := B12.trans (hb13.mono B12.size)
    clear hb13 B12 SS12 Ov12 Og12 Oh12
    go_wp2_with fail
    refine (heldSteps_any _ _ _ 1 _ (steps_own Og13) (by omega) (by omega) (by omega)).mono ?_
    rintro e w' ⟨rfl, rfl⟩
    go_wp2
    go_ret
    exact ⟨rfl, B13⟩
  · go_enter Try.func8, Try.ntmps8
    go_wp2_with fail
    refine (sz_out (by omega) _ _ _ (by omega) (by omega) hn).mono ?_
    rintro e w' ⟨rfl, rfl⟩
    go_wp2
    go_ret
    exact ⟨rfl, Below.refl _ _⟩
end Go.Proofs.Ytiaineljcmjfoaa
