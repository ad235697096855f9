/- The safe chart: both sides at all arguments, and the law. -/
import Derived.Test.YtfnoapejkpeacaaProg
import Derived.Test.YtfnoapejkpeacaaKit
import Derived.Test.YtfnoapejkpeacaaBasics
import Derived.Test.YtfnoapejkpeacaaBases
import Derived.Test.YtfnoapejkpeacaaMem
import Derived.Test.YtfnoapejkpeacaaCodeRes
import Derived.Test.YtfnoapejkpeacaaMoments
import Derived.Test.YtfnoapejkpeacaaBaseLaws
import Derived.Test.YtfnoapejkpeacaaGreat
import Derived.Test.YtfnoapejkpeacaaLists
import Derived.Test.YtfnoapejkpeacaaSteps
import Derived.Test.YtfnoapejkpeacaaCharts
import Derived.Test.YtfnoapejkpeacaaChartLaws
import Derived.Test.YtfnoapejkpeacaaFinds
import Derived.Test.YtfnoapejkpeacaaMarks
import Derived.Test.YtfnoapejkpeacaaDisj
import Derived.Test.YtfnoapejkpeacaaSafe
import Derived.Test.YtfnoapejkpeacaaSafe2
import Derived.Test.YtfnoapejkpeacaaSafe3
namespace Go.Proofs.Ytfnoapejkpeacaa
open Go.RowKit Go.WideShapes Go.ChangeShapes Go.Joins Go.Deep Go.Sort
set_option linter.unusedVariables false
set_option linter.unusedSimpArgs false
def safeM (v p : Bool) (M : List (Int × Int)) : List (Int × Int) := match v, p with | true, true => M | _, _ => []
def safeC (v p : Bool) (M : List (Int × Int)) : Int := match v, p with | true, true => codeS M | true, false => 2 | false, _ => 1
theorem safe_len {f : Int → Int → Bool} {g : Int → Int} : ∀ (L : List (Int × Int)) (p : Int), (safeFrom f g p L).length ≤ L.length
  | [], p => by simp [safeFrom]
  | (r, y) :: L, p => by
    unfold safeFrom
    split
    · exact Nat.zero_le _
    · split
      · have := safe_len (f := f) (g := g) L (minZ (minZ (g r) y) p)
        simp; omega
      · exact Nat.zero_le _
set_option maxHeartbeats 1000000 in
theorem implSafe_any (A : Option Addr) (n c : Nat) (L : List (Int × Int)) (side mass ball jm ja ct ca percent : Int) (w : World) (h : Steps w w.heap.size A n L) (hn : n ≤ maxLen) :
    Calls Try.prog 33 #[.agg #[.int .i64 side, .int .i64 mass, .int .i64 ball, .int .i64 jm, .int .i64 ja, .int .i64 ct, .int .i64 ca], .slice A n c, .int .i64 percent] w (RetSafe w (safeM (baseB side mass ball jm ja ct ca && chartB L) (inB percent 100 1000) (safeL side mass ball jm ja ct ca percent L)) (safeC (baseB side mass ball jm ja ct ca && chartB L) (inB percent 100 1000) (safeL side mass ball jm ja ct ca percent L))) := by
  have S1 := h.next (below_alloc1 w (.cells #[.int .i64 side, .int .i64 mass, .int .i64 ball, .int .i64 jm, .int .i64 ja, .int .i64 ct, .int .i64 ca] 26))
  have V2 := implValidChart_any A n c L _ S1 hn
  cases hc : chartB L
  · rw [hc] at V2
    rw [Bool.and_false]
    have HV2 := Lib.hid V2
    clear V2 S1 h hc
    go_enter Try.func33, Try.ntmps33
    go_wp2_with fail
    refine HV2.out.mono ?_
    rintro e w0 ⟨rfl, hb0⟩
    have B1 := (below_alloc1 w (.cells #[.int .i64 side, .int .i64 mass, .int .i64 ball, .int .i64 jm, .int .i64 ja, .int .i64 ct, .int .i64 ca] 26)).trans (hb0.mono (below_alloc1 w _).size)
    clear hb0
    go_wp2
    go_ret2
    exact RetSafe.none_ 1 B1
  · rw [hc] at V2
    cases hb : baseB side mass ball jm ja ct ca
    · rw [Bool.false_and]
      have CB : Hid (∀ wr, Calls Try.prog 39 #[.agg #[.int .i64 side, .int .i64 mass, .int .i64 ball, .int .i64 jm, .int .i64 ja, .int .i64 ct, .int .i64 ca], .int .i64 0, .int .i64 0, .int .i64 percent] wr fun e w' => e = .returned (.int .i64 1) ∧ Below wr.heap.size wr w') := fun wr => by
        have := baseCode_any side mass ball jm ja ct ca 0 0 percent wr
        rwa [in_l0, in_r0, hb, codeV_f] at this
      have HV2 := Lib.hid V2
      clear V2 S1 h hc hb
      go_enter Try.func33, Try.ntmps33
      go_wp2_with fail
      refine HV2.out.mono ?_
      rintro e w0 ⟨rfl, hb0⟩
      have KA0 := (Blk.new w 26 #[.int .i64 side, .int .i64 mass, .int .i64 ball, .int .i64 jm, .int .i64 ja, .int .i64 ct, .int .i64 ca]).on hb0
      have B0 := (below_alloc1 w (.cells #[.int .i64 side, .int .i64 mass, .int .i64 ball, .int .i64 jm, .int .i64 ja, .int .i64 ct, .int .i64 ca] 26)).trans (hb0.mono (below_alloc1 w _).size)
      obtain ⟨a0, a1, a2, a3, a4, a5, a6⟩ := KA0.seven
      clear hb0 KA0
      go_wp2_with fail
      refine (CB.out _).mono ?_
      rintro e w1 ⟨rfl, hb1⟩
      have B1 := B0.trans (hb1.mono B0.size)
      clear hb1 B0 a0 a1 a2 a3 a4 a5 a6
      go_wp2
      go_ret2
      exact RetSafe.none_ 1 B1
    · cases hp : inB percent 100 1000
      · rw [show (true && true) = true from rfl]
        have CB : Hid (∀ wr, Calls Try.prog 39 #[.agg #[.int .i64 side, .int .i64 mass, .int .i64 ball, .int .i64 jm, .int .i64 ja, .int .i64 ct, .int .i64 ca], .int .i64 0, .int .i64 0, .int .i64 percent] wr fun e w' => e = .returned (.int .i64 2) ∧ Below wr.heap.size wr w') := fun wr => by
          have := baseCode_any side mass ball jm ja ct ca 0 0 percent wr
          rwa [in_l0, in_r0, hb, hp, show (true && true && false) = false from rfl, codeV_tf] at this
        have HV2 := Lib.hid V2
        clear V2 S1 h hc hb hp
        go_enter Try.func33, Try.ntmps33
        go_wp2_with fail
        refine HV2.out.mono ?_
        rintro e w0 ⟨rfl, hb0⟩
        have KA0 := (Blk.new w 26 #[.int .i64 side, .int .i64 mass, .int .i64 ball, .int .i64 jm, .int .i64 ja, .int .i64 ct, .int .i64 ca]).on hb0
        have B0 := (below_alloc1 w (.cells #[.int .i64 side, .int .i64 mass, .int .i64 ball, .int .i64 jm, .int .i64 ja, .int .i64 ct, .int .i64 ca] 26)).trans (hb0.mono (below_alloc1 w _).size)
        obtain ⟨a0, a1, a2, a3, a4, a5, a6⟩ := KA0.seven
        clear hb0 KA0
        go_wp2_with fail
        refine (CB.out _).mono ?_
        rintro e w1 ⟨rfl, hb1⟩
        have B1 := B0.trans (hb1.mono B0.size)
        clear hb1 B0 a0 a1 a2 a3 a4 a5 a6
        go_wp2
        go_ret2
        exact RetSafe.none_ 2 B1
      · exact implSafe_loop A n c L side mass ball jm ja ct ca percent w h hn hb hc hp
set_option maxHeartbeats 1000000 in
theorem specSafe_any (A : Option Addr) (n c : Nat) (L : List (Int × Int)) (side mass ball jm ja ct ca percent : Int) (w : World) (h : Steps w w.heap.size A n L) (hn : n ≤ maxLen) :
    Calls Try.prog 31 #[.agg #[.int .i64 side, .int .i64 mass, .int .i64 ball, .int .i64 jm, .int .i64 ja, .int .i64 ct, .int .i64 ca], .slice A n c, .int .i64 percent] w (RetSafe w (safeM (baseB side mass ball jm ja ct ca && chartB L) (inB percent 100 1000) (safeL side mass ball jm ja ct ca percent L)) (safeC (baseB side mass ball jm ja ct ca && chartB L) (inB percent 100 1000) (safeL side mass ball jm ja ct ca percent L))) := by
  have V := l06Ok_any side mass ball jm ja ct ca w.heap.size (w.alloc (.cells #[.int .i64 side, .int .i64 mass, .int .i64 ball, .int .i64 jm, .int .i64 ja, .int .i64 ct, .int .i64 ca] 26)) (Blk.new w 26 #[.int .i64 side, .int .i64 mass, .int .i64 ball, .int .i64 jm, .int .i64 ja, .int .i64 ct, .int .i64 ca]).seven.1 (Blk.new w 26 #[.int .i64 side, .int .i64 mass, .int .i64 ball, .int .i64 jm, .int .i64 ja, .int .i64 ct, .int .i64 ca]).seven.2.1 (Blk.new w 26 #[.int .i64 side, .int .i64 mass, .int .i64 ball, .int .i64 jm, .int .i64 ja, .int .i64 ct, .int .i64 ca]).seven.2.2.1 (Blk.new w 26 #[.int .i64 side, .int .i64 mass, .int .i64 ball, .int .i64 jm, .int .i64 ja, .int .i64 ct, .int .i64 ca]).seven.2.2.2.1 (Blk.new w 26 #[.int .i64 side, .int .i64 mass, .int .i64 ball, .int .i64 jm, .int .i64 ja, .int .i64 ct, .int .i64 ca]).seven.2.2.2.2.1 (Blk.new w 26 #[.int .i64 side, .int .i64 mass, .int .i64 ball, .int .i64 jm, .int .i64 ja, .int .i64 ct, .int .i64 ca]).seven.2.2.2.2.2.1 (Blk.new w 26 #[.int .i64 side, .int .i64 mass, .int .i64 ball, .int .i64 jm, .int .i64 ja, .int .i64 ct, .int .i64 ca]).seven.2.2.2.2.2.2
  have S1 := h.next (below_alloc1 w (.cells #[.int .i64 side, .int .i64 mass, .int .i64 ball, .int .i64 jm, .int .i64 ja, .int .i64 ct, .int .i64 ca] 26))
  have V2 := l03Ok_any A n c L _ S1 hn
  have B0 := below_alloc1 w (.cells #[.int .i64 side, .int .i64 mass, .int .i64 ball, .int .i64 jm, .int .i64 ja, .int .i64 ct, .int .i64 ca] 26)
  cases hb : baseB side mass ball jm ja ct ca
  · rw [hb] at V
    rw [Bool.false_and]
    have HV := Lib.hid V
    clear V V2 S1 h hb
    go_enter Try.func31, Try.ntmps31
    go_wp2_with fail
    refine HV.out.mono ?_
    rintro e w' ⟨rfl, rfl⟩
    go_wp2
    go_ret2
    exact RetSafe.none_ 1 B0
  · rw [hb] at V
    have HV := Lib.hid V
    cases hc : chartB L
    · rw [hc] at V2
      rw [Bool.and_false]
      have HV2 := Lib.hid V2
      clear V V2 S1 h hb hc
      go_enter Try.func31, Try.ntmps31
      go_wp2_with fail
      refine HV.out.mono ?_
      rintro e w' ⟨rfl, rfl⟩
      go_wp2_with fail
      refine HV2.out.mono ?_
      rintro e w1 ⟨rfl, hb1⟩
      have B1 := B0.trans (hb1.mono B0.size)
      clear hb1 B0
      go_wp2
      go_ret2
      exact RetSafe.none_ 1 B1
    · cases hp : inB percent 100 1000
      · rw [hc] at V2
        have HV2 := Lib.hid V2
        have HPC : Hid (∀ w, Calls Try.prog 56 #[.int .i64 percent] w fun e w' => e = .returned (.bool false) ∧ w = w') := fun w => by rw [← hp]; exact l06Percent_any percent w
        clear V V2 S1 h hb hc hp
        go_enter Try.func31, Try.ntmps31
        go_wp2_with fail
        refine HV.out.mono ?_
        rintro e w' ⟨rfl, rfl⟩
        go_wp2_with fail
        refine HV2.out.mono ?_
        rintro e w1 ⟨rfl, hb1⟩
        have B1 := B0.trans (hb1.mono B0.size)
        clear hb1 B0
        go_wp2_with (go_at_call 56; refine (HPC.out _).mono ?_; rintro e w' ⟨rfl, rfl⟩)
        go_ret2
        exact RetSafe.none_ 2 B1
      · exact specSafe_loop A n c L side mass ball jm ja ct ca percent w h hn hb hc hp
set_option maxHeartbeats 4000000 in
theorem FnExactSafeChart_walk (w : World) (side : Int) (_wside : (Lit.int .i64 side).wf = true) (mass : Int) (_wmass : (Lit.int .i64 mass).wf = true) (ball : Int) (_wball : (Lit.int .i64 ball).wf = true) (jm : Int) (_wjm : (Lit.int .i64 jm).wf = true) (ja : Int) (_wja : (Lit.int .i64 ja).wf = true) (ct : Int) (_wct : (Lit.int .i64 ct).wf = true) (ca : Int) (_wca : (Lit.int .i64 ca).wf = true) (A : Option Addr) (n c : Nat) (L : List (Int × Int)) (hn : n ≤ maxLen) (SS0 : Steps w w.heap.size A n L) (percent : Int) (_wp : (Lit.int .i64 percent).wf = true) : Calls Try.prog 11 #[.agg #[.int .i64 side, .int .i64 mass, .int .i64 ball, .int .i64 jm, .int .i64 ja, .int .i64 ct, .int .i64 ca], .slice A n c, .int .i64 percent] w fun e w' => e = .returned (.bool true) ∧ Below w.heap.size w w' := by
  clear _wp _wside _wmass _wball _wjm _wja _wct _wca
  obtain ⟨M, hM, hlen⟩ : ∃ M : List (Int × Int), M = safeM (baseB side mass ball jm ja ct ca && chartB L) (inB percent 100 1000) (safeL side mass ball jm ja ct ca percent L) ∧ M.length ≤ 20 := by
    refine ⟨_, rfl, ?_⟩
    cases h : (baseB side mass ball jm ja ct ca && chartB L)
    · exact Nat.zero_le _
    · cases h2 : inB percent 100 1000
      · exact Nat.zero_le _
      · simp only [Bool.and_eq_true] at h
        exact Nat.le_trans (safe_len _ _) (chart_len h.2).2
  obtain ⟨y, hy⟩ : ∃ y, y = safeC (baseB side mass ball jm ja ct ca && chartB L) (inB percent 100 1000) (safeL side mass ball jm ja ct ca percent L) := ⟨_, rfl⟩
  have H1 : Hid (∀ A n c w, Steps w w.heap.size A n L → n ≤ maxLen → Calls Try.prog 31 #[.agg #[.int .i64 side, .int .i64 mass, .int .i64 ball, .int .i64 jm, .int .i64 ja, .int .i64 ct, .int .i64 ca], .slice A n c, .int .i64 percent] w (RetSafe w M y)) := fun A n c w h hn => by rw [hM, hy]; exact specSafe_any A n c L side mass ball jm ja ct ca percent w h hn
  have H2 : Hid (∀ A n c w, Steps w w.heap.size A n L → n ≤ maxLen → Calls Try.prog 33 #[.agg #[.int .i64 side, .int .i64 mass, .int .i64 ball, .int .i64 jm, .int .i64 ja, .int .i64 ct, .int .i64 ca], .slice A n c, .int .i64 percent] w (RetSafe w M y)) := fun A n c w h hn => by rw [hM, hy]; exact implSafe_any A n c L side mass ball jm ja ct ca percent w h hn
  clear hM hy
  obtain ⟨m, hm⟩ : ∃ m : Nat, m = M.length := ⟨_, rfl⟩
  have HM := Lib.hid hm
  unfold RetSafe at H1 H2
  rw [← hm] at H1 H2 hlen
  clear hm
  by_cases hs : (n : Int) ≤ 1048576
  · have K0 := Blk.new w 23 #[.int .i64 side, .int .i64 mass, .int .i64 ball, .int .i64 jm, .int .i64 ja, .int .i64 ct, .int .i64 ca]
    have B0 := below_alloc1 w (.cells #[.int .i64 side, .int .i64 mass, .int .i64 ball, .int .i64 jm, .int .i64 ja, .int .i64 ct, .int .i64 ca] 23)
    have SS0 := SS0.next B0
    clear hn
    go_enter Try.func11, Try.ntmps11
    go_wp2_with fail
    refine (sz_in hs _ _ _ (by omega) (by omega) (by unfold maxLen; omega)).mono ?_
    rintro e w' ⟨rfl, rfl⟩
    obtain ⟨a0, a1, a2, a3, a4, a5, a6⟩ := K0.seven
    go_wp2_with fail
    refine (toBase_any _ _ _ _ _ _ _ _).mono ?_
    rintro e w1 ⟨rfl, hb1⟩
    have K1 := K0.on hb1
    have SS1 := SS0.next hb1
    have B1 := B0.trans (hb1.mono B0.size)
    clear hb1 B0 SS0 K0
    clear a0 a1 a2 a3 a4 a5 a6
    go_wp2_with fail
    refine (toSteps_any _ _ _ _ _ SS1 (by omega)).mono ?_
    rintro e w2 ⟨Aa, rfl, Oa2, hb2⟩
    have Na : some w.heap.size ≠ (Value.slice Aa n n).ownBlock := fun e => by have q1 := (Oa2.lt _ e.symm).1; have q2 := K1.lt; omega
    have Na := Lib.hid Na
    have Qa : ∀ k, (Value.slice Aa n n).ownBlock = some k → w.heap.size ≤ k := fun k hk => Nat.le_trans B1.size (Oa2.lt k hk).1
    have Qa := Lib.hid Qa
    have K2 := K1.on hb2
    have SS2 := SS1.next hb2
    have B2 := B1.trans (hb2.mono B1.size)
    clear hb2 B1 SS1 K1
    go_wp2_with fail
    refine (H1.out _ _ _ _ (steps_own Oa2) (by unfold maxLen; omega)).mono ?_
    rintro e w3 ⟨Av, cv, rfl, Ov3, hb3⟩
    have Nv : some w.heap.size ≠ (Value.slice Av m cv).ownBlock := fun e => by have q1 := (Ov3.lt _ e.symm).1; have q2 := K2.lt; omega
    have Nv := Lib.hid Nv
    have Qv : ∀ k, (Value.slice Av m cv).ownBlock = some k → w.heap.size ≤ k := fun k hk => Nat.le_trans B2.size (Ov3.lt k hk).1
    have Qv := Lib.hid Qv
    have K3 := K2.on hb3
    have SS3 := SS2.next hb3
    have B3 := B2.trans (hb3.mono B2.size)
    clear hb3 B2 SS2 Oa2 K2
    go_wp2_with fail
    refine (toSteps_any _ _ _ _ _ SS3 (by omega)).mono ?_
    rintro e w4 ⟨Ab, rfl, Ob4, hb4⟩
    have Nb : some w.heap.size ≠ (Value.slice Ab n n).ownBlock := fun e => by have q1 := (Ob4.lt _ e.symm).1; have q2 := K3.lt; omega
    have Nb := Lib.hid Nb
    have PS_b := Lib.hid (SS3.apart Ob4)
    have Pv_b := Lib.hid (apart_early Ov3 Ob4)
    have Qb : ∀ k, (Value.slice Ab n n).ownBlock = some k → w.heap.size ≤ k := fun k hk => Nat.le_trans B3.size (Ob4.lt k hk).1
    have Qb := Lib.hid Qb
    have K4 := K3.on hb4
    have SS4 := SS3.next hb4
    have Ov4 := own_below Ov3 hb4
    have B4 := B3.trans (hb4.mono B3.size)
    clear hb4 B3 SS3 Ov3 K3
    obtain ⟨a0, a1, a2, a3, a4, a5, a6⟩ := K4.seven
    go_wp2_with fail
    refine (toBase_any _ _ _ _ _ _ _ _).mono ?_
    rintro e w5 ⟨rfl, hb5⟩
    have K5 := K4.on hb5
    have SS5 := SS4.next hb5
    have Ov5 := own_below Ov4 hb5
    have Ob5 := own_below Ob4 hb5
    have B5 := B4.trans (hb5.mono B4.size)
    clear hb5 B4 SS4 Ov4 Ob4 K4
    clear a0 a1 a2 a3 a4 a5 a6
    go_wp2_with fail
    refine (H2.out _ _ _ _ (steps_own Ob5) (by unfold maxLen; omega)).mono ?_
    rintro e w6 ⟨Ag, cg, rfl, Og6, hb6⟩
    have Ng : some w.heap.size ≠ (Value.slice Ag m cg).ownBlock := fun e => by have q1 := (Og6.lt _ e.symm).1; have q2 := K5.lt; omega
    have Ng := Lib.hid Ng
    have PS_g := Lib.hid (SS5.apart Og6)
    have Pv_g := Lib.hid (apart_early Ov5 Og6)
    have Pg_b := Lib.hid (apart_late Ob5 Og6)
    have Qg : ∀ k, (Value.slice Ag m cg).ownBlock = some k → w.heap.size ≤ k := fun k hk => Nat.le_trans B5.size (Og6.lt k hk).1
    have Qg := Lib.hid Qg
    have K6 := K5.on hb6
    have SS6 := SS5.next hb6
    have Ov6 := own_below Ov5 hb6
    have Ob6 := own_below Ob5 hb6
    have B6 := B5.trans (hb6.mono B5.size)
    clear hb6 B5 SS5 Ov5 Ob5 K5
    go_wp2_with fail
    refine (eqChartStepS_same _ _ _ _ _ _ _ (steps_own Og6) (steps_own Ov6) (by unfold maxLen; omega)).mono ?_
    rintro e w7 ⟨rfl, hb7⟩
    have K7 := K6.on hb7
    have SS7 := SS6.next hb7
    have Ov7 := own_below Ov6 hb7
    have Ob7 := own_below Ob6 hb7
    have Og7 := own_below Og6 hb7
    have B7 := B6.trans (hb7.mono B6.size)
    clear hb7 B6 SS6 Ov6 Ob6 Og6 K6
    go_wp2_with fail
    refine (toSteps_any _ _ _ _ _ SS7 (by omega)).mono ?_
    rintro e w8 ⟨Ad, rfl, Od8, hb8⟩
    have Nd : some w.heap.size ≠ (Value.slice Ad n n).ownBlock := fun e => by have q1 := (Od8.lt _ e.symm).1; have q2 := K7.lt; omega
    have Nd := Lib.hid Nd
    have Qd : ∀ k, (Value.slice Ad n n).ownBlock = some k → w.heap.size ≤ k := fun k hk => Nat.le_trans B7.size (Od8.lt k hk).1
    have Qd := Lib.hid Qd
    have K8 := K7.on hb8
    have SS8 := SS7.next hb8
    have Ov8 := own_below Ov7 hb8
    have Ob8 := own_below Ob7 hb8
    have Og8 := own_below Og7 hb8
    have B8 := B7.trans (hb8.mono B7.size)
    clear hb8 B7 SS7 Ov7 Ob7 Og7 K7
    go_wp2_with fail
    refine (eqChartStepS_same _ _ _ _ _ _ _ (steps_own Ob8) (steps_own Od8) (by unfold maxLen; omega)).mono ?_
    rintro e w9 ⟨rfl, hb9⟩
    have K9 := K8.on hb9
    have SS9 := SS8.next hb9
    have Ov9 := own_below Ov8 hb9
    have Ob9 := own_below Ob8 hb9
    have Og9 := own_below Og8 hb9
    have B9 := B8.trans (hb9.mono B8.size)
    clear hb9 B8 SS8 Ov8 Ob8 Og8 Od8 K8
    go_wp2_with fail
    refine (markSteps_any _ _ _ _ _ 1 _ Ob9 (by omega) (by omega) (by omega)).mono ?_
    rintro e w10 ⟨rfl, Ob10, hg10⟩
    have SS10 := SS9.marked hg10 PS_b.out
    have Ov10 := Ov9.kept hg10 Pv_b.out
    have Og10 := Og9.kept hg10 Pg_b.out
    have K10 := K9.grown hg10 Nb.out
    have B10 := grown_below B9 hg10 B9.size Qb.out
    clear hg10 B9 SS9 Ov9 Ob9 Og9 K9
    go_wp2_with fail
    refine (eqChartStepS_same _ _ _ _ _ _ _ (steps_own Og10) (steps_own Ov10) (by unfold maxLen; omega)).mono ?_
    rintro e w11 ⟨rfl, hb11⟩
    have K11 := K10.on hb11
    have SS11 := SS10.next hb11
    have Ov11 := own_below Ov10 hb11
    have Og11 := own_below Og10 hb11
    have B11 := B10.trans (hb11.mono B10.size)
    clear hb11 B10 SS10 Ov10 Ob10 Og10 K10
    go_wp2_with fail
    refine (markSteps_any _ _ _ _ _ 1 _ Og11 (by omega) (by omega) (by omega)).mono ?_
    rintro e w12 ⟨rfl, Og12, hg12⟩
    have SS12 := SS11.marked hg12 PS_g.out
    have Ov12 := Ov11.kept hg12 Pv_g.out
    have K12 := K11.grown hg12 Ng.out
    have B12 := grown_below B11 hg12 B11.size Qg.out
    clear hg12 B11 SS11 Ov11 Og11 K11
    go_wp2_with fail
    refine (heldSteps_any _ _ _ 1 _ (steps_own Og12) (by omega) (by omega) (by omega)).mono ?_
    rintro e w' ⟨rfl, rfl⟩
    obtain ⟨a0, a1, a2, a3, a4, a5, a6⟩ := K12.seven
    go_wp2_with fail
    refine (toBase_any _ _ _ _ _ _ _ _).mono ?_
    rintro e w13 ⟨rfl, hb13⟩
    have K13 := K12.on hb13
    have SS13 := SS12.next hb13
    have Ov13 := own_below Ov12 hb13
    have Og13 := own_below Og12 hb13
    have B13 := B12.trans (hb13.mono B12.size)
    clear hb13 B12 SS12 Ov12 Og12 K12
    clear a0 a1 a2 a3 a4 a5 a6
    go_wp2_with fail
    refine (toSteps_any _ _ _ _ _ SS13 (by omega)).mono ?_
    rintro e w14 ⟨Af, rfl, Of14, hb14⟩
    have Nf : some w.heap.size ≠ (Value.slice Af n n).ownBlock := fun e => by have q1 := (Of14.lt _ e.symm).1; have q2 := K13.lt; omega
    have Nf := Lib.hid Nf
    have Qf : ∀ k, (Value.slice Af n n).ownBlock = some k → w.heap.size ≤ k := fun k hk => Nat.le_trans B13.size (Of14.lt k hk).1
    have Qf := Lib.hid Qf
    have K14 := K13.on hb14
    have SS14 := SS13.next hb14
    have Ov14 := own_below Ov13 hb14
    have Og14 := own_below Og13 hb14
    have B14 := B13.trans (hb14.mono B13.size)
    clear hb14 B13 SS13 Ov13 Og13 K13
    go_wp2_with fail
    refine (H2.out _ _ _ _ (steps_own Of14) (by unfold maxLen; omega)).mono ?_
    rintro e w15 ⟨Ah, ch, rfl, Oh15, hb15⟩
    have Nh : some w.heap.size ≠ (Value.slice Ah m ch).ownBlock := fun e => by have q1 := (Oh15.lt _ e.symm).1; have q2 := K14.lt; omega
    have Nh := Lib.hid Nh
    have Qh : ∀ k, (Value.slice Ah m ch).ownBlock = some k → w.heap.size ≤ k := fun k hk => Nat.le_trans B14.size (Oh15.lt k hk).1
    have Qh := Lib.hid Qh
    have K15 := K14.on hb15
    have SS15 := SS14.next hb15
    have Ov15 := own_below Ov14 hb15
    have Og15 := own_below Og14 hb15
    have B15 := B14.trans (hb15.mono B14.size)
    clear hb15 B14 SS14 Ov14 Og14 Of14 K14
    go_wp2_with fail
    refine (eqChartStepS_same _ _ _ _ _ _ _ (steps_own Oh15) (steps_own Ov15) (by unfold maxLen; omega)).mono ?_
    rintro e w16 ⟨rfl, hb16⟩
    have K16 := K15.on hb16
    have SS16 := SS15.next hb16
    have Ov16 := own_below Ov15 hb16
    have Og16 := own_below Og15 hb16
    have B16 := B15.trans (hb16.mono B15.size)
    clear hb16 B15 SS15 Ov15 Og15 Oh15 K15
    go_wp2_with fail
    refine (heldSteps_any _ _ _ 1 _ (steps_own Og16) (by omega) (by omega) (by omega)).mono ?_
    rintro e w' ⟨rfl, rfl⟩
    go_wp2
    go_ret
    exact ⟨rfl, B16⟩
  · go_enter Try.func11, Try.ntmps11
    go_wp2_with fail
    refine (sz_out (by omega) _ _ _ (by omega) (by omega) hn).mono ?_
    rintro e w' ⟨rfl, rfl⟩
    go_wp2
    go_ret
    exact ⟨rfl, below_alloc1 _ _⟩
end Go.Proofs.Ytfnoapejkpeacaa
