/- The safe chart: the program's walk; both sides at all arguments. -/
import Derived.Test.YtfnoapejkpeacaaProg
import Derived.Test.YtfnoapejkpeacaaKit
import Derived.Test.YtfnoapejkpeacaaBasics
import Derived.Test.YtfnoapejkpeacaaBases
import Derived.Test.YtfnoapejkpeacaaMem
import Derived.Test.YtfnoapejkpeacaaCodeRes
import Derived.Test.YtfnoapejkpeacaaMoments
import Derived.Test.YtfnoapejkpeacaaBaseLaws
import Derived.Test.YtfnoapejkpeacaaGreat
import Derived.Test.YtfnoapejkpeacaaLists
import Derived.Test.YtfnoapejkpeacaaSteps
import Derived.Test.YtfnoapejkpeacaaCharts
import Derived.Test.YtfnoapejkpeacaaChartLaws
import Derived.Test.YtfnoapejkpeacaaFinds
import Derived.Test.YtfnoapejkpeacaaSafe
import Derived.Test.YtfnoapejkpeacaaSafe2
import Derived.Deep.AppendLies
namespace Go.Proofs.Ytfnoapejkpeacaa
open Go.RowKit Go.WideShapes Go.ChangeShapes Go.Joins Go.Deep Go.Sort
set_option linter.unusedVariables false
set_option linter.unusedSimpArgs false
theorem min3_eq {Y G P l : Int} (h : minZ (minZ G Y) P = l) : (if P < (if G < Y then G else Y) then P else (if G < Y then G else Y)) = l := by
  rw [← h]
  unfold minZ
  repeat' split
  all_goals omega
set_option maxRecDepth 100000 in
set_option maxHeartbeats 4000000 in
theorem implSafe_loop (A : Option Addr) (n c : Nat) (L : List (Int × Int)) (side mass ball jm ja ct ca percent : Int) (w : World) (h : Steps w w.heap.size A n L) (hn : n ≤ maxLen) (hb : baseB side mass ball jm ja ct ca = true) (hc : chartB L = true) (hp : inB percent 100 1000 = true) :
    Calls Try.prog 33 #[.agg #[.int .i64 side, .int .i64 mass, .int .i64 ball, .int .i64 jm, .int .i64 ja, .int .i64 ct, .int .i64 ca], .slice A n c, .int .i64 percent] w (RetSafe w (safeL side mass ball jm ja ct ca percent L) (codeS (safeL side mass ball jm ja ct ca percent L))) := by
  obtain ⟨i0, hi0, hz0, hz1, hz2⟩ := info_parts infoStep
  have S1 := h.next (below_alloc1 w (.cells #[.int .i64 side, .int .i64 mass, .int .i64 ball, .int .i64 jm, .int .i64 ja, .int .i64 ct, .int .i64 ca] 26))
  have V2 := implValidChart_any A n c L _ S1 hn
  rw [hc] at V2
  have HV2 := Lib.hid V2
  have hl := chart_len hc
  rw [h.1] at hl
  have HS := Lib.hid S1
  have HC := Lib.hid hc
  have HLn := Lib.hid h.1
  have CB : Hid (∀ wr, Calls Try.prog 39 #[.agg #[.int .i64 side, .int .i64 mass, .int .i64 ball, .int .i64 jm, .int .i64 ja, .int .i64 ct, .int .i64 ca], .int .i64 0, .int .i64 0, .int .i64 percent] wr fun e w' => e = .returned (.int .i64 0) ∧ Below wr.heap.size wr w') := fun wr => by
    have := baseCode_any side mass ball jm ja ct ca 0 0 percent wr
    rwa [hb, hp, in_l0, in_r0, show (true && true && true) = true from rfl, codeV_tt] at this
  have CG : Hid (∀ (x : Int) wr, inB x 0 1000 = true → Calls Try.prog 52 #[.agg #[.int .i64 side, .int .i64 mass, .int .i64 ball, .int .i64 jm, .int .i64 ja, .int .i64 ct, .int .i64 ca], .int .i64 x, .int .i64 percent] wr fun e w' => e = .returned (greatRes (greatZ side mass ball jm ja ct ca x percent)) ∧ Below wr.heap.size wr w') := fun x wr rx => greatestLoad_any side mass ball jm ja ct ca x percent wr hb rx hp
  have CS : Hid (∀ (l x : Int) wr, inB l 0 50000 = true → inB x 0 1000 = true → Calls Try.prog 45 #[.agg #[.int .i64 side, .int .i64 mass, .int .i64 ball, .int .i64 jm, .int .i64 ja, .int .i64 ct, .int .i64 ca], .int .i64 l, .int .i64 x, .int .i64 percent] wr fun e w' => e = .returned (.bool (stableB side mass ball jm ja ct ca l x percent)) ∧ Below wr.heap.size wr w') := fun l x wr rl rx => stable_any side mass ball jm ja ct ca l x percent wr hb rl rx hp
  clear V2 S1 h hc hb hp hn
  go_enter Try.func33, Try.ntmps33
  go_wp2_with fail
  refine HV2.out.mono ?_
  rintro e w0 ⟨rfl, hb0⟩
  have KA0 := (Blk.new w 26 #[.int .i64 side, .int .i64 mass, .int .i64 ball, .int .i64 jm, .int .i64 ja, .int .i64 ct, .int .i64 ca]).on hb0
  have H0 := Lib.hid (HS.out.next hb0)
  have B0 := (below_alloc1 w (.cells #[.int .i64 side, .int .i64 mass, .int .i64 ball, .int .i64 jm, .int .i64 ja, .int .i64 ct, .int .i64 ca] 26)).trans (hb0.mono (below_alloc1 w _).size)
  have z0 := B0.size
  obtain ⟨a0, a1, a2, a3, a4, a5, a6⟩ := KA0.seven
  have HK0 := Lib.hid KA0
  clear hb0 HS HV2 KA0
  go_wp2_with fail
  refine (CB.out _).mono ?_
  rintro e w1 ⟨rfl, hb1⟩
  have KA1 := Lib.hid (HK0.out.on hb1)
  have H1 := Lib.hid (H0.out.next hb1)
  have B1 := B0.trans (hb1.mono z0)
  have z1 := B1.size
  have gl := KA1.out.lt
  clear hb1 H0 B0 z0 HK0 CB a0 a1 a2 a3 a4 a5 a6
  go_wp2
  go_loopw [9, 10, 12, 13, 14, 15, 27] (fun v x _ _ _ _ i wr => ∃ (M : List (Int × Int)) (prev : Int) (k : Nat), k ≤ n ∧ i = .int .i64 k ∧ x = .int .i64 prev ∧ Below w1.heap.size w1 wr ∧ Hid (M.length = k) ∧ Hid (wr.ownsRow w1.heap.size 65 2 v k (pairs M)) ∧ Hid (SafeAt (fun l r => stableB side mass ball jm ja ct ca l r percent) (fun r => greatZ side mass ball jm ja ct ca r percent) L M prev)) (fun _ _ _ _ _ _ i _ => n - (intOf i).toNat)
  case atStart => exact ⟨[], 50000, 0, Nat.zero_le _, rfl, rfl, Below.refl _ _, rfl, (by show World.ownsRow _ _ _ _ _ _ _; simpa [pairs] using World.ownsRow_nil _ _ _ _), SafeAt.start _ _ _⟩
  case round =>
    obtain ⟨M, prev, k, hk, rfl, rfl, HB, HM, HO, HA⟩ := hrel
    obtain ⟨A', c', rfl⟩ := own_form HO.out
    have BW := B1.trans (HB.mono z1)
    have zr := HB.size
    by_cases hlt : k < n
    · obtain ⟨b, o, x, y, rfl, _, hx, hc1, hc2⟩ := (H1.out.below HB).at_ hlt
      have bk := chart_at HC.out hx
      have HX := Lib.hid (by rw [← HM.out] at hx; exact hx : L[M.length]? = some (x, y))
      clear hx
      have i1 : (0 : Int) ≤ (k : Int) := Int.natCast_nonneg _
      have i2 : (k : Int) < (n : Int) := by omega
      have lb : b < wr.heap.size := World.block_lt_of_cell? _ _ hc1
      have rx : inB x 0 1000 = true := inB_true (by omega) (by omega)
      have KW := KA1.out.below HB gl
      obtain ⟨a0, a1, a2, a3, a4, a5, a6⟩ := (KW.alloc (.cells #[.int .i64 x, .int .i64 y] 65)).seven
      have KX := Blk.new wr 65 #[.int .i64 x, .int .i64 y]
      obtain ⟨G, hG⟩ : ∃ G, greatZ side mass ball jm ja ct ca x percent = G := ⟨_, rfl⟩
      have GR := great_range side mass ball jm ja ct ca x percent
      rw [hG] at GR
      have C1 := CG.out x (wr.alloc (.cells #[.int .i64 x, .int .i64 y] 65)) rx
      rw [hG] at C1
      have HKW := Lib.hid (KW.alloc (.cells #[.int .i64 x, .int .i64 y] 65))
      have HKX := Lib.hid KX
      have HOA := Lib.hid (HO.out.alloc (.cells #[.int .i64 x, .int .i64 y] 65))
      have HBA := HB.alloc zr (.cells #[.int .i64 x, .int .i64 y] 65)
      clear KW KX HO
      by_cases hg : G < 0
      · have E : Hid (safeL side mass ball jm ja ct ca percent L = M) := HA.out.none HX.out (by show greatZ _ _ _ _ _ _ _ _ _ < 0; rw [hG]; exact hg)
        rw [greatRes_neg hg] at C1
        have HC1 := Lib.hid C1
        have p0 := HA.out.lo
        clear hG GR C1 hg
        go_wp2_with fail
        refine HC1.out.mono ?_
        rintro e w2 ⟨rfl, hb2⟩
        obtain ⟨x0, x1⟩ := (HKX.out.on hb2).two
        have HB2 := HBA.trans (hb2.mono HBA.size)
        have BW2 := B1.trans (HB2.mono z1)
        have HO2 := Lib.hid (own_below HOA.out hb2)
        clear hb2 HB HBA BW a0 a1 a2 a3 a4 a5 a6 hc1 hc2 HKX HKW HC1 HOA
        by_cases hk0 : k = 0
        · have R := Lib.hid (RetSafe.end0 (w := w) E.out HM.out hk0 BW2)
          obtain rfl := hk0
          go_wp2
          all_goals
            go_ret2
            exact R.out
        · have R := Lib.hid (RetSafe.endk (w := w) (w1 := w1) E.out HM.out hk0 HO2.out z1 BW2)
          have k1 : (0 : Int) < (k : Int) := by omega
          clear hk0
          go_wp2
          all_goals
            go_ret2
            exact R.out
      · have HG := Lib.hid hG
        have p0 := HA.out.lo
        have p1 := HA.out.hi
        obtain ⟨l0, l1⟩ := min_range (a := G) (b := y) (p := prev) (by omega) (by omega) p0 p1
        obtain ⟨l, hl⟩ : ∃ l, minZ (minZ G y) prev = l := ⟨_, rfl⟩
        rw [hl] at l0 l1
        have rl : inB l 0 50000 = true := inB_true l0 l1
        have FL : ∀ b, stableB side mass ball jm ja ct ca l x percent = b → (fun l r => stableB side mass ball jm ja ct ca l r percent) (minZ (minZ ((fun r => greatZ side mass ball jm ja ct ca r percent) x) y) prev) x = b := fun b h => by show stableB _ _ _ _ _ _ _ (minZ (minZ (greatZ _ _ _ _ _ _ _ _ _) y) prev) _ _ = b; rw [HG.out, hl]; exact h
        have HL0 := Lib.hid hl
        have NG : Hid (¬ (fun r => greatZ side mass ball jm ja ct ca r percent) x < 0) := fun h => hg (by rw [← HG.out]; exact h)
        rw [greatRes_pos hg] at C1
        have HC1 := Lib.hid C1
        have hmin : ∀ (ts : Array TypeId) (t : TypeId) (W : World), (Builtin.min_ ts t #[.int .i64 y, .int .i64 G, .int .i64 prev]).run Try.prog W = .ok (.int .i64 l) W := fun ts t W => by rw [run_min_int3, min3_eq hl]
        have CST := fun wr => CS.out l x wr rl rx
        clear hG GR C1 hl hg
        cases hf : stableB side mass ball jm ja ct ca l x percent
        · have E : Hid (safeL side mass ball jm ja ct ca percent L = M) := HA.out.unstable HX.out NG.out (FL false hf)
          rw [hf] at CST
          have HCS := Lib.hid CST
          clear hf FL CST
          go_wp2_with fail
          refine HC1.out.mono ?_
          rintro e w2 ⟨rfl, hb2⟩
          have KX2 := HKX.out.on hb2
          have KW2 := HKW.out.on hb2
          have HB2 := HBA.trans (hb2.mono HBA.size)
          have HO2 := Lib.hid (own_below HOA.out hb2)
          obtain ⟨x0, x1⟩ := KX2.two
          obtain ⟨c0, c1, c2, c3, c4, c5, c6⟩ := KW2.seven
          have HKX2 := Lib.hid KX2
          have z2 := HB2.size
          clear hb2 HB HBA BW a0 a1 a2 a3 a4 a5 a6 hc1 hc2 HKX HKW HC1 HOA KX2 KW2
          go_wp2_with fail
          refine (HCS.out _).mono ?_
          rintro e w3 ⟨rfl, hb3⟩
          have HB3 := HB2.trans (hb3.mono z2)
          have HO3 := Lib.hid (own_below HO2.out hb3)
          have KX3 := HKX2.out.on hb3
          have BW3 := B1.trans (HB3.mono z1)
          have z3 := HB3.size
          obtain ⟨y0, y1⟩ := KX3.two
          clear hb3 HB2 HO2 HKX2 KX3 x0 x1 c0 c1 c2 c3 c4 c5 c6 z2 HCS hmin
          by_cases hk0 : k = 0
          · have R := Lib.hid (RetSafe.end0 (w := w) E.out HM.out hk0 BW3)
            obtain rfl := hk0
            go_wp2
            go_ret2
            exact R.out
          · have R := Lib.hid (RetSafe.endk (w := w) (w1 := w1) E.out HM.out hk0 HO3.out z1 BW3)
            have k1 : (0 : Int) < (k : Int) := by omega
            clear hk0
            go_wp2
            go_ret2
            exact R.out
        · have N : Hid (SafeAt (fun l r => stableB side mass ball jm ja ct ca l r percent) (fun r => greatZ side mass ball jm ja ct ca r percent) L (M ++ [(x, l)]) l) := by have := HA.out.next HX.out NG.out (by omega) (FL true hf); show SafeAt _ _ _ _ _; simp only [HG.out, HL0.out] at this; exact this
          rw [hf] at CST
          have HCS := Lib.hid CST
          clear hf FL CST
          go_wp2_with fail
          refine HC1.out.mono ?_
          rintro e w2 ⟨rfl, hb2⟩
          have KX2 := HKX.out.on hb2
          have KW2 := HKW.out.on hb2
          have HB2 := HBA.trans (hb2.mono HBA.size)
          have HO2 := Lib.hid (own_below HOA.out hb2)
          obtain ⟨x0, x1⟩ := KX2.two
          obtain ⟨c0, c1, c2, c3, c4, c5, c6⟩ := KW2.seven
          have HKX2 := Lib.hid KX2
          have z2 := HB2.size
          clear hb2 HB HBA BW a0 a1 a2 a3 a4 a5 a6 hc1 hc2 HKX HKW HC1 HOA KX2 KW2
          go_wp2_with fail
          refine (HCS.out _).mono ?_
          rintro e w3 ⟨rfl, hb3⟩
          have HB3 := HB2.trans (hb3.mono z2)
          have HO3 := Lib.hid (own_below HO2.out hb3)
          have KX3 := HKX2.out.on hb3
          have BW3 := B1.trans (HB3.mono z1)
          have z3 := HB3.size
          obtain ⟨y0, y1⟩ := KX3.two
          clear hb3 HB2 HO2 HKX2 KX3 x0 x1 c0 c1 c2 c3 c4 c5 c6 z2 HCS hmin
          have nb1 : (k + 1) * 16 ≤ 140737488355328 := by omega
          have nm : k + 1 ≤ maxLen := by unfold maxLen; omega
          go_wp2_with (at_builtin; refine wpList_append_own _ rfl _ _ 42 rfl w1.heap.size 65 i0 _ 2 16 Try.underlying42 hi0 hz0 hz1 hz2 rfl (by omega) _ _ _ rfl (HO3.out.alloc _) ⟨w3.heap.size, 0, none⟩ 1 1 [.int .i64 x, .int .i64 l] rfl rfl (cell_two_s _ _ _ _) (by simp [Value.oneCell']) nm nb1 (by simp; omega) ?_; intro v' w4 hown' hgrow _)
          have HB4 : Below w1.heap.size w1 w4 := (HB3.alloc z3 _).grown hgrow (by simp; omega) (fun j hj => (HO3.out.lt j hj).1)
          have HO4 : Hid (w4.ownsRow w1.heap.size 65 2 v' (k + 1) (pairs (M ++ [(x, l)]))) := by show World.ownsRow _ _ _ _ _ _ _; rw [pairs_append]; exact hown'
          have HM4 : Hid ((M ++ [(x, l)]).length = k + 1) := by show _ = _; simp [HM.out]
          clear hown' hgrow y0 y1
          go_wp2
          exact ⟨⟨M ++ [(x, l)], l, k + 1, by omega, by go_num, rfl, HB4, HM4, HO4, N⟩, by simp [intOf]; omega⟩
    · have E : Hid (safeL side mass ball jm ja ct ca percent L = M) := HA.out.done (by rw [HM.out, HLn.out]; omega)
      have hk0 : ¬ k = 0 := by omega
      have R := Lib.hid (RetSafe.endk (w := w) (w1 := w1) E.out HM.out hk0 HO.out z1 BW)
      have k1 : (0 : Int) < (k : Int) := by omega
      go_wp2
      go_ret2
      exact R.out
end Go.Proofs.Ytfnoapejkpeacaa
