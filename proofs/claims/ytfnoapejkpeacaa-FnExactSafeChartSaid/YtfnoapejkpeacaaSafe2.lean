/- The safe chart: the walks of both sides. -/
import Derived.Test.YtfnoapejkpeacaaProg
import Derived.Test.YtfnoapejkpeacaaKit
import Derived.Test.YtfnoapejkpeacaaBasics
import Derived.Test.YtfnoapejkpeacaaBases
import Derived.Test.YtfnoapejkpeacaaCodeRes
import Derived.Test.YtfnoapejkpeacaaMoments
import Derived.Test.YtfnoapejkpeacaaBaseLaws
import Derived.Test.YtfnoapejkpeacaaGreat
import Derived.Test.YtfnoapejkpeacaaMem
import Derived.Test.YtfnoapejkpeacaaLists
import Derived.Test.YtfnoapejkpeacaaOpen
import Derived.Test.YtfnoapejkpeacaaSteps
import Derived.Test.YtfnoapejkpeacaaCharts
import Derived.Test.YtfnoapejkpeacaaChartLaws
import Derived.Test.YtfnoapejkpeacaaFinds
import Derived.Test.YtfnoapejkpeacaaMarks
import Derived.Test.YtfnoapejkpeacaaDisj
import Derived.Test.YtfnoapejkpeacaaSafe
import Derived.Deep.RegionHeld3
import Derived.Deep.AppendLies
namespace Go.Proofs.Ytfnoapejkpeacaa
open Go.RowKit Go.WideShapes Go.ChangeShapes Go.Joins Go.Deep Go.Sort
set_option linter.unusedVariables false
set_option linter.unusedSimpArgs false
def codeS (M : List (Int × Int)) : Int := if M.length = 0 then 3 else 0
/-- what comes back, as a list and a code -/
def RetSafe (w : World) (M : List (Int × Int)) (code : Int) (e : Ending) (w' : World) : Prop := ∃ A c, e = .returned (.tuple #[.slice A M.length c, .int .i64 code]) ∧ w'.ownsRow w.heap.size 65 2 (.slice A M.length c) M.length (pairs M) ∧ Below w.heap.size w w'
theorem RetSafe.none_ {w w' : World} (code : Int) (hb : Below w.heap.size w w') : RetSafe w [] code (.returned (.tuple #[.slice none 0 0, .int .i64 code])) w' := ⟨none, 0, rfl, World.ownsRow_nil _ _ _ _, hb⟩
theorem own_mono_s {w : World} {base base' : Nat} {e : TypeId} {size : Nat} {v : Value} {n : Nat} {xs : List Value} (h : w.ownsRow base e size v n xs) (hb : base' ≤ base) : w.ownsRow base' e size v n xs := by
  refine ⟨h.1, ?_⟩
  rcases h.2 with h2 | ⟨g, cap, cur, hv, hg, r⟩
  · exact .inl h2
  · exact .inr ⟨g, cap, cur, hv, by omega, r⟩
theorem RetSafe.end0 {w w' : World} {S M : List (Int × Int)} {k : Nat} (hS : S = M) (hM : M.length = k) (hk : k = 0) (hb : Below w.heap.size w w') : RetSafe w S (codeS S) (.returned (.tuple #[.slice none 0 0, .int .i64 3])) w' := by
  subst hS hM
  obtain rfl : S = [] := List.length_eq_zero_iff.1 hk
  exact RetSafe.none_ 3 hb
theorem RetSafe.endk {w w' w1 : World} {S M : List (Int × Int)} {k c : Nat} {A : Option Addr} (hS : S = M) (hM : M.length = k) (hk : ¬ k = 0) (ho : w'.ownsRow w1.heap.size 65 2 (.slice A k c) k (pairs M)) (hw : w.heap.size ≤ w1.heap.size) (hb : Below w.heap.size w w') : RetSafe w S (codeS S) (.returned (.tuple #[.slice A k c, .int .i64 0])) w' := by
  subst hS hM
  unfold codeS
  rw [if_neg hk]
  exact ⟨A, c, rfl, own_mono_s ho hw, hb⟩
theorem cell_two_s (w : World) (x y : Value) (t : TypeId) : ∀ j u, [x, y][j]? = some u → (w.alloc (.cells #[x, y] t)).cell? ((⟨w.heap.size, 0, none⟩ : Addr).add j) = some u := by
  intro j u hj
  match j, hj with
  | 0, hj => simp at hj; subst hj; simp [Addr.add]
  | 1, hj => simp at hj; subst hj; simp [Addr.add]
  | (j + 2), hj => simp at hj
theorem min_range {a b p : Int} (a0 : 0 ≤ a) (b0 : 0 ≤ b) (p0 : 0 ≤ p) (p1 : p ≤ 50000) : 0 ≤ minZ (minZ a b) p ∧ minZ (minZ a b) p ≤ 50000 := by
  unfold minZ; split <;> split <;> omega
theorem min_first {a b : Int} (b1 : b ≤ 50000) : minZ (minZ a b) 50000 = minZ a b := by
  unfold minZ; split <;> split <;> omega
theorem l00Min_any (a b : Int) (w : World) : Calls Try.prog 57 #[.int .i64 a, .int .i64 b] w fun e w' => e = .returned (.int .i64 (minZ a b)) ∧ w = w' := by
  by_cases h : a < b
  · rw [show minZ a b = a from if_neg (by omega)]
    go_enter Try.func57, Try.ntmps57
    go_wp2
    go_ret
    exact ⟨rfl, rfl⟩
  · rw [show minZ a b = b by unfold minZ; split <;> omega]
    go_enter Try.func57, Try.ntmps57
    go_wp2
    go_ret
    exact ⟨rfl, rfl⟩
set_option maxRecDepth 100000 in
set_option maxHeartbeats 4000000 in
theorem specSafe_loop (A : Option Addr) (n c : Nat) (L : List (Int × Int)) (side mass ball jm ja ct ca percent : Int) (w : World) (h : Steps w w.heap.size A n L) (hn : n ≤ maxLen) (hb : baseB side mass ball jm ja ct ca = true) (hc : chartB L = true) (hp : inB percent 100 1000 = true) :
    Calls Try.prog 31 #[.agg #[.int .i64 side, .int .i64 mass, .int .i64 ball, .int .i64 jm, .int .i64 ja, .int .i64 ct, .int .i64 ca], .slice A n c, .int .i64 percent] w (RetSafe w (safeL side mass ball jm ja ct ca percent L) (codeS (safeL side mass ball jm ja ct ca percent L))) := by
  obtain ⟨i0, hi0, hz0, hz1, hz2⟩ := info_parts infoStep
  have V := l06Ok_any side mass ball jm ja ct ca w.heap.size (w.alloc (.cells #[.int .i64 side, .int .i64 mass, .int .i64 ball, .int .i64 jm, .int .i64 ja, .int .i64 ct, .int .i64 ca] 26)) (Blk.new w 26 #[.int .i64 side, .int .i64 mass, .int .i64 ball, .int .i64 jm, .int .i64 ja, .int .i64 ct, .int .i64 ca]).seven.1 (Blk.new w 26 #[.int .i64 side, .int .i64 mass, .int .i64 ball, .int .i64 jm, .int .i64 ja, .int .i64 ct, .int .i64 ca]).seven.2.1 (Blk.new w 26 #[.int .i64 side, .int .i64 mass, .int .i64 ball, .int .i64 jm, .int .i64 ja, .int .i64 ct, .int .i64 ca]).seven.2.2.1 (Blk.new w 26 #[.int .i64 side, .int .i64 mass, .int .i64 ball, .int .i64 jm, .int .i64 ja, .int .i64 ct, .int .i64 ca]).seven.2.2.2.1 (Blk.new w 26 #[.int .i64 side, .int .i64 mass, .int .i64 ball, .int .i64 jm, .int .i64 ja, .int .i64 ct, .int .i64 ca]).seven.2.2.2.2.1 (Blk.new w 26 #[.int .i64 side, .int .i64 mass, .int .i64 ball, .int .i64 jm, .int .i64 ja, .int .i64 ct, .int .i64 ca]).seven.2.2.2.2.2.1 (Blk.new w 26 #[.int .i64 side, .int .i64 mass, .int .i64 ball, .int .i64 jm, .int .i64 ja, .int .i64 ct, .int .i64 ca]).seven.2.2.2.2.2.2
  rw [hb] at V
  have HV := Lib.hid V
  have S1 := h.next (below_alloc1 w (.cells #[.int .i64 side, .int .i64 mass, .int .i64 ball, .int .i64 jm, .int .i64 ja, .int .i64 ct, .int .i64 ca] 26))
  have V2 := l03Ok_any A n c L _ S1 hn
  rw [hc] at V2
  have HV2 := Lib.hid V2
  have hl := chart_len hc
  rw [h.1] at hl
  have HS := Lib.hid S1
  have HC := Lib.hid hc
  have HLn := Lib.hid h.1
  have HPC : Hid (∀ w, Calls Try.prog 56 #[.int .i64 percent] w fun e w' => e = .returned (.bool true) ∧ w = w') := fun w => by rw [← hp]; exact l06Percent_any percent w
  have CL : Hid (∀ (x : Int) wr, inB x 0 1000 = true → Blk wr w.heap.size 26 #[.int .i64 side, .int .i64 mass, .int .i64 ball, .int .i64 jm, .int .i64 ja, .int .i64 ct, .int .i64 ca] → Calls Try.prog 51 #[.pointer (some ⟨w.heap.size, 0, none⟩), .int .i64 x, .int .i64 percent] wr fun e w' => e = .returned (.int .i64 (greatZ side mass ball jm ja ct ca x percent)) ∧ Below wr.heap.size wr w') := fun x wr hx hk => l06Load_any side mass ball jm ja ct ca x percent w.heap.size wr hb hx hp hk.seven.1 hk.seven.2.1 hk.seven.2.2.1 hk.seven.2.2.2.1 hk.seven.2.2.2.2.1 hk.seven.2.2.2.2.2.1 hk.seven.2.2.2.2.2.2
  have CS : Hid (∀ (l x : Int) wr, inB l 0 50000 = true → inB x 0 1000 = true → Blk wr w.heap.size 26 #[.int .i64 side, .int .i64 mass, .int .i64 ball, .int .i64 jm, .int .i64 ja, .int .i64 ct, .int .i64 ca] → Calls Try.prog 44 #[.pointer (some ⟨w.heap.size, 0, none⟩), .int .i64 l, .int .i64 x, .int .i64 percent] wr fun e w' => e = .returned (.bool (stableB side mass ball jm ja ct ca l x percent)) ∧ Below wr.heap.size wr w') := fun l x wr hl hx hk => l06Stable_any side mass ball jm ja ct ca l x percent w.heap.size wr hb hl hx hp hk.seven.1 hk.seven.2.1 hk.seven.2.2.1 hk.seven.2.2.2.1 hk.seven.2.2.2.2.1 hk.seven.2.2.2.2.2.1 hk.seven.2.2.2.2.2.2
  clear V V2 S1 h hc hb hp hn
  go_enter Try.func31, Try.ntmps31
  go_wp2_with fail
  refine HV.out.mono ?_
  rintro e w' ⟨rfl, rfl⟩
  go_wp2_with fail
  refine HV2.out.mono ?_
  rintro e w1 ⟨rfl, hb1⟩
  have KA1 := Lib.hid ((Blk.new w 26 #[.int .i64 side, .int .i64 mass, .int .i64 ball, .int .i64 jm, .int .i64 ja, .int .i64 ct, .int .i64 ca]).on hb1)
  have H1 := Lib.hid (HS.out.next hb1)
  have B1 := (below_alloc1 w (.cells #[.int .i64 side, .int .i64 mass, .int .i64 ball, .int .i64 jm, .int .i64 ja, .int .i64 ct, .int .i64 ca] 26)).trans (hb1.mono (below_alloc1 w _).size)
  have z1 := B1.size
  have gl := KA1.out.lt
  clear hb1 HS HV HV2
  go_wp2_with (go_at_call 56; refine (HPC.out _).mono ?_; rintro e w' ⟨rfl, rfl⟩)
  go_loopw [8, 9] (fun v i wr => ∃ (M : List (Int × Int)) (prev : Int) (k : Nat), k ≤ n ∧ i = .int .i64 k ∧ Below w1.heap.size w1 wr ∧ Hid (M.length = k) ∧ Hid (wr.ownsRow w1.heap.size 65 2 v k (pairs M)) ∧ Hid (SafeAt (fun l r => stableB side mass ball jm ja ct ca l r percent) (fun r => greatZ side mass ball jm ja ct ca r percent) L M prev)) (fun _ i _ => n - (intOf i).toNat)
  case atStart => exact ⟨[], 50000, 0, Nat.zero_le _, rfl, below_alloc1 _ _, rfl, (by show World.ownsRow _ _ _ _ _ _ _; simpa [pairs] using World.ownsRow_lit (base := w1.heap.size) (e := 65) (size := 2) w1 #[] 0 (Nat.le_refl _) (by unfold maxLen; omega) rfl), SafeAt.start _ _ _⟩
  case round =>
    obtain ⟨M, prev, k, hk, rfl, HB, HM, HO, HA⟩ := hrel
    obtain ⟨A', c', rfl⟩ := own_form HO.out
    have BW := B1.trans (HB.mono z1)
    by_cases hlt : k < n
    · obtain ⟨b, o, x, y, rfl, _, hx, hc1, hc2⟩ := (H1.out.below HB).at_ hlt
      have bk := chart_at HC.out hx
      have HX := Lib.hid (by rw [← HM.out] at hx; exact hx : L[M.length]? = some (x, y))
      clear hx
      have i1 : (0 : Int) ≤ (k : Int) := Int.natCast_nonneg _
      have i2 : (k : Int) < (n : Int) := by omega
      have lb : b < wr.heap.size := by have := HB.size; omega
      have rx : inB x 0 1000 = true := inB_true (by omega) (by omega)
      have KW := KA1.out.below HB gl
      obtain ⟨G, hG⟩ : ∃ G, greatZ side mass ball jm ja ct ca x percent = G := ⟨_, rfl⟩
      have GR := great_range side mass ball jm ja ct ca x percent
      rw [hG] at GR
      have C1 : Hid (∀ wr, Blk wr w.heap.size 26 #[.int .i64 side, .int .i64 mass, .int .i64 ball, .int .i64 jm, .int .i64 ja, .int .i64 ct, .int .i64 ca] → Calls Try.prog 51 #[.pointer (some ⟨w.heap.size, 0, none⟩), .int .i64 x, .int .i64 percent] wr fun e w' => e = .returned (.int .i64 G) ∧ Below wr.heap.size wr w') := fun wr hk => by rw [← hG]; exact CL.out x wr rx hk
      go_wp2_with fail
      refine (C1.out _ KW).mono ?_
      rintro e w2 ⟨rfl, hb2⟩
      have d1 := (hb2.cell (p := ⟨b, o + k * 2, none⟩) lb).trans hc1
      have d2 := (hb2.cell (p := ⟨b, o + k * 2 + 1, none⟩) lb).trans hc2
      have HB2 := HB.trans (hb2.mono HB.size)
      have HO2 := Lib.hid (own_below HO.out hb2)
      have BW2 := B1.trans (HB2.mono z1)
      have KW2 := Lib.hid (KA1.out.below HB2 gl)
      clear hb2 hc1 hc2 KW HB HO BW C1
      by_cases hg : G < 0
      · have E : Hid (safeL side mass ball jm ja ct ca percent L = M) := HA.out.none HX.out (by show greatZ _ _ _ _ _ _ _ _ _ < 0; rw [hG]; exact hg)
        clear hG GR
        by_cases hk0 : k = 0
        · have R := Lib.hid (RetSafe.end0 (w := w) E.out HM.out hk0 BW2)
          go_wp2
          go_ret2
          exact R.out
        · have R := Lib.hid (RetSafe.endk (w := w) (w1 := w1) E.out HM.out hk0 HO2.out z1 BW2)
          have k1 : (0 : Int) < (k : Int) := by omega
          go_wp2
          go_ret2
          exact R.out
      · have HG := Lib.hid hG
        have p0 := HA.out.lo
        have p1 := HA.out.hi
        obtain ⟨l0, l1⟩ := min_range (a := G) (b := y) (p := prev) (by omega) (by omega) p0 p1
        obtain ⟨l, hl⟩ : ∃ l, minZ (minZ G y) prev = l := ⟨_, rfl⟩
        rw [hl] at l0 l1
        have rl : inB l 0 50000 = true := inB_true l0 l1
        have FL : ∀ b, stableB side mass ball jm ja ct ca l x percent = b → (fun l r => stableB side mass ball jm ja ct ca l r percent) (minZ (minZ ((fun r => greatZ side mass ball jm ja ct ca r percent) x) y) prev) x = b := fun b h => by show stableB _ _ _ _ _ _ _ (minZ (minZ (greatZ _ _ _ _ _ _ _ _ _) y) prev) _ _ = b; rw [HG.out, hl]; exact h
        have HL0 := Lib.hid hl
        have NG : Hid (¬ (fun r => greatZ side mass ball jm ja ct ca r percent) x < 0) := fun h => hg (by rw [← HG.out]; exact h)
        clear hG GR p0 p1
        by_cases hk0 : k = 0
        · obtain rfl : k = 0 := hk0
          have hp0 : prev = 50000 := by rcases HA.out.last with ⟨_, h⟩ | ⟨r, _, h⟩; exact h; have := HM.out; omega
          subst hp0
          have d3 : w2.cell? ⟨b, o, none⟩ = some (.int .i64 x) := by simpa using d1
          have d4 : w2.cell? ⟨b, o + 1, none⟩ = some (.int .i64 y) := by simpa using d2
          cases hf : stableB side mass ball jm ja ct ca l x percent
          · have E : Hid (safeL side mass ball jm ja ct ca percent L = M) := HA.out.unstable HX.out NG.out (FL false hf)
            have C2 : Hid (∀ wr, Blk wr w.heap.size 26 #[.int .i64 side, .int .i64 mass, .int .i64 ball, .int .i64 jm, .int .i64 ja, .int .i64 ct, .int .i64 ca] → Calls Try.prog 44 #[.pointer (some ⟨w.heap.size, 0, none⟩), .int .i64 l, .int .i64 x, .int .i64 percent] wr fun e w' => e = .returned (.bool false) ∧ Below wr.heap.size wr w') := fun wr hk => by rw [← hf]; exact CS.out l x wr rl rx hk
            have hl' := HL0.out
            clear hf FL
            have CM : Hid (∀ w, Calls Try.prog 57 #[.int .i64 G, .int .i64 y] w fun e w' => e = .returned (.int .i64 l) ∧ w = w') := fun w => by have := l00Min_any G y w; rwa [show minZ G y = l by rw [← hl', min_first (by omega)]] at this
            clear hl'
            go_wp2_with fail
            refine (CM.out _).mono ?_
            rintro e w' ⟨rfl, rfl⟩
            go_wp2_with fail
            refine (C2.out _ KW2.out).mono ?_
            rintro e w3 ⟨rfl, hb3⟩
            have lb2 : b < w2.heap.size := World.block_lt_of_cell? _ _ d1
            have e1 := (hb3.cell (p := ⟨b, o, none⟩) lb2).trans d3
            have e2 := (hb3.cell (p := ⟨b, o + 1, none⟩) lb2).trans d4
            have HB3 := HB2.trans (hb3.mono HB2.size)
            have HO3 := Lib.hid (own_below HO2.out hb3)
            have BW3 := B1.trans (HB3.mono z1)
            clear hb3 d1 d2 d3 d4 HB2 HO2 BW2 KW2
            have R := Lib.hid (RetSafe.end0 (w := w) E.out HM.out rfl BW3)
            go_wp2
            go_ret2
            exact R.out
          · have N : Hid (SafeAt (fun l r => stableB side mass ball jm ja ct ca l r percent) (fun r => greatZ side mass ball jm ja ct ca r percent) L (M ++ [(x, l)]) l) := by have := HA.out.next HX.out NG.out (by omega) (FL true hf); show SafeAt _ _ _ _ _; simp only [HG.out, HL0.out] at this; exact this
            have C2 : Hid (∀ wr, Blk wr w.heap.size 26 #[.int .i64 side, .int .i64 mass, .int .i64 ball, .int .i64 jm, .int .i64 ja, .int .i64 ct, .int .i64 ca] → Calls Try.prog 44 #[.pointer (some ⟨w.heap.size, 0, none⟩), .int .i64 l, .int .i64 x, .int .i64 percent] wr fun e w' => e = .returned (.bool true) ∧ Below wr.heap.size wr w') := fun wr hk => by rw [← hf]; exact CS.out l x wr rl rx hk
            have hl' := HL0.out
            clear hf FL
            have CM : Hid (∀ w, Calls Try.prog 57 #[.int .i64 G, .int .i64 y] w fun e w' => e = .returned (.int .i64 l) ∧ w = w') := fun w => by have := l00Min_any G y w; rwa [show minZ G y = l by rw [← hl', min_first (by omega)]] at this
            clear hl'
            go_wp2_with fail
            refine (CM.out _).mono ?_
            rintro e w' ⟨rfl, rfl⟩
            go_wp2_with fail
            refine (C2.out _ KW2.out).mono ?_
            rintro e w3 ⟨rfl, hb3⟩
            have lb2 : b < w2.heap.size := World.block_lt_of_cell? _ _ d1
            have e1 := (hb3.cell (p := ⟨b, o, none⟩) lb2).trans d3
            have e2 := (hb3.cell (p := ⟨b, o + 1, none⟩) lb2).trans d4
            have HB3 := HB2.trans (hb3.mono HB2.size)
            have HO3 := Lib.hid (own_below HO2.out hb3)
            have BW3 := B1.trans (HB3.mono z1)
            clear hb3 d1 d2 d3 d4 HB2 HO2 BW2 KW2
            have nb1 : (0 + 1) * 16 ≤ 140737488355328 := by omega
            have nm : 0 + 1 ≤ maxLen := by unfold maxLen; omega
            have z3 := HB3.size
            go_wp2_with (at_builtin; refine wpList_append_own _ rfl _ _ 42 rfl w1.heap.size 65 i0 _ 2 16 Try.underlying42 hi0 hz0 hz1 hz2 rfl (by omega) _ _ _ rfl (HO3.out.alloc _) ⟨w3.heap.size, 0, none⟩ 1 1 [.int .i64 x, .int .i64 l] rfl rfl (cell_two_s _ _ _ _) (by simp [Value.oneCell']) nm nb1 (by simp; omega) ?_; intro v' w4 hown' hgrow _)
            have HB4 : Below w1.heap.size w1 w4 := (HB3.alloc z3 _).grown hgrow (by simp; omega) (fun j hj => (HO3.out.lt j hj).1)
            have HO4 : Hid (w4.ownsRow w1.heap.size 65 2 v' (0 + 1) (pairs (M ++ [(x, l)]))) := by show World.ownsRow _ _ _ _ _ _ _; rw [pairs_append]; exact hown'
            have HM4 : Hid ((M ++ [(x, l)]).length = 0 + 1) := by show _ = _; simp [HM.out]
            clear hown' hgrow
            go_wp2
            exact ⟨⟨M ++ [(x, l)], l, 0 + 1, by omega, by go_num, HB4, HM4, HO4, N⟩, by simp [intOf]; omega⟩
        · have hla := HA.out.last
          have hkp : 0 < k := by omega
          have hmm := HM.out
          obtain ⟨r', hr'⟩ : ∃ r', M[k - 1]? = some (r', prev) := by rcases hla with ⟨h, _⟩ | ⟨r, h, _⟩; (rw [h] at hmm; simp at hmm; omega); (rw [hmm] at h; exact ⟨r, h⟩)
          obtain ⟨b', o', x', y', hA', _, hx', c1', c2'⟩ := (steps_own HO2.out).at_ (k := k - 1) (by omega)
          rw [hr'] at hx'
          obtain ⟨rfl, rfl⟩ : r' = x' ∧ prev = y' := by simpa using hx'
          subst hA'
          clear hx' hr' hla hmm
          have k1 : (1 : Int) ≤ (k : Int) := by omega
          cases hf : stableB side mass ball jm ja ct ca l x percent
          · have E : Hid (safeL side mass ball jm ja ct ca percent L = M) := HA.out.unstable HX.out NG.out (FL false hf)
            have C2 : Hid (∀ wr, Blk wr w.heap.size 26 #[.int .i64 side, .int .i64 mass, .int .i64 ball, .int .i64 jm, .int .i64 ja, .int .i64 ct, .int .i64 ca] → Calls Try.prog 44 #[.pointer (some ⟨w.heap.size, 0, none⟩), .int .i64 l, .int .i64 x, .int .i64 percent] wr fun e w' => e = .returned (.bool false) ∧ Below wr.heap.size wr w') := fun wr hk => by rw [← hf]; exact CS.out l x wr rl rx hk
            have hl' := HL0.out
            clear hf FL
            have CM : Hid (∀ w, Calls Try.prog 57 #[.int .i64 (minZ G y), .int .i64 prev] w fun e w' => e = .returned (.int .i64 l) ∧ w = w') := fun w => by rw [← hl']; exact l00Min_any _ _ w
            clear hl'
            go_wp2_with fail
            refine (l00Min_any G y _).mono ?_
            rintro e w' ⟨rfl, rfl⟩
            go_wp2_with fail
            refine (CM.out _).mono ?_
            rintro e w' ⟨rfl, rfl⟩
            go_wp2_with fail
            refine (C2.out _ KW2.out).mono ?_
            rintro e w3 ⟨rfl, hb3⟩
            have lb2 : b < w2.heap.size := World.block_lt_of_cell? _ _ d1
            have e1 := (hb3.cell (p := ⟨b, o + k * 2, none⟩) lb2).trans d1
            have e2 := (hb3.cell (p := ⟨b, o + k * 2 + 1, none⟩) lb2).trans d2
            have HB3 := HB2.trans (hb3.mono HB2.size)
            have HO3 := Lib.hid (own_below HO2.out hb3)
            have BW3 := B1.trans (HB3.mono z1)
            clear hb3 d1 d2 HB2 HO2 BW2 KW2
            by_cases hk0 : k = 0
            · have R := Lib.hid (RetSafe.end0 (w := w) E.out HM.out hk0 BW3)
              go_wp2
              go_ret2
              exact R.out
            · have R := Lib.hid (RetSafe.endk (w := w) (w1 := w1) E.out HM.out hk0 HO3.out z1 BW3)
              have k1 : (0 : Int) < (k : Int) := by omega
              go_wp2
              go_ret2
              exact R.out
          · have N : Hid (SafeAt (fun l r => stableB side mass ball jm ja ct ca l r percent) (fun r => greatZ side mass ball jm ja ct ca r percent) L (M ++ [(x, l)]) l) := by have := HA.out.next HX.out NG.out (by omega) (FL true hf); show SafeAt _ _ _ _ _; simp only [HG.out, HL0.out] at this; exact this
            have C2 : Hid (∀ wr, Blk wr w.heap.size 26 #[.int .i64 side, .int .i64 mass, .int .i64 ball, .int .i64 jm, .int .i64 ja, .int .i64 ct, .int .i64 ca] → Calls Try.prog 44 #[.pointer (some ⟨w.heap.size, 0, none⟩), .int .i64 l, .int .i64 x, .int .i64 percent] wr fun e w' => e = .returned (.bool true) ∧ Below wr.heap.size wr w') := fun wr hk => by rw [← hf]; exact CS.out l x wr rl rx hk
            have hl' := HL0.out
            clear hf FL
            have CM : Hid (∀ w, Calls Try.prog 57 #[.int .i64 (minZ G y), .int .i64 prev] w fun e w' => e = .returned (.int .i64 l) ∧ w = w') := fun w => by rw [← hl']; exact l00Min_any _ _ w
            clear hl'
            go_wp2_with fail
            refine (l00Min_any G y _).mono ?_
            rintro e w' ⟨rfl, rfl⟩
            go_wp2_with fail
            refine (CM.out _).mono ?_
            rintro e w' ⟨rfl, rfl⟩
            go_wp2_with fail
            refine (C2.out _ KW2.out).mono ?_
            rintro e w3 ⟨rfl, hb3⟩
            have lb2 : b < w2.heap.size := World.block_lt_of_cell? _ _ d1
            have e1 := (hb3.cell (p := ⟨b, o + k * 2, none⟩) lb2).trans d1
            have e2 := (hb3.cell (p := ⟨b, o + k * 2 + 1, none⟩) lb2).trans d2
            have HB3 := HB2.trans (hb3.mono HB2.size)
            have HO3 := Lib.hid (own_below HO2.out hb3)
            have BW3 := B1.trans (HB3.mono z1)
            clear hb3 d1 d2 HB2 HO2 BW2 KW2
            have nb1 : (k + 1) * 16 ≤ 140737488355328 := by omega
            have nm : k + 1 ≤ maxLen := by unfold maxLen; omega
            have z3 := HB3.size
            go_wp2_with (at_builtin; refine wpList_append_own _ rfl _ _ 42 rfl w1.heap.size 65 i0 _ 2 16 Try.underlying42 hi0 hz0 hz1 hz2 rfl (by omega) _ _ _ rfl (HO3.out.alloc _) ⟨w3.heap.size, 0, none⟩ 1 1 [.int .i64 x, .int .i64 l] rfl rfl (cell_two_s _ _ _ _) (by simp [Value.oneCell']) nm nb1 (by simp; omega) ?_; intro v' w4 hown' hgrow _)
            have HB4 : Below w1.heap.size w1 w4 := (HB3.alloc z3 _).grown hgrow (by simp; omega) (fun j hj => (HO3.out.lt j hj).1)
            have HO4 : Hid (w4.ownsRow w1.heap.size 65 2 v' (k + 1) (pairs (M ++ [(x, l)]))) := by show World.ownsRow _ _ _ _ _ _ _; rw [pairs_append]; exact hown'
            have HM4 : Hid ((M ++ [(x, l)]).length = k + 1) := by show _ = _; simp [HM.out]
            clear hown' hgrow
            go_wp2
            exact ⟨⟨M ++ [(x, l)], l, k + 1, by omega, by go_num, HB4, HM4, HO4, N⟩, by simp [intOf]; omega⟩
    · have E : Hid (safeL side mass ball jm ja ct ca percent L = M) := HA.out.done (by rw [HM.out, HLn.out]; omega)
      have hk0 : ¬ k = 0 := by omega
      have R := Lib.hid (RetSafe.endk (w := w) (w1 := w1) E.out HM.out hk0 HO.out z1 BW)
      have k1 : (0 : Int) < (k : Int) := by omega
      go_wp2
      go_ret2
      exact R.out
end Go.Proofs.Ytfnoapejkpeacaa
