/- Charts out of the source. -/
import Derived.Test.YtiaineljcmjfoaaProg
import Derived.Test.YtiaineljcmjfoaaKit
import Derived.Test.YtiaineljcmjfoaaBasics
import Derived.Test.YtiaineljcmjfoaaCodeRes
import Derived.Test.YtiaineljcmjfoaaMem
import Derived.Test.YtiaineljcmjfoaaLists
import Derived.Test.YtiaineljcmjfoaaSteps
import Derived.Test.YtiaineljcmjfoaaCharts
import Derived.Test.YtiaineljcmjfoaaApart
import Derived.Test.YtiaineljcmjfoaaSrc
import Derived.Test.YtiaineljcmjfoaaSrc2
import Derived.Deep.RegionHeld3
import Derived.Deep.AppendLies
namespace Go.Proofs.Ytiaineljcmjfoaa
open Go.RowKit Go.WideShapes Go.ChangeShapes Go.Joins Go.Deep Go.Sort
set_option linter.unusedVariables false
set_option linter.unusedSimpArgs false
/-! ### the plain law -/
structure DrawnAt (M : List (Int × Int)) (most r load : Int) : Prop where
  chain : chainB none M = true
  fst : M = [] → r = 20
  r0 : 20 ≤ r
  r1 : r ≤ most
  l0 : 0 ≤ load
  l1 : load ≤ 11000
  link : ∀ p, M.getLast? = some p → p.1 = r ∧ load ≤ p.2
  all : ∀ s ∈ M, s.1 ≤ most
theorem DrawnAt.start {most load : Int} (h : 20 ≤ most) (h0 : 0 ≤ load) (h1 : load ≤ 11000) : DrawnAt [] most 20 load := ⟨rfl, fun _ => rfl, Int.le_refl _, h, h0, h1, (fun p hp => by cases hp), (fun s hs => by cases hs)⟩
theorem DrawnAt.next {M : List (Int × Int)} {most r load r' load' : Int} (h : DrawnAt M most r load) (hm : most ≤ 1000) (h1 : r < r') (h2 : r' ≤ most) (h3 : 0 ≤ load') (h4 : load' ≤ load) : DrawnAt (M ++ [(r', load)]) most r' load' where
  chain := by
    have a0 := h.r0
    have a1 := h.l0
    have a2 := h.l1
    have hs : stepB (r', load) = true := by
      unfold stepB
      rw [inB_true (by show 1 ≤ r'; omega) (by show r' ≤ 1000; omega), inB_true (by exact a1) (by show load ≤ 50000; omega)]
      rfl
    rw [chainB_append, h.chain]
    show (chainB (lastOr none M) [(r', load)]) = true
    show (nextB (lastOr none M) (r', load) && chainB (some (r', load)) []) = true
    unfold lastOr
    cases hl : M.getLast? with
    | none =>
      show (stepB (r', load) && true) = true
      rw [hs]; rfl
    | some p =>
      obtain ⟨e1, e2⟩ := h.link p hl
      show (stepB (r', load) && linkB p (r', load) && true) = true
      rw [hs]
      unfold linkB
      simp
      omega
  fst := fun e => by simp at e
  r0 := by have := h.r0; omega
  r1 := h2
  l0 := h3
  l1 := by have := h.l1; omega
  link := fun p hp => by
    rw [List.getLast?_append, List.getLast?_singleton] at hp
    simp at hp
    subst hp
    exact ⟨rfl, h4⟩
  all := fun s hs => by
    rcases List.mem_append.1 hs with hs | hs
    · exact h.all s hs
    · simp at hs
      subst hs
      exact h2
theorem DrawnAt.chart {M : List (Int × Int)} {most r load : Int} (h : DrawnAt M most r load) (h0 : 1 ≤ M.length) (h1 : M.length ≤ 20) : chartB M = true := by
  unfold chartB
  rw [h.chain, inB_true (by omega) (by omega)]; rfl
theorem grown_own {a b c : World} {row row' : Option Nat} (h : a.grownBy b row) (k : b.grownBy c row') (hr : ∀ j, row' = some j → a.heap.size ≤ j) : a.grownBy c row :=
  ⟨k.os.trans h.os, k.tape.trans h.tape, k.output.trans h.output, Nat.le_trans h.size k.size, fun i hi hne => (k.block i (by have := h.size; omega) (fun e => by have := hr i e.symm; omega)).trans (h.block i hi hne)⟩
theorem Src.grown {w w' : World} {g : Nat} {A : Option Addr} {n c : Nat} {t : Int} (h : Src w g A n c t) {row : Option Nat} (hg : w.grownBy w' row) (hne : some g ≠ row) : Src w' g A n c t := by
  obtain ⟨sd, K, hu⟩ := h
  exact ⟨sd, K.grown hg hne, hu⟩
theorem own_off {w : World} {base g : Nat} {e : TypeId} {size : Nat} {v : Value} {n : Nat} {xs : List Value} (h : w.ownsRow base e size v n xs) (hg : g < base) : v.ownBlock = none ∨ v.ownBlock ≠ some g := .inr fun e => by have := (h.lt g e).1; omega
theorem own_monoD {w : World} {base base' : Nat} {e : TypeId} {size : Nat} {v : Value} {n : Nat} {xs : List Value} (h : w.ownsRow base e size v n xs) (hb : base' ≤ base) : w.ownsRow base' e size v n xs := by
  refine ⟨h.1, ?_⟩
  rcases h.2 with h2 | ⟨g, cap, cur, hv, hg, r⟩
  · exact .inl h2
  · exact .inr ⟨g, cap, cur, hv, by omega, r⟩
theorem cell_two_d (w : World) (x y : Value) (t : TypeId) : ∀ j u, [x, y][j]? = some u → (w.alloc (.cells #[x, y] t)).cell? ((⟨w.heap.size, 0, none⟩ : Addr).add j) = some u := by
  intro j u h
  match j with
  | 0 => simp at h; subst h; exact (Blk.new w t #[x, y]).two.1
  | 1 => simp at h; subst h; exact (Blk.new w t #[x, y]).two.2
  | j + 2 => simp at h
theorem drawMin_any (a b : Int) (w : World) : Calls Try.prog 58 #[.int .i64 a, .int .i64 b] w fun e w' => e = .returned (.int .i64 (if b < a then b else a)) ∧ w = w' := by
  by_cases h : b < a
  · have h' : ¬ a < b := by omega
    rw [if_pos h]
    go_enter Try.func58, Try.ntmps58
    go_wp2
    go_ret
    exact ⟨rfl, rfl⟩
  · rw [if_neg h]
    by_cases h2 : a < b
    · go_enter Try.func58, Try.ntmps58
      go_wp2
      go_ret
      exact ⟨rfl, rfl⟩
    · obtain rfl : a = b := by omega
      go_enter Try.func58, Try.ntmps58
      go_wp2
      go_ret
      exact ⟨rfl, rfl⟩
theorem drawMax_any (a b : Int) (w : World) : Calls Try.prog 45 #[.int .i64 a, .int .i64 b] w fun e w' => e = .returned (.int .i64 (if b < a then a else b)) ∧ w = w' := by
  by_cases h : b < a
  · rw [if_pos h]
    go_enter Try.func45, Try.ntmps45
    go_wp2
    go_ret
    exact ⟨rfl, rfl⟩
  · rw [if_neg h]
    go_enter Try.func45, Try.ntmps45
    go_wp2
    go_ret
    exact ⟨rfl, rfl⟩
/-- a drawn chart: no step past radius 600, no more than five steps -/
def Small (L : List (Int × Int)) : Prop := (∀ s ∈ L, s.1 ≤ 600) ∧ L.length ≤ 5
def ChartOut (w : World) (g : Nat) (A : Option Addr) (n c : Nat) (t : Int) (e : Ending) (w' : World) : Prop := ∃ (L : List (Int × Int)) (t' : Int) (A' : Option Addr) (m c' : Nat), e = .returned (.slice A' m c') ∧ m = L.length ∧ chartB L = true ∧ Small L ∧ t ≤ t' ∧ t' ≤ t + 100 ∧ Src w' g A n c t' ∧ w'.ownsRow w.heap.size 44 2 (.slice A' m c') m (pairs L) ∧ w.grownBy w' (some g)
set_option maxRecDepth 100000 in
set_option maxHeartbeats 4000000 in
theorem l03Draw_any (A : Option Addr) (n c : Nat) (t : Int) (B g : Nat) (w : World) (hS : Src w g A n c t) (hB : BytesAt w B A n) (hBg : B ≤ g) (hn : n ≤ 3000) (t0 : 0 ≤ t) (t1 : t ≤ 100000) :
    Calls Try.prog 63 #[.pointer (some ⟨g, 0, none⟩), .int .i64 600] w (ChartOut w g A n c t) := by
  obtain ⟨i0, hi0, hz0, hz1, hz2⟩ := info_parts infoStep
  have lt := hS.lt
  have bo := below_alloc1 w (.cells #[] 44)
  have HS := Lib.hid (hS.on bo)
  have HB := Lib.hid (hB.grown (grown_of_below bo none) (by omega) (fun g' e => by cases e))
  have HG := Lib.hid (World.grownBy_alloc w (.cells #[] 44) (some g))
  have HO : Hid ((w.alloc (.cells #[] 44)).ownsRow w.heap.size 44 2 (.slice (some ⟨w.heap.size, 0, none⟩) 0 0) 0 (pairs [])) := by show World.ownsRow _ _ _ _ _ _ _; simpa [pairs] using World.ownsRow_lit (base := w.heap.size) (e := 44) (size := 2) w #[] 0 (Nat.le_refl _) (by unfold maxLen; omega) rfl
  clear hS hB bo
  go_enter Try.func63, Try.ntmps63
  go_wp2_with fail
  refine (pick_any A n c t 9000 B g _ HS.out HB.out hBg hn t0 (by omega) (by omega) (by omega)).mono ?_
  rintro e w1 ⟨a, t2, rfl, a0, a1, u0, u1, S1, G1⟩
  have HO1 := Lib.hid (HO.out.kept G1 (own_off HO.out lt))
  have HG1 := Lib.hid (grown_trans HG.out G1)
  have HB1 := Lib.hid (HB.out.grown G1 (by simp; omega) (fun g' e => by injection e with e; omega))
  have HS1 := Lib.hid S1
  clear S1 G1 HB HS HG HO
  go_wp2_with fail
  refine (pick_any A n c t2 5 B g _ HS1.out HB1.out hBg hn (by omega) (by omega) (by omega) (by omega)).mono ?_
  rintro e w2 ⟨b, t3, rfl, b0, b1, u2, u3, S2, G2⟩
  have z1 := HG1.out.size
  have HO2 := Lib.hid (HO1.out.kept G2 (own_off HO1.out lt))
  have HG2 := Lib.hid (grown_trans HG1.out G2)
  have HB2 := Lib.hid (HB1.out.grown G2 (by omega) (fun g' e => by injection e with e; omega))
  have HS2 := Lib.hid S2
  clear S2 G2 HG1 HB1 HS1 HO1 z1
  go_wp2
  go_loopw [5, 6, 7, 8] (fun v r l k wr => ∃ (M : List (Int × Int)) (m : Nat) (r' l' k' t' : Int), r = .int .i64 r' ∧ l = .int .i64 l' ∧ k = .int .i64 k' ∧ 0 ≤ k' ∧ m + k' ≤ 5 ∧ 1 ≤ m + k' ∧ t ≤ t' ∧ t' ≤ t + 4 + 4 * m ∧ Hid (M.length = m) ∧ Hid (DrawnAt M 600 r' l') ∧ Hid (Src wr g A n c t') ∧ Hid (BytesAt wr B A n) ∧ Hid (wr.ownsRow w.heap.size 44 2 v m (pairs M)) ∧ Hid (w.grownBy wr (some g))) (fun _ _ _ k _ => (intOf k).toNat)
  case atStart => exact ⟨[], 0, 20, 2000 + a, 1 + b, t3, rfl, rfl, rfl, by omega, by omega, by omega, by omega, by omega, rfl, DrawnAt.start (by omega) (by omega) (by omega), HS2, HB2, HO2, HG2⟩
  case round =>
    clear HS2 HB2 HO2 HG2
    obtain ⟨M, m, r, l, k, t', rfl, rfl, rfl, k0, k1, k2, t4, t5, HM, HD, HS, HB, HO, HG⟩ := hrel
    obtain ⟨A', c', rfl⟩ := own_form HO.out
    have r0 := HD.out.r0
    have r1 := HD.out.r1
    have l0 := HD.out.l0
    have l1 := HD.out.l1
    by_cases hk : 0 < k
    · have dk : decide (0 < k) = true := by simpa using hk
      by_cases hr : r < 600
      · have dr : decide (r < 600) = true := by simpa using hr
        have zg := HG.out.size
        go_wp2_with fail
        refine (pick_any A n c t' 150 B g _ HS.out HB.out hBg hn (by omega) (by omega) (by omega) (by omega)).mono ?_
        rintro e w3 ⟨p, t6, rfl, p0, p1, u4, u5, S3, G3⟩
        have HO3 := Lib.hid (HO.out.kept G3 (own_off HO.out lt))
        have HG3 := Lib.hid (grown_trans HG.out G3)
        have HB3 := Lib.hid (HB.out.grown G3 (by omega) (fun g' e => by injection e with e; omega))
        have HS3 := Lib.hid S3
        clear S3 G3 HG HB HS HO
        obtain ⟨q, hq⟩ : ∃ q : Int, (if r + 20 + p < 600 then r + 20 + p else 600) = q := ⟨_, rfl⟩
        have CM : Hid (∀ w, Calls Try.prog 58 #[.int .i64 600, .int .i64 (r + 20 + p)] w fun e w' => e = .returned (.int .i64 q) ∧ w = w') := fun w => by rw [← hq]; exact drawMin_any _ _ w
        have q0 : r < q := by rw [← hq]; split <;> omega
        have q1 : q ≤ 600 := by rw [← hq]; split <;> omega
        clear hq
        have zg3 := HG3.out.size
        have nb1 : (m + 1) * 16 ≤ 140737488355328 := by omega
        have nm : m + 1 ≤ maxLen := by unfold maxLen; omega
        go_wp2_with fail
        refine (CM.out _).mono ?_
        rintro e w' ⟨rfl, rfl⟩
        clear CM
        go_wp2_with (at_builtin; refine wpList_append_own _ rfl _ _ 25 rfl w.heap.size 44 i0 _ 2 16 Try.underlying25 hi0 hz0 hz1 hz2 rfl (by omega) _ _ _ rfl (HO3.out.alloc _) ⟨w3.heap.size, 0, none⟩ 1 1 [.int .i64 q, .int .i64 l] rfl rfl (cell_two_d _ _ _ _) (by simp [Value.oneCell']) nm nb1 (by simp; omega) ?_; intro v' w4 hown' hgrow _)
        have al := below_alloc1 w3 (.cells #[.int .i64 q, .int .i64 l] 44)
        have ne : some g ≠ (Value.slice A' m c').ownBlock := by
          rcases own_off HO3.out lt with h | h
          · rw [h]; simp
          · exact fun e => h e.symm
        have HG4 := Lib.hid (grown_own (grown_trans HG3.out (World.grownBy_alloc w3 (.cells #[.int .i64 q, .int .i64 l] 44) (some g))) hgrow (fun j hj => (HO3.out.lt j hj).1))
        have HS4 := Lib.hid ((HS3.out.on al).grown hgrow ne)
        have HB4 := Lib.hid ((HB3.out.grown (grown_of_below al none) (by omega) (fun g' e => by cases e)).grown hgrow (by simp; omega) (fun j hj => by have := (HO3.out.lt j hj).1; omega))
        have HO4 : Hid (w4.ownsRow w.heap.size 44 2 v' (m + 1) (pairs (M ++ [(q, l)]))) := by show World.ownsRow _ _ _ _ _ _ _; rw [pairs_append]; exact hown'
        have HM4 : Hid ((M ++ [(q, l)]).length = m + 1) := by show _ = _; simp [HM.out]
        clear hown' hgrow al ne HS3 HB3 HO3 HG3 HM zg zg3
        have zg4 := HG4.out.size
        go_wp2_with fail
        refine (pick_any A n c t6 2500 B g _ HS4.out HB4.out hBg hn (by omega) (by omega) (by omega) (by omega)).mono ?_
        rintro e w5 ⟨p', t7, rfl, p2, p3, u6, u7, S5, G5⟩
        have HO5 := Lib.hid (HO4.out.kept G5 (own_off HO4.out lt))
        have HG5 := Lib.hid (grown_trans HG4.out G5)
        have HB5 := Lib.hid (HB4.out.grown G5 (by omega) (fun g' e => by injection e with e; omega))
        have HS5 := Lib.hid S5
        clear S5 G5 HG4 HB4 HS4 HO4
        obtain ⟨x, hx⟩ : ∃ x : Int, (if l - p' < 0 then 0 else l - p') = x := ⟨_, rfl⟩
        have CX : Hid (∀ w, Calls Try.prog 45 #[.int .i64 0, .int .i64 (l - p')] w fun e w' => e = .returned (.int .i64 x) ∧ w = w') := fun w => by rw [← hx]; exact drawMax_any _ _ w
        have x0 : 0 ≤ x := by rw [← hx]; split <;> omega
        have x1 : x ≤ l := by rw [← hx]; split <;> omega
        clear hx
        go_wp2_with fail
        refine (CX.out _).mono ?_
        rintro e w' ⟨rfl, rfl⟩
        clear CX
        have HD5 := HD.out.next (by omega) q0 q1 x0 x1
        go_wp2
        exact ⟨⟨M ++ [(q, l)], m + 1, q, x, k - 1, t7, rfl, rfl, rfl, by omega, by omega, by omega, by omega, by omega, HM4, HD5, HS5, HB5, HO5, HG5⟩, by simp [intOf]; omega⟩
      · have dr : decide (r < 600) = false := by simpa using hr
        have hm : 1 ≤ m := by
          rcases Nat.eq_zero_or_pos m with h | h
          · have e : M = [] := List.length_eq_zero_iff.1 (by rw [HM.out, h])
            have := HD.out.fst e
            omega
          · exact h
        have R := Lib.hid (HD.out.chart (by rw [HM.out]; exact hm) (by rw [HM.out]; omega))
        go_wp2
        go_ret
        exact ⟨M, t', A', m, c', rfl, HM.out.symm, R.out, ⟨HD.out.all, by rw [HM.out]; omega⟩, by omega, by omega, HS.out, HO.out, HG.out⟩
    · have dk : decide (0 < k) = false := by simpa using hk
      have R := Lib.hid (HD.out.chart (by rw [HM.out]; omega) (by rw [HM.out]; omega))
      go_wp2
      go_ret
      exact ⟨M, t', A', m, c', rfl, HM.out.symm, R.out, ⟨HD.out.all, by rw [HM.out]; omega⟩, by omega, by omega, HS.out, HO.out, HG.out⟩
def ChartsOut (w : World) (e : Ending) (w' : World) : Prop := ∃ (L M : List (Int × Int)) (A C : Option Addr) (m k c d : Nat), e = .returned (.tuple #[.slice A m c, .slice C k d]) ∧ m = L.length ∧ k = M.length ∧ chartB L = true ∧ chartB M = true ∧ Small L ∧ Small M ∧ w'.ownsRow w.heap.size 44 2 (.slice A m c) m (pairs L) ∧ w'.ownsRow w.heap.size 44 2 (.slice C k d) k (pairs M) ∧ Below w.heap.size w w'
theorem grown_belowC {a b c : World} {B g : Nat} (h : Below B a b) (hg : b.grownBy c (some g)) (hB : B ≤ b.heap.size) (hr : B ≤ g) : Below B a c := h.grown hg hB (fun k hk => by injection hk with hk; omega)
set_option maxHeartbeats 1000000 in
theorem A2Charts_any (A : Option Addr) (n c : Nat) (w : World) (hB : BytesAt w w.heap.size A n) (hn : n ≤ 3000) : Calls Try.prog 37 #[.slice A n c] w (ChartsOut w) := by
  have HB := Lib.hid hB
  clear hB
  go_enter Try.func37, Try.ntmps37
  go_wp2_with fail
  refine (l00From_any _ _ _ _).mono ?_
  rintro e w1 ⟨rfl, S1, hb1⟩
  have HB1 := Lib.hid (HB.out.below hb1)
  have HS1 := Lib.hid S1
  have l1 := HS1.out.lt
  clear S1 HB
  go_wp2_with fail
  refine (l03Draw_any A n c 0 w.heap.size w.heap.size w1 HS1.out HB1.out (Nat.le_refl _) hn (by omega) (by omega)).mono ?_
  rintro e w2 ⟨L, t2, A2, m, c2, rfl, hL, cL, aL, u0, u1, S2, O2, G2⟩
  have HB2 := Lib.hid (HB1.out.grown G2 (by omega) (fun g' e => by injection e with e; omega))
  have HS2 := Lib.hid S2
  have B2 := grown_belowC hb1 G2 (by omega) (Nat.le_refl _)
  have HO2 := Lib.hid O2
  have HLn := Lib.hid hL
  clear hL
  have z2 := G2.size
  clear S2 O2 G2 HB1 HS1 hb1
  go_wp2_with fail
  refine (l03Draw_any A n c t2 w.heap.size w.heap.size w2 HS2.out HB2.out (Nat.le_refl _) hn (by omega) (by omega)).mono ?_
  rintro e w3 ⟨M, t3, A3, k, c3, rfl, hM, cM, aM, u2, u3, S3, O3, G3⟩
  have R1 := Lib.hid (own_monoD (HO2.out.kept G3 (own_off HO2.out l1)) (show w.heap.size ≤ w1.heap.size by omega))
  have R2 := Lib.hid (own_monoD O3 (show w.heap.size ≤ w2.heap.size by omega))
  have B3 := grown_belowC B2 G3 (by omega) (Nat.le_refl _)
  have HMn := Lib.hid hM
  clear hM
  clear S3 O3 G3 HB2 HS2 HO2 B2
  go_wp2
  go_ret2
  exact ⟨L, M, A2, A3, m, k, c2, c3, rfl, HLn.out, HMn.out, cL, cM, aL, aM, R1.out, R2.out, B3⟩
end Go.Proofs.Ytiaineljcmjfoaa
