/- The law's sizes, copies and comparisons of slices of cranes and of sites. -/
import Derived.Test.YtbdompadkeamdaaProg
import Derived.Test.YtbdompadkeamdaaKit
import Derived.Test.YtbdompadkeamdaaBasics
import Derived.Test.YtbdompadkeamdaaMem
import Derived.Test.YtbdompadkeamdaaCodeRes
import Derived.Test.YtbdompadkeamdaaLists
import Derived.Test.YtbdompadkeamdaaSteps
import Derived.Test.YtbdompadkeamdaaCharts
import Derived.Test.YtbdompadkeamdaaChartLaws
import Derived.Test.YtbdompadkeamdaaPts
import Derived.Test.YtbdompadkeamdaaSame
import Derived.Test.YtbdompadkeamdaaSites
import Derived.Test.YtbdompadkeamdaaSiteLex
import Derived.Test.YtbdompadkeamdaaSites2
import Derived.Test.YtbdompadkeamdaaCranes
import Derived.Lib.QuietBelow
import Derived.BigQuiet
namespace Go.Proofs.Ytbdompadkeamdaa
open Go.RowKit Go.WideShapes Go.ChangeShapes Go.Joins Go.Deep Go.Sort
set_option linter.unusedVariables false
set_option linter.unusedSimpArgs false
/-- what the size of cranes says: too large, or each chart has its bound -/
def SzOut (n : Nat) (Cs : List Crn) (q : Int) (w : World) (e : Ending) (w' : World) : Prop := ∃ r : Int, e = .returned (.int .i64 r) ∧ (r = -1 ∨ (0 ≤ r ∧ r ≤ q ∧ (n : Int) ≤ q ∧ ∀ C ∈ Cs, C.L.length ≤ 1048576)) ∧ Below w.heap.size w w'
theorem szCrane_any (nm : ByteArray) (n : Nat) (q : Int) (x y ht jb bk : Int) (A : Option Addr) (c : Nat) (w : World) (q0 : 0 ≤ q) (q1 : q ≤ 1048576) (hs : nm.size ≤ maxLen) (hn : n ≤ maxLen) :
    Calls Try.prog 32 #[craneV nm x y ht jb bk A n c, .int .i64 q] w fun e w' => ∃ r : Int, e = .returned (.int .i64 r) ∧ (r = -1 ∨ (0 ≤ r ∧ r ≤ q ∧ (n : Int) ≤ q)) ∧ Below w.heap.size w w' := by
  by_cases h : (nm.size : Int) + n ≤ q
  · exact (szCrane_in nm h x y ht jb bk A c w q0 q1).mono fun e w' ⟨he, hb⟩ => ⟨_, he, .inr ⟨by omega, by omega, by omega⟩, hb⟩
  · exact (szCrane_out nm h x y ht jb bk A c w q0 q1 hs hn).mono fun e w' ⟨he, hb⟩ => ⟨_, he, .inl rfl, hb⟩
set_option maxHeartbeats 1000000 in
theorem szCraneS_any (A : Option Addr) (n c : Nat) (Cs : List Crn) (q : Int) (w : World) (h : Crns w w.heap.size A n Cs) (hn : n ≤ maxLen) (q0 : 0 ≤ q) (q1 : q ≤ 1048576) : Calls Try.prog 75 #[.slice A n c, .int .i64 q] w (SzOut n Cs q w) := by
  unfold maxLen at hn
  have H := Lib.hid h
  clear h
  by_cases hq : (n : Int) ≤ q
  · go_enter Try.func75, Try.ntmps75
    go_wp2
    go_loopw [1, 5] (fun l i wr => ∃ (k : Nat) (z : Int), k ≤ n ∧ i = .int .i64 k ∧ l = .int .i64 z ∧ 0 ≤ z ∧ z ≤ q ∧ Below w.heap.size w wr ∧ Hid (∀ j C, j < k → Cs[j]? = some C → C.L.length ≤ 1048576)) (fun _ i _ => n - (intOf i).toNat)
    case atStart => exact ⟨0, q - n, Nat.zero_le _, rfl, rfl, by omega, by omega, Below.refl _ _, fun j C hj => absurd hj (by omega)⟩
    case round =>
      obtain ⟨k, z, hk, rfl, rfl, z0, z1, HB, HA⟩ := hrel
      by_cases hlt : k < n
      · obtain ⟨b, o, C, rfl, hbb, hC, A', m, c', ⟨c0, c1, c2, c3, c4, c5, c6⟩, S, hm, hz⟩ := (H.out.next HB).at_ hlt
        have sl : C.L.length = m := S.1
        have HC := Lib.hid hC
        have i1 : (0 : Int) ≤ (k : Int) := Int.natCast_nonneg _
        have i2 : (k : Int) < (n : Int) := by omega
        have CZ := Lib.hid (szCrane_any C.nm m z C.x C.y C.ht C.jb C.bk A' c' wr z0 (by omega) hz hm)
        have SL := Lib.hid sl
        clear S hC sl
        go_wp2_with fail
        with_reducible refine CZ.out.mono ?_
        rintro e w1 ⟨r, rfl, hr, hb1⟩
        have B1 := HB.trans (hb1.mono HB.size)
        clear hb1 CZ c0 c1 c2 c3 c4 c5 c6
        rcases hr with rfl | ⟨r0, r1, r2⟩
        · go_wp2
          go_ret
          exact ⟨-1, rfl, .inl rfl, B1⟩
        · have HA1 : Hid (∀ j C, j < k + 1 → Cs[j]? = some C → C.L.length ≤ 1048576) := fun j D hj hD => by
            by_cases e : j = k
            · subst e
              rw [HC.out] at hD
              injection hD with hD
              subst hD
              rw [SL.out]; omega
            · exact HA.out j D (by omega) hD
          go_wp2
          exact ⟨⟨k + 1, r, by omega, by go_num, rfl, r0, by omega, B1, HA1⟩, by simp [intOf]; omega⟩
      · obtain rfl : k = n := by omega
        go_wp2
        go_ret
        refine ⟨z, rfl, .inr ⟨z0, z1, hq, fun C hC => ?_⟩, HB⟩
        obtain ⟨j, hj, e⟩ := List.getElem_of_mem hC
        exact HA.out j C (by have := H.out.1; omega) (by rw [List.getElem?_eq_getElem hj, e])
  · go_enter Try.func75, Try.ntmps75
    go_wp2
    go_ret
    exact ⟨-1, rfl, .inl rfl, Below.refl _ _⟩
/-- a copy of a crane: its chart lies in a new block -/
def RetCraneF (w : World) (nm : ByteArray) (x y ht jb bk : Int) (n : Nat) (L : List (Int × Int)) (en : Ending) (w' : World) : Prop := ∃ A, en = .returned (craneV nm x y ht jb bk A n n) ∧ Steps w' w'.heap.size A n L ∧ (∀ b o s, A = some ⟨b, o, s⟩ → w.heap.size ≤ b) ∧ Below w.heap.size w w'
set_option maxHeartbeats 1000000 in
theorem toCraneF_any (nm : ByteArray) (x y ht jb bk : Int) (A : Option Addr) (n c : Nat) (L : List (Int × Int)) (w : World) (h : Steps w w.heap.size A n L) (hn : n ≤ 1048576) : Calls Try.prog 34 #[craneV nm x y ht jb bk A n c] w (RetCraneF w nm x y ht jb bk n L) := by
  have H := Lib.hid h
  clear h
  go_enter Try.func34, Try.ntmps34
  go_wp2_with fail
  refine name_world (f := fun w => Calls _ _ _ w _) ?_
  intro W hW
  have K0 : Blk W w.heap.size 47 #[.string nm, .int .i64 x, .int .i64 y, .int .i64 ht, .int .i64 jb, .int .i64 bk, .slice A n c] := by rw [hW]; exact ((Blk.new _ _ _).alloc _).alloc _
  have K1 : Blk W (w.heap.size + 1) 52 #[.string ⟨#[]⟩, .int .i64 0, .int .i64 0, .int .i64 0, .int .i64 0, .int .i64 0, .slice none 0 0] := by rw [hW]; exact (Blk.new2 _ _ _ _).alloc _
  have K2 : Blk W (w.heap.size + 1 + 1) 52 #[.string nm, .int .i64 0, .int .i64 0, .int .i64 0, .int .i64 0, .int .i64 0, .slice none 0 0] := by rw [hW]; exact Blk.new3 _ _ _ _ _
  have BW : Below w.heap.size w W := by rw [hW]; exact below_alloc3 _ _ _ _
  clear hW
  refine (toPoint_any _ _ _).mono ?_
  rintro en w1 ⟨rfl, hb1⟩
  have K0' := K0.on hb1
  have K1' := K1.on hb1
  have K2' := K2.on hb1
  have B1 := BW.trans (hb1.mono BW.size)
  clear hb1 K0 K1 K2 BW
  obtain ⟨a0, a1, a2, a3, a4, a5, a6⟩ := K0'.seven
  obtain ⟨d0, d1, d2, d3, d4, d5, d6⟩ := K2'.seven
  obtain ⟨y0, y1, y2, y3, y4, y5, y6⟩ := K2'.sevens
  have K1h := Lib.hid K1'
  have K2h := Lib.hid K2'
  clear K0' K1' K2'
  go_wp2_with fail
  refine name_world (f := fun w => Calls _ _ _ w _) ?_
  intro W2 hW2
  have K1 : Blk W2 (w.heap.size + 1) 52 #[.string ⟨#[]⟩, .int .i64 0, .int .i64 0, .int .i64 0, .int .i64 0, .int .i64 0, .slice none 0 0] := by rw [hW2]; exact ((((K1h.out.far (by simp) _).far (by simp) _).far (by simp) _).far (by simp) _).far (by simp) _
  have K2 : Blk W2 (w.heap.size + 1 + 1) 52 #[.string nm, .int .i64 x, .int .i64 y, .int .i64 ht, .int .i64 jb, .int .i64 bk, .slice none 0 0] := by rw [hW2]; exact ((((K2h.out.set_ 1 _).set_ 2 _).set_ 3 _).set_ 4 _).set_ 5 _
  have B2 : Below w.heap.size w W2 := by rw [hW2]; exact ((((B1.setCell (by simp; omega) _).setCell (by simp; omega) _).setCell (by simp; omega) _).setCell (by simp; omega) _).setCell (by simp; omega) _
  have SW : Steps W2 W2.heap.size A n L := H.out.next B2
  clear hW2 H K1h K2h B1 a0 a1 a2 a3 a4 a5 a6 d0 d1 d2 d3 d4 d5 d6 y0 y1 y2 y3 y4 y5 y6
  refine (toChartStepS_any _ _ _ _ _ SW hn).mono ?_
  rintro en w3 ⟨rfl, KP, hb3⟩
  have K1' := K1.on hb3
  have K2' := K2.on hb3
  have B3 := B2.trans (hb3.mono B2.size)
  have ne1 : W2.heap.size ≠ w.heap.size + 1 := by have := K1.lt; omega
  have ne2 : W2.heap.size ≠ w.heap.size + 1 + 1 := by have := K2.lt; omega
  have sl := Lib.hid SW.1
  have zz2 := B2.size
  clear hb3 K1 K2 B2 SW
  obtain ⟨a0, a1, a2, a3, a4, a5, a6⟩ := K1'.seven
  obtain ⟨z0, z1, z2, z3, z4, z5, z6⟩ := K1'.sevens
  obtain ⟨d0, d1, d2, d3, d4, d5, d6⟩ := K2'.seven
  obtain ⟨y0, y1, y2, y3, y4, y5, y6⟩ := K2'.sevens
  go_wp2
  refine bodyPost_ret (v := craneV nm x y ht jb bk (some ⟨W2.heap.size, 0, none⟩) n n) (by simp [results, Try.results34, go_sem, a0, a1, a2, a3, a4, a5, a6]) rfl ⟨_, rfl, ?_, (fun b o s e => by injection e with e; injection e with e _ _; rw [← e]; exact zz2), ?_⟩
  · exact steps_of_blk ((((((((KP.far ne2 _).far ne1 _).far ne1 _).far ne1 _).far ne1 _).far ne1 _).far ne1 _).far ne1 _) sl.out
  · exact (((((((B3.setCell (by simp; omega) _).setCell (by simp) _).setCell (by simp) _).setCell (by simp) _).setCell (by simp) _).setCell (by simp) _).setCell (by simp) _).setCell (by simp) _
theorem infoCrane : (Try.prog.info? 52).map (fun i => (i.zero, i.size, i.bytes)) = some (some (Value.agg #[.string ⟨#[]⟩, .int .i64 0, .int .i64 0, .int .i64 0, .int .i64 0, .int .i64 0, .slice none 0 0]), 7, 80) := by kernel_rfl
set_option maxHeartbeats 2000000 in
theorem toCraneS_any (A : Option Addr) (n c : Nat) (Cs : List Crn) (w : World) (h : Crns w w.heap.size A n Cs) (hn : n ≤ 1048576) (hL : ∀ C ∈ Cs, C.L.length ≤ 1048576) :
    Calls Try.prog 77 #[.slice A n c] w fun e w' => ∃ A', e = .returned (.slice A' n n) ∧ (∀ w2 : World, w'.heap.size ≤ w2.heap.size → (∀ b, w.heap.size ≤ b → b < w'.heap.size → w2.heap[b]? = w'.heap[b]?) → Crns w2 w2.heap.size A' n Cs) ∧ Below w.heap.size w w' := by
  obtain ⟨i0, hi0, hz0, hz1, hz2⟩ := info_parts infoCrane
  obtain ⟨zs, hzs, hzz⟩ : ∃ zs : Array Value, zs.size = n * 7 ∧ ∀ W : World, (Instr.makeSlice 61 (.int .i64 (n : Int)) (.int .i64 (n : Int))).run Try.prog W = .ok (.slice (some ⟨W.heap.size, 0, none⟩) n n) (W.alloc (.cells zs 52)) := by
    refine ⟨madeCells (Value.agg #[.string ⟨#[]⟩, .int .i64 0, .int .i64 0, .int .i64 0, .int .i64 0, .int .i64 0, .slice none 0 0]).cells (n * 7), by simp [madeCells], fun W => ?_⟩
    have := run_make_rowN (P := Try.prog) 61 52 i0 _ Try.underlying61 hi0 hz0 .i64 .i64 n n (Nat.le_refl _) (by rw [hz2]; omega) (by omega) W
    rw [this, hz1]
  have H := Lib.hid h
  have HL := Lib.hid hL
  clear h hL hz0 hz1 hz2 hi0
  go_enter Try.func77, Try.ntmps77
  go_wp2
  have K0 := Lib.hid (Blk.new w 52 zs)
  go_loopw [4] (fun i wr => ∃ (k : Nat) (cs : Array Value), k ≤ n ∧ i = .int .i64 k ∧ Below w.heap.size w wr ∧ Hid (Blk wr w.heap.size 52 cs) ∧ Hid (Filled wr w.heap.size k n cs Cs)) (fun i _ => n - (intOf i).toNat)
  case atStart => exact ⟨0, zs, Nat.zero_le _, rfl, below_alloc1 _ _, K0, Filled.none_ hzs⟩
  case round =>
    obtain ⟨k, cs, hk, rfl, HB, HK, HF⟩ := hrel
    clear K0 hzz hzs
    by_cases hlt : k < n
    · obtain ⟨b, o, C, rfl, hbb, hC, A', m, c', ⟨c0, c1, c2, c3, c4, c5, c6⟩, S, hm, hz⟩ := (H.out.next HB).at_ hlt
      have lm : m ≤ 1048576 := by rw [← S.1]; exact HL.out C (List.mem_of_getElem? hC)
      have HC := Lib.hid hC
      have i1 : (0 : Int) ≤ (k : Int) := Int.natCast_nonneg _
      have i2 : (k : Int) < (n : Int) := by omega
      have CT := Lib.hid (toCraneF_any C.nm C.x C.y C.ht C.jb C.bk A' m c' C.L wr S lm)
      have zl := HK.out.lt
      clear S hC
      go_wp2_with fail
      with_reducible refine CT.out.mono ?_
      rintro e w1 ⟨A2, rfl, S1, hf, hb1⟩
      have K1 := HK.out.on hb1
      have F1 := Lib.hid (HF.out.on hb1)
      have B1 := HB.trans (hb1.mono HB.size)
      have hne : ∀ b o s, A2 = some ⟨b, o, s⟩ → w.heap.size < b := fun b o s e => by have := hf b o s e; omega
      have HNE := Lib.hid hne
      have S1h := Lib.hid S1
      clear hb1 HB CT c0 c1 c2 c3 c4 c5 c6 hf hne S1 HF HK
      obtain ⟨u0, u1, u2, u3, u4, u5, u6, d0, d1, d2, d3, d4, d5, d6⟩ := row7 K1 F1.out.1 hlt
      have z0 := K1.frozen (k * 7)
      have z1 := K1.frozen (k * 7 + 1)
      have z2 := K1.frozen (k * 7 + 2)
      have z3 := K1.frozen (k * 7 + 3)
      have z4 := K1.frozen (k * 7 + 4)
      have z5 := K1.frozen (k * 7 + 5)
      have z6 := K1.frozen (k * 7 + 6)
      have K1h := Lib.hid K1
      clear K1
      go_wp2
      refine ⟨⟨k + 1, set7 cs k C A2 m m, by omega, by go_num, ?_, ?_, ?_⟩, by simp [intOf]; omega⟩
      · exact ((((((B1.setCell (Nat.le_refl _) _).setCell (Nat.le_refl _) _).setCell (Nat.le_refl _) _).setCell (Nat.le_refl _) _).setCell (Nat.le_refl _) _).setCell (Nat.le_refl _) _).setCell (Nat.le_refl _) _
      · exact ((((((K1h.out.set_ (k * 7) (.string C.nm)).set_ (k * 7 + 1) (.int .i64 C.x)).set_ (k * 7 + 2) (.int .i64 C.y)).set_ (k * 7 + 3) (.int .i64 C.ht)).set_ (k * 7 + 4) (.int .i64 C.jb)).set_ (k * 7 + 5) (.int .i64 C.bk)).set_ (k * 7 + 6) (.slice A2 m m)
      · exact F1.out.put hlt HC.out S1h.out HNE.out hm hz (((((((Only.set_ _ _ _ _).then (Only.set_ _ _ _ _)).then (Only.set_ _ _ _ _)).then (Only.set_ _ _ _ _)).then (Only.set_ _ _ _ _)).then (Only.set_ _ _ _ _)).then (Only.set_ _ _ _ _))
    · obtain rfl : k = n := by omega
      go_wp2
      go_ret
      exact ⟨_, rfl, HF.out.all HK.out H.out.1, HB⟩
set_option maxHeartbeats 1000000 in
theorem eqCraneS_same (A A' : Option Addr) (n c c' : Nat) (Cs : List Crn) (w : World) (h : Crns w w.heap.size A n Cs) (h' : Crns w w.heap.size A' n Cs) (hn : n ≤ maxLen) :
    Calls Try.prog 80 #[.slice A n c, .slice A' n c'] w fun e w' => e = .returned (.bool true) ∧ Below w.heap.size w w' := by
  unfold maxLen at hn
  have H := Lib.hid h
  have H' := Lib.hid h'
  clear h h'
  go_enter Try.func80, Try.ntmps80
  go_wp2
  go_loopw [5] (fun i wr => ∃ k : Nat, k ≤ n ∧ i = .int .i64 k ∧ Below w.heap.size w wr) (fun i _ => n - (intOf i).toNat)
  case atStart => exact ⟨0, Nat.zero_le _, rfl, Below.refl _ _⟩
  case round =>
    obtain ⟨k, hk, rfl, HB⟩ := hrel
    by_cases hlt : k < n
    · obtain ⟨b, o, C, rfl, hbb, hC, A1, m, e1, ⟨c0, c1, c2, c3, c4, c5, c6⟩, S, hm, hz⟩ := (H.out.next HB).at_ hlt
      obtain ⟨b', o', C', rfl, hbb', hC', A2, m', e2, ⟨d0, d1, d2, d3, d4, d5, d6⟩, S', hm', hz'⟩ := (H'.out.next HB).at_ hlt
      rw [hC] at hC'
      injection hC' with hC'
      subst hC'
      have em : m' = m := by rw [← S.1, ← S'.1]
      subst em
      have i1 : (0 : Int) ≤ (k : Int) := Int.natCast_nonneg _
      have i2 : (k : Int) < (n : Int) := by omega
      have HC : Hid (∀ d os, Calls Try.prog 36 #[craneV C.nm C.x C.y C.ht C.jb C.bk A1 m' e1, craneV C.nm C.x C.y C.ht C.jb C.bk A2 m' e2] (grow (redrawn wr d) os) fun e w' => e = .returned (.bool true) ∧ ∃ p : Regrown, w' = grow (redrawn wr p.d) p.os) := fun d os => Calls.regrown_of (eqCrane_same C.nm C.x C.y C.ht C.jb C.bk A1 A2 m' e1 e2 C.L _ (S.next (below_regrown wr d os)) (S'.next (below_regrown wr d os)) hm)
      have f0 := cell_regrown c0
      have f1 := cell_regrown c1
      have f2 := cell_regrown c2
      have f3 := cell_regrown c3
      have f4 := cell_regrown c4
      have f5 := cell_regrown c5
      have f6 := cell_regrown c6
      have g0 := cell_regrown d0
      have g1 := cell_regrown d1
      have g2 := cell_regrown d2
      have g3 := cell_regrown d3
      have g4 := cell_regrown d4
      have g5 := cell_regrown d5
      have g6 := cell_regrown d6
      clear S S' hC c0 c1 c2 c3 c4 c5 c6 d0 d1 d2 d3 d4 d5 d6
      go_wp2_with fail
      refine wp_region_quiet_below (by kernel_rfl) (by kernel_rfl) ?_
      repeat (quiet_step (first | exact HC.out _ _))
      refine wpQuiet_nil ?_
      intro w1 hw1
      have hb1 := class_below hw1
      clear f0 f1 f2 f3 f4 f5 f6 g0 g1 g2 g3 g4 g5 g6 hw1
      go_wp2
      exact ⟨⟨k + 1, by omega, by go_num, HB.trans (hb1.mono HB.size)⟩, by simp [intOf]; omega⟩
    · go_wp2
      go_ret
      exact ⟨rfl, HB⟩
theorem szSite_any (A : Option Addr) (n c : Nat) (Cs : List Crn) (q : Int) (w : World) (h : Crns w w.heap.size A n Cs) (hn : n ≤ maxLen) (q0 : 0 ≤ q) (q1 : q ≤ 1048576) : Calls Try.prog 37 #[.agg #[.slice A n c], .int .i64 q] w (SzOut n Cs q w) := by
  have B0 := below_alloc1 w (.cells #[.slice A n c] 58)
  have HC := Lib.hid (szCraneS_any A n c Cs q _ (h.next B0) hn q0 q1)
  have H0 := Lib.hid B0
  clear h B0
  go_enter Try.func37, Try.ntmps37
  go_wp2_with fail
  with_reducible refine HC.out.mono ?_
  rintro e w1 ⟨r, rfl, hr, hb1⟩
  have B1 := H0.out.trans (hb1.mono H0.out.size)
  clear hb1 H0 HC
  rcases hr with rfl | ⟨r0, r1, r2, r3⟩
  · go_wp2
    go_ret
    exact ⟨-1, rfl, .inl rfl, B1⟩
  · have R3 := Lib.hid r3
    clear r3
    go_wp2
    go_ret
    exact ⟨r, rfl, .inr ⟨r0, r1, r2, R3.out⟩, B1⟩
set_option maxHeartbeats 1000000 in
theorem toSite_any (A : Option Addr) (n c : Nat) (Cs : List Crn) (w : World) (h : Crns w w.heap.size A n Cs) (hn : n ≤ 1048576) (hL : ∀ C ∈ Cs, C.L.length ≤ 1048576) :
    Calls Try.prog 39 #[.agg #[.slice A n c]] w fun e w' => ∃ A', e = .returned (.agg #[.slice A' n n]) ∧ Crns w' w'.heap.size A' n Cs ∧ Below w.heap.size w w' := by
  have H := Lib.hid h
  have HL := Lib.hid hL
  clear h hL
  go_enter Try.func39, Try.ntmps39
  go_wp2_with fail
  refine name_world (f := fun w => Calls _ _ _ w _) ?_
  intro W hW
  have K1 : Blk W (w.heap.size + 1) 63 #[.slice none 0 0] := by rw [hW]; exact (Blk.new2 _ _ _ _).alloc _
  have K2 : Blk W (w.heap.size + 1 + 1) 63 #[.slice none 0 0] := by rw [hW]; exact Blk.new3 _ _ _ _ _
  have BW : Below w.heap.size w W := by rw [hW]; exact below_alloc3 _ _ _ _
  have l1 := K1.lt
  have l2 := K2.lt
  clear hW
  have HT := Lib.hid (toCraneS_any A n c Cs W (H.out.next BW) hn HL.out)
  with_reducible refine HT.out.mono ?_
  rintro en w1 ⟨A', rfl, hC, hb1⟩
  have K1' := K1.on hb1
  have K2' := K2.on hb1
  have B1 := BW.trans (hb1.mono BW.size)
  have z1 := hb1.size
  have HC := Lib.hid hC
  clear hb1 K1 K2 BW HT hC
  have a0 := K1'.cell 0
  have d0 := K2'.cell 0
  have y0 := K1'.frozen 0
  have y1 := K2'.frozen 0
  simp only [List.getElem?_toArray, List.getElem?_cons_zero] at a0 d0
  go_wp2
  refine bodyPost_ret (v := .agg #[.slice A' n n]) (by simp [results, Try.results39, go_sem, a0]) rfl ⟨_, rfl, ?_, ?_⟩
  · refine HC.out _ (by simp) (fun b hb hb2 => ?_)
    exact (Below.heap_setCell _ _ _ _ (by simp; omega)).trans (Below.heap_setCell _ _ _ _ (by simp; omega))
  · exact (B1.setCell (by simp; omega) _).setCell (by simp) _
theorem eqSite_same (A A' : Option Addr) (n c c' : Nat) (Cs : List Crn) (w : World) (h : Crns w w.heap.size A n Cs) (h' : Crns w w.heap.size A' n Cs) (hn : n ≤ maxLen) :
    Calls Try.prog 41 #[.agg #[.slice A n c], .agg #[.slice A' n c']] w fun e w' => e = .returned (.bool true) ∧ Below w.heap.size w w' := by
  have B0 := below_alloc2 w (.cells #[.slice A n c] 63) (.cells #[.slice A' n c'] 63)
  have HC := Lib.hid (eqCraneS_same A A' n c c' Cs _ (h.next B0) (h'.next B0) hn)
  have H0 := Lib.hid B0
  clear h h' B0
  go_enter Try.func41, Try.ntmps41
  go_wp2_with fail
  with_reducible refine HC.out.mono ?_
  rintro e w1 ⟨rfl, hb1⟩
  have B1 := H0.out.trans (hb1.mono H0.out.size)
  clear hb1 H0 HC
  go_wp2
  go_ret
  exact ⟨rfl, B1⟩
end Go.Proofs.Ytbdompadkeamdaa
