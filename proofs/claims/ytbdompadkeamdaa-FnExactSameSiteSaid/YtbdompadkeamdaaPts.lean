/- Slices of points: the walks of the laws' copies and comparisons over them, and of both comparisons of the program and its reference. -/
import Derived.Test.YtbdompadkeamdaaProg
import Derived.Test.YtbdompadkeamdaaKit
import Derived.Test.YtbdompadkeamdaaBasics
import Derived.Test.YtbdompadkeamdaaMem
import Derived.Test.YtbdompadkeamdaaLists
import Derived.Laws.MakeOwn
import Derived.Laws.Entries
import Derived.Laws.StructEq
namespace Go.Proofs.Ytbdompadkeamdaa
open Go.RowKit Go.WideShapes Go.ChangeShapes Go.Joins Go.Deep Go.Sort
set_option linter.unusedVariables false
theorem szPointS_any (A : Option Addr) (n c : Nat) (q : Int) (w : World) (q0 : 0 ≤ q) (q1 : q ≤ 1048576) (hn : n ≤ maxLen) : Calls Try.prog 46 #[.slice A n c, .int .i64 q] w fun e w' => e = .returned (.int .i64 (if (n : Int) ≤ q then q - n else -1)) ∧ w = w' := by
  unfold maxLen at hn
  by_cases h : (n : Int) ≤ q
  · have E : (if (n : Int) ≤ q then q - (n : Int) else -1) = q - n := if_pos h
    rw [E]; clear E
    go_enter Try.func46, Try.ntmps46
    go_wp2
    go_ret
    exact ⟨rfl, rfl⟩
  · have E : (if (n : Int) ≤ q then q - (n : Int) else -1) = -1 := if_neg h
    rw [E]; clear E
    go_enter Try.func46, Try.ntmps46
    go_wp2
    go_ret
    exact ⟨rfl, rfl⟩
theorem eqPoint_same (x y : Int) (w : World) : Calls Try.prog 73 #[.agg #[.int .i64 x, .int .i64 y], .agg #[.int .i64 x, .int .i64 y]] w fun e w' => e = .returned (.bool true) ∧ Below w.heap.size w w' := by
  go_enter Try.func73, Try.ntmps73
  go_wp2
  go_ret
  exact ⟨rfl, below_alloc2 w _ _⟩
set_option maxHeartbeats 400000 in
theorem eqPointS_same (A A' : Option Addr) (n c c' : Nat) (L : List (Int × Int)) (w : World) (h : Steps w w.heap.size A n L) (h' : Steps w w.heap.size A' n L) (hn : n ≤ maxLen) :
    Calls Try.prog 50 #[.slice A n c, .slice A' n c'] w fun e w' => e = .returned (.bool true) ∧ Below w.heap.size w w' := by
  unfold maxLen at hn
  have H := Lib.hid h
  have H' := Lib.hid h'
  clear h h'
  go_enter Try.func50, Try.ntmps50
  go_wp2
  go_loopw [5] (fun i wr => ∃ k : Nat, k ≤ n ∧ i = .int .i64 k ∧ Below w.heap.size w wr) (fun i _ => n - (intOf i).toNat)
  case atStart => exact ⟨0, Nat.zero_le _, rfl, Below.refl _ _⟩
  case round =>
    obtain ⟨k, hk, rfl, HB⟩ := hrel
    by_cases hlt : k < n
    · obtain ⟨b, o, x, y, rfl, _, hx, hc1, hc2⟩ := (H.out.below HB).at_ hlt
      obtain ⟨b', o', x', y', rfl, _, hx', hc1', hc2'⟩ := (H'.out.below HB).at_ hlt
      rw [hx] at hx'
      obtain ⟨rfl, rfl⟩ : x = x' ∧ y = y' := by simpa using hx'
      clear hx hx'
      have i1 : (0 : Int) ≤ (k : Int) := Int.natCast_nonneg _
      have i2 : (k : Int) < (n : Int) := by omega
      have f1 := cell_regrown hc1
      have f2 := cell_regrown hc2
      have f3 := cell_regrown hc1'
      have f4 := cell_regrown hc2'
      clear hc1 hc2 hc1' hc2'
      go_wp2_with fail
      refine wp_region_quiet_below (by kernel_rfl) (by kernel_rfl) ?_
      repeat (quiet_step (first | exact Calls.regrown_of (eqPoint_same _ _ _)))
      refine wpQuiet_nil ?_
      intro w1 hw1
      have hb1 := class_below hw1
      clear f1 f2 f3 f4
      go_wp2
      exact ⟨⟨k + 1, by omega, by go_num, HB.trans (hb1.mono HB.size)⟩, by simp [intOf]; omega⟩
    · go_wp2
      go_ret
      exact ⟨rfl, HB⟩
theorem infoPoint : (Try.prog.info? 39).map (fun i => (i.zero, i.size, i.bytes)) = some (some (Value.agg #[Value.int .i64 0, Value.int .i64 0]), 2, 16) := by kernel_rfl
set_option maxHeartbeats 400000 in
theorem toPointS_any (A : Option Addr) (n c : Nat) (L : List (Int × Int)) (w : World) (h : Steps w w.heap.size A n L) (hn : n ≤ 1048576) :
    Calls Try.prog 48 #[.slice A n c] w fun e w' => e = .returned (.slice (some ⟨w.heap.size, 0, none⟩) n n) ∧ Blk w' w.heap.size 39 (pairs L).toArray ∧ Below w.heap.size w w' := by
  obtain ⟨i0, hi0, hz0, hz1, hz2⟩ := info_parts infoPoint
  have hmk : ∀ W : World, (Instr.makeSlice 27 (.int .i64 (n : Int)) (.int .i64 (n : Int))).run Try.prog W = .ok (.slice (some ⟨W.heap.size, 0, none⟩) n n) (W.alloc (.cells (filled L 0 n) 39)) := by
    intro W
    have := run_make_rowN (P := Try.prog) 27 39 i0 _ Try.underlying27 hi0 hz0 .i64 .i64 n n (Nat.le_refl _) (by rw [hz2]; omega) (by omega) W
    rw [this, hz1]
    rw [filled_zero L n]
  have H := Lib.hid h
  clear h hz0 hz1 hz2 hi0
  go_enter Try.func48, Try.ntmps48
  go_wp2
  have K0 := Lib.hid (Blk.new w 39 (filled L 0 n))
  go_loopw [4] (fun i wr => ∃ k : Nat, k ≤ n ∧ i = .int .i64 k ∧ Below w.heap.size w wr ∧ Hid (Blk wr w.heap.size 39 (filled L k n))) (fun i _ => n - (intOf i).toNat)
  case atStart => exact ⟨0, Nat.zero_le _, rfl, below_alloc1 _ _, K0⟩
  case round =>
    obtain ⟨k, hk, rfl, HB, HK⟩ := hrel
    clear K0 hmk
    by_cases hlt : k < n
    · obtain ⟨b, o, x, y, rfl, hbb, hx, hc1, hc2⟩ := (H.out.below HB).at_ hlt
      have HX := Lib.hid hx
      clear hx
      have i1 : (0 : Int) ≤ (k : Int) := Int.natCast_nonneg _
      have i2 : (k : Int) < (n : Int) := by omega
      go_wp2_with fail
      refine (toPoint_any _ _ _).mono ?_
      rintro e w1 ⟨rfl, hb1⟩
      have K1 := HK.out.on hb1
      have B1 := HB.trans (hb1.mono HB.size)
      clear hb1 HB hc1 hc2
      have d1 : w1.cell? ⟨w.heap.size, k * 2, none⟩ = (filled L k n)[k * 2]? := K1.cell _
      have d2 : w1.cell? ⟨w.heap.size, k * 2 + 1, none⟩ = (filled L k n)[k * 2 + 1]? := K1.cell _
      have z1 := K1.frozen (k * 2)
      have z2 := K1.frozen (k * 2 + 1)
      obtain ⟨u1, hu1⟩ : ∃ u, (filled L k n)[k * 2]? = some u := ⟨_, Array.getElem?_eq_getElem (by rw [filled_size H.out.1 hk]; omega)⟩
      obtain ⟨u2, hu2⟩ : ∃ u, (filled L k n)[k * 2 + 1]? = some u := ⟨_, Array.getElem?_eq_getElem (by rw [filled_size H.out.1 hk]; omega)⟩
      rw [hu1] at d1
      rw [hu2] at d2
      clear hu1 hu2
      have K1' := Lib.hid K1
      clear K1
      go_wp2
      refine ⟨⟨k + 1, by omega, by go_num, (B1.setCell (Nat.le_refl _) _).setCell (Nat.le_refl _) _, ?_⟩, by simp [intOf]; omega⟩
      have := (K1'.out.set_ (k * 2) (.int .i64 x)).set_ (k * 2 + 1) (.int .i64 y)
      rw [filled_set H.out.1 hlt HX.out] at this
      exact this
    · obtain rfl : k = n := by omega
      go_wp2
      go_ret
      exact ⟨rfl, by rw [← filled_end H.out.1]; exact HK.out, HB⟩
theorem szp_in {n : Nat} {q : Int} (h : (n : Int) ≤ q) (A : Option Addr) (c : Nat) (w : World) (q0 : 0 ≤ q) (q1 : q ≤ 1048576) (hn : n ≤ maxLen) : Calls Try.prog 46 #[.slice A n c, .int .i64 q] w fun e w' => e = .returned (.int .i64 (q - n)) ∧ w = w' := by
  have := szPointS_any A n c q w q0 q1 hn
  rwa [if_pos h] at this
theorem szp_out {n : Nat} {q : Int} (h : ¬ (n : Int) ≤ q) (A : Option Addr) (c : Nat) (w : World) (q0 : 0 ≤ q) (q1 : q ≤ 1048576) (hn : n ≤ maxLen) : Calls Try.prog 46 #[.slice A n c, .int .i64 q] w fun e w' => e = .returned (.int .i64 (-1)) ∧ w = w' := by
  have := szPointS_any A n c q w q0 q1 hn
  rwa [if_neg h] at this
/-- a copy in memory of the call's own -/
def RetPts (w : World) (n : Nat) (L : List (Int × Int)) (e : Ending) (w' : World) : Prop := ∃ A, e = .returned (.slice A n n) ∧ w'.ownsRow w.heap.size 39 2 (.slice A n n) n (pairs L) ∧ Below w.heap.size w w'
theorem toPts_any (A : Option Addr) (n c : Nat) (L : List (Int × Int)) (w : World) (h : Steps w w.heap.size A n L) (hn : n ≤ 1048576) : Calls Try.prog 48 #[.slice A n c] w (RetPts w n L) :=
  (toPointS_any A n c L w h hn).mono fun e w' ⟨he, hk, hb⟩ => ⟨_, he, own_of_blk hk (Nat.le_refl _) h.1 (by unfold maxLen; omega), hb⟩
theorem neqPoint_run (x y x' y' : Int) (w : World) : (binOp .neq 39 (.agg #[.int .i64 x, .int .i64 y]) (.agg #[.int .i64 x', .int .i64 y'])).run Try.prog w = .ok (.bool (!(x == x' && y == y'))) w := by
  have u3 := Try.underlying2
  have a3 := Try.isAgg2
  have z3 := Try.sizeOf2
  have hS : Try.prog.underlying 39 = some (.struct (Try.prog.fieldsOf 39)) := by kernel_rfl
  have hp : Try.prog.stoodInHeld 39 = false := by kernel_rfl
  rw [run_neq_struct, show (10000 : Nat) = 9999 + 1 from rfl, run_equalIn_agg w 9999 39 _ _ hS hp]
  simp only [Program.fieldsOf, Try.underlying39]
  go_simp
  by_cases h1 : x = x' <;> by_cases h2 : y = y' <;> simp [h1, h2]

theorem ptake_ne {L L' : List (Int × Int)} {k : Nat} {s t : Int × Int} (h : L[k]? = some s) (h' : L'[k]? = some t) (hne : s ≠ t) : decide (L = L') = false := by
  rw [decide_eq_false_iff_not]
  rintro rfl
  rw [h] at h'
  exact hne (Option.some.inj h')
theorem ptake_eq {L L' : List (Int × Int)} {k : Nat} {s : Int × Int} (h : L[k]? = some s) (h' : L'[k]? = some s) (h0 : L.take k = L'.take k) : L.take (k + 1) = L'.take (k + 1) := by
  rw [List.take_add_one, List.take_add_one, h, h', h0]
theorem ptake_all {L L' : List (Int × Int)} {n : Nat} (h1 : L.length = n) (h2 : L'.length = n) (h0 : L.take n = L'.take n) : decide (L = L') = true := by
  rw [List.take_of_length_le (by omega), List.take_of_length_le (by omega)] at h0
  simpa using h0
theorem plen_ne {L L' : List (Int × Int)} {n m : Nat} (h1 : L.length = n) (h2 : L'.length = m) (h : n ≠ m) : decide (L = L') = false := by
  rw [decide_eq_false_iff_not]
  rintro rfl
  omega
set_option maxHeartbeats 1000000 in
theorem l05Points_any (A A' : Option Addr) (n m c c' : Nat) (L L' : List (Int × Int)) (w : World) (h : Steps w w.heap.size A n L) (h' : Steps w w.heap.size A' m L') (hn : n ≤ maxLen) (hm : m ≤ maxLen) :
    Calls Try.prog 47 #[.slice A n c, .slice A' m c'] w fun e w' => e = .returned (.bool (decide (L = L'))) ∧ Below w.heap.size w w' := by
  unfold maxLen at hn hm
  have H := Lib.hid h
  have H' := Lib.hid h'
  clear h h'
  have hg : Try.prog.eqGuardType Try.prog.depth 39 = false := by kernel_rfl
  by_cases hnm : n = m
  · subst hnm
    go_enter Try.func47, Try.ntmps47
    go_wp2
    go_loopw [5] (fun i wr => ∃ k : Nat, k ≤ n ∧ i = .int .i64 k ∧ Below w.heap.size w wr ∧ Hid (L.take k = L'.take k)) (fun i _ => n - (intOf i).toNat)
    case atStart => exact ⟨0, Nat.zero_le _, rfl, Below.refl _ _, by show L.take 0 = L'.take 0; simp⟩
    case round =>
      obtain ⟨k, hk, rfl, HB, HT⟩ := hrel
      by_cases hlt : k < n
      · obtain ⟨b, o, x, y, rfl, _, hx, hc1, hc2⟩ := (H.out.below HB).at_ hlt
        obtain ⟨b', o', x', y', rfl, _, hx', hc1', hc2'⟩ := (H'.out.below HB).at_ hlt
        have i1 : (0 : Int) ≤ (k : Int) := Int.natCast_nonneg _
        have i2 : (k : Int) < (n : Int) := by omega
        have kn := neqPoint_run x y x' y'
        by_cases he : x = x' ∧ y = y'
        · obtain ⟨rfl, rfl⟩ := he
          have E := Lib.hid (ptake_eq hx hx' HT.out)
          clear hx hx'
          go_wp2
          go_quiet (fail)
          go_wp2
          exact ⟨⟨k + 1, by omega, by go_num, below_drewN HB _, E⟩, by simp [intOf]; omega⟩
        · have E := Lib.hid (ptake_ne hx hx' (by simpa using he))
          have ke : (!(x == x' && y == y')) = true := by
            by_cases h1 : x = x' <;> by_cases h2 : y = y' <;> simp_all
          rw [ke] at kn
          clear hx hx' he ke
          go_wp2
          go_quiet (fail)
          go_wp2
          go_ret
          exact ⟨ret_bool E.out.symm, below_drewN HB _⟩
      · obtain rfl : k = n := by omega
        have E := Lib.hid (ptake_all H.out.1 H'.out.1 HT.out)
        go_wp2
        go_ret
        exact ⟨ret_bool E.out.symm, HB⟩
  · have E := Lib.hid (plen_ne H.out.1 H'.out.1 hnm)
    have h1 : ((n : Int) != (m : Int)) = true := by rw [bne_iff_ne]; omega
    clear hnm
    go_enter Try.func47, Try.ntmps47
    go_wp2
    go_ret
    exact ⟨ret_bool E.out.symm, Below.refl _ _⟩
set_option maxHeartbeats 1000000 in
theorem slicesEqualPt_any (A A' : Option Addr) (n m c c' : Nat) (L L' : List (Int × Int)) (w : World) (h : Steps w w.heap.size A n L) (h' : Steps w w.heap.size A' m L') (hn : n ≤ maxLen) (hm : m ≤ maxLen) :
    Calls Try.prog 49 #[.slice A n c, .slice A' m c'] w fun e w' => e = .returned (.bool (decide (L = L'))) ∧ Below w.heap.size w w' := by
  unfold maxLen at hn hm
  have H := Lib.hid h
  have H' := Lib.hid h'
  clear h h'
  have hg : Try.prog.eqGuardType Try.prog.depth 39 = false := by kernel_rfl
  by_cases hnm : n = m
  · subst hnm
    go_enter Try.func49, Try.ntmps49
    go_wp2
    go_loopw [5, 13] (fun _ i wr => ∃ k : Nat, k ≤ n ∧ i = .int .i64 k ∧ Below w.heap.size w wr ∧ Hid (L.take k = L'.take k)) (fun _ i _ => n - (intOf i).toNat)
    case atStart => exact ⟨0, Nat.zero_le _, rfl, Below.refl _ _, by show L.take 0 = L'.take 0; simp⟩
    case round =>
      obtain ⟨k, hk, rfl, HB, HT⟩ := hrel
      by_cases hlt : k < n
      · obtain ⟨b, o, x, y, rfl, _, hx, hc1, hc2⟩ := (H.out.below HB).at_ hlt
        obtain ⟨b', o', x', y', rfl, _, hx', hc1', hc2'⟩ := (H'.out.below HB).at_ hlt
        have i1 : (0 : Int) ≤ (k : Int) := Int.natCast_nonneg _
        have i2 : (k : Int) < (n : Int) := by omega
        have kn := neqPoint_run x y x' y'
        by_cases he : x = x' ∧ y = y'
        · obtain ⟨rfl, rfl⟩ := he
          have E := Lib.hid (ptake_eq hx hx' HT.out)
          clear hx hx'
          go_wp2
          go_quiet (fail)
          go_wp2
          exact ⟨⟨k + 1, by omega, by go_num, below_drewN HB _, E⟩, by simp [intOf]; omega⟩
        · have E := Lib.hid (ptake_ne hx hx' (by simpa using he))
          have ke : (!(x == x' && y == y')) = true := by
            by_cases h1 : x = x' <;> by_cases h2 : y = y' <;> simp_all
          rw [ke] at kn
          clear hx hx' he ke
          go_wp2
          go_quiet (fail)
          go_wp2
          go_ret
          exact ⟨ret_bool E.out.symm, below_drewN HB _⟩
      · obtain rfl : k = n := by omega
        have E := Lib.hid (ptake_all H.out.1 H'.out.1 HT.out)
        go_wp2
        go_ret
        exact ⟨ret_bool E.out.symm, HB⟩
  · have E := Lib.hid (plen_ne H.out.1 H'.out.1 hnm)
    have h1 : ((n : Int) != (m : Int)) = true := by rw [bne_iff_ne]; omega
    clear hnm
    go_enter Try.func49, Try.ntmps49
    go_wp2
    go_ret
    exact ⟨ret_bool E.out.symm, Below.refl _ _⟩
end Go.Proofs.Ytbdompadkeamdaa
