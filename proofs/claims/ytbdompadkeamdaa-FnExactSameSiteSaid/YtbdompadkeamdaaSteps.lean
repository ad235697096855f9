/- Slices of structs of two integers: how they read; the walks of the laws' copies, comparisons and marks over them. -/
import Derived.Test.YtbdompadkeamdaaProg
import Derived.Test.YtbdompadkeamdaaKit
import Derived.Test.YtbdompadkeamdaaMem
import Derived.Test.YtbdompadkeamdaaLists
import Derived.Laws.MakeOwn
import Derived.Laws.Entries
namespace Go.Proofs.Ytbdompadkeamdaa
open Go.RowKit Go.WideShapes Go.ChangeShapes Go.Joins Go.Deep Go.Sort
set_option linter.unusedVariables false

theorem toChartStep_any (x y : Int) (w : World) : Calls Try.prog 93 #[.agg #[.int .i64 x, .int .i64 y]] w fun e w' => e = .returned (.agg #[.int .i64 x, .int .i64 y]) ∧ Below w.heap.size w w' := by
  go_enter Try.func93, Try.ntmps93
  go_wp2
  exact bodyPost_ret (v := .agg #[.int .i64 x, .int .i64 y]) (by simp [results, Try.results93, go_sem]) rfl ⟨rfl, below_alloc3 w _ _ _⟩
theorem szChartStepS_any (A : Option Addr) (n c : Nat) (q : Int) (w : World) (q0 : 0 ≤ q) (q1 : q ≤ 1048576) (hn : n ≤ maxLen) : Calls Try.prog 68 #[.slice A n c, .int .i64 q] w fun e w' => e = .returned (.int .i64 (if (n : Int) ≤ q then q - n else -1)) ∧ w = w' := by
  unfold maxLen at hn
  by_cases h : (n : Int) ≤ q
  · have E : (if (n : Int) ≤ q then q - (n : Int) else -1) = q - n := if_pos h
    rw [E]; clear E
    go_enter Try.func68, Try.ntmps68
    go_wp2
    go_ret
    exact ⟨rfl, rfl⟩
  · have E : (if (n : Int) ≤ q then q - (n : Int) else -1) = -1 := if_neg h
    rw [E]; clear E
    go_enter Try.func68, Try.ntmps68
    go_wp2
    go_ret
    exact ⟨rfl, rfl⟩
theorem eqChartStep_same (x y : Int) (w : World) : Calls Try.prog 94 #[.agg #[.int .i64 x, .int .i64 y], .agg #[.int .i64 x, .int .i64 y]] w fun e w' => e = .returned (.bool true) ∧ Below w.heap.size w w' := by
  go_enter Try.func94, Try.ntmps94
  go_wp2
  go_ret
  exact ⟨rfl, below_alloc2 w _ _⟩
set_option maxHeartbeats 400000 in
theorem eqChartStepS_same (A A' : Option Addr) (n c c' : Nat) (L : List (Int × Int)) (w : World) (h : Steps w w.heap.size A n L) (h' : Steps w w.heap.size A' n L) (hn : n ≤ maxLen) :
    Calls Try.prog 74 #[.slice A n c, .slice A' n c'] w fun e w' => e = .returned (.bool true) ∧ Below w.heap.size w w' := by
  unfold maxLen at hn
  have H := Lib.hid h
  have H' := Lib.hid h'
  clear h h'
  go_enter Try.func74, Try.ntmps74
  go_wp2
  go_loopw [5] (fun i wr => ∃ k : Nat, k ≤ n ∧ i = .int .i64 k ∧ Below w.heap.size w wr) (fun i _ => n - (intOf i).toNat)
  case atStart => exact ⟨0, Nat.zero_le _, rfl, Below.refl _ _⟩
  case round =>
    obtain ⟨k, hk, rfl, HB⟩ := hrel
    by_cases hlt : k < n
    · obtain ⟨b, o, x, y, rfl, _, hx, hc1, hc2⟩ := (H.out.below HB).at_ hlt
      obtain ⟨b', o', x', y', rfl, _, hx', hc1', hc2'⟩ := (H'.out.below HB).at_ hlt
      rw [hx] at hx'
      obtain ⟨rfl, rfl⟩ : x = x' ∧ y = y' := by simpa using hx'
      clear hx hx'
      have i1 : (0 : Int) ≤ (k : Int) := Int.natCast_nonneg _
      have i2 : (k : Int) < (n : Int) := by omega
      have f1 := cell_regrown hc1
      have f2 := cell_regrown hc2
      have f3 := cell_regrown hc1'
      have f4 := cell_regrown hc2'
      clear hc1 hc2 hc1' hc2'
      go_wp2_with fail
      refine wp_region_quiet_below (by kernel_rfl) (by kernel_rfl) ?_
      repeat (quiet_step (first | exact Calls.regrown_of (eqChartStep_same _ _ _)))
      refine wpQuiet_nil ?_
      intro w1 hw1
      have hb1 := class_below hw1
      clear f1 f2 f3 f4
      go_wp2
      exact ⟨⟨k + 1, by omega, by go_num, HB.trans (hb1.mono HB.size)⟩, by simp [intOf]; omega⟩
    · go_wp2
      go_ret
      exact ⟨rfl, HB⟩

theorem infoStep : (Try.prog.info? 93).map (fun i => (i.zero, i.size, i.bytes)) = some (some (Value.agg #[Value.int .i64 0, Value.int .i64 0]), 2, 16) := by kernel_rfl
set_option maxHeartbeats 400000 in
theorem toChartStepS_any (A : Option Addr) (n c : Nat) (L : List (Int × Int)) (w : World) (h : Steps w w.heap.size A n L) (hn : n ≤ 1048576) :
    Calls Try.prog 70 #[.slice A n c] w fun e w' => e = .returned (.slice (some ⟨w.heap.size, 0, none⟩) n n) ∧ Blk w' w.heap.size 93 (pairs L).toArray ∧ Below w.heap.size w w' := by
  obtain ⟨i0, hi0, hz0, hz1, hz2⟩ := info_parts infoStep
  have hmk : ∀ W : World, (Instr.makeSlice 50 (.int .i64 (n : Int)) (.int .i64 (n : Int))).run Try.prog W = .ok (.slice (some ⟨W.heap.size, 0, none⟩) n n) (W.alloc (.cells (filled L 0 n) 93)) := by
    intro W
    have := run_make_rowN (P := Try.prog) 50 93 i0 _ Try.underlying50 hi0 hz0 .i64 .i64 n n (Nat.le_refl _) (by rw [hz2]; omega) (by omega) W
    rw [this, hz1]
    rw [filled_zero L n]
  have H := Lib.hid h
  clear h hz0 hz1 hz2 hi0
  go_enter Try.func70, Try.ntmps70
  go_wp2
  have K0 := Lib.hid (Blk.new w 93 (filled L 0 n))
  go_loopw [4] (fun i wr => ∃ k : Nat, k ≤ n ∧ i = .int .i64 k ∧ Below w.heap.size w wr ∧ Hid (Blk wr w.heap.size 93 (filled L k n))) (fun i _ => n - (intOf i).toNat)
  case atStart => exact ⟨0, Nat.zero_le _, rfl, below_alloc1 _ _, K0⟩
  case round =>
    obtain ⟨k, hk, rfl, HB, HK⟩ := hrel
    clear K0 hmk
    by_cases hlt : k < n
    · obtain ⟨b, o, x, y, rfl, hbb, hx, hc1, hc2⟩ := (H.out.below HB).at_ hlt
      have HX := Lib.hid hx
      clear hx
      have i1 : (0 : Int) ≤ (k : Int) := Int.natCast_nonneg _
      have i2 : (k : Int) < (n : Int) := by omega
      go_wp2_with fail
      refine (toChartStep_any _ _ _).mono ?_
      rintro e w1 ⟨rfl, hb1⟩
      have K1 := HK.out.on hb1
      have B1 := HB.trans (hb1.mono HB.size)
      clear hb1 HB hc1 hc2
      have d1 : w1.cell? ⟨w.heap.size, k * 2, none⟩ = (filled L k n)[k * 2]? := K1.cell _
      have d2 : w1.cell? ⟨w.heap.size, k * 2 + 1, none⟩ = (filled L k n)[k * 2 + 1]? := K1.cell _
      have z1 := K1.frozen (k * 2)
      have z2 := K1.frozen (k * 2 + 1)
      obtain ⟨u1, hu1⟩ : ∃ u, (filled L k n)[k * 2]? = some u := ⟨_, Array.getElem?_eq_getElem (by rw [filled_size H.out.1 hk]; omega)⟩
      obtain ⟨u2, hu2⟩ : ∃ u, (filled L k n)[k * 2 + 1]? = some u := ⟨_, Array.getElem?_eq_getElem (by rw [filled_size H.out.1 hk]; omega)⟩
      rw [hu1] at d1
      rw [hu2] at d2
      clear hu1 hu2
      have K1' := Lib.hid K1
      clear K1
      go_wp2
      refine ⟨⟨k + 1, by omega, by go_num, (B1.setCell (Nat.le_refl _) _).setCell (Nat.le_refl _) _, ?_⟩, by simp [intOf]; omega⟩
      have := (K1'.out.set_ (k * 2) (.int .i64 x)).set_ (k * 2 + 1) (.int .i64 y)
      rw [filled_set H.out.1 hlt HX.out] at this
      exact this
    · obtain rfl : k = n := by omega
      go_wp2
      go_ret
      exact ⟨rfl, by rw [← filled_end H.out.1]; exact HK.out, HB⟩
end Go.Proofs.Ytbdompadkeamdaa
