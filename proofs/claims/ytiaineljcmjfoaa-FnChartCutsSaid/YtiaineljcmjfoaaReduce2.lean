/- Charts with other loads: the walks of the program's side. -/
import Derived.Test.YtiaineljcmjfoaaProg
import Derived.Test.YtiaineljcmjfoaaKit
import Derived.Test.YtiaineljcmjfoaaBasics
import Derived.Test.YtiaineljcmjfoaaMem
import Derived.Test.YtiaineljcmjfoaaCodeRes
import Derived.Test.YtiaineljcmjfoaaLists
import Derived.Test.YtiaineljcmjfoaaSteps
import Derived.Test.YtiaineljcmjfoaaCharts
import Derived.Test.YtiaineljcmjfoaaChartLaws
import Derived.Test.YtiaineljcmjfoaaFinds
import Derived.Test.YtiaineljcmjfoaaLoads
import Derived.Test.YtiaineljcmjfoaaLoads2
import Derived.Test.YtiaineljcmjfoaaLoads3
import Derived.Test.YtiaineljcmjfoaaReduce
import Derived.Deep.RegionHeld3
import Derived.Deep.AppendLies
namespace Go.Proofs.Ytiaineljcmjfoaa
open Go.RowKit Go.WideShapes Go.ChangeShapes Go.Joins Go.Deep Go.Sort
set_option linter.unusedVariables false
set_option linter.unusedSimpArgs false


/-- a closure with one captured variable: calls 48 -/
theorem reduce1_any (y p : Int) (g : Nat) (w : World) (hg : w.cell? ⟨g, 0, none⟩ = some (.int .i64 p)) (y0 : 0 ≤ y) (y1 : y ≤ 50000) (p0 : 0 ≤ p) (p1 : p ≤ 100) : Calls Try.prog 49 #[.int .i64 y, .pointer (some ⟨g, 0, none⟩)] w fun e w' => e = .returned (.int .i64 (y * p / 100)) ∧ w = w' := by
  obtain ⟨m1, m2⟩ := mul_bd (a := y) (b := p) (A := 50000) (B := 100) (by omega) (by omega) (by omega) (by omega)
  go_enter Try.func49, Try.ntmps49
  go_wp2
  go_ret
  exact ⟨rfl, rfl⟩
theorem maxZ_zero_lt {a : Int} (h : a < 0) : maxZ 0 a = 0 := if_pos h
theorem maxZ_zero_ge {a : Int} (h : ¬ a < 0) : maxZ 0 a = a := if_neg h
theorem less1_any (y p : Int) (g : Nat) (w : World) (hg : w.cell? ⟨g, 0, none⟩ = some (.int .i64 p)) (y0 : 0 ≤ y) (y1 : y ≤ 50000) (p0 : 0 ≤ p) (p1 : p ≤ 50000) : Calls Try.prog 53 #[.int .i64 y, .pointer (some ⟨g, 0, none⟩)] w fun e w' => e = .returned (.int .i64 (maxZ 0 (y - p))) ∧ w = w' := by
  by_cases h : y - p < 0
  · have E := Lib.hid (maxZ_zero_lt h)
    go_enter Try.func53, Try.ntmps53
    go_wp2
    go_ret
    exact ⟨ret_int (by rw [E.out]; try (simp; omega)), rfl⟩
  · have E := Lib.hid (maxZ_zero_ge h)
    go_enter Try.func53, Try.ntmps53
    go_wp2
    go_ret
    exact ⟨ret_int (by rw [E.out]; try (simp; omega)), rfl⟩
set_option maxRecDepth 100000 in
set_option maxHeartbeats 4000000 in
theorem with_reduce (A : Option Addr) (n c : Nat) (L : List (Int × Int)) (p : Int) (g : Nat) (w : World) (h : Steps w w.heap.size A n L) (hn : n ≤ maxLen) (hc : chartB L = true) (hp : inB p 1 100 = true) (hg : w.cell? ⟨g, 0, none⟩ = some (.int .i64 p)) (hgl : g < w.heap.size) :
    Calls Try.prog 48 #[.slice A n c, .func (.func 49) #[] #[.pointer (some ⟨g, 0, none⟩)]] w fun e w' => ∃ v, e = .returned v ∧ w'.ownsRow w.heap.size 44 2 v n (pairs (reduceL p L)) ∧ Below w.heap.size w w' := by
  obtain ⟨i0, hi0, hz0, hz1, hz2⟩ := info_parts infoStep
  have hl := chart_len hc
  rw [h.1] at hl
  have H1 := Lib.hid h
  have HC := Lib.hid hc
  have HG := Lib.hid hg
  have HL := Lib.hid h.1
  obtain ⟨p0, p1⟩ := inB_of hp
  clear h hc hn hg
  go_enter Try.func48, Try.ntmps48
  go_wp2
  go_loopw [5, 7, 10] (fun v _ i wr => ∃ k : Nat, k ≤ n ∧ i = .int .i64 k ∧ Below w.heap.size w wr ∧ Hid (wr.ownsRow w.heap.size 44 2 v k (pairs ((reduceL p L).take k)))) (fun _ _ i _ => n - (intOf i).toNat)
  case atStart => exact ⟨0, Nat.zero_le _, rfl, Below.refl _ _, by show World.ownsRow _ _ _ _ _ _ _; simpa [pairs] using World.ownsRow_nil _ _ _ _⟩
  case round =>
    obtain ⟨k, hk, rfl, HB, HO⟩ := hrel
    by_cases hlt : k < n
    · obtain ⟨b, o, x, y, rfl, hbb, hx, hc1, hc2⟩ := (H1.out.below HB).at_ hlt
      have bk := chart_at HC.out hx
      have E := Lib.hid (map_step (f := fun s => (s.1, s.2 * p / 100)) hx)
      clear hx
      have i1 : (0 : Int) ≤ (k : Int) := Int.natCast_nonneg _
      have i2 : (k : Int) < (n : Int) := by omega
      have ne1 : u5.ownBlock ≠ some wr.heap.size := fun e => by have := (HO.out.lt _ e).2; omega
      have ne2 : u5.ownBlock ≠ some g := fun e => by have := (HO.out.lt g e).1; omega
      have hg2 : wr.cell? ⟨g, 0, none⟩ = some (.int .i64 p) := (HB.cell (p := ⟨g, 0, none⟩) hgl).trans HG.out
      have lg : g < wr.heap.size := by have := HB.size; omega
      have lb : b < wr.heap.size := by have := HB.size; omega
      have nb1 : (k + 1) * 16 ≤ 140737488355328 := by omega
      have nm : k + 1 ≤ maxLen := by unfold maxLen; omega
      have z2 := HB.size
      have hown := HO.out.alloc (.cells #[.int .i64 x, .int .i64 y] 44)
      go_wp2_with fail
      go_region_held3 (fun w' => w'.cell? ⟨wr.heap.size, 0, none⟩ = some (.int .i64 x) ∧ w'.cell? ⟨wr.heap.size, 1, none⟩ = some (.int .i64 y) ∧ w'.cell? ⟨g, 0, none⟩ = some (.int .i64 p))
        (first
          | go_keep
          | (go_split_ands
             refine ⟨?_, ?_, ?_⟩
             · (rw [hgrow.cell_far _ (by simp; omega) (Ne.symm ne1)]; assumption)
             · (rw [hgrow.cell_far _ (by simp; omega) (Ne.symm ne1)]; assumption)
             · (rw [hgrow.cell_far _ (by simp; omega) (Ne.symm ne2)]; assumption)))
        (first | (go_at_call 49; refine (reduce1_any _ p _ _ ?_ (by omega) (by omega) (by omega) (by omega)).mono ?_; (simp [*]); rintro e w' ⟨rfl, rfl⟩) | (refine step_append_lies _ (by rfl) _ _ _ (by rfl) w.heap.size 44 i0 _ 2 16 Try.underlying25 hi0 hz0 hz1 hz2 rfl (by omega) u5 k _ (by rfl) ((hown.alloc _).drew) ⟨(wr.heap.size + 1), 0, none⟩ 1 1 [.int .i64 x, .int .i64 (y * p / 100)] (by rfl) (by rfl) (World.news_of_block (cs := #[.int .i64 x, .int .i64 (y * p / 100)]) (t := 44) (fr := (0, 0)) (Blk.new2 wr (.cells #[.int .i64 x, .int .i64 y] 44) 44 #[.int .i64 x, .int .i64 (y * p / 100)])) (by simp [Value.oneCell']) (by omega) nm nb1 (by simp; omega) ((wr.heap.size + 1) + 1) (by simp) ?_; intro gg cap w3 hown1 hgrow hat hlt3))
      have HB3 : Below w.heap.size w w3 := (((HB.alloc z2 _).alloc (by simp; omega) _).drew).grown hgrow (by simp; omega) (fun j hj => (HO.out.lt j hj).1)
      have HO3 : Hid (w3.ownsRow w.heap.size 44 2 (.slice (some ⟨gg, 0, none⟩) (k + 1) cap) (k + 1) (pairs ((reduceL p L).take (k + 1)))) := by
        show World.ownsRow _ _ _ _ _ _ _
        have h3 := hown1
        unfold reduceL at h3 ⊢
        rw [E.out] at h3
        exact h3
      clear hown hown1 hgrow hc1 hc2 ne1 ne2 hg2 hat
      go_wp2
      exact ⟨⟨k + 1, by omega, by go_num, HB3, HO3⟩, by simp [intOf]; omega⟩
    · obtain rfl : k = n := by omega
      have hln : (reduceL p L).length = k := by unfold reduceL; rw [List.length_map]; exact HL.out
      go_wp2
      go_ret
      exact ⟨_, rfl, by have := HO.out; rwa [List.take_of_length_le (by omega)] at this, HB⟩
set_option maxRecDepth 100000 in
set_option maxHeartbeats 4000000 in
theorem with_less (A : Option Addr) (n c : Nat) (L : List (Int × Int)) (p : Int) (g : Nat) (w : World) (h : Steps w w.heap.size A n L) (hn : n ≤ maxLen) (hc : chartB L = true) (hp : inB p 0 50000 = true) (hg : w.cell? ⟨g, 0, none⟩ = some (.int .i64 p)) (hgl : g < w.heap.size) :
    Calls Try.prog 48 #[.slice A n c, .func (.func 53) #[] #[.pointer (some ⟨g, 0, none⟩)]] w fun e w' => ∃ v, e = .returned v ∧ w'.ownsRow w.heap.size 44 2 v n (pairs (lessL p L)) ∧ Below w.heap.size w w' := by
  obtain ⟨i0, hi0, hz0, hz1, hz2⟩ := info_parts infoStep
  have hl := chart_len hc
  rw [h.1] at hl
  have H1 := Lib.hid h
  have HC := Lib.hid hc
  have HG := Lib.hid hg
  have HL := Lib.hid h.1
  obtain ⟨p0, p1⟩ := inB_of hp
  clear h hc hn hg
  go_enter Try.func48, Try.ntmps48
  go_wp2
  go_loopw [5, 7, 10] (fun v _ i wr => ∃ k : Nat, k ≤ n ∧ i = .int .i64 k ∧ Below w.heap.size w wr ∧ Hid (wr.ownsRow w.heap.size 44 2 v k (pairs ((lessL p L).take k)))) (fun _ _ i _ => n - (intOf i).toNat)
  case atStart => exact ⟨0, Nat.zero_le _, rfl, Below.refl _ _, by show World.ownsRow _ _ _ _ _ _ _; simpa [pairs] using World.ownsRow_nil _ _ _ _⟩
  case round =>
    obtain ⟨k, hk, rfl, HB, HO⟩ := hrel
    by_cases hlt : k < n
    · obtain ⟨b, o, x, y, rfl, hbb, hx, hc1, hc2⟩ := (H1.out.below HB).at_ hlt
      have bk := chart_at HC.out hx
      have E := Lib.hid (map_step (f := fun s => (s.1, maxZ 0 (s.2 - p))) hx)
      clear hx
      have i1 : (0 : Int) ≤ (k : Int) := Int.natCast_nonneg _
      have i2 : (k : Int) < (n : Int) := by omega
      have ne1 : u5.ownBlock ≠ some wr.heap.size := fun e => by have := (HO.out.lt _ e).2; omega
      have ne2 : u5.ownBlock ≠ some g := fun e => by have := (HO.out.lt g e).1; omega
      have hg2 : wr.cell? ⟨g, 0, none⟩ = some (.int .i64 p) := (HB.cell (p := ⟨g, 0, none⟩) hgl).trans HG.out
      have lg : g < wr.heap.size := by have := HB.size; omega
      have lb : b < wr.heap.size := by have := HB.size; omega
      have nb1 : (k + 1) * 16 ≤ 140737488355328 := by omega
      have nm : k + 1 ≤ maxLen := by unfold maxLen; omega
      have z2 := HB.size
      have hown := HO.out.alloc (.cells #[.int .i64 x, .int .i64 y] 44)
      go_wp2_with fail
      go_region_held3 (fun w' => w'.cell? ⟨wr.heap.size, 0, none⟩ = some (.int .i64 x) ∧ w'.cell? ⟨wr.heap.size, 1, none⟩ = some (.int .i64 y) ∧ w'.cell? ⟨g, 0, none⟩ = some (.int .i64 p))
        (first
          | go_keep
          | (go_split_ands
             refine ⟨?_, ?_, ?_⟩
             · (rw [hgrow.cell_far _ (by simp; omega) (Ne.symm ne1)]; assumption)
             · (rw [hgrow.cell_far _ (by simp; omega) (Ne.symm ne1)]; assumption)
             · (rw [hgrow.cell_far _ (by simp; omega) (Ne.symm ne2)]; assumption)))
        (first | (go_at_call 53; refine (less1_any _ p _ _ ?_ (by omega) (by omega) (by omega) (by omega)).mono ?_; (simp [*]); rintro e w' ⟨rfl, rfl⟩) | (refine step_append_lies _ (by rfl) _ _ _ (by rfl) w.heap.size 44 i0 _ 2 16 Try.underlying25 hi0 hz0 hz1 hz2 rfl (by omega) u5 k _ (by rfl) ((hown.alloc _).drew) ⟨(wr.heap.size + 1), 0, none⟩ 1 1 [.int .i64 x, .int .i64 (maxZ 0 (y - p))] (by rfl) (by rfl) (World.news_of_block (cs := #[.int .i64 x, .int .i64 (maxZ 0 (y - p))]) (t := 44) (fr := (0, 0)) (Blk.new2 wr (.cells #[.int .i64 x, .int .i64 y] 44) 44 #[.int .i64 x, .int .i64 (maxZ 0 (y - p))])) (by simp [Value.oneCell']) (by omega) nm nb1 (by simp; omega) ((wr.heap.size + 1) + 1) (by simp) ?_; intro gg cap w3 hown1 hgrow hat hlt3))
      have HB3 : Below w.heap.size w w3 := (((HB.alloc z2 _).alloc (by simp; omega) _).drew).grown hgrow (by simp; omega) (fun j hj => (HO.out.lt j hj).1)
      have HO3 : Hid (w3.ownsRow w.heap.size 44 2 (.slice (some ⟨gg, 0, none⟩) (k + 1) cap) (k + 1) (pairs ((lessL p L).take (k + 1)))) := by
        show World.ownsRow _ _ _ _ _ _ _
        have h3 := hown1
        unfold lessL at h3 ⊢
        rw [E.out] at h3
        exact h3
      clear hown hown1 hgrow hc1 hc2 ne1 ne2 hg2 hat
      go_wp2
      exact ⟨⟨k + 1, by omega, by go_num, HB3, HO3⟩, by simp [intOf]; omega⟩
    · obtain rfl : k = n := by omega
      have hln : (lessL p L).length = k := by unfold lessL; rw [List.length_map]; exact HL.out
      go_wp2
      go_ret
      exact ⟨_, rfl, by have := HO.out; rwa [List.take_of_length_le (by omega)] at this, HB⟩
end Go.Proofs.Ytiaineljcmjfoaa
