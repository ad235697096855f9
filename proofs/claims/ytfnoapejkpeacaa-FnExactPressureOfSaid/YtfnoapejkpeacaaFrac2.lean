/- The same two functions over wider numbers; a fraction does not turn when both are multiplied. -/
import Derived.Test.YtfnoapejkpeacaaProg
import Derived.Test.YtfnoapejkpeacaaKit
import Derived.Test.YtfnoapejkpeacaaBasics
import Derived.Test.YtfnoapejkpeacaaCodeRes
import Derived.Test.YtfnoapejkpeacaaBaseLaws
import Derived.Test.YtfnoapejkpeacaaMem
import Derived.Test.YtfnoapejkpeacaaTail
import Derived.Test.YtfnoapejkpeacaaFrac
import Derived.IntWalk
import Derived.BigQuiet
namespace Go.Proofs.Ytfnoapejkpeacaa
open Go.RowKit Go.WideShapes Go.ChangeShapes Go.Joins Go.Deep Go.Sort
set_option linter.unusedVariables false
set_option linter.unusedSimpArgs false
theorem abs_big (n : Int) (w : World) (n1 : -1000000000000000 ≤ n) (n2 : n ≤ 1000000000000000) : Calls Try.prog 49 #[.int .i64 n] w fun e w' => e = .returned (.int .i64 (absZ n)) ∧ w = w' := by
  by_cases h : 0 ≤ n
  · have E := Lib.hid (absZ_nonneg h)
    go_enter Try.func49, Try.ntmps49
    go_wp2
    go_ret
    exact ⟨ret_int (by rw [E.out]), rfl⟩
  · have E := Lib.hid (absZ_neg h)
    go_enter Try.func49, Try.ntmps49
    go_wp2
    go_ret
    exact ⟨ret_int (by rw [E.out]), rfl⟩
theorem size_big (n : Int) (w : World) (n1 : -1000000000000000 ≤ n) (n2 : n ≤ 1000000000000000) : Calls Try.prog 48 #[.int .i64 n] w fun e w' => e = .returned (.int .i64 (absZ n)) ∧ w = w' := by
  by_cases h : 0 ≤ n
  · have E := Lib.hid (absZ_nonneg h)
    go_enter Try.func48, Try.ntmps48
    go_wp2_with (first | (go_at_call 64; refine (l00Max_any _ _ _).mono ?_; rintro e w' ⟨rfl, rfl⟩))
    go_ret
    exact ⟨ret_int (by rw [maxZ_abs]), rfl⟩
  · have E := Lib.hid (absZ_neg h)
    go_enter Try.func48, Try.ntmps48
    go_wp2_with (first | (go_at_call 64; refine (l00Max_any _ _ _).mono ?_; rintro e w' ⟨rfl, rfl⟩))
    go_ret
    exact ⟨ret_int (by rw [maxZ_abs]), rfl⟩
set_option maxHeartbeats 1000000 in
theorem reduced_big (n d : Int) (w : World) (n0 : -1000000000000000 ≤ n) (n1 : n ≤ 1000000000000000) (d0 : 0 < d) (d1 : d ≤ 1000000000000000) : Calls Try.prog 47 #[.int .i64 n, .int .i64 d] w fun e w' => e = .returned (.agg #[.int .i64 (numZ n d), .int .i64 (denZ n d)]) ∧ Below w.heap.size w w' := by
  obtain ⟨G, hG⟩ : ∃ G, gcdZ n d = G := ⟨_, rfl⟩
  have g0 := gcdZ_pos n d0
  have g1 := gcdZ_le n d0
  unfold numZ denZ
  rw [hG] at g0 g1 ⊢
  rw [← gcdZ_abs] at hG
  have HG := Lib.hid hG
  have z0 : 0 ≤ absZ n ∧ absZ n ≤ 1000000000000000 := by unfold absZ; split <;> omega
  obtain ⟨z0, z1⟩ := z0
  clear hG
  go_enter Try.func47, Try.ntmps47
  go_wp2_with (first | (go_at_call 49; refine (abs_big _ _ (by omega) (by omega)).mono ?_; rintro e w' ⟨rfl, rfl⟩))
  go_loopw [5, 6] (fun u v wr => ∃ x y : Int, u = .int .i64 x ∧ v = .int .i64 y ∧ 0 ≤ x ∧ x ≤ 1000000000000000 ∧ 0 ≤ y ∧ y ≤ 1000000000000000 ∧ Below (w.heap.size + 1) (w.alloc (.cells #[.int .i64 0, .int .i64 0] 35)) wr ∧ Hid (gcdZ x y = G)) (fun _ v _ => (intOf v).toNat)
  case atStart => exact ⟨absZ n, d, rfl, rfl, by omega, by omega, by omega, by omega, Below.refl _ _, HG⟩
  case round =>
    obtain ⟨x, y, rfl, rfl, x0, x1, y0, y1, HB, HE⟩ := hrel
    by_cases hy : y = 0
    · have E : Hid (x = G) := by show x = G; rw [← HE.out, hy, gcdZ_zero x0]
      subst hy
      obtain rfl : x = G := E.out
      have KR : Blk wr w.heap.size 35 #[.int .i64 0, .int .i64 0] := (Blk.new w _ _).below HB (Nat.lt_succ_self _)
      obtain ⟨f0, f1⟩ := KR.two
      have fz0 := KR.frozen 0
      have fz1 := KR.frozen 1
      have hx : x ≠ 0 := by omega
      have hd : 0 ≤ d := by omega
      go_wp2
      go_region
      have hu : (Value.agg #[.int .i64 (n.tdiv x), .int .i64 (d / x)]) = .agg #[.int .i64 (n.tdiv x), .int .i64 (d / x)] := rfl
      have K2 : Blk ((wr.setCell { block := w.heap.size, off := 0 } (Value.int IntKind.i64 (n.tdiv x))).setCell { block := w.heap.size, off := 1 } (Value.int IntKind.i64 (d / x))).drew w.heap.size 35 #[.int .i64 (n.tdiv x), .int .i64 (d / x)] := (KR.set_ 0 _).set_ 1 _
      have B2 : Below w.heap.size w ((wr.setCell { block := w.heap.size, off := 0 } (Value.int IntKind.i64 (n.tdiv x))).setCell { block := w.heap.size, off := 1 } (Value.int IntKind.i64 (d / x))).drew := ((((below_alloc1 w _).trans (HB.mono (Nat.le_succ _))).setCell (p := ⟨w.heap.size, 0, none⟩) (Nat.le_refl _) _).setCell (p := ⟨w.heap.size, 1, none⟩) (Nat.le_refl _) _).drew
      have HK := Lib.hid K2
      have HB2 := Lib.hid B2
      clear K2 B2 hu
      go_wp2
      obtain ⟨h0, h1⟩ := HK.out.two
      exact bodyPost_ret (v := .agg #[.int .i64 (n.tdiv x), .int .i64 (d / x)]) (by simp [results, Try.results47, go_sem, h0, h1]) rfl ⟨rfl, HB2.out⟩
    · obtain ⟨ht, m0, m1⟩ := rem_facts x0 (y := y) (by omega)
      have E : Hid (gcdZ y (x % y) = G) := by show _ = G; rw [gcdZ_step x0 y0]; exact HE.out
      have hy' : y ≠ 0 := hy
      have hy2 : 0 < y := by omega
      clear ht
      go_wp2
      go_quiet (fail)
      go_wp2
      exact ⟨⟨y, x % y, rfl, rfl, by omega, by omega, by omega, by omega, (by first | exact HB.drew | exact below_drewN HB _), E⟩, by simp [intOf] <;> omega⟩
set_option maxHeartbeats 1000000 in
theorem l06Make_big (n d : Int) (w : World) (n0 : -1000000000000000 ≤ n) (n1 : n ≤ 1000000000000000) (d0 : 0 < d) (d1 : d ≤ 1000000000000000) : Calls Try.prog 46 #[.int .i64 n, .int .i64 d] w fun e w' => e = .returned (.agg #[.int .i64 (numZ n d), .int .i64 (denZ n d)]) ∧ Below w.heap.size w w' := by
  have z0 : 0 ≤ absZ n ∧ absZ n ≤ 1000000000000000 := by unfold absZ; split <;> omega
  obtain ⟨z0, z1⟩ := z0
  have g0 := gcdZ_pos n d0
  have g1 := gcdZ_le n d0
  have CG : ∀ w, Calls Try.prog 53 #[.int .i64 (absZ n), .int .i64 d] w fun e w' => e = .returned (.int .i64 (gcdZ n d)) ∧ Below w.heap.size w w' := fun w => by rw [← gcdZ_abs]; exact l06Gcd_any _ _ w (by omega) (by omega) (by omega) (by omega)
  unfold numZ denZ
  obtain ⟨x, hG⟩ : ∃ x, gcdZ n d = x := ⟨_, rfl⟩
  rw [hG] at g0 g1 ⊢
  rw [hG] at CG
  have HG := Lib.hid CG
  have hx : x ≠ 0 := by omega
  have hd : 0 ≤ d := by omega
  clear hG CG
  go_enter Try.func46, Try.ntmps46
  go_wp2_with (first | (go_at_call 48; refine (size_big _ _ (by omega) (by omega)).mono ?_; rintro e w' ⟨rfl, rfl⟩))
  refine (HG.out _).mono ?_
  rintro e wr ⟨rfl, hb⟩
  have KR : Blk wr w.heap.size 35 #[.int .i64 0, .int .i64 0] := (Blk.new w _ _).on hb
  have HB := (below_alloc1 w (.cells #[.int .i64 0, .int .i64 0] 35)).trans (hb.mono (below_alloc1 w _).size)
  clear hb
  obtain ⟨f0, f1⟩ := KR.two
  have fz0 := KR.frozen 0
  have fz1 := KR.frozen 1
  go_wp2
  go_region
  have K2 : Blk ((wr.setCell { block := w.heap.size, off := 0 } (Value.int IntKind.i64 (n.tdiv x))).setCell { block := w.heap.size, off := 1 } (Value.int IntKind.i64 (d / x))).drew w.heap.size 35 #[.int .i64 (n.tdiv x), .int .i64 (d / x)] := (KR.set_ 0 _).set_ 1 _
  have B2 : Below w.heap.size w ((wr.setCell { block := w.heap.size, off := 0 } (Value.int IntKind.i64 (n.tdiv x))).setCell { block := w.heap.size, off := 1 } (Value.int IntKind.i64 (d / x))).drew := ((HB.setCell (p := ⟨w.heap.size, 0, none⟩) (Nat.le_refl _) _).setCell (p := ⟨w.heap.size, 1, none⟩) (Nat.le_refl _) _).drew
  have HK := Lib.hid K2
  have HB2 := Lib.hid B2
  clear K2 B2
  go_wp2
  obtain ⟨h0, h1⟩ := HK.out.two
  exact bodyPost_ret (v := .agg #[.int .i64 (n.tdiv x), .int .i64 (d / x)]) (by simp [results, Try.results46, go_sem, h0, h1]) rfl ⟨rfl, HB2.out⟩
theorem z_pos_of_mul_pos_left {a b : Int} (h : 0 < a * b) (ha : 0 < a) : 0 < b := by
  rcases Int.lt_or_le 0 b with hb | hb
  · exact hb
  · have := Int.mul_nonpos_of_nonneg_of_nonpos (Int.le_of_lt ha) hb; omega
theorem z_nonneg_of_mul_nonneg_left {a b : Int} (h : 0 ≤ a * b) (ha : 0 < a) : 0 ≤ b := by
  rcases Int.lt_or_le b 0 with hb | hb
  · have := Int.mul_neg_of_pos_of_neg ha hb; omega
  · exact hb
theorem z_le_mul_of_nonneg_left' {a b : Int} (hb : 0 ≤ b) (ha : 0 < a) : b ≤ a * b := by
  have := Int.mul_le_mul_of_nonneg_right (show 1 ≤ a from ha) hb
  omega
theorem z_le_mul_of_pos_left' {a b : Int} (hb : 0 < b) (ha : 0 < a) : b ≤ a * b := z_le_mul_of_nonneg_left' (Int.le_of_lt hb) ha
theorem gcdZ_scale {g : Int} (h : 0 < g) (a b : Int) : gcdZ (g * a) (g * b) = g * gcdZ a b := by
  unfold gcdZ
  rw [Int.gcd_mul_left, Int.natCast_mul]
  congr 1
  omega
theorem numZ_scale {g : Int} (h : 0 < g) (a b : Int) : numZ (g * a) (g * b) = numZ a b := by
  unfold numZ; rw [gcdZ_scale h, Int.mul_tdiv_mul_of_pos _ _ h]
theorem denZ_scale {g : Int} (h : 0 < g) (a b : Int) : denZ (g * a) (g * b) = denZ a b := by
  unfold denZ; rw [gcdZ_scale h, Int.mul_ediv_mul_of_pos _ _ h]
/-- the two forms of the last fraction -/
theorem press_forms {W m s : Int} (w0 : 0 < W) (m0 : 0 ≤ m) (s0 : 0 < s) (h : 2 * m < s * W) : ∃ g t q : Int, gcdZ m W = g ∧ W / g = t ∧ m / g = q ∧ 0 < g ∧ g ≤ W ∧ 0 < t ∧ t ≤ W ∧ 0 ≤ q ∧ q ≤ m ∧ 0 < t * s - 2 * q ∧ t * s - 2 * q ≤ s * W - 2 * m ∧
    numZ (4 * W * W) (3 * s * (s * W - 2 * m)) = numZ (4 * W * t) (3 * s * (t * s - 2 * q)) ∧ denZ (4 * W * W) (3 * s * (s * W - 2 * m)) = denZ (4 * W * t) (3 * s * (t * s - 2 * q)) := by
  have g0 := gcdZ_pos m w0
  have g1 := gcdZ_le m w0
  have d1 : gcdZ m W ∣ m := Int.gcd_dvd_left ..
  have d2 : gcdZ m W ∣ W := Int.gcd_dvd_right ..
  refine ⟨gcdZ m W, W / gcdZ m W, m / gcdZ m W, rfl, rfl, rfl, g0, g1, ?_⟩
  obtain ⟨g, hg⟩ : ∃ g, gcdZ m W = g := ⟨_, rfl⟩
  rw [hg] at g0 g1 d1 d2 ⊢
  obtain ⟨q, hq⟩ := d1
  obtain ⟨t, ht⟩ := d2
  have e1 : m / g = q := by rw [hq]; exact Int.mul_ediv_cancel_left _ (by omega)
  have e2 : W / g = t := by rw [ht]; exact Int.mul_ediv_cancel_left _ (by omega)
  rw [e1, e2]
  have t0 : 0 < t := z_pos_of_mul_pos_left (by rw [← ht]; exact w0) g0
  have q0 : 0 ≤ q := z_nonneg_of_mul_nonneg_left (by rw [← hq]; exact m0) g0
  have t1 : t ≤ W := by rw [ht]; exact z_le_mul_of_pos_left' t0 g0
  have q1 : q ≤ m := by rw [hq]; exact z_le_mul_of_nonneg_left' q0 g0
  have f : s * W - 2 * m = g * (t * s - 2 * q) := by
    rw [ht, hq, Int.mul_sub]
    congr 1 <;> ac_rfl
  have l0 : 0 < t * s - 2 * q := z_pos_of_mul_pos_left (by rw [← f]; omega) g0
  refine ⟨t0, t1, q0, q1, l0, by rw [f]; exact z_le_mul_of_pos_left' l0 g0, ?_, ?_⟩
  · rw [f, show 4 * W * W = g * (4 * W * t) by conv => lhs; rhs; rw [ht]
                                               ac_rfl, show 3 * s * (g * (t * s - 2 * q)) = g * (3 * s * (t * s - 2 * q)) by ac_rfl, numZ_scale g0]
  · rw [f, show 4 * W * W = g * (4 * W * t) by conv => lhs; rhs; rw [ht]
                                               ac_rfl, show 3 * s * (g * (t * s - 2 * q)) = g * (3 * s * (t * s - 2 * q)) by ac_rfl, denZ_scale g0]
end Go.Proofs.Ytfnoapejkpeacaa
