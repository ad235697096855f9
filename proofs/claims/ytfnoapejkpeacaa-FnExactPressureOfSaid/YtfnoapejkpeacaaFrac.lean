/- Fractions in lowest terms: the greatest common divisor, the two functions that reduce. -/
import Derived.Test.YtfnoapejkpeacaaProg
import Derived.Test.YtfnoapejkpeacaaKit
import Derived.Test.YtfnoapejkpeacaaBasics
import Derived.Test.YtfnoapejkpeacaaCodeRes
import Derived.Test.YtfnoapejkpeacaaBaseLaws
import Derived.Test.YtfnoapejkpeacaaMem
import Derived.Test.YtfnoapejkpeacaaTail
import Derived.IntWalk
import Derived.BigQuiet
namespace Go.Proofs.Ytfnoapejkpeacaa
open Go.RowKit Go.WideShapes Go.ChangeShapes Go.Joins Go.Deep Go.Sort
set_option linter.unusedVariables false
set_option linter.unusedSimpArgs false
def gcdZ (a b : Int) : Int := (Int.gcd a b : Int)
theorem gcdZ_step {x y : Int} (x0 : 0 ≤ x) (y0 : 0 ≤ y) : gcdZ y (x % y) = gcdZ x y := by
  obtain ⟨m, rfl⟩ := Int.eq_ofNat_of_zero_le x0
  obtain ⟨n, rfl⟩ := Int.eq_ofNat_of_zero_le y0
  unfold gcdZ
  rw [← Int.natCast_emod]
  show ((Nat.gcd n (m % n) : Nat) : Int) = (Nat.gcd m n : Nat)
  rw [Nat.gcd_comm m n, Nat.gcd_rec n m, Nat.gcd_comm]
theorem gcdZ_zero {x : Int} (x0 : 0 ≤ x) : gcdZ x 0 = x := by unfold gcdZ; simp; omega
theorem gcdZ_abs (x y : Int) : gcdZ (absZ x) y = gcdZ x y := by
  unfold gcdZ absZ
  split
  · rfl
  · rw [Int.neg_gcd]
theorem gcdZ_pos (x : Int) {y : Int} (h : 0 < y) : 0 < gcdZ x y := by
  unfold gcdZ
  have := Int.gcd_pos_of_ne_zero_right x (b := y) (by omega)
  omega
theorem gcdZ_le (x : Int) {y : Int} (h : 0 < y) : gcdZ x y ≤ y := by
  unfold gcdZ
  have := Int.gcd_le_natAbs_right x (b := y) (by omega)
  omega
/-- the reduced fraction -/
def numZ (n d : Int) : Int := n.tdiv (gcdZ n d)
def denZ (n d : Int) : Int := d / gcdZ n d
theorem rem_facts {x y : Int} (x0 : 0 ≤ x) (y0 : 0 < y) : x.tmod y = x % y ∧ 0 ≤ x % y ∧ x % y < y := ⟨Int.tmod_eq_emod_of_nonneg x0, Int.emod_nonneg _ (by omega), Int.emod_lt_of_pos _ y0⟩
set_option maxHeartbeats 1000000 in
theorem l06Gcd_any (a b : Int) (w : World) (a0 : 0 ≤ a) (a1 : a ≤ 1000000000000000) (b0 : 0 ≤ b) (b1 : b ≤ 1000000000000000) : Calls Try.prog 53 #[.int .i64 a, .int .i64 b] w fun e w' => e = .returned (.int .i64 (gcdZ a b)) ∧ Below w.heap.size w w' := by
  obtain ⟨G, hG⟩ : ∃ G, gcdZ a b = G := ⟨_, rfl⟩
  rw [hG]
  have HG := Lib.hid hG
  clear hG
  go_enter Try.func53, Try.ntmps53
  go_wp2_with fail
  go_loopw [0, 1] (fun u v wr => ∃ x y : Int, u = .int .i64 x ∧ v = .int .i64 y ∧ 0 ≤ x ∧ x ≤ 1000000000000000 ∧ 0 ≤ y ∧ y ≤ 1000000000000000 ∧ Below w.heap.size w wr ∧ Hid (gcdZ x y = G)) (fun _ v _ => (intOf v).toNat)
  case atStart => exact ⟨a, b, rfl, rfl, a0, a1, b0, b1, Below.refl _ _, HG⟩
  case round =>
    obtain ⟨x, y, rfl, rfl, x0, x1, y0, y1, HB, HE⟩ := hrel
    by_cases hy : y = 0
    · subst hy
      have E : Hid (x = G) := by show x = G; rw [← HE.out, gcdZ_zero x0]
      go_wp2
      go_ret
      exact ⟨ret_int E.out, HB⟩
    · obtain ⟨ht, m0, m1⟩ := rem_facts x0 (y := y) (by omega)
      have E : Hid (gcdZ y (x % y) = G) := by show _ = G; rw [gcdZ_step x0 y0]; exact HE.out
      have hy' : y ≠ 0 := hy
      clear ht
      go_wp2
      go_quiet (fail)
      go_wp2
      exact ⟨⟨y, x % y, rfl, rfl, by omega, by omega, by omega, by omega, (by first | exact HB.drew | exact below_drewN HB _), E⟩, by simp [intOf] <;> omega⟩
set_option maxHeartbeats 1000000 in
theorem reduced_any (n d : Int) (w : World) (n0 : -1000000000000 ≤ n) (n1 : n ≤ 1000000000000) (d0 : 0 < d) (d1 : d ≤ 1000000000000000) : Calls Try.prog 47 #[.int .i64 n, .int .i64 d] w fun e w' => e = .returned (.agg #[.int .i64 (numZ n d), .int .i64 (denZ n d)]) ∧ Below w.heap.size w w' := by
  obtain ⟨G, hG⟩ : ∃ G, gcdZ n d = G := ⟨_, rfl⟩
  have g0 := gcdZ_pos n d0
  have g1 := gcdZ_le n d0
  unfold numZ denZ
  rw [hG] at g0 g1 ⊢
  rw [← gcdZ_abs] at hG
  have HG := Lib.hid hG
  have z0 : 0 ≤ absZ n ∧ absZ n ≤ 1000000000000 := by unfold absZ; split <;> omega
  obtain ⟨z0, z1⟩ := z0
  clear hG
  go_enter Try.func47, Try.ntmps47
  go_wp2_with (first | (go_at_call 49; refine (abs_any _ _ (by omega) (by omega)).mono ?_; rintro e w' ⟨rfl, rfl⟩))
  go_loopw [5, 6] (fun u v wr => ∃ x y : Int, u = .int .i64 x ∧ v = .int .i64 y ∧ 0 ≤ x ∧ x ≤ 1000000000000000 ∧ 0 ≤ y ∧ y ≤ 1000000000000000 ∧ Below (w.heap.size + 1) (w.alloc (.cells #[.int .i64 0, .int .i64 0] 35)) wr ∧ Hid (gcdZ x y = G)) (fun _ v _ => (intOf v).toNat)
  case atStart => exact ⟨absZ n, d, rfl, rfl, by omega, by omega, by omega, by omega, Below.refl _ _, HG⟩
  case round =>
    obtain ⟨x, y, rfl, rfl, x0, x1, y0, y1, HB, HE⟩ := hrel
    by_cases hy : y = 0
    · have E : Hid (x = G) := by show x = G; rw [← HE.out, hy, gcdZ_zero x0]
      subst hy
      obtain rfl : x = G := E.out
      have KR : Blk wr w.heap.size 35 #[.int .i64 0, .int .i64 0] := (Blk.new w _ _).below HB (Nat.lt_succ_self _)
      obtain ⟨f0, f1⟩ := KR.two
      have fz0 := KR.frozen 0
      have fz1 := KR.frozen 1
      have hx : x ≠ 0 := by omega
      have hd : 0 ≤ d := by omega
      go_wp2
      go_region
      have hu : (Value.agg #[.int .i64 (n.tdiv x), .int .i64 (d / x)]) = .agg #[.int .i64 (n.tdiv x), .int .i64 (d / x)] := rfl
      have K2 : Blk ((wr.setCell { block := w.heap.size, off := 0 } (Value.int IntKind.i64 (n.tdiv x))).setCell { block := w.heap.size, off := 1 } (Value.int IntKind.i64 (d / x))).drew w.heap.size 35 #[.int .i64 (n.tdiv x), .int .i64 (d / x)] := (KR.set_ 0 _).set_ 1 _
      have B2 : Below w.heap.size w ((wr.setCell { block := w.heap.size, off := 0 } (Value.int IntKind.i64 (n.tdiv x))).setCell { block := w.heap.size, off := 1 } (Value.int IntKind.i64 (d / x))).drew := ((((below_alloc1 w _).trans (HB.mono (Nat.le_succ _))).setCell (p := ⟨w.heap.size, 0, none⟩) (Nat.le_refl _) _).setCell (p := ⟨w.heap.size, 1, none⟩) (Nat.le_refl _) _).drew
      have HK := Lib.hid K2
      have HB2 := Lib.hid B2
      clear K2 B2 hu
      go_wp2
      obtain ⟨h0, h1⟩ := HK.out.two
      exact bodyPost_ret (v := .agg #[.int .i64 (n.tdiv x), .int .i64 (d / x)]) (by simp [results, Try.results47, go_sem, h0, h1]) rfl ⟨rfl, HB2.out⟩
    · obtain ⟨ht, m0, m1⟩ := rem_facts x0 (y := y) (by omega)
      have E : Hid (gcdZ y (x % y) = G) := by show _ = G; rw [gcdZ_step x0 y0]; exact HE.out
      have hy' : y ≠ 0 := hy
      have hy2 : 0 < y := by omega
      clear ht
      go_wp2
      go_quiet (fail)
      go_wp2
      exact ⟨⟨y, x % y, rfl, rfl, by omega, by omega, by omega, by omega, (by first | exact HB.drew | exact below_drewN HB _), E⟩, by simp [intOf] <;> omega⟩
set_option maxHeartbeats 1000000 in
theorem l06Make_any (n d : Int) (w : World) (n0 : -1000000000000 ≤ n) (n1 : n ≤ 1000000000000) (d0 : 0 < d) (d1 : d ≤ 1000000000000000) : Calls Try.prog 46 #[.int .i64 n, .int .i64 d] w fun e w' => e = .returned (.agg #[.int .i64 (numZ n d), .int .i64 (denZ n d)]) ∧ Below w.heap.size w w' := by
  have z0 : 0 ≤ absZ n ∧ absZ n ≤ 1000000000000 := by unfold absZ; split <;> omega
  obtain ⟨z0, z1⟩ := z0
  have g0 := gcdZ_pos n d0
  have g1 := gcdZ_le n d0
  have CG : ∀ w, Calls Try.prog 53 #[.int .i64 (absZ n), .int .i64 d] w fun e w' => e = .returned (.int .i64 (gcdZ n d)) ∧ Below w.heap.size w w' := fun w => by rw [← gcdZ_abs]; exact l06Gcd_any _ _ w (by omega) (by omega) (by omega) (by omega)
  unfold numZ denZ
  obtain ⟨x, hG⟩ : ∃ x, gcdZ n d = x := ⟨_, rfl⟩
  rw [hG] at g0 g1 ⊢
  rw [hG] at CG
  have HG := Lib.hid CG
  have hx : x ≠ 0 := by omega
  have hd : 0 ≤ d := by omega
  clear hG CG
  go_enter Try.func46, Try.ntmps46
  go_wp2_with (first | (go_at_call 48; refine (l06Size_any _ _ (by omega) (by omega)).mono ?_; rintro e w' ⟨rfl, rfl⟩))
  refine (HG.out _).mono ?_
  rintro e wr ⟨rfl, hb⟩
  have KR : Blk wr w.heap.size 35 #[.int .i64 0, .int .i64 0] := (Blk.new w _ _).on hb
  have HB := (below_alloc1 w (.cells #[.int .i64 0, .int .i64 0] 35)).trans (hb.mono (below_alloc1 w _).size)
  clear hb
  obtain ⟨f0, f1⟩ := KR.two
  have fz0 := KR.frozen 0
  have fz1 := KR.frozen 1
  go_wp2
  go_region
  have K2 : Blk ((wr.setCell { block := w.heap.size, off := 0 } (Value.int IntKind.i64 (n.tdiv x))).setCell { block := w.heap.size, off := 1 } (Value.int IntKind.i64 (d / x))).drew w.heap.size 35 #[.int .i64 (n.tdiv x), .int .i64 (d / x)] := (KR.set_ 0 _).set_ 1 _
  have B2 : Below w.heap.size w ((wr.setCell { block := w.heap.size, off := 0 } (Value.int IntKind.i64 (n.tdiv x))).setCell { block := w.heap.size, off := 1 } (Value.int IntKind.i64 (d / x))).drew := ((HB.setCell (p := ⟨w.heap.size, 0, none⟩) (Nat.le_refl _) _).setCell (p := ⟨w.heap.size, 1, none⟩) (Nat.le_refl _) _).drew
  have HK := Lib.hid K2
  have HB2 := Lib.hid B2
  clear K2 B2
  go_wp2
  obtain ⟨h0, h1⟩ := HK.out.two
  exact bodyPost_ret (v := .agg #[.int .i64 (n.tdiv x), .int .i64 (d / x)]) (by simp [results, Try.results46, go_sem, h0, h1]) rfl ⟨rfl, HB2.out⟩
theorem eqFraction_any (a b : Int) (w : World) : Calls Try.prog 21 #[.agg #[.int .i64 a, .int .i64 b], .agg #[.int .i64 a, .int .i64 b]] w fun e w' => e = .returned (.bool true) ∧ Below w.heap.size w w' := by
  go_enter Try.func21, Try.ntmps21
  go_wp2
  go_ret
  exact ⟨rfl, below_alloc2 w _ _⟩
end Go.Proofs.Ytfnoapejkpeacaa
