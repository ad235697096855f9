/- Charts and their loads: the load at a radius between the steps, the radius for a load, the greatest moment; their laws. -/
import Derived.Test.YtiaineljcmjfoaaProg
import Derived.Test.YtiaineljcmjfoaaKit
import Derived.Test.YtiaineljcmjfoaaBasics
import Derived.Test.YtiaineljcmjfoaaMem
import Derived.Test.YtiaineljcmjfoaaCodeRes
import Derived.Test.YtiaineljcmjfoaaLists
import Derived.Test.YtiaineljcmjfoaaSteps
import Derived.Test.YtiaineljcmjfoaaCharts
import Derived.Test.YtiaineljcmjfoaaChartLaws
import Derived.Test.YtiaineljcmjfoaaFinds
import Derived.Test.YtiaineljcmjfoaaLoads
import Derived.BigRegion
namespace Go.Proofs.Ytiaineljcmjfoaa
open Go.RowKit Go.WideShapes Go.ChangeShapes Go.Joins Go.Deep Go.Sort
set_option linter.unusedVariables false
set_option linter.unusedSimpArgs false

/-! ### the plain laws -/
def ceilZ (n d : Int) : Int := (n + d - 1) / d
def interZ (p q x y r : Int) : Int := q - ceilZ ((q - y) * (r - p)) (x - p)
/-- the load at a radius, or -1 -/
def loadV (L : List (Int × Int)) (r : Int) : Int :=
  if findV L r < 0 then -1 else if findV L r = 0 then (L.getD 0 (0, 0)).2
  else interZ (L.getD ((findV L r).toNat - 1) (0, 0)).1 (L.getD ((findV L r).toNat - 1) (0, 0)).2 (L.getD (findV L r).toNat (0, 0)).1 (L.getD (findV L r).toNat (0, 0)).2 r
theorem getD_of {L : List (Int × Int)} {k : Nat} {s : Int × Int} (h : L[k]? = some s) : L.getD k (0, 0) = s := by rw [List.getD_eq_getElem?_getD, h]; rfl
theorem loadV_none {L : List (Int × Int)} {r : Int} (h : findV L r = -1) : loadV L r = -1 := by unfold loadV; rw [h]; rfl
theorem loadV_first {L : List (Int × Int)} {r x y : Int} (h : findV L r = ((0 : Nat) : Int)) (hk : L[0]? = some (x, y)) : loadV L r = y := by
  unfold loadV; rw [h, if_neg (by decide), if_pos (by simp), getD_of hk]
theorem loadV_inter {L : List (Int × Int)} {r p q x y : Int} {k : Nat} (h : findV L r = (k : Int)) (h0 : 0 < k) (hp : L[k - 1]? = some (p, q)) (hk : L[k]? = some (x, y)) : loadV L r = interZ p q x y r := by
  unfold loadV
  rw [h, if_neg (by omega), if_neg (by omega), Int.toNat_natCast, getD_of hp, getD_of hk]
theorem ceil_bounds {n d a : Int} (n0 : 0 ≤ n) (d0 : 1 ≤ d) (h : n ≤ a * d) : 0 ≤ ceilZ n d ∧ ceilZ n d ≤ a := by
  unfold ceilZ
  refine ⟨Int.ediv_nonneg (by omega) (by omega), ?_⟩
  have : (n + d - 1) / d < a + 1 := Int.ediv_lt_of_lt_mul (by omega) (by rw [Int.add_mul]; omega)
  omega
theorem inter_bounds {p q x y r : Int} (p1 : p < r) (r1 : r ≤ x) (h : y ≤ q) : y ≤ interZ p q x y r ∧ interZ p q x y r ≤ q := by
  have m : (q - y) * (r - p) ≤ (q - y) * (x - p) := Int.mul_le_mul_of_nonneg_left (show r - p ≤ x - p by omega) (show 0 ≤ q - y by omega)
  have n0 := Int.mul_nonneg (a := q - y) (b := r - p) (by omega) (by omega)
  have c := ceil_bounds (a := q - y) n0 (show 1 ≤ x - p by omega) m
  unfold interZ; omega
theorem loadV_bounds {L : List (Int × Int)} (h : chartB L = true) (r : Int) : (loadV L r = -1 ∧ findV L r = -1) ∨ (0 ≤ loadV L r ∧ loadV L r ≤ 50000 ∧ ¬ findV L r < 0) := by
  rcases findV_cases L r with ⟨hf, _⟩ | ⟨k, x, y, hf, hkl, hk, hr, hm⟩
  · exact .inl ⟨loadV_none hf, hf⟩
  · right
    have bk := chart_at h hk
    rcases Nat.eq_zero_or_pos k with h0 | h0
    · subst h0
      rw [loadV_first hf hk, hf]; omega
    · have hkp : k - 1 < L.length := by omega
      have hp : L[k - 1]? = some (L[k - 1].1, L[k - 1].2) := List.getElem?_eq_getElem hkp
      have bp := chart_at h hp
      have lk := chart_link h h0 hp hk
      have := hm (k - 1) _ (by omega) hp
      have := inter_bounds (p := L[k - 1].1) (q := L[k - 1].2) (x := x) (y := y) (r := r) this hr lk.2
      rw [loadV_inter hf h0 hp hk, hf]; omega

theorem ceil_any (n d : Int) (w : World) (n0 : 0 ≤ n) (n1 : n ≤ 1000000000000000) (d0 : 1 ≤ d) (d1 : d ≤ 1000000000000000) : Calls Try.prog 67 #[.int .i64 n, .int .i64 d] w fun e w' => e = .returned (.int .i64 (ceilZ n d)) ∧ w = w' := by
  have q0 : 0 ≤ (n + d - 1) / d := Int.ediv_nonneg (by omega) (by omega)
  have q1 : (n + d - 1) / d ≤ n + d - 1 := Int.ediv_le_self _ (by omega)
  go_enter Try.func67, Try.ntmps67
  go_wp2
  go_ret
  exact ⟨rfl, rfl⟩
theorem l03Up_any (n d : Int) (w : World) (n0 : 0 ≤ n) (n1 : n ≤ 1000000000000000) (d0 : 1 ≤ d) (d1 : d ≤ 1000000000000000) : Calls Try.prog 66 #[.int .i64 n, .int .i64 d] w fun e w' => e = .returned (.int .i64 (ceilZ n d)) ∧ w = w' := by
  have q0 : 0 ≤ (n + d - 1) / d := Int.ediv_nonneg (by omega) (by omega)
  have q1 : (n + d - 1) / d ≤ n + d - 1 := Int.ediv_le_self _ (by omega)
  go_enter Try.func66, Try.ntmps66
  go_wp2
  go_ret
  exact ⟨rfl, rfl⟩

def loadRes (L : List (Int × Int)) (r : Int) : Value := if findV L r < 0 then .tuple #[.int .i64 0, .bool false] else .tuple #[.int .i64 (loadV L r), .bool true]
theorem loadRes_none {L : List (Int × Int)} {r : Int} (h : findV L r = -1) : loadRes L r = .tuple #[.int .i64 0, .bool false] := by unfold loadRes; rw [h]; rfl
theorem loadRes_some {L : List (Int × Int)} {r v : Int} {k : Nat} (h : findV L r = (k : Int)) (hv : loadV L r = v) : loadRes L r = .tuple #[.int .i64 v, .bool true] := by unfold loadRes; rw [h, if_neg (by omega), hv]
/-- the sums on the way to a load between two steps fit -/
theorem inter_wraps {p q x y r : Int} (p1 : p < r) (r1 : r ≤ x) (h : y ≤ q) (p0 : 1 ≤ p) (x1 : x ≤ 1000) (y0 : 0 ≤ y) (q1 : q ≤ 50000) :
    IntKind.i64.wrap (q - y) = q - y ∧ IntKind.i64.wrap (r - p) = r - p ∧ IntKind.i64.wrap ((q - y) * (r - p)) = (q - y) * (r - p) ∧ IntKind.i64.wrap (x - p) = x - p ∧
    IntKind.i64.wrap (q - ceilZ ((q - y) * (r - p)) (x - p)) = interZ p q x y r ∧ 0 ≤ (q - y) * (r - p) ∧ (q - y) * (r - p) ≤ 50000000 ∧ 1 ≤ x - p ∧ x - p ≤ 1000 := by
  have b := inter_bounds p1 r1 h
  have m := mul_bd (a := q - y) (b := r - p) (A := 50000) (B := 1000) (by omega) (by omega) (by omega) (by omega)
  refine ⟨IntWalk.i64_in _ (by omega), IntWalk.i64_in _ (by omega), IntWalk.i64_in _ (by omega), IntWalk.i64_in _ (by omega), ?_, m.1, by omega, by omega, by omega⟩
  have : q - ceilZ ((q - y) * (r - p)) (x - p) = interZ p q x y r := rfl
  rw [this]
  exact IntWalk.i64_in _ (by omega)
set_option maxHeartbeats 2000000 in
theorem loadAt_any (A : Option Addr) (n c : Nat) (L : List (Int × Int)) (r : Int) (w : World) (h : Steps w w.heap.size A n L) (hn : n ≤ maxLen) (hc : chartB L = true) (r0 : 0 ≤ r) (r1 : r ≤ 1000000) : Calls Try.prog 56 #[.slice A n c, .int .i64 r] w fun e w' => e = .returned (loadRes L r) ∧ Below w.heap.size w w' := by
  have hn' := hn
  unfold maxLen at hn'
  rcases findV_cases L r with ⟨hf, _⟩ | ⟨k, x, y, hf, hkl, hk, hr, hm⟩
  · have C := stepFor_any A n c L r w h hn
    rw [loadRes_none hf]
    rw [hf] at C
    have HC := Lib.hid C
    clear C h hf
    go_enter Try.func56, Try.ntmps56
    go_wp2_with fail
    refine HC.out.mono ?_
    rintro e w1 ⟨rfl, hb1⟩
    go_wp2
    go_ret2
    exact ⟨rfl, hb1⟩
  · have C := stepFor_any A n c L r w h hn
    have hkn : k < n := by have := h.1; omega
    have i1 : (0 : Int) ≤ (k : Int) := Int.natCast_nonneg _
    have i2 : (k : Int) < (n : Int) := by omega
    have bk := chart_at hc hk
    rcases Nat.eq_zero_or_pos k with h0 | h0
    · subst h0
      rw [loadRes_some hf (loadV_first hf hk)]
      have i3 : (0 : Int) < (n : Int) := by omega
      rw [hf] at C
      have HC := Lib.hid C
      have S0 := Lib.hid h
      have HK := Lib.hid hk
      clear C h hf hk
      go_enter Try.func56, Try.ntmps56
      go_wp2_with fail
      refine HC.out.mono ?_
      rintro e w1 ⟨rfl, hb1⟩
      obtain ⟨b, o, x', y', rfl, _, hx, hc1, hc2⟩ := (S0.out.next hb1).at_ hkn
      rw [HK.out] at hx
      obtain ⟨rfl, rfl⟩ : x = x' ∧ y = y' := by simpa using hx
      clear hx
      go_wp2
      go_ret2
      exact ⟨rfl, hb1⟩
    · obtain ⟨p, q, hp⟩ : ∃ p q, L[k - 1]? = some (p, q) := by
        have hkp : k - 1 < L.length := by omega
        exact ⟨_, _, List.getElem?_eq_getElem hkp⟩
      have bp := chart_at hc hp
      have lk := chart_link hc h0 hp hk
      have pr := hm (k - 1) _ (by omega) hp
      rw [loadRes_some hf (loadV_inter hf h0 hp hk)]
      obtain ⟨v1, v2, v3, v4, v5, v6, v7, v8, v9⟩ := inter_wraps (p := p) (q := q) (x := x) (y := y) (r := r) pr hr lk.2 bp.1 bk.2.1 bk.2.2.1 bp.2.2.2
      rw [hf] at C
      have HC := Lib.hid C
      have S0 := Lib.hid h
      have HK := Lib.hid hk
      have HP := Lib.hid hp
      have V1 := Lib.hid v1
      have V2 := Lib.hid v2
      have V3 := Lib.hid v3
      have V4 := Lib.hid v4
      have V5 := Lib.hid v5
      clear C h hf hk hp hm pr v1 v2 v3 v4 v5
      have i3 : (0 : Int) < (k : Int) := by omega
      have i4 : ((k : Int) == 0) = false := beq_eq_false_iff_ne.2 (by omega)
      go_enter Try.func56, Try.ntmps56
      go_wp2_with fail
      refine HC.out.mono ?_
      rintro e w1 ⟨rfl, hb1⟩
      obtain ⟨b, o, x', y', p', q', rfl, _, hx, hp, hc1, hc2, hc3, hc4⟩ := (S0.out.next hb1).two hkn h0
      rw [HK.out] at hx
      rw [HP.out] at hp
      obtain ⟨rfl, rfl⟩ : x = x' ∧ y = y' := by simpa using hx
      obtain ⟨rfl, rfl⟩ : p = p' ∧ q = q' := by simpa using hp
      clear hx hp
      have B1 := hb1
      clear hb1
      go_wp2
      go_region
      · go_wp2_with fail
        refine name_world (f := fun w => (Code.region _ _ _).wp _ _ _ w) ?_
        intro W hW
        have K1 : Blk W w1.heap.size 44 #[.int .i64 p, .int .i64 q] := by rw [hW]; exact ((Blk.new _ _ _).alloc _).drew
        have K2 : Blk W (w1.heap.size + 1) 44 #[.int .i64 x, .int .i64 y] := by rw [hW]; exact (Blk.new2 _ _ _ _).drew
        have BW : Below w.heap.size w W := by rw [hW]; exact (B1.trans ((below_alloc2 _ _ _).mono B1.size)).drew
        obtain ⟨f1, f2⟩ := K1.far_two
        obtain ⟨f3, f4⟩ := K2.far_two
        have v1 := V1.out
        have v2 := V2.out
        have v3 := V3.out
        have v4 := V4.out
        have v5 := V5.out
        clear hW K1 K2
        refine wp_region_quiet_below (by kernel_rfl) (by kernel_rfl) ?_
        repeat (quiet_step (first | exact Calls.regrown_of (same_below (ceil_any _ _ _ v6 (by omega) v8 (by omega)))))
        refine wpQuiet_nil ?_
        intro w2 hw2
        have hb2 := class_below hw2
        have B2 := BW.trans (hb2.mono BW.size)
        clear f1 f2 f3 f4 v1 v2 v3 v4 v5 hw2 hb2
        go_wp2
        go_ret2
        exact ⟨rfl, B2⟩
      · go_wp2_with fail
        refine name_world (f := fun w => (Code.region _ _ _).wp _ _ _ w) ?_
        intro W hW
        have K1 : Blk W (w1.heap.size + 1) 44 #[.int .i64 p, .int .i64 q] := by rw [hW]; exact (Blk.new2 _ _ _ _).drew
        have K2 : Blk W w1.heap.size 44 #[.int .i64 x, .int .i64 y] := by rw [hW]; exact ((Blk.new _ _ _).alloc _).drew
        have BW : Below w.heap.size w W := by rw [hW]; exact (B1.trans ((below_alloc2 _ _ _).mono B1.size)).drew
        obtain ⟨f1, f2⟩ := K1.far_two
        obtain ⟨f3, f4⟩ := K2.far_two
        have v1 := V1.out
        have v2 := V2.out
        have v3 := V3.out
        have v4 := V4.out
        have v5 := V5.out
        clear hW K1 K2
        refine wp_region_quiet_below (by kernel_rfl) (by kernel_rfl) ?_
        repeat (quiet_step (first | exact Calls.regrown_of (same_below (ceil_any _ _ _ v6 (by omega) v8 (by omega)))))
        refine wpQuiet_nil ?_
        intro w2 hw2
        have hb2 := class_below hw2
        have B2 := BW.trans (hb2.mono BW.size)
        clear f1 f2 f3 f4 v1 v2 v3 v4 v5 hw2 hb2
        go_wp2
        go_ret2
        exact ⟨rfl, B2⟩
end Go.Proofs.Ytiaineljcmjfoaa
