/- Charts and their loads: the walks of the load at a radius, of the radius for a load and of the greatest moment; their laws. -/
import Derived.Test.YtbdompadkeamdaaProg
import Derived.Test.YtbdompadkeamdaaKit
import Derived.Test.YtbdompadkeamdaaBasics
import Derived.Test.YtbdompadkeamdaaMem
import Derived.Test.YtbdompadkeamdaaCodeRes
import Derived.Test.YtbdompadkeamdaaLists
import Derived.Test.YtbdompadkeamdaaSteps
import Derived.Test.YtbdompadkeamdaaCharts
import Derived.Test.YtbdompadkeamdaaChartLaws
import Derived.Test.YtbdompadkeamdaaFinds
import Derived.Test.YtbdompadkeamdaaLoads
import Derived.Test.YtbdompadkeamdaaLoads2
namespace Go.Proofs.Ytbdompadkeamdaa
open Go.RowKit Go.WideShapes Go.ChangeShapes Go.Joins Go.Deep Go.Sort
set_option linter.unusedVariables false
set_option linter.unusedSimpArgs false
set_option maxHeartbeats 2000000 in
theorem l03Load_any (A : Option Addr) (n c : Nat) (L : List (Int × Int)) (r : Int) (w : World) (h : Steps w w.heap.size A n L) (hn : n ≤ maxLen) (hc : chartB L = true) (r0 : 0 ≤ r) (r1 : r ≤ 1000000) : Calls Try.prog 99 #[.slice A n c, .int .i64 r] w fun e w' => e = .returned (.int .i64 (loadV L r)) ∧ Below w.heap.size w w' := by
  have hn' := hn
  unfold maxLen at hn'
  rcases findV_cases L r with ⟨hf, _⟩ | ⟨k, x, y, hf, hkl, hk, hr, hm⟩
  · have C := l03Find_any A n c L r w h hn
    rw [loadV_none hf]
    rw [hf] at C
    have HC := Lib.hid C
    clear C h hf
    go_enter Try.func99, Try.ntmps99
    go_wp2_with fail
    refine HC.out.mono ?_
    rintro e w' ⟨rfl, rfl⟩
    go_wp2
    go_ret
    exact ⟨rfl, Below.refl _ _⟩
  · have C := l03Find_any A n c L r w h hn
    have hkn : k < n := by have := h.1; omega
    have i1 : (0 : Int) ≤ (k : Int) := Int.natCast_nonneg _
    have i2 : (k : Int) < (n : Int) := by omega
    have bk := chart_at hc hk
    rcases Nat.eq_zero_or_pos k with h0 | h0
    · subst h0
      rw [loadV_first hf hk]
      have i3 : (0 : Int) < (n : Int) := by omega
      rw [hf] at C
      have HC := Lib.hid C
      have S0 := Lib.hid h
      have HK := Lib.hid hk
      clear C h hf hk
      go_enter Try.func99, Try.ntmps99
      go_wp2_with fail
      refine HC.out.mono ?_
      rintro e w' ⟨rfl, rfl⟩
      obtain ⟨b, o, x', y', rfl, _, hx, hc1, hc2⟩ := S0.out.at_ hkn
      rw [HK.out] at hx
      obtain ⟨rfl, rfl⟩ : x = x' ∧ y = y' := by simpa using hx
      clear hx
      go_wp2
      go_ret
      exact ⟨rfl, Below.refl _ _⟩
    · obtain ⟨p, q, hp⟩ : ∃ p q, L[k - 1]? = some (p, q) := by
        have hkp : k - 1 < L.length := by omega
        exact ⟨_, _, List.getElem?_eq_getElem hkp⟩
      have bp := chart_at hc hp
      have lk := chart_link hc h0 hp hk
      have pr := hm (k - 1) _ (by omega) hp
      rw [loadV_inter hf h0 hp hk]
      obtain ⟨v1, v2, v3, v4, v5, v6, v7, v8, v9⟩ := inter_wraps (p := p) (q := q) (x := x) (y := y) (r := r) pr hr lk.2 bp.1 bk.2.1 bk.2.2.1 bp.2.2.2
      rw [hf] at C
      have HC := Lib.hid C
      have S0 := Lib.hid h
      have HK := Lib.hid hk
      have HP := Lib.hid hp
      have V1 := Lib.hid v1
      have V2 := Lib.hid v2
      have V3 := Lib.hid v3
      have V4 := Lib.hid v4
      have V5 := Lib.hid v5
      clear C h hf hk hp hm pr v1 v2 v3 v4 v5
      have i3 : (0 : Int) < (k : Int) := by omega
      have i4 : decide ((k : Int) ≤ 0) = false := by simp; omega
      go_enter Try.func99, Try.ntmps99
      go_wp2_with fail
      refine HC.out.mono ?_
      rintro e w' ⟨rfl, rfl⟩
      obtain ⟨b, o, x', y', p', q', rfl, _, hx, hp, hc1, hc2, hc3, hc4⟩ := S0.out.two hkn h0
      rw [HK.out] at hx
      rw [HP.out] at hp
      obtain ⟨rfl, rfl⟩ : x = x' ∧ y = y' := by simpa using hx
      obtain ⟨rfl, rfl⟩ : p = p' ∧ q = q' := by simpa using hp
      clear hx hp
      go_wp2
      have f1 := cell_regrown hc1
      have f2 := cell_regrown hc2
      have f3 := cell_regrown hc3
      have f4 := cell_regrown hc4
      have v1 := V1.out
      have v2 := V2.out
      have v3 := V3.out
      have v4 := V4.out
      have v5 := V5.out
      refine wp_region_quiet_below (by kernel_rfl) (by kernel_rfl) ?_
      repeat (quiet_step (first | exact Calls.regrown_of (same_below (l03Up_any _ _ _ v6 (by omega) v8 (by omega)))))
      refine wpQuiet_nil ?_
      intro w2 hw2
      have hb2 := class_below hw2
      clear f1 f2 f3 f4 v1 v2 v3 v4 v5 hw2
      go_wp2
      go_ret
      exact ⟨rfl, hb2⟩

def resLoadAt (L : List (Int × Int)) (r : Int) : Value := codeRes (chartB L) (inB r 0 1000) (if findV L r < 0 then .tuple #[.int .i64 0, .int .i64 3] else .tuple #[.int .i64 (loadV L r), .int .i64 0]) (.int .i64 0)
theorem resLoadAt_form (L : List (Int × Int)) (r : Int) : ∃ x y : Int, resLoadAt L r = .tuple #[.int .i64 x, .int .i64 y] := by
  unfold resLoadAt codeRes
  split
  · split <;> exact ⟨_, _, rfl⟩
  · exact ⟨_, _, rfl⟩
  · exact ⟨_, _, rfl⟩

def gmTo (L : List (Int × Int)) : Int := L.foldl (fun m s => maxZ m (s.1 * s.2)) 0
theorem gm_step {L : List (Int × Int)} {k : Nat} {x y : Int} (h : L[k]? = some (x, y)) : gmTo (L.take (k + 1)) = maxZ (gmTo (L.take k)) (x * y) := by
  unfold gmTo
  rw [List.take_add_one, h]
  simp
theorem gm_bounds {L : List (Int × Int)} (h : chartB L = true) : ∀ k : Nat, 0 ≤ gmTo (L.take k) ∧ gmTo (L.take k) ≤ 50000000
  | 0 => by simp [gmTo]
  | k + 1 => by
    have ih := gm_bounds h k
    cases hk : L[k]? with
    | none => rw [List.take_add_one, hk]; simpa using ih
    | some s =>
      obtain ⟨x, y⟩ := s
      have b := chart_at h hk
      have m := mul_bd (a := x) (b := y) (A := 1000) (B := 50000) (by omega) (by omega) (by omega) (by omega)
      rw [gm_step hk]
      unfold maxZ; split <;> omega
theorem ret_pair {a b c : Int} (h : a = b) : Ending.returned (.tuple #[.int .i64 a, .int .i64 c]) = .returned (.tuple #[.int .i64 b, .int .i64 c]) := by rw [h]
theorem gm_form (L : List (Int × Int)) : ∃ x y : Int, pairV (chartB L) (gmTo L) 1 = .tuple #[.int .i64 x, .int .i64 y] := pairV_form _ _ _
theorem maxZ_lt {a b : Int} (h : a < b) : maxZ a b = b := if_neg (by omega)
theorem maxZ_ge {a b : Int} (h : ¬ a < b) : maxZ a b = a := by unfold maxZ; split <;> omega
end Go.Proofs.Ytbdompadkeamdaa
