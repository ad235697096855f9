/- Charts and their loads: the walks of the load at a radius, of the radius for a load and of the greatest moment; their laws. -/
import Derived.Test.YtihbomgbkpmojaaDoorProg
import Derived.Test.YtihbomgbkpmojaaDoorKit
import Derived.Test.YtihbomgbkpmojaaDoorBasics
import Derived.Test.YtihbomgbkpmojaaDoorMem
import Derived.Test.YtihbomgbkpmojaaDoorCodeRes
import Derived.Test.YtihbomgbkpmojaaDoorLists
import Derived.Test.YtihbomgbkpmojaaDoorSteps
import Derived.Test.YtihbomgbkpmojaaDoorCharts
import Derived.Test.YtihbomgbkpmojaaDoorChartLaws
import Derived.Test.YtihbomgbkpmojaaDoorFinds
import Derived.Test.YtihbomgbkpmojaaDoorLoads
import Derived.Test.YtihbomgbkpmojaaDoorLoads2
namespace Go.Proofs.YtihbomgbkpmojaaDoor
open Go.RowKit Go.WideShapes Go.ChangeShapes Go.Joins Go.Deep Go.Sort
set_option linter.unusedVariables false
set_option linter.unusedSimpArgs false
set_option maxHeartbeats 2000000 in
theorem l03Load_any (A : Option Addr) (n c : Nat) (L : List (Int × Int)) (r : Int) (w : World) (h : Steps w w.heap.size A n L) (hn : n ≤ maxLen) (hc : chartB L = true) (r0 : 0 ≤ r) (r1 : r ≤ 1000000) : Calls Tryd.prog 52 #[.slice A n c, .int .i64 r] w fun e w' => e = .returned (.int .i64 (loadV L r)) ∧ Below w.heap.size w w' := by
  have hn' := hn
  unfold maxLen at hn'
  rcases findV_cases L r with ⟨hf, _⟩ | ⟨k, x, y, hf, hkl, hk, hr, hm⟩
  · have C := l03Find_any A n c L r w h hn
    rw [loadV_none hf]
    rw [hf] at C
    have HC := Lib.hid C
    clear C h hf
    go_enter Tryd.func52, Tryd.ntmps52
    go_wp2_with fail
    refine HC.out.mono ?_
    rintro e w' ⟨rfl, rfl⟩
    go_wp2
    go_ret
    exact ⟨rfl, Below.refl _ _⟩
  · have C := l03Find_any A n c L r w h hn
    have hkn : k < n := by have := h.1; omega
    have i1 : (0 : Int) ≤ (k : Int) := Int.natCast_nonneg _
    have i2 : (k : Int) < (n : Int) := by omega
    have bk := chart_at hc hk
    rcases Nat.eq_zero_or_pos k with h0 | h0
    · subst h0
      rw [loadV_first hf hk]
      have i3 : (0 : Int) < (n : Int) := by omega
      rw [hf] at C
      have HC := Lib.hid C
      have S0 := Lib.hid h
      have HK := Lib.hid hk
      clear C h hf hk
      go_enter Tryd.func52, Tryd.ntmps52
      go_wp2_with fail
      refine HC.out.mono ?_
      rintro e w' ⟨rfl, rfl⟩
      obtain ⟨b, o, x', y', rfl, _, hx, hc1, hc2⟩ := S0.out.at_ hkn
      rw [HK.out] at hx
      obtain ⟨rfl, rfl⟩ : x = x' ∧ y = y' := by simpa using hx
      clear hx
      go_wp2
      go_ret
      exact ⟨rfl, Below.refl _ _⟩
    · obtain ⟨p, q, hp⟩ : ∃ p q, L[k - 1]? = some (p, q) := by
        have hkp : k - 1 < L.length := by omega
        exact ⟨_, _, List.getElem?_eq_getElem hkp⟩
      have bp := chart_at hc hp
      have lk := chart_link hc h0 hp hk
      have pr := hm (k - 1) _ (by omega) hp
      rw [loadV_inter hf h0 hp hk]
      obtain ⟨v1, v2, v3, v4, v5, v6, v7, v8, v9⟩ := inter_wraps (p := p) (q := q) (x := x) (y := y) (r := r) pr hr lk.2 bp.1 bk.2.1 bk.2.2.1 bp.2.2.2
      rw [hf] at C
      have HC := Lib.hid C
      have S0 := Lib.hid h
      have HK := Lib.hid hk
      have HP := Lib.hid hp
      have V1 := Lib.hid v1
      have V2 := Lib.hid v2
      have V3 := Lib.hid v3
      have V4 := Lib.hid v4
      have V5 := Lib.hid v5
      clear C h hf hk hp hm pr v1 v2 v3 v4 v5
      have i3 : (0 : Int) < (k : Int) := by omega
      have i4 : decide ((k : Int) ≤ 0) = false := by simp; omega
      go_enter Tryd.func52, Tryd.ntmps52
      go_wp2_with fail
      refine HC.out.mono ?_
      rintro e w' ⟨rfl, rfl⟩
      obtain ⟨b, o, x', y', p', q', rfl, _, hx, hp, hc1, hc2, hc3, hc4⟩ := S0.out.two hkn h0
      rw [HK.out] at hx
      rw [HP.out] at hp
      obtain ⟨rfl, rfl⟩ : x = x' ∧ y = y' := by simpa using hx
      obtain ⟨rfl, rfl⟩ : p = p' ∧ q = q' := by simpa using hp
      clear hx hp
      go_wp2
      have f1 := cell_regrown hc1
      have f2 := cell_regrown hc2
      have f3 := cell_regrown hc3
      have f4 := cell_regrown hc4
      have v1 := V1.out
      have v2 := V2.out
      have v3 := V3.out
      have v4 := V4.out
      have v5 := V5.out
      refine wp_region_quiet_below (by kernel_rfl) (by kernel_rfl) ?_
      repeat (quiet_step (first | exact Calls.regrown_of (same_below (l03Up_any _ _ _ v6 (by omega) v8 (by omega)))))
      refine wpQuiet_nil ?_
      intro w2 hw2
      have hb2 := class_below hw2
      clear f1 f2 f3 f4 v1 v2 v3 v4 v5 hw2
      go_wp2
      go_ret
      exact ⟨rfl, hb2⟩

def resLoadAt (L : List (Int × Int)) (r : Int) : Value := codeRes (chartB L) (inB r 0 1000) (if findV L r < 0 then .tuple #[.int .i64 0, .int .i64 3] else .tuple #[.int .i64 (loadV L r), .int .i64 0]) (.int .i64 0)
theorem resLoadAt_form (L : List (Int × Int)) (r : Int) : ∃ x y : Int, resLoadAt L r = .tuple #[.int .i64 x, .int .i64 y] := by
  unfold resLoadAt codeRes
  split
  · split <;> exact ⟨_, _, rfl⟩
  · exact ⟨_, _, rfl⟩
  · exact ⟨_, _, rfl⟩
set_option maxHeartbeats 400000 in
theorem implLoadAt_any (A : Option Addr) (n c : Nat) (L : List (Int × Int)) (r : Int) (w : World) (h : Steps w w.heap.size A n L) (hn : n ≤ maxLen) : Calls Tryd.prog 26 #[.slice A n c, .int .i64 r] w fun e w' => e = .returned (resLoadAt L r) ∧ Below w.heap.size w w' := by
  have C := chartCode_any A n c L r 0 1000 w h hn
  cases h0 : chartB L
  · have E : resLoadAt L r = .tuple #[.int .i64 0, .int .i64 1] := by unfold resLoadAt codeRes; simp [h0]
    rw [E]; clear E
    rw [h0, codeV_f] at C
    have HC := Lib.hid C
    clear C h h0
    go_enter Tryd.func26, Tryd.ntmps26
    go_wp2_with fail
    refine HC.out.mono ?_
    rintro e w1 ⟨rfl, hb1⟩
    go_wp2
    go_ret2
    exact ⟨rfl, hb1⟩
  · skip
    cases h1 : inB r 0 1000
    · have E : resLoadAt L r = .tuple #[.int .i64 0, .int .i64 2] := by unfold resLoadAt codeRes; simp [h0, h1]
      rw [E]; clear E
      rw [h0, h1, codeV_tf] at C
      have HC := Lib.hid C
      clear C h h0 h1
      go_enter Tryd.func26, Tryd.ntmps26
      go_wp2_with fail
      refine HC.out.mono ?_
      rintro e w1 ⟨rfl, hb1⟩
      go_wp2
      go_ret2
      exact ⟨rfl, hb1⟩
    · rw [h0, h1, codeV_tt] at C
      have HC := Lib.hid C
      clear C
      have S0 := Lib.hid h
      clear h
      obtain ⟨r0, r1⟩ := inB_of h1
      rcases loadV_bounds h0 r with ⟨hl, hf⟩ | ⟨l0, l1, hf⟩
      · have FC : Hid (∀ w, Steps w w.heap.size A n L → Calls Tryd.prog 49 #[.slice A n c, .int .i64 r] w fun e w' => e = .returned (.tuple #[.int .i64 0, .bool false]) ∧ Below w.heap.size w w') := fun w h => by have := loadAt_any A n c L r w h hn h0 r0 (by omega); rwa [show loadRes L r = .tuple #[.int .i64 0, .bool false] from by unfold loadRes; rw [hf]; rfl] at this
        have E : resLoadAt L r = .tuple #[.int .i64 0, .int .i64 3] := by unfold resLoadAt; rw [h0, h1, codeRes_tt, hf]; rfl
        rw [E]
        clear E h0 h1 hf hl
        go_enter Tryd.func26, Tryd.ntmps26
        go_wp2_with fail
        refine HC.out.mono ?_
        rintro e w1 ⟨rfl, hb1⟩
        have S1 := Lib.hid (S0.out.next hb1)
        go_wp2_with fail
        refine (FC.out _ S1.out).mono ?_
        rintro e w2 ⟨rfl, hb2⟩
        have B2 := hb1.trans (hb2.mono hb1.size)
        clear hb1 hb2
        go_wp2
        go_ret2
        exact ⟨rfl, B2⟩
      · have FC : Hid (∀ w, Steps w w.heap.size A n L → Calls Tryd.prog 49 #[.slice A n c, .int .i64 r] w fun e w' => e = .returned (.tuple #[.int .i64 (loadV L r), .bool true]) ∧ Below w.heap.size w w') := fun w h => by have := loadAt_any A n c L r w h hn h0 r0 (by omega); rwa [show loadRes L r = .tuple #[.int .i64 (loadV L r), .bool true] from by unfold loadRes; rw [if_neg hf]] at this
        have E : resLoadAt L r = .tuple #[.int .i64 (loadV L r), .int .i64 0] := by unfold resLoadAt; rw [h0, h1, codeRes_tt, if_neg hf]
        rw [E]
        clear E h0 h1 hf
        go_enter Tryd.func26, Tryd.ntmps26
        go_wp2_with fail
        refine HC.out.mono ?_
        rintro e w1 ⟨rfl, hb1⟩
        have S1 := Lib.hid (S0.out.next hb1)
        go_wp2_with fail
        refine (FC.out _ S1.out).mono ?_
        rintro e w2 ⟨rfl, hb2⟩
        have B2 := hb1.trans (hb2.mono hb1.size)
        clear hb1 hb2
        go_wp2
        go_ret2
        exact ⟨rfl, B2⟩
set_option maxHeartbeats 400000 in
theorem specLoadAt_any (A : Option Addr) (n c : Nat) (L : List (Int × Int)) (r : Int) (w : World) (h : Steps w w.heap.size A n L) (hn : n ≤ maxLen) : Calls Tryd.prog 29 #[.slice A n c, .int .i64 r] w fun e w' => e = .returned (resLoadAt L r) ∧ Below w.heap.size w w' := by
  have C := l03Code_any A n c L r w h hn
  cases h0 : chartB L
  · have E : resLoadAt L r = .tuple #[.int .i64 0, .int .i64 1] := by unfold resLoadAt codeRes; simp [h0]
    rw [E]; clear E
    rw [h0, codeV_f] at C
    have HC := Lib.hid C
    clear C h h0
    go_enter Tryd.func29, Tryd.ntmps29
    go_wp2_with fail
    refine HC.out.mono ?_
    rintro e w1 ⟨rfl, hb1⟩
    go_wp2
    go_ret2
    exact ⟨rfl, hb1⟩
  · skip
    cases h1 : inB r 0 1000
    · have E : resLoadAt L r = .tuple #[.int .i64 0, .int .i64 2] := by unfold resLoadAt codeRes; simp [h0, h1]
      rw [E]; clear E
      rw [h0, h1, codeV_tf] at C
      have HC := Lib.hid C
      clear C h h0 h1
      go_enter Tryd.func29, Tryd.ntmps29
      go_wp2_with fail
      refine HC.out.mono ?_
      rintro e w1 ⟨rfl, hb1⟩
      go_wp2
      go_ret2
      exact ⟨rfl, hb1⟩
    · rw [h0, h1, codeV_tt] at C
      have HC := Lib.hid C
      clear C
      have S0 := Lib.hid h
      clear h
      obtain ⟨r0, r1⟩ := inB_of h1
      rcases loadV_bounds h0 r with ⟨hl, hf⟩ | ⟨l0, l1, hf⟩
      · have FC : Hid (∀ w, Steps w w.heap.size A n L → Calls Tryd.prog 52 #[.slice A n c, .int .i64 r] w fun e w' => e = .returned (.int .i64 (-1)) ∧ Below w.heap.size w w') := fun w h => hl ▸ l03Load_any A n c L r w h hn h0 r0 (by omega)
        have E : resLoadAt L r = .tuple #[.int .i64 0, .int .i64 3] := by unfold resLoadAt; rw [h0, h1, codeRes_tt, hf]; rfl
        rw [E]
        clear E h0 h1 hf hl
        go_enter Tryd.func29, Tryd.ntmps29
        go_wp2_with fail
        refine HC.out.mono ?_
        rintro e w1 ⟨rfl, hb1⟩
        have S1 := Lib.hid (S0.out.next hb1)
        go_wp2_with fail
        refine (FC.out _ S1.out).mono ?_
        rintro e w2 ⟨rfl, hb2⟩
        have B2 := hb1.trans (hb2.mono hb1.size)
        clear hb1 hb2
        go_wp2
        go_ret2
        exact ⟨rfl, B2⟩
      · have FC : Hid (∀ w, Steps w w.heap.size A n L → Calls Tryd.prog 52 #[.slice A n c, .int .i64 r] w fun e w' => e = .returned (.int .i64 (loadV L r)) ∧ Below w.heap.size w w') := fun w h => l03Load_any A n c L r w h hn h0 r0 (by omega)
        have E : resLoadAt L r = .tuple #[.int .i64 (loadV L r), .int .i64 0] := by unfold resLoadAt; rw [h0, h1, codeRes_tt, if_neg hf]
        rw [E]
        clear E h0 h1 hf
        go_enter Tryd.func29, Tryd.ntmps29
        go_wp2_with fail
        refine HC.out.mono ?_
        rintro e w1 ⟨rfl, hb1⟩
        have S1 := Lib.hid (S0.out.next hb1)
        go_wp2_with fail
        refine (FC.out _ S1.out).mono ?_
        rintro e w2 ⟨rfl, hb2⟩
        have B2 := hb1.trans (hb2.mono hb1.size)
        clear hb1 hb2
        go_wp2
        go_ret2
        exact ⟨rfl, B2⟩

def gmTo (L : List (Int × Int)) : Int := L.foldl (fun m s => maxZ m (s.1 * s.2)) 0
theorem gm_step {L : List (Int × Int)} {k : Nat} {x y : Int} (h : L[k]? = some (x, y)) : gmTo (L.take (k + 1)) = maxZ (gmTo (L.take k)) (x * y) := by
  unfold gmTo
  rw [List.take_add_one, h]
  simp
theorem gm_bounds {L : List (Int × Int)} (h : chartB L = true) : ∀ k : Nat, 0 ≤ gmTo (L.take k) ∧ gmTo (L.take k) ≤ 50000000
  | 0 => by simp [gmTo]
  | k + 1 => by
    have ih := gm_bounds h k
    cases hk : L[k]? with
    | none => rw [List.take_add_one, hk]; simpa using ih
    | some s =>
      obtain ⟨x, y⟩ := s
      have b := chart_at h hk
      have m := mul_bd (a := x) (b := y) (A := 1000) (B := 50000) (by omega) (by omega) (by omega) (by omega)
      rw [gm_step hk]
      unfold maxZ; split <;> omega
theorem ret_pair {a b c : Int} (h : a = b) : Ending.returned (.tuple #[.int .i64 a, .int .i64 c]) = .returned (.tuple #[.int .i64 b, .int .i64 c]) := by rw [h]
theorem gm_form (L : List (Int × Int)) : ∃ x y : Int, pairV (chartB L) (gmTo L) 1 = .tuple #[.int .i64 x, .int .i64 y] := pairV_form _ _ _
theorem maxZ_lt {a b : Int} (h : a < b) : maxZ a b = b := if_neg (by omega)
theorem maxZ_ge {a b : Int} (h : ¬ a < b) : maxZ a b = a := by unfold maxZ; split <;> omega
theorem l00Max_any (a b : Int) (w : World) : Calls Tryd.prog 67 #[.int .i64 a, .int .i64 b] w fun e w' => e = .returned (.int .i64 (maxZ a b)) ∧ w = w' := by
  by_cases h : b < a
  · rw [show maxZ a b = a from if_pos h]
    go_enter Tryd.func67, Tryd.ntmps67
    go_wp2
    go_ret
    exact ⟨rfl, rfl⟩
  · rw [show maxZ a b = b from if_neg h]
    go_enter Tryd.func67, Tryd.ntmps67
    go_wp2
    go_ret
    exact ⟨rfl, rfl⟩
end Go.Proofs.YtihbomgbkpmojaaDoor
