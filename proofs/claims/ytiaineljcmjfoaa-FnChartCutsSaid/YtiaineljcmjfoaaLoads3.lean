/- Charts and their loads: the walks of the load at a radius, of the radius for a load and of the greatest moment; their laws. -/
import Derived.Test.YtiaineljcmjfoaaProg
import Derived.Test.YtiaineljcmjfoaaKit
import Derived.Test.YtiaineljcmjfoaaBasics
import Derived.Test.YtiaineljcmjfoaaMem
import Derived.Test.YtiaineljcmjfoaaCodeRes
import Derived.Test.YtiaineljcmjfoaaLists
import Derived.Test.YtiaineljcmjfoaaSteps
import Derived.Test.YtiaineljcmjfoaaCharts
import Derived.Test.YtiaineljcmjfoaaChartLaws
import Derived.Test.YtiaineljcmjfoaaFinds
import Derived.Test.YtiaineljcmjfoaaLoads
import Derived.Test.YtiaineljcmjfoaaLoads2
namespace Go.Proofs.Ytiaineljcmjfoaa
open Go.RowKit Go.WideShapes Go.ChangeShapes Go.Joins Go.Deep Go.Sort
set_option linter.unusedVariables false
set_option linter.unusedSimpArgs false
set_option maxHeartbeats 2000000 in
theorem l03Load_any (A : Option Addr) (n c : Nat) (L : List (Int × Int)) (r : Int) (w : World) (h : Steps w w.heap.size A n L) (hn : n ≤ maxLen) (hc : chartB L = true) (r0 : 0 ≤ r) (r1 : r ≤ 1000000) : Calls Try.prog 55 #[.slice A n c, .int .i64 r] w fun e w' => e = .returned (.int .i64 (loadV L r)) ∧ Below w.heap.size w w' := by
  have hn' := hn
  unfold maxLen at hn'
  rcases findV_cases L r with ⟨hf, _⟩ | ⟨k, x, y, hf, hkl, hk, hr, hm⟩
  · have C := l03Find_any A n c L r w h hn
    rw [loadV_none hf]
    rw [hf] at C
    have HC := Lib.hid C
    clear C h hf
    go_enter Try.func55, Try.ntmps55
    go_wp2_with fail
    refine HC.out.mono ?_
    rintro e w' ⟨rfl, rfl⟩
    go_wp2
    go_ret
    exact ⟨rfl, Below.refl _ _⟩
  · have C := l03Find_any A n c L r w h hn
    have hkn : k < n := by have := h.1; omega
    have i1 : (0 : Int) ≤ (k : Int) := Int.natCast_nonneg _
    have i2 : (k : Int) < (n : Int) := by omega
    have bk := chart_at hc hk
    rcases Nat.eq_zero_or_pos k with h0 | h0
    · subst h0
      rw [loadV_first hf hk]
      have i3 : (0 : Int) < (n : Int) := by omega
      rw [hf] at C
      have HC := Lib.hid C
      have S0 := Lib.hid h
      have HK := Lib.hid hk
      clear C h hf hk
      go_enter Try.func55, Try.ntmps55
      go_wp2_with fail
      refine HC.out.mono ?_
      rintro e w' ⟨rfl, rfl⟩
      obtain ⟨b, o, x', y', rfl, _, hx, hc1, hc2⟩ := S0.out.at_ hkn
      rw [HK.out] at hx
      obtain ⟨rfl, rfl⟩ : x = x' ∧ y = y' := by simpa using hx
      clear hx
      go_wp2
      go_ret
      exact ⟨rfl, Below.refl _ _⟩
    · obtain ⟨p, q, hp⟩ : ∃ p q, L[k - 1]? = some (p, q) := by
        have hkp : k - 1 < L.length := by omega
        exact ⟨_, _, List.getElem?_eq_getElem hkp⟩
      have bp := chart_at hc hp
      have lk := chart_link hc h0 hp hk
      have pr := hm (k - 1) _ (by omega) hp
      rw [loadV_inter hf h0 hp hk]
      obtain ⟨v1, v2, v3, v4, v5, v6, v7, v8, v9⟩ := inter_wraps (p := p) (q := q) (x := x) (y := y) (r := r) pr hr lk.2 bp.1 bk.2.1 bk.2.2.1 bp.2.2.2
      rw [hf] at C
      have HC := Lib.hid C
      have S0 := Lib.hid h
      have HK := Lib.hid hk
      have HP := Lib.hid hp
      have V1 := Lib.hid v1
      have V2 := Lib.hid v2
      have V3 := Lib.hid v3
      have V4 := Lib.hid v4
      have V5 := Lib.hid v5
      clear C h hf hk hp hm pr v1 v2 v3 v4 v5
      have i3 : (0 : Int) < (k : Int) := by omega
      have i4 : decide ((k : Int) ≤ 0) = false := by simp; omega
      go_enter Try.func55, Try.ntmps55
      go_wp2_with fail
      refine HC.out.mono ?_
      rintro e w' ⟨rfl, rfl⟩
      obtain ⟨b, o, x', y', p', q', rfl, _, hx, hp, hc1, hc2, hc3, hc4⟩ := S0.out.two hkn h0
      rw [HK.out] at hx
      rw [HP.out] at hp
      obtain ⟨rfl, rfl⟩ : x = x' ∧ y = y' := by simpa using hx
      obtain ⟨rfl, rfl⟩ : p = p' ∧ q = q' := by simpa using hp
      clear hx hp
      go_wp2
      have f1 := cell_regrown hc1
      have f2 := cell_regrown hc2
      have f3 := cell_regrown hc3
      have f4 := cell_regrown hc4
      have v1 := V1.out
      have v2 := V2.out
      have v3 := V3.out
      have v4 := V4.out
      have v5 := V5.out
      refine wp_region_quiet_below (by kernel_rfl) (by kernel_rfl) ?_
      repeat (quiet_step (first | exact Calls.regrown_of (same_below (l03Up_any _ _ _ v6 (by omega) v8 (by omega)))))
      refine wpQuiet_nil ?_
      intro w2 hw2
      have hb2 := class_below hw2
      clear f1 f2 f3 f4 v1 v2 v3 v4 v5 hw2
      go_wp2
      go_ret
      exact ⟨rfl, hb2⟩

def resLoadAt (L : List (Int × Int)) (r : Int) : Value := codeRes (chartB L) (inB r 0 1000) (if findV L r < 0 then .tuple #[.int .i64 0, .int .i64 3] else .tuple #[.int .i64 (loadV L r), .int .i64 0]) (.int .i64 0)
theorem resLoadAt_form (L : List (Int × Int)) (r : Int) : ∃ x y : Int, resLoadAt L r = .tuple #[.int .i64 x, .int .i64 y] := by
  unfold resLoadAt codeRes
  split
  · split <;> exact ⟨_, _, rfl⟩
  · exact ⟨_, _, rfl⟩
  · exact ⟨_, _, rfl⟩
set_option maxHeartbeats 400000 in
theorem implLoadAt_any (A : Option Addr) (n c : Nat) (L : List (Int × Int)) (r : Int) (w : World) (h : Steps w w.heap.size A n L) (hn : n ≤ maxLen) : Calls Try.prog 33 #[.slice A n c, .int .i64 r] w fun e w' => e = .returned (resLoadAt L r) ∧ Below w.heap.size w w' := by
  have C := chartCode_any A n c L r 0 1000 w h hn
  cases h0 : chartB L
  · have E : resLoadAt L r = .tuple #[.int .i64 0, .int .i64 1] := by unfold resLoadAt codeRes; simp [h0]
    rw [E]; clear E
    rw [h0, codeV_f] at C
    have HC := Lib.hid C
    clear C h h0
    go_enter Try.func33, Try.ntmps33
    go_wp2_with fail
    refine HC.out.mono ?_
    rintro e w1 ⟨rfl, hb1⟩
    go_wp2
    go_ret2
    exact ⟨rfl, hb1⟩
  · skip
    cases h1 : inB r 0 1000
    · have E : resLoadAt L r = .tuple #[.int .i64 0, .int .i64 2] := by unfold resLoadAt codeRes; simp [h0, h1]
      rw [E]; clear E
      rw [h0, h1, codeV_tf] at C
      have HC := Lib.hid C
      clear C h h0 h1
      go_enter Try.func33, Try.ntmps33
      go_wp2_with fail
      refine HC.out.mono ?_
      rintro e w1 ⟨rfl, hb1⟩
      go_wp2
      go_ret2
      exact ⟨rfl, hb1⟩
    · rw [h0, h1, codeV_tt] at C
      have HC := Lib.hid C
      clear C
      have S0 := Lib.hid h
      clear h
      obtain ⟨r0, r1⟩ := inB_of h1
      rcases loadV_bounds h0 r with ⟨hl, hf⟩ | ⟨l0, l1, hf⟩
      · have FC : Hid (∀ w, Steps w w.heap.size A n L → Calls Try.prog 56 #[.slice A n c, .int .i64 r] w fun e w' => e = .returned (.tuple #[.int .i64 0, .bool false]) ∧ Below w.heap.size w w') := fun w h => by have := loadAt_any A n c L r w h hn h0 r0 (by omega); rwa [show loadRes L r = .tuple #[.int .i64 0, .bool false] from by unfold loadRes; rw [hf]; rfl] at this
        have E : resLoadAt L r = .tuple #[.int .i64 0, .int .i64 3] := by unfold resLoadAt; rw [h0, h1, codeRes_tt, hf]; rfl
        rw [E]
        clear E h0 h1 hf hl
        go_enter Try.func33, Try.ntmps33
        go_wp2_with fail
        refine HC.out.mono ?_
        rintro e w1 ⟨rfl, hb1⟩
        have S1 := Lib.hid (S0.out.next hb1)
        go_wp2_with fail
        refine (FC.out _ S1.out).mono ?_
        rintro e w2 ⟨rfl, hb2⟩
        have B2 := hb1.trans (hb2.mono hb1.size)
        clear hb1 hb2
        go_wp2
        go_ret2
        exact ⟨rfl, B2⟩
      · have FC : Hid (∀ w, Steps w w.heap.size A n L → Calls Try.prog 56 #[.slice A n c, .int .i64 r] w fun e w' => e = .returned (.tuple #[.int .i64 (loadV L r), .bool true]) ∧ Below w.heap.size w w') := fun w h => by have := loadAt_any A n c L r w h hn h0 r0 (by omega); rwa [show loadRes L r = .tuple #[.int .i64 (loadV L r), .bool true] from by unfold loadRes; rw [if_neg hf]] at this
        have E : resLoadAt L r = .tuple #[.int .i64 (loadV L r), .int .i64 0] := by unfold resLoadAt; rw [h0, h1, codeRes_tt, if_neg hf]
        rw [E]
        clear E h0 h1 hf
        go_enter Try.func33, Try.ntmps33
        go_wp2_with fail
        refine HC.out.mono ?_
        rintro e w1 ⟨rfl, hb1⟩
        have S1 := Lib.hid (S0.out.next hb1)
        go_wp2_with fail
        refine (FC.out _ S1.out).mono ?_
        rintro e w2 ⟨rfl, hb2⟩
        have B2 := hb1.trans (hb2.mono hb1.size)
        clear hb1 hb2
        go_wp2
        go_ret2
        exact ⟨rfl, B2⟩
set_option maxHeartbeats 400000 in
theorem specLoadAt_any (A : Option Addr) (n c : Nat) (L : List (Int × Int)) (r : Int) (w : World) (h : Steps w w.heap.size A n L) (hn : n ≤ maxLen) : Calls Try.prog 32 #[.slice A n c, .int .i64 r] w fun e w' => e = .returned (resLoadAt L r) ∧ Below w.heap.size w w' := by
  have C := l03Code_any A n c L r w h hn
  cases h0 : chartB L
  · have E : resLoadAt L r = .tuple #[.int .i64 0, .int .i64 1] := by unfold resLoadAt codeRes; simp [h0]
    rw [E]; clear E
    rw [h0, codeV_f] at C
    have HC := Lib.hid C
    clear C h h0
    go_enter Try.func32, Try.ntmps32
    go_wp2_with fail
    refine HC.out.mono ?_
    rintro e w1 ⟨rfl, hb1⟩
    go_wp2
    go_ret2
    exact ⟨rfl, hb1⟩
  · skip
    cases h1 : inB r 0 1000
    · have E : resLoadAt L r = .tuple #[.int .i64 0, .int .i64 2] := by unfold resLoadAt codeRes; simp [h0, h1]
      rw [E]; clear E
      rw [h0, h1, codeV_tf] at C
      have HC := Lib.hid C
      clear C h h0 h1
      go_enter Try.func32, Try.ntmps32
      go_wp2_with fail
      refine HC.out.mono ?_
      rintro e w1 ⟨rfl, hb1⟩
      go_wp2
      go_ret2
      exact ⟨rfl, hb1⟩
    · rw [h0, h1, codeV_tt] at C
      have HC := Lib.hid C
      clear C
      have S0 := Lib.hid h
      clear h
      obtain ⟨r0, r1⟩ := inB_of h1
      rcases loadV_bounds h0 r with ⟨hl, hf⟩ | ⟨l0, l1, hf⟩
      · have FC : Hid (∀ w, Steps w w.heap.size A n L → Calls Try.prog 55 #[.slice A n c, .int .i64 r] w fun e w' => e = .returned (.int .i64 (-1)) ∧ Below w.heap.size w w') := fun w h => hl ▸ l03Load_any A n c L r w h hn h0 r0 (by omega)
        have E : resLoadAt L r = .tuple #[.int .i64 0, .int .i64 3] := by unfold resLoadAt; rw [h0, h1, codeRes_tt, hf]; rfl
        rw [E]
        clear E h0 h1 hf hl
        go_enter Try.func32, Try.ntmps32
        go_wp2_with fail
        refine HC.out.mono ?_
        rintro e w1 ⟨rfl, hb1⟩
        have S1 := Lib.hid (S0.out.next hb1)
        go_wp2_with fail
        refine (FC.out _ S1.out).mono ?_
        rintro e w2 ⟨rfl, hb2⟩
        have B2 := hb1.trans (hb2.mono hb1.size)
        clear hb1 hb2
        go_wp2
        go_ret2
        exact ⟨rfl, B2⟩
      · have FC : Hid (∀ w, Steps w w.heap.size A n L → Calls Try.prog 55 #[.slice A n c, .int .i64 r] w fun e w' => e = .returned (.int .i64 (loadV L r)) ∧ Below w.heap.size w w') := fun w h => l03Load_any A n c L r w h hn h0 r0 (by omega)
        have E : resLoadAt L r = .tuple #[.int .i64 (loadV L r), .int .i64 0] := by unfold resLoadAt; rw [h0, h1, codeRes_tt, if_neg hf]
        rw [E]
        clear E h0 h1 hf
        go_enter Try.func32, Try.ntmps32
        go_wp2_with fail
        refine HC.out.mono ?_
        rintro e w1 ⟨rfl, hb1⟩
        have S1 := Lib.hid (S0.out.next hb1)
        go_wp2_with fail
        refine (FC.out _ S1.out).mono ?_
        rintro e w2 ⟨rfl, hb2⟩
        have B2 := hb1.trans (hb2.mono hb1.size)
        clear hb1 hb2
        go_wp2
        go_ret2
        exact ⟨rfl, B2⟩
set_option maxHeartbeats 1000000 in
theorem FnExactLoadAt_walk (w : World) (A : Option Addr) (n c : Nat) (L : List (Int × Int)) (hn : n ≤ maxLen) (S0 : Steps w w.heap.size A n L) (r : Int) (_wr : (Lit.int .i64 r).wf = true) : Calls Try.prog 10 #[.slice A n c, .int .i64 r] w fun e w' => e = .returned (.bool true) ∧ Below w.heap.size w w' := by
  obtain ⟨x, y, F⟩ := resLoadAt_form L r
  have H1 : Hid (∀ A n c w, Steps w w.heap.size A n L → n ≤ maxLen → Calls Try.prog 32 #[.slice A n c, .int .i64 r] w fun e w' => e = .returned (.tuple #[.int .i64 x, .int .i64 y]) ∧ Below w.heap.size w w') := fun A n c w h hn => by rw [← F]; exact specLoadAt_any A n c L r w h hn
  have H2 : Hid (∀ A n c w, Steps w w.heap.size A n L → n ≤ maxLen → Calls Try.prog 33 #[.slice A n c, .int .i64 r] w fun e w' => e = .returned (.tuple #[.int .i64 x, .int .i64 y]) ∧ Below w.heap.size w w') := fun A n c w h hn => by rw [← F]; exact implLoadAt_any A n c L r w h hn
  clear F _wr
  by_cases hs : (n : Int) ≤ 1048576
  · have B0 := Below.refl w.heap.size w
    clear hn
    go_enter Try.func10, Try.ntmps10
    go_wp2_with fail
    refine (sz_in hs _ _ _ (by omega) (by omega) (by unfold maxLen; omega)).mono ?_
    rintro e w' ⟨rfl, rfl⟩
    go_wp2_with fail
    refine (toSteps_any _ _ _ _ _ S0 (by omega)).mono ?_
    rintro e w1 ⟨Aa, rfl, Oa1, hb1⟩
    have S1 := S0.next hb1
    have B1 := B0.trans (hb1.mono B0.size)
    clear hb1 B0 S0
    have Sa1 := steps_own Oa1
    go_wp2_with fail
    refine (H1.out _ _ _ _ Sa1 (by unfold maxLen; omega)).mono ?_
    rintro e w2 ⟨rfl, hb2⟩
    have S2 := S1.next hb2
    have B2 := B1.trans (hb2.mono B1.size)
    clear hb2 B1 S1 Oa1 Sa1
    go_wp2_with fail
    refine (toSteps_any _ _ _ _ _ S2 (by omega)).mono ?_
    rintro e w3 ⟨Ab, rfl, Ob3, hb3⟩
    have S3 := S2.next hb3
    have B3 := B2.trans (hb3.mono B2.size)
    clear hb3 B2 S2
    have Sb3 := steps_own Ob3
    go_wp2_with fail
    refine (H2.out _ _ _ _ Sb3 (by unfold maxLen; omega)).mono ?_
    rintro e w4 ⟨rfl, hb4⟩
    have S4 := S3.next hb4
    have Ob4 := own_below Ob3 hb4
    have Sb4 := Sb3.next hb4
    have B4 := B3.trans (hb4.mono B3.size)
    clear hb4 B3 S3 Ob3 Sb3
    go_wp2_with fail
    refine (toSteps_any _ _ _ _ _ S4 (by omega)).mono ?_
    rintro e w5 ⟨Ad, rfl, Od5, hb5⟩
    have S5 := S4.next hb5
    have Ob5 := own_below Ob4 hb5
    have Sb5 := Sb4.next hb5
    have B5 := B4.trans (hb5.mono B4.size)
    clear hb5 B4 S4 Ob4 Sb4
    have Sd5 := steps_own Od5
    go_wp2_with fail
    refine (eqChartStepS_same _ _ _ _ _ _ _ Sb5 Sd5 (by unfold maxLen; omega)).mono ?_
    rintro e w6 ⟨rfl, hb6⟩
    have S6 := S5.next hb6
    have Ob6 := own_below Ob5 hb6
    have Sb6 := Sb5.next hb6
    have Od6 := own_below Od5 hb6
    have Sd6 := Sd5.next hb6
    have B6 := B5.trans (hb6.mono B5.size)
    clear hb6 B5 S5 Ob5 Sb5 Od5 Sd5
    go_wp2
    go_ret
    exact ⟨rfl, B6⟩
  · go_enter Try.func10, Try.ntmps10
    go_wp2_with fail
    refine (sz_out (by omega) _ _ _ (by omega) (by omega) hn).mono ?_
    rintro e w' ⟨rfl, rfl⟩
    go_wp2
    go_ret
    exact ⟨rfl, Below.refl _ _⟩

def gmTo (L : List (Int × Int)) : Int := L.foldl (fun m s => maxZ m (s.1 * s.2)) 0
theorem gm_step {L : List (Int × Int)} {k : Nat} {x y : Int} (h : L[k]? = some (x, y)) : gmTo (L.take (k + 1)) = maxZ (gmTo (L.take k)) (x * y) := by
  unfold gmTo
  rw [List.take_add_one, h]
  simp
theorem gm_bounds {L : List (Int × Int)} (h : chartB L = true) : ∀ k : Nat, 0 ≤ gmTo (L.take k) ∧ gmTo (L.take k) ≤ 50000000
  | 0 => by simp [gmTo]
  | k + 1 => by
    have ih := gm_bounds h k
    cases hk : L[k]? with
    | none => rw [List.take_add_one, hk]; simpa using ih
    | some s =>
      obtain ⟨x, y⟩ := s
      have b := chart_at h hk
      have m := mul_bd (a := x) (b := y) (A := 1000) (B := 50000) (by omega) (by omega) (by omega) (by omega)
      rw [gm_step hk]
      unfold maxZ; split <;> omega
theorem ret_pair {a b c : Int} (h : a = b) : Ending.returned (.tuple #[.int .i64 a, .int .i64 c]) = .returned (.tuple #[.int .i64 b, .int .i64 c]) := by rw [h]
theorem gm_form (L : List (Int × Int)) : ∃ x y : Int, pairV (chartB L) (gmTo L) 1 = .tuple #[.int .i64 x, .int .i64 y] := pairV_form _ _ _
theorem maxZ_lt {a b : Int} (h : a < b) : maxZ a b = b := if_neg (by omega)
theorem maxZ_ge {a b : Int} (h : ¬ a < b) : maxZ a b = a := by unfold maxZ; split <;> omega
theorem l00Max_any (a b : Int) (w : World) : Calls Try.prog 45 #[.int .i64 a, .int .i64 b] w fun e w' => e = .returned (.int .i64 (maxZ a b)) ∧ w = w' := by
  by_cases h : b < a
  · rw [show maxZ a b = a from if_pos h]
    go_enter Try.func45, Try.ntmps45
    go_wp2
    go_ret
    exact ⟨rfl, rfl⟩
  · rw [show maxZ a b = b from if_neg h]
    go_enter Try.func45, Try.ntmps45
    go_wp2
    go_ret
    exact ⟨rfl, rfl⟩
set_option maxHeartbeats 1000000 in
theorem implGreatestMoment_any (A : Option Addr) (n c : Nat) (L : List (Int × Int)) (w : World) (h : Steps w w.heap.size A n L) (hn : n ≤ maxLen) : Calls Try.prog 21 #[.slice A n c] w fun e w' => e = .returned (pairV (chartB L) (gmTo L) 1) ∧ Below w.heap.size w w' := by
  have V := implValidChart_any A n c L w h hn
  unfold maxLen at hn
  cases h0 : chartB L
  · rw [pairV_false]
    rw [h0] at V
    have HV := Lib.hid V
    clear V h0
    go_enter Try.func21, Try.ntmps21
    go_wp2_with fail
    refine HV.out.mono ?_
    rintro e w1 ⟨rfl, hb1⟩
    go_wp2
    go_ret2
    exact ⟨rfl, hb1⟩
  · rw [pairV_true]
    rw [h0] at V
    have HV := Lib.hid V
    have H := Lib.hid h
    have HC := Lib.hid h0
    clear V h0 h
    go_enter Try.func21, Try.ntmps21
    go_wp2_with fail
    refine HV.out.mono ?_
    rintro e w1 ⟨rfl, hb1⟩
    have H1 := Lib.hid (H.out.next hb1)
    clear H
    go_wp2
    go_loopw [4, 6, 12] (fun m _ i wr => ∃ k : Nat, k ≤ n ∧ i = .int .i64 k ∧ m = .int .i64 (gmTo (L.take k)) ∧ Below w1.heap.size w1 wr) (fun _ _ i _ => n - (intOf i).toNat)
    case atStart => exact ⟨0, Nat.zero_le _, rfl, by simp [gmTo], Below.refl _ _⟩
    case round =>
      obtain ⟨k, hk, rfl, rfl, HB⟩ := hrel
      obtain ⟨g0, g1⟩ := gm_bounds HC.out k
      by_cases hlt : k < n
      · obtain ⟨b, o, x, y, rfl, hbb, hx, hc1, hc2⟩ := (H1.out.next HB).at_ hlt
        have bk := chart_at HC.out hx
        obtain ⟨m1, m2⟩ := mul_bd (a := x) (b := y) (A := 1000) (B := 50000) (by omega) (by omega) (by omega) (by omega)
        have E := Lib.hid (gm_step hx)
        clear hx
        have i1 : (0 : Int) ≤ (k : Int) := Int.natCast_nonneg _
        have i2 : (k : Int) < (n : Int) := by omega
        by_cases hg : gmTo (L.take k) < x * y
        · have M := Lib.hid (maxZ_lt hg)
          go_wp2
          refine ⟨⟨k + 1, by omega, by go_num, ret_val (by rw [E.out, M.out]; try omega), HB.alloc HB.size _⟩, by simp [intOf]; omega⟩
        · have M := Lib.hid (maxZ_ge hg)
          go_wp2
          refine ⟨⟨k + 1, by omega, by go_num, ret_val (by rw [E.out, M.out]; try omega), HB.alloc HB.size _⟩, by simp [intOf]; omega⟩
      · obtain rfl : k = n := by omega
        have E := Lib.hid (show gmTo (L.take k) = gmTo L by rw [List.take_of_length_le (by have := H1.out.1; omega)])
        go_wp2
        go_ret2
        exact ⟨ret_pair E.out, hb1.trans (HB.mono hb1.size)⟩
set_option maxHeartbeats 1000000 in
theorem specGreatestMoment_any (A : Option Addr) (n c : Nat) (L : List (Int × Int)) (w : World) (h : Steps w w.heap.size A n L) (hn : n ≤ maxLen) : Calls Try.prog 20 #[.slice A n c] w fun e w' => e = .returned (pairV (chartB L) (gmTo L) 1) ∧ Below w.heap.size w w' := by
  have V := l03Ok_any A n c L w h hn
  unfold maxLen at hn
  cases h0 : chartB L
  · rw [pairV_false]
    rw [h0] at V
    have HV := Lib.hid V
    clear V h0
    go_enter Try.func20, Try.ntmps20
    go_wp2_with fail
    refine HV.out.mono ?_
    rintro e w1 ⟨rfl, hb1⟩
    go_wp2
    go_ret2
    exact ⟨rfl, hb1⟩
  · rw [pairV_true]
    rw [h0] at V
    have HV := Lib.hid V
    have H := Lib.hid h
    have HC := Lib.hid h0
    clear V h0 h
    go_enter Try.func20, Try.ntmps20
    go_wp2_with fail
    refine HV.out.mono ?_
    rintro e w1 ⟨rfl, hb1⟩
    have H1 := Lib.hid (H.out.next hb1)
    clear H
    go_wp2
    go_loopw [4, 5] (fun m i wr => ∃ k : Nat, k ≤ n ∧ i = .int .i64 k ∧ m = .int .i64 (gmTo (L.take k)) ∧ Below w1.heap.size w1 wr) (fun _ i _ => n - (intOf i).toNat)
    case atStart => exact ⟨0, Nat.zero_le _, rfl, by simp [gmTo], Below.refl _ _⟩
    case round =>
      obtain ⟨k, hk, rfl, rfl, HB⟩ := hrel
      obtain ⟨g0, g1⟩ := gm_bounds HC.out k
      by_cases hlt : k < n
      · obtain ⟨b, o, x, y, rfl, hbb, hx, hc1, hc2⟩ := (H1.out.next HB).at_ hlt
        have bk := chart_at HC.out hx
        obtain ⟨m1, m2⟩ := mul_bd (a := x) (b := y) (A := 1000) (B := 50000) (by omega) (by omega) (by omega) (by omega)
        have E := Lib.hid (gm_step hx)
        clear hx
        have i1 : (0 : Int) ≤ (k : Int) := Int.natCast_nonneg _
        have i2 : (k : Int) < (n : Int) := by omega
        have f1 := cell_regrown hc1
        have f2 := cell_regrown hc2
        have v1 := IntWalk.i64_in (x * y) (by omega)
        go_wp2_with fail
        refine wp_region_quiet_below (by kernel_rfl) (by kernel_rfl) ?_
        repeat (quiet_step (first | exact Calls.regrown_of (same_below (l00Max_any _ _ _))))
        refine wpQuiet_nil ?_
        intro w2 hw2
        have hb2 := class_below hw2
        have HB2 := HB.trans (hb2.mono HB.size)
        clear f1 f2 hw2 hb2 v1 HB hc1 hc2
        go_wp2
        exact ⟨⟨k + 1, by omega, by go_num, ret_val E.out.symm, HB2⟩, by simp [intOf]; omega⟩
      · obtain rfl : k = n := by omega
        have E := Lib.hid (show gmTo (L.take k) = gmTo L by rw [List.take_of_length_le (by have := H1.out.1; omega)])
        go_wp2
        go_ret2
        exact ⟨ret_pair E.out, hb1.trans (HB.mono hb1.size)⟩
set_option maxHeartbeats 1000000 in
theorem FnExactGreatestMoment_walk (w : World) (A : Option Addr) (n c : Nat) (L : List (Int × Int)) (hn : n ≤ maxLen) (S0 : Steps w w.heap.size A n L)  : Calls Try.prog 5 #[.slice A n c] w fun e w' => e = .returned (.bool true) ∧ Below w.heap.size w w' := by
  obtain ⟨x, y, F⟩ := gm_form L 
  have H1 : Hid (∀ A n c w, Steps w w.heap.size A n L → n ≤ maxLen → Calls Try.prog 20 #[.slice A n c] w fun e w' => e = .returned (.tuple #[.int .i64 x, .int .i64 y]) ∧ Below w.heap.size w w') := fun A n c w h hn => by rw [← F]; exact specGreatestMoment_any A n c L  w h hn
  have H2 : Hid (∀ A n c w, Steps w w.heap.size A n L → n ≤ maxLen → Calls Try.prog 21 #[.slice A n c] w fun e w' => e = .returned (.tuple #[.int .i64 x, .int .i64 y]) ∧ Below w.heap.size w w') := fun A n c w h hn => by rw [← F]; exact implGreatestMoment_any A n c L  w h hn
  clear F
  by_cases hs : (n : Int) ≤ 1048576
  · have B0 := Below.refl w.heap.size w
    clear hn
    go_enter Try.func5, Try.ntmps5
    go_wp2_with fail
    refine (sz_in hs _ _ _ (by omega) (by omega) (by unfold maxLen; omega)).mono ?_
    rintro e w' ⟨rfl, rfl⟩
    go_wp2_with fail
    refine (toSteps_any _ _ _ _ _ S0 (by omega)).mono ?_
    rintro e w1 ⟨Aa, rfl, Oa1, hb1⟩
    have S1 := S0.next hb1
    have B1 := B0.trans (hb1.mono B0.size)
    clear hb1 B0 S0
    have Sa1 := steps_own Oa1
    go_wp2_with fail
    refine (H1.out _ _ _ _ Sa1 (by unfold maxLen; omega)).mono ?_
    rintro e w2 ⟨rfl, hb2⟩
    have S2 := S1.next hb2
    have B2 := B1.trans (hb2.mono B1.size)
    clear hb2 B1 S1 Oa1 Sa1
    go_wp2_with fail
    refine (toSteps_any _ _ _ _ _ S2 (by omega)).mono ?_
    rintro e w3 ⟨Ab, rfl, Ob3, hb3⟩
    have S3 := S2.next hb3
    have B3 := B2.trans (hb3.mono B2.size)
    clear hb3 B2 S2
    have Sb3 := steps_own Ob3
    go_wp2_with fail
    refine (H2.out _ _ _ _ Sb3 (by unfold maxLen; omega)).mono ?_
    rintro e w4 ⟨rfl, hb4⟩
    have S4 := S3.next hb4
    have Ob4 := own_below Ob3 hb4
    have Sb4 := Sb3.next hb4
    have B4 := B3.trans (hb4.mono B3.size)
    clear hb4 B3 S3 Ob3 Sb3
    go_wp2_with fail
    refine (toSteps_any _ _ _ _ _ S4 (by omega)).mono ?_
    rintro e w5 ⟨Ad, rfl, Od5, hb5⟩
    have S5 := S4.next hb5
    have Ob5 := own_below Ob4 hb5
    have Sb5 := Sb4.next hb5
    have B5 := B4.trans (hb5.mono B4.size)
    clear hb5 B4 S4 Ob4 Sb4
    have Sd5 := steps_own Od5
    go_wp2_with fail
    refine (eqChartStepS_same _ _ _ _ _ _ _ Sb5 Sd5 (by unfold maxLen; omega)).mono ?_
    rintro e w6 ⟨rfl, hb6⟩
    have S6 := S5.next hb6
    have Ob6 := own_below Ob5 hb6
    have Sb6 := Sb5.next hb6
    have Od6 := own_below Od5 hb6
    have Sd6 := Sd5.next hb6
    have B6 := B5.trans (hb6.mono B5.size)
    clear hb6 B5 S5 Ob5 Sb5 Od5 Sd5
    go_wp2
    go_ret
    exact ⟨rfl, B6⟩
  · go_enter Try.func5, Try.ntmps5
    go_wp2_with fail
    refine (sz_out (by omega) _ _ _ (by omega) (by omega) hn).mono ?_
    rintro e w' ⟨rfl, rfl⟩
    go_wp2
    go_ret
    exact ⟨rfl, Below.refl _ _⟩
end Go.Proofs.Ytiaineljcmjfoaa
