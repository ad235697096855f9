/- Charts: the greatest radius for a load; its walks and its law. -/
import Derived.Test.YtiaineljcmjfoaaProg
import Derived.Test.YtiaineljcmjfoaaKit
import Derived.Test.YtiaineljcmjfoaaBasics
import Derived.Test.YtiaineljcmjfoaaMem
import Derived.Test.YtiaineljcmjfoaaCodeRes
import Derived.Test.YtiaineljcmjfoaaLists
import Derived.Test.YtiaineljcmjfoaaSteps
import Derived.Test.YtiaineljcmjfoaaCharts
import Derived.Test.YtiaineljcmjfoaaChartLaws
import Derived.Test.YtiaineljcmjfoaaFinds
import Derived.Test.YtiaineljcmjfoaaLoads
import Derived.Test.YtiaineljcmjfoaaLoads2
import Derived.Test.YtiaineljcmjfoaaLoads3
namespace Go.Proofs.Ytiaineljcmjfoaa
open Go.RowKit Go.WideShapes Go.ChangeShapes Go.Joins Go.Deep Go.Sort
set_option linter.unusedVariables false
set_option linter.unusedSimpArgs false

/-! ### the plain law: the search down from the last radius -/
def lastR (L : List (Int × Int)) : Int := (L.getD (L.length - 1) (0, 0)).1
def radDown (L : List (Int × Int)) (load : Int) : Nat → Int
  | 0 => if load ≤ loadV L 0 then 0 else -1
  | k + 1 => if load ≤ loadV L ((k + 1 : Nat) : Int) then ((k + 1 : Nat) : Int) else radDown L load k
def radV (L : List (Int × Int)) (load : Int) : Int := radDown L load (lastR L).toNat
theorem radDown_hit {L : List (Int × Int)} {load : Int} {k : Nat} (h : load ≤ loadV L (k : Int)) : radDown L load k = (k : Int) := by
  cases k with
  | zero => unfold radDown; rw [if_pos (by simpa using h)]; rfl
  | succ k => unfold radDown; rw [if_pos h]
theorem radDown_miss {L : List (Int × Int)} {load : Int} {k : Nat} (h : ¬ load ≤ loadV L ((k + 1 : Nat) : Int)) : radDown L load (k + 1) = radDown L load k := by
  conv => lhs; unfold radDown
  rw [if_neg h]
theorem radDown_zero {L : List (Int × Int)} {load : Int} (h : ¬ load ≤ loadV L ((0 : Nat) : Int)) : radDown L load 0 = -1 := by
  unfold radDown; rw [if_neg (by simpa using h)]
theorem last_at {L : List (Int × Int)} (h : 1 ≤ L.length) : ∃ x y, L[L.length - 1]? = some (x, y) ∧ lastR L = x := by
  have hl : L.length - 1 < L.length := by omega
  refine ⟨L[L.length - 1].1, L[L.length - 1].2, List.getElem?_eq_getElem hl, ?_⟩
  unfold lastR
  rw [getD_of (List.getElem?_eq_getElem hl)]
theorem lastR_bounds {L : List (Int × Int)} (h : chartB L = true) : 1 ≤ lastR L ∧ lastR L ≤ 1000 := by
  obtain ⟨x, y, hx, e⟩ := last_at (chart_len h).1
  have := chart_at h hx
  omega
/-- up to the last radius there is a load -/
theorem find_upto_last {L : List (Int × Int)} (h : chartB L = true) {r : Int} (hr : r ≤ lastR L) : ¬ findV L r < 0 := by
  obtain ⟨x, y, hx, e⟩ := last_at (chart_len h).1
  rcases findV_cases L r with ⟨_, hm⟩ | ⟨k, _, _, hf, _⟩
  · have := hm _ _ hx; simp only at this; omega
  · omega
def resRadiusFor (L : List (Int × Int)) (load : Int) : Value := codeRes (chartB L) (inB load 0 50000) (if radV L load < 0 then .tuple #[.int .i64 0, .int .i64 3] else .tuple #[.int .i64 (radV L load), .int .i64 0]) (.int .i64 0)
theorem resRadiusFor_form (L : List (Int × Int)) (r : Int) : ∃ x y : Int, resRadiusFor L r = .tuple #[.int .i64 x, .int .i64 y] := by
  unfold resRadiusFor codeRes
  split
  · split <;> exact ⟨_, _, rfl⟩
  · exact ⟨_, _, rfl⟩
  · exact ⟨_, _, rfl⟩
theorem resRadius_hit {L : List (Int × Int)} {load : Int} (h : chartB L = true) (h' : inB load 0 50000 = true) {k : Nat} (e : radV L load = radDown L load k) (hk : load ≤ loadV L (k : Int)) : resRadiusFor L load = .tuple #[.int .i64 (k : Int), .int .i64 0] := by
  unfold resRadiusFor
  rw [h, h', codeRes_tt, e, radDown_hit hk, if_neg (by omega)]
theorem resRadius_none {L : List (Int × Int)} {load : Int} (h : chartB L = true) (h' : inB load 0 50000 = true) (e : radV L load = -1) : resRadiusFor L load = .tuple #[.int .i64 0, .int .i64 3] := by
  unfold resRadiusFor
  rw [h, h', codeRes_tt, e]; rfl
theorem l03Last_any (A : Option Addr) (n c : Nat) (L : List (Int × Int)) (w : World) (h : Steps w w.heap.size A n L) (hn : n ≤ maxLen) (h1 : 1 ≤ n) : Calls Try.prog 54 #[.slice A n c] w fun e w' => e = .returned (.int .i64 (lastR L)) ∧ w = w' := by
  unfold maxLen at hn
  obtain ⟨x, y, hx, e⟩ := last_at (L := L) (by have := h.1; omega)
  rw [e]
  have hl : L.length = n := h.1
  rw [hl] at hx
  obtain ⟨b, o, x', y', rfl, _, hx', hc1, hc2⟩ := h.at_ (k := n - 1) (by omega)
  rw [hx] at hx'
  obtain ⟨rfl, rfl⟩ : x = x' ∧ y = y' := by simpa using hx'
  have i1 : (1 : Int) ≤ (n : Int) := by omega
  clear hx hx' e hl h
  go_enter Try.func54, Try.ntmps54
  go_wp2
  go_ret
  exact ⟨rfl, rfl⟩
set_option maxHeartbeats 2000000 in
theorem specRadiusFor_any (A : Option Addr) (n c : Nat) (L : List (Int × Int)) (load : Int) (w : World) (h : Steps w w.heap.size A n L) (hn : n ≤ maxLen) : Calls Try.prog 30 #[.slice A n c, .int .i64 load] w fun e w' => e = .returned (resRadiusFor L load) ∧ Below w.heap.size w w' := by
  have C := l03Ok_any A n c L w h hn
  cases h0 : chartB L
  · have E : resRadiusFor L load = .tuple #[.int .i64 0, .int .i64 1] := by unfold resRadiusFor codeRes; simp [h0]
    rw [E]; clear E
    rw [h0] at C
    have HC := Lib.hid C
    clear C h h0
    go_enter Try.func30, Try.ntmps30
    go_wp2_with fail
    refine HC.out.mono ?_
    rintro e w1 ⟨rfl, hb1⟩
    go_wp2_with (first | (go_at_call 46; refine (l00In_any _ _ _ _).mono ?_; rintro e w' ⟨rfl, rfl⟩))
    go_ret2
    exact ⟨rfl, hb1⟩
  · skip
    cases h1 : inB load 0 50000
    · have E : resRadiusFor L load = .tuple #[.int .i64 0, .int .i64 2] := by unfold resRadiusFor codeRes; simp [h0, h1]
      rw [E]; clear E
      rw [h0] at C
      have HC := Lib.hid C
      clear C h h0
      go_enter Try.func30, Try.ntmps30
      go_wp2_with fail
      refine HC.out.mono ?_
      rintro e w1 ⟨rfl, hb1⟩
      go_wp2_with (first | (go_at_call 46; refine (l00In_any _ _ _ _).mono ?_; rintro e w' ⟨rfl, rfl⟩))
      go_ret2
      exact ⟨rfl, hb1⟩
    · rw [h0] at C
      have HC := Lib.hid C
      clear C
      have S0 := Lib.hid h
      have HN := Lib.hid hn
      have hl1 : 1 ≤ n := by have := (chart_len h0).1; have := h.1; omega
      clear h
      obtain ⟨r0, r1⟩ := inB_of h1
      have H0 := Lib.hid h0
      have H1 := Lib.hid h1
      obtain ⟨q0, q1⟩ := lastR_bounds h0
      obtain ⟨R, hR⟩ : ∃ R : Nat, lastR L = (R : Int) := ⟨(lastR L).toNat, by omega⟩
      have HR := Lib.hid hR
      rw [hR] at q0 q1
      have CL : Hid (∀ w, Steps w w.heap.size A n L → Calls Try.prog 54 #[.slice A n c] w fun e w' => e = .returned (.int .i64 (R : Int)) ∧ w = w') := fun w h => by rw [← hR]; exact l03Last_any A n c L w h hn hl1
      clear h0 hn hR
      go_enter Try.func30, Try.ntmps30
      go_wp2_with fail
      refine HC.out.mono ?_
      rintro e w1 ⟨rfl, hb1⟩
      have S1 := Lib.hid (S0.out.next hb1)
      go_wp2_with (first | (go_at_call 46; refine (l00In_any _ _ _ _).mono ?_; rintro e w' ⟨rfl, rfl⟩) | (go_at_call 54; refine (CL.out _ S1.out).mono ?_; rintro e w' ⟨rfl, rfl⟩))
      go_loopw [6] (fun r wr => ∃ k : Int, -1 ≤ k ∧ k ≤ (R : Int) ∧ r = .int .i64 k ∧ Below w1.heap.size w1 wr ∧ Hid (radV L load = if k < 0 then -1 else radDown L load k.toNat)) (fun r _ => (intOf r + 1).toNat)
      case atStart => exact ⟨(R : Int), by omega, Int.le_refl _, rfl, Below.refl _ _, by show radV L load = _; rw [if_neg (by omega)]; unfold radV; rw [HR.out]⟩
      case round =>
        obtain ⟨k, hk0, hk1, rfl, HB, HE⟩ := hrel
        have S2 := Lib.hid (S1.out.next HB)
        by_cases hkn : 0 ≤ k
        · obtain ⟨j, rfl⟩ := Int.eq_ofNat_of_zero_le hkn
          have he := HE.out
          rw [if_neg (by omega), Int.toNat_natCast] at he
          by_cases hh : load ≤ loadV L (j : Int)
          · have E := Lib.hid (resRadius_hit H0.out H1.out he hh)
            clear he
            have FC : Hid (∀ w, Steps w w.heap.size A n L → Calls Try.prog 55 #[.slice A n c, .int .i64 (j : Int)] w fun e w' => e = .returned (.int .i64 (loadV L (j : Int))) ∧ Below w.heap.size w w') := fun w h => l03Load_any _ n c L (j : Int) w h HN.out H0.out (by omega) (by omega)
            go_wp2_with fail
            refine (FC.out _ S2.out).mono ?_
            rintro e w3 ⟨rfl, hb3⟩
            have B3 := HB.trans (hb3.mono HB.size)
            clear hb3 HB
            go_wp2
            go_ret2
            exact ⟨by rw [E.out]; rfl, hb1.trans (B3.mono hb1.size)⟩
          · have E : Hid (radV L load = if (j : Int) - 1 < 0 then -1 else radDown L load ((j : Int) - 1).toNat) := by
              show radV L load = _
              rw [he]
              cases j with
              | zero => rw [radDown_zero hh]; rfl
              | succ i => rw [radDown_miss hh, if_neg (by omega), show (((i + 1 : Nat) : Int) - 1).toNat = i by omega]
            clear he
            have FC : Hid (∀ w, Steps w w.heap.size A n L → Calls Try.prog 55 #[.slice A n c, .int .i64 (j : Int)] w fun e w' => e = .returned (.int .i64 (loadV L (j : Int))) ∧ Below w.heap.size w w') := fun w h => l03Load_any _ n c L (j : Int) w h HN.out H0.out (by omega) (by omega)
            go_wp2_with fail
            refine (FC.out _ S2.out).mono ?_
            rintro e w3 ⟨rfl, hb3⟩
            have B3 := HB.trans (hb3.mono HB.size)
            clear hb3 HB
            go_wp2
            exact ⟨⟨(j : Int) - 1, by omega, by omega, rfl, B3, E⟩, by simp [intOf] <;> omega⟩
        · have he := HE.out
          rw [if_pos (by omega)] at he
          have E := Lib.hid (resRadius_none H0.out H1.out he)
          clear he
          go_wp2
          go_ret2
          exact ⟨by rw [E.out]; rfl, hb1.trans (HB.mono hb1.size)⟩
set_option maxHeartbeats 2000000 in
theorem implRadiusFor_any (A : Option Addr) (n c : Nat) (L : List (Int × Int)) (load : Int) (w : World) (h : Steps w w.heap.size A n L) (hn : n ≤ maxLen) : Calls Try.prog 31 #[.slice A n c, .int .i64 load] w fun e w' => e = .returned (resRadiusFor L load) ∧ Below w.heap.size w w' := by
  have C := chartCode_any A n c L load 0 50000 w h hn
  cases h0 : chartB L
  · have E : resRadiusFor L load = .tuple #[.int .i64 0, .int .i64 1] := by unfold resRadiusFor codeRes; simp [h0]
    rw [E]; clear E
    rw [h0, codeV_f] at C
    have HC := Lib.hid C
    clear C h h0
    go_enter Try.func31, Try.ntmps31
    go_wp2_with fail
    refine HC.out.mono ?_
    rintro e w1 ⟨rfl, hb1⟩
    go_wp2
    go_ret2
    exact ⟨rfl, hb1⟩
  · skip
    cases h1 : inB load 0 50000
    · have E : resRadiusFor L load = .tuple #[.int .i64 0, .int .i64 2] := by unfold resRadiusFor codeRes; simp [h0, h1]
      rw [E]; clear E
      rw [h0, h1, codeV_tf] at C
      have HC := Lib.hid C
      clear C h h0 h1
      go_enter Try.func31, Try.ntmps31
      go_wp2_with fail
      refine HC.out.mono ?_
      rintro e w1 ⟨rfl, hb1⟩
      go_wp2
      go_ret2
      exact ⟨rfl, hb1⟩
    · rw [h0, h1, codeV_tt] at C
      have HC := Lib.hid C
      clear C
      have S0 := Lib.hid h
      have HN := Lib.hid hn
      have hl1 : 1 ≤ n := by have := (chart_len h0).1; have := h.1; omega
      clear h
      obtain ⟨r0, r1⟩ := inB_of h1
      have H0 := Lib.hid h0
      have H1 := Lib.hid h1
      obtain ⟨q0, q1⟩ := lastR_bounds h0
      obtain ⟨R, hR⟩ : ∃ R : Nat, lastR L = (R : Int) := ⟨(lastR L).toNat, by omega⟩
      have HR := Lib.hid hR
      rw [hR] at q0 q1
      obtain ⟨x, y, hx, ex⟩ := last_at (chart_len h0).1
      rw [S0.out.1] at hx
      have hxr : x = (R : Int) := by omega
      subst hxr
      have HX := Lib.hid hx
      have hn' := hn
      unfold maxLen at hn'
      clear h0 hn hR hx ex
      go_enter Try.func31, Try.ntmps31
      go_wp2_with fail
      refine HC.out.mono ?_
      rintro e w1 ⟨rfl, hb1⟩
      have S1 := Lib.hid (S0.out.next hb1)
      obtain ⟨b, o, x', y', rfl, _, hx', hc1, hc2⟩ := S1.out.at_ (k := n - 1) (by omega)
      rw [HX.out] at hx'
      obtain ⟨rfl, rfl⟩ : (R : Int) = x' ∧ y = y' := by simpa using hx'
      have i1 : (1 : Int) ≤ (n : Int) := by omega
      clear hx'
      go_wp2
      clear hc1 hc2
      go_loopw [7, 8, 9] (fun r _ _ wr => ∃ k : Int, -1 ≤ k ∧ k ≤ (R : Int) ∧ r = .int .i64 k ∧ Below w1.heap.size w1 wr ∧ Hid (radV L load = if k < 0 then -1 else radDown L load k.toNat)) (fun r _ _ _ => (intOf r + 1).toNat)
      case atStart => exact ⟨(R : Int), by omega, Int.le_refl _, rfl, Below.refl _ _, by show radV L load = _; rw [if_neg (by omega)]; unfold radV; rw [HR.out]⟩
      case round =>
        obtain ⟨k, hk0, hk1, rfl, HB, HE⟩ := hrel
        have S2 := Lib.hid (S1.out.next HB)
        by_cases hkn : 0 ≤ k
        · obtain ⟨j, rfl⟩ := Int.eq_ofNat_of_zero_le hkn
          have he := HE.out
          rw [if_neg (by omega), Int.toNat_natCast] at he
          by_cases hh : load ≤ loadV L (j : Int)
          · have E := Lib.hid (resRadius_hit H0.out H1.out he hh)
            clear he
            have FC : Hid (∀ w, Steps w w.heap.size (some ⟨b, o, none⟩) n L → Calls Try.prog 56 #[.slice (some ⟨b, o, none⟩) n c, .int .i64 (j : Int)] w fun e w' => e = .returned (.tuple #[.int .i64 (loadV L (j : Int)), .bool true]) ∧ Below w.heap.size w w') := fun w h => by have := loadAt_any _ n c L (j : Int) w h HN.out H0.out (by omega) (by omega); rwa [show loadRes L (j : Int) = .tuple #[.int .i64 (loadV L (j : Int)), .bool true] from by unfold loadRes; rw [if_neg (find_upto_last H0.out (by rw [HR.out]; exact hk1))]] at this
            go_wp2_with fail
            refine (FC.out _ S2.out).mono ?_
            rintro e w3 ⟨rfl, hb3⟩
            have B3 := HB.trans (hb3.mono HB.size)
            clear hb3 HB
            go_wp2
            go_ret2
            exact ⟨by rw [E.out]; rfl, hb1.trans (B3.mono hb1.size)⟩
          · have E : Hid (radV L load = if (j : Int) - 1 < 0 then -1 else radDown L load ((j : Int) - 1).toNat) := by
              show radV L load = _
              rw [he]
              cases j with
              | zero => rw [radDown_zero hh]; rfl
              | succ i => rw [radDown_miss hh, if_neg (by omega), show (((i + 1 : Nat) : Int) - 1).toNat = i by omega]
            clear he
            have FC : Hid (∀ w, Steps w w.heap.size (some ⟨b, o, none⟩) n L → Calls Try.prog 56 #[.slice (some ⟨b, o, none⟩) n c, .int .i64 (j : Int)] w fun e w' => e = .returned (.tuple #[.int .i64 (loadV L (j : Int)), .bool true]) ∧ Below w.heap.size w w') := fun w h => by have := loadAt_any _ n c L (j : Int) w h HN.out H0.out (by omega) (by omega); rwa [show loadRes L (j : Int) = .tuple #[.int .i64 (loadV L (j : Int)), .bool true] from by unfold loadRes; rw [if_neg (find_upto_last H0.out (by rw [HR.out]; exact hk1))]] at this
            go_wp2_with fail
            refine (FC.out _ S2.out).mono ?_
            rintro e w3 ⟨rfl, hb3⟩
            have B3 := HB.trans (hb3.mono HB.size)
            clear hb3 HB
            go_wp2
            exact ⟨⟨(j : Int) - 1, by omega, by omega, rfl, B3, E⟩, by simp [intOf] <;> omega⟩
        · have he := HE.out
          rw [if_pos (by omega)] at he
          have E := Lib.hid (resRadius_none H0.out H1.out he)
          clear he
          go_wp2
          go_ret2
          exact ⟨by rw [E.out]; rfl, hb1.trans (HB.mono hb1.size)⟩
set_option maxHeartbeats 1000000 in
theorem FnExactRadiusFor_walk (w : World) (A : Option Addr) (n c : Nat) (L : List (Int × Int)) (hn : n ≤ maxLen) (S0 : Steps w w.heap.size A n L) (load : Int) (_wload : (Lit.int .i64 load).wf = true) : Calls Try.prog 9 #[.slice A n c, .int .i64 load] w fun e w' => e = .returned (.bool true) ∧ Below w.heap.size w w' := by
  obtain ⟨x, y, F⟩ := resRadiusFor_form L load
  have H1 : Hid (∀ A n c w, Steps w w.heap.size A n L → n ≤ maxLen → Calls Try.prog 30 #[.slice A n c, .int .i64 load] w fun e w' => e = .returned (.tuple #[.int .i64 x, .int .i64 y]) ∧ Below w.heap.size w w') := fun A n c w h hn => by rw [← F]; exact specRadiusFor_any A n c L load w h hn
  have H2 : Hid (∀ A n c w, Steps w w.heap.size A n L → n ≤ maxLen → Calls Try.prog 31 #[.slice A n c, .int .i64 load] w fun e w' => e = .returned (.tuple #[.int .i64 x, .int .i64 y]) ∧ Below w.heap.size w w') := fun A n c w h hn => by rw [← F]; exact implRadiusFor_any A n c L load w h hn
  clear F _wload
  by_cases hs : (n : Int) ≤ 1048576
  · have B0 := Below.refl w.heap.size w
    clear hn
    go_enter Try.func9, Try.ntmps9
    go_wp2_with fail
    refine (sz_in hs _ _ _ (by omega) (by omega) (by unfold maxLen; omega)).mono ?_
    rintro e w' ⟨rfl, rfl⟩
    go_wp2_with fail
    refine (toSteps_any _ _ _ _ _ S0 (by omega)).mono ?_
    rintro e w1 ⟨Aa, rfl, Oa1, hb1⟩
    have S1 := S0.next hb1
    have B1 := B0.trans (hb1.mono B0.size)
    clear hb1 B0 S0
    have Sa1 := steps_own Oa1
    go_wp2_with fail
    refine (H1.out _ _ _ _ Sa1 (by unfold maxLen; omega)).mono ?_
    rintro e w2 ⟨rfl, hb2⟩
    have S2 := S1.next hb2
    have B2 := B1.trans (hb2.mono B1.size)
    clear hb2 B1 S1 Oa1 Sa1
    go_wp2_with fail
    refine (toSteps_any _ _ _ _ _ S2 (by omega)).mono ?_
    rintro e w3 ⟨Ab, rfl, Ob3, hb3⟩
    have S3 := S2.next hb3
    have B3 := B2.trans (hb3.mono B2.size)
    clear hb3 B2 S2
    have Sb3 := steps_own Ob3
    go_wp2_with fail
    refine (H2.out _ _ _ _ Sb3 (by unfold maxLen; omega)).mono ?_
    rintro e w4 ⟨rfl, hb4⟩
    have S4 := S3.next hb4
    have Ob4 := own_below Ob3 hb4
    have Sb4 := Sb3.next hb4
    have B4 := B3.trans (hb4.mono B3.size)
    clear hb4 B3 S3 Ob3 Sb3
    go_wp2_with fail
    refine (toSteps_any _ _ _ _ _ S4 (by omega)).mono ?_
    rintro e w5 ⟨Ad, rfl, Od5, hb5⟩
    have S5 := S4.next hb5
    have Ob5 := own_below Ob4 hb5
    have Sb5 := Sb4.next hb5
    have B5 := B4.trans (hb5.mono B4.size)
    clear hb5 B4 S4 Ob4 Sb4
    have Sd5 := steps_own Od5
    go_wp2_with fail
    refine (eqChartStepS_same _ _ _ _ _ _ _ Sb5 Sd5 (by unfold maxLen; omega)).mono ?_
    rintro e w6 ⟨rfl, hb6⟩
    have S6 := S5.next hb6
    have Ob6 := own_below Ob5 hb6
    have Sb6 := Sb5.next hb6
    have Od6 := own_below Od5 hb6
    have Sd6 := Sd5.next hb6
    have B6 := B5.trans (hb6.mono B5.size)
    clear hb6 B5 S5 Ob5 Sb5 Od5 Sd5
    go_wp2
    go_ret
    exact ⟨rfl, B6⟩
  · go_enter Try.func9, Try.ntmps9
    go_wp2_with fail
    refine (sz_out (by omega) _ _ _ (by omega) (by omega) hn).mono ?_
    rintro e w' ⟨rfl, rfl⟩
    go_wp2
    go_ret
    exact ⟨rfl, Below.refl _ _⟩
end Go.Proofs.Ytiaineljcmjfoaa
