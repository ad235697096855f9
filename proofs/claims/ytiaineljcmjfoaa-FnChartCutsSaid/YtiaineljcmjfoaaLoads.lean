/- Charts and their loads: the codes, the load of a step, the load at a radius, the greatest moment, the radius for a load; their laws. -/
import Derived.Test.YtiaineljcmjfoaaProg
import Derived.Test.YtiaineljcmjfoaaKit
import Derived.Test.YtiaineljcmjfoaaBasics
import Derived.Test.YtiaineljcmjfoaaMem
import Derived.Test.YtiaineljcmjfoaaCodeRes
import Derived.Test.YtiaineljcmjfoaaLists
import Derived.Test.YtiaineljcmjfoaaSteps
import Derived.Test.YtiaineljcmjfoaaCharts
import Derived.Test.YtiaineljcmjfoaaChartLaws
import Derived.Test.YtiaineljcmjfoaaFinds
import Derived.BigRegion
namespace Go.Proofs.Ytiaineljcmjfoaa
open Go.RowKit Go.WideShapes Go.ChangeShapes Go.Joins Go.Deep Go.Sort
set_option linter.unusedVariables false
set_option linter.unusedSimpArgs false
theorem chartCode_any (A : Option Addr) (n c : Nat) (L : List (Int × Int)) (r lo hi : Int) (w : World) (h : Steps w w.heap.size A n L) (hn : n ≤ maxLen) : Calls Try.prog 47 #[.slice A n c, .int .i64 r, .int .i64 lo, .int .i64 hi] w fun e w' => e = .returned (.int .i64 (codeV (chartB L) (inB r lo hi))) ∧ Below w.heap.size w w' := by
  have V := implValidChart_any A n c L w h hn
  clear h hn
  cases h0 : chartB L
  · rw [codeV_f]
    rw [h0] at V
    have HV := Lib.hid V
    clear V h0
    go_enter Try.func47, Try.ntmps47
    go_wp2_with fail
    refine HV.out.mono ?_
    rintro e w1 ⟨rfl, hb1⟩
    go_wp2_with (first | (go_at_call 44; refine (within_any _ _ _ _).mono ?_; rintro e w' ⟨rfl, rfl⟩))
    go_ret
    exact ⟨rfl, hb1⟩
  · skip
    cases h1 : inB r lo hi
    · rw [codeV_tf]
      rw [h0] at V
      have HV := Lib.hid V
      clear V h0
      go_enter Try.func47, Try.ntmps47
      go_wp2_with fail
      refine HV.out.mono ?_
      rintro e w1 ⟨rfl, hb1⟩
      go_wp2_with (first | (go_at_call 44; refine (within_any _ _ _ _).mono ?_; rintro e w' ⟨rfl, rfl⟩))
      go_ret
      exact ⟨rfl, hb1⟩
    · rw [codeV_tt]
      rw [h0] at V
      have HV := Lib.hid V
      clear V h0
      go_enter Try.func47, Try.ntmps47
      go_wp2_with fail
      refine HV.out.mono ?_
      rintro e w1 ⟨rfl, hb1⟩
      go_wp2_with (first | (go_at_call 44; refine (within_any _ _ _ _).mono ?_; rintro e w' ⟨rfl, rfl⟩))
      go_ret
      exact ⟨rfl, hb1⟩
theorem l03Code_any (A : Option Addr) (n c : Nat) (L : List (Int × Int)) (r : Int) (w : World) (h : Steps w w.heap.size A n L) (hn : n ≤ maxLen) : Calls Try.prog 50 #[.slice A n c, .int .i64 r] w fun e w' => e = .returned (.int .i64 (codeV (chartB L) (inB r 0 1000))) ∧ Below w.heap.size w w' := by
  have V := l03Ok_any A n c L w h hn
  clear h hn
  cases h0 : chartB L
  · rw [codeV_f]
    rw [h0] at V
    have HV := Lib.hid V
    clear V h0
    go_enter Try.func50, Try.ntmps50
    go_wp2_with fail
    refine HV.out.mono ?_
    rintro e w1 ⟨rfl, hb1⟩
    go_wp2_with (first | (go_at_call 46; refine (l00In_any _ _ _ _).mono ?_; rintro e w' ⟨rfl, rfl⟩))
    go_ret
    exact ⟨rfl, hb1⟩
  · skip
    cases h1 : inB r 0 1000
    · rw [codeV_tf]
      rw [h0] at V
      have HV := Lib.hid V
      clear V h0
      go_enter Try.func50, Try.ntmps50
      go_wp2_with fail
      refine HV.out.mono ?_
      rintro e w1 ⟨rfl, hb1⟩
      go_wp2_with (first | (go_at_call 46; refine (l00In_any _ _ _ _).mono ?_; rintro e w' ⟨rfl, rfl⟩))
      go_ret
      exact ⟨rfl, hb1⟩
    · rw [codeV_tt]
      rw [h0] at V
      have HV := Lib.hid V
      clear V h0
      go_enter Try.func50, Try.ntmps50
      go_wp2_with fail
      refine HV.out.mono ?_
      rintro e w1 ⟨rfl, hb1⟩
      go_wp2_with (first | (go_at_call 46; refine (l00In_any _ _ _ _).mono ?_; rintro e w' ⟨rfl, rfl⟩))
      go_ret
      exact ⟨rfl, hb1⟩

def resLoadStep (L : List (Int × Int)) (r : Int) : Value := codeRes (chartB L) (inB r 0 1000) (if findV L r < 0 then .tuple #[.int .i64 0, .int .i64 3] else .tuple #[.int .i64 (L.getD (findV L r).toNat (0, 0)).2, .int .i64 0]) (.int .i64 0)
theorem resLoadStep_form (L : List (Int × Int)) (r : Int) : ∃ x y : Int, resLoadStep L r = .tuple #[.int .i64 x, .int .i64 y] := by
  unfold resLoadStep codeRes
  split
  · split <;> exact ⟨_, _, rfl⟩
  · exact ⟨_, _, rfl⟩
  · exact ⟨_, _, rfl⟩
theorem resLoadStep_none {L : List (Int × Int)} {r : Int} (h : chartB L = true) (h' : inB r 0 1000 = true) (hf : findV L r = -1) : resLoadStep L r = .tuple #[.int .i64 0, .int .i64 3] := by
  unfold resLoadStep; rw [h, h', codeRes_tt, hf]; rfl
theorem resLoadStep_some {L : List (Int × Int)} {r : Int} (h : chartB L = true) (h' : inB r 0 1000 = true) {k : Nat} {x y : Int} (hf : findV L r = (k : Int)) (hk : L[k]? = some (x, y)) : resLoadStep L r = .tuple #[.int .i64 y, .int .i64 0] := by
  unfold resLoadStep; rw [h, h', codeRes_tt, hf, if_neg (by omega), Int.toNat_natCast, List.getD_eq_getElem?_getD, hk]; rfl
set_option maxHeartbeats 400000 in
theorem implLoadStep_any (A : Option Addr) (n c : Nat) (L : List (Int × Int)) (r : Int) (w : World) (h : Steps w w.heap.size A n L) (hn : n ≤ maxLen) : Calls Try.prog 27 #[.slice A n c, .int .i64 r] w fun e w' => e = .returned (resLoadStep L r) ∧ Below w.heap.size w w' := by
  have C := chartCode_any A n c L r 0 1000 w h hn
  cases h0 : chartB L
  · have E : resLoadStep L r = .tuple #[.int .i64 0, .int .i64 1] := by unfold resLoadStep codeRes; simp [h0]
    rw [E]; clear E
    rw [h0, codeV_f] at C
    have HC := Lib.hid C
    clear C h h0
    go_enter Try.func27, Try.ntmps27
    go_wp2_with fail
    refine HC.out.mono ?_
    rintro e w1 ⟨rfl, hb1⟩
    go_wp2
    go_ret2
    exact ⟨rfl, hb1⟩
  · skip
    cases h1 : inB r 0 1000
    · have E : resLoadStep L r = .tuple #[.int .i64 0, .int .i64 2] := by unfold resLoadStep codeRes; simp [h0, h1]
      rw [E]; clear E
      rw [h0, h1, codeV_tf] at C
      have HC := Lib.hid C
      clear C h h0 h1
      go_enter Try.func27, Try.ntmps27
      go_wp2_with fail
      refine HC.out.mono ?_
      rintro e w1 ⟨rfl, hb1⟩
      go_wp2
      go_ret2
      exact ⟨rfl, hb1⟩
    · rw [h0, h1, codeV_tt] at C
      have HC := Lib.hid C
      clear C
      have hn' := hn
      unfold maxLen at hn'
      have S0 := Lib.hid h
      clear h
      rcases findV_cases L r with ⟨hf, _⟩ | ⟨k, x, y, hf, hkl, hk, _⟩
      · rw [resLoadStep_none h0 h1 hf]
        have FC : Hid (∀ w, Steps w w.heap.size A n L → Calls Try.prog 52 #[.slice A n c, .int .i64 r] w fun e w' => e = .returned (.int .i64 (-1)) ∧ Below w.heap.size w w') := fun w h => by have := stepFor_any A n c L r w h hn; rwa [hf] at this
        clear h0 h1 hf
        go_enter Try.func27, Try.ntmps27
        go_wp2_with fail
        refine HC.out.mono ?_
        rintro e w1 ⟨rfl, hb1⟩
        have S1 := Lib.hid (S0.out.next hb1)
        go_wp2_with fail
        refine (FC.out _ S1.out).mono ?_
        rintro e w2 ⟨rfl, hb2⟩
        have S2 := Lib.hid (S1.out.next hb2)
        have hb1 := hb1.trans (hb2.mono hb1.size)
        clear hb2 S1
        go_wp2
        go_ret2
        exact ⟨rfl, hb1⟩
      · rw [resLoadStep_some h0 h1 hf hk]
        have FC : Hid (∀ w, Steps w w.heap.size A n L → Calls Try.prog 52 #[.slice A n c, .int .i64 r] w fun e w' => e = .returned (.int .i64 (k : Int)) ∧ Below w.heap.size w w') := fun w h => by have := stepFor_any A n c L r w h hn; rwa [hf] at this
        have hkn : k < n := by have := S0.out.1; omega
        have i1 : (0 : Int) ≤ (k : Int) := Int.natCast_nonneg _
        have i2 : (k : Int) < (n : Int) := by omega
        have HK := Lib.hid hk
        clear h0 h1 hf hk
        go_enter Try.func27, Try.ntmps27
        go_wp2_with fail
        refine HC.out.mono ?_
        rintro e w1 ⟨rfl, hb1⟩
        have S1 := Lib.hid (S0.out.next hb1)
        go_wp2_with fail
        refine (FC.out _ S1.out).mono ?_
        rintro e w2 ⟨rfl, hb2⟩
        have S2 := Lib.hid (S1.out.next hb2)
        have hb1 := hb1.trans (hb2.mono hb1.size)
        clear hb2 S1
        obtain ⟨b, o, x', y', rfl, _, hx, hc1, hc2⟩ := S2.out.at_ hkn
        rw [HK.out] at hx
        obtain ⟨rfl, rfl⟩ : x = x' ∧ y = y' := by simpa using hx
        clear hx
        go_wp2
        go_ret2
        exact ⟨rfl, hb1⟩
set_option maxHeartbeats 400000 in
theorem specLoadStep_any (A : Option Addr) (n c : Nat) (L : List (Int × Int)) (r : Int) (w : World) (h : Steps w w.heap.size A n L) (hn : n ≤ maxLen) : Calls Try.prog 26 #[.slice A n c, .int .i64 r] w fun e w' => e = .returned (resLoadStep L r) ∧ Below w.heap.size w w' := by
  have C := l03Code_any A n c L r w h hn
  cases h0 : chartB L
  · have E : resLoadStep L r = .tuple #[.int .i64 0, .int .i64 1] := by unfold resLoadStep codeRes; simp [h0]
    rw [E]; clear E
    rw [h0, codeV_f] at C
    have HC := Lib.hid C
    clear C h h0
    go_enter Try.func26, Try.ntmps26
    go_wp2_with fail
    refine HC.out.mono ?_
    rintro e w1 ⟨rfl, hb1⟩
    go_wp2
    go_ret2
    exact ⟨rfl, hb1⟩
  · skip
    cases h1 : inB r 0 1000
    · have E : resLoadStep L r = .tuple #[.int .i64 0, .int .i64 2] := by unfold resLoadStep codeRes; simp [h0, h1]
      rw [E]; clear E
      rw [h0, h1, codeV_tf] at C
      have HC := Lib.hid C
      clear C h h0 h1
      go_enter Try.func26, Try.ntmps26
      go_wp2_with fail
      refine HC.out.mono ?_
      rintro e w1 ⟨rfl, hb1⟩
      go_wp2
      go_ret2
      exact ⟨rfl, hb1⟩
    · rw [h0, h1, codeV_tt] at C
      have HC := Lib.hid C
      clear C
      have hn' := hn
      unfold maxLen at hn'
      have S0 := Lib.hid h
      clear h
      rcases findV_cases L r with ⟨hf, _⟩ | ⟨k, x, y, hf, hkl, hk, _⟩
      · rw [resLoadStep_none h0 h1 hf]
        have FC : Hid (∀ w, Steps w w.heap.size A n L → Calls Try.prog 51 #[.slice A n c, .int .i64 r] w fun e w' => e = .returned (.int .i64 (-1)) ∧ w = w') := fun w h => by have := l03Find_any A n c L r w h hn; rwa [hf] at this
        clear h0 h1 hf
        go_enter Try.func26, Try.ntmps26
        go_wp2_with fail
        refine HC.out.mono ?_
        rintro e w1 ⟨rfl, hb1⟩
        have S1 := Lib.hid (S0.out.next hb1)
        go_wp2_with fail
        refine (FC.out _ S1.out).mono ?_
        rintro e w' ⟨rfl, rfl⟩
        go_wp2
        go_ret2
        exact ⟨rfl, hb1⟩
      · rw [resLoadStep_some h0 h1 hf hk]
        have FC : Hid (∀ w, Steps w w.heap.size A n L → Calls Try.prog 51 #[.slice A n c, .int .i64 r] w fun e w' => e = .returned (.int .i64 (k : Int)) ∧ w = w') := fun w h => by have := l03Find_any A n c L r w h hn; rwa [hf] at this
        have hkn : k < n := by have := S0.out.1; omega
        have i1 : (0 : Int) ≤ (k : Int) := Int.natCast_nonneg _
        have i2 : (k : Int) < (n : Int) := by omega
        have HK := Lib.hid hk
        clear h0 h1 hf hk
        go_enter Try.func26, Try.ntmps26
        go_wp2_with fail
        refine HC.out.mono ?_
        rintro e w1 ⟨rfl, hb1⟩
        have S1 := Lib.hid (S0.out.next hb1)
        go_wp2_with fail
        refine (FC.out _ S1.out).mono ?_
        rintro e w' ⟨rfl, rfl⟩
        obtain ⟨b, o, x', y', rfl, _, hx, hc1, hc2⟩ := S1.out.at_ hkn
        rw [HK.out] at hx
        obtain ⟨rfl, rfl⟩ : x = x' ∧ y = y' := by simpa using hx
        clear hx
        go_wp2
        go_ret2
        exact ⟨rfl, hb1⟩
set_option maxHeartbeats 1000000 in
theorem FnExactLoadStep_walk (w : World) (A : Option Addr) (n c : Nat) (L : List (Int × Int)) (hn : n ≤ maxLen) (S0 : Steps w w.heap.size A n L) (r : Int) (_wr : (Lit.int .i64 r).wf = true) : Calls Try.prog 7 #[.slice A n c, .int .i64 r] w fun e w' => e = .returned (.bool true) ∧ Below w.heap.size w w' := by
  obtain ⟨x, y, F⟩ := resLoadStep_form L r
  have H1 : Hid (∀ A n c w, Steps w w.heap.size A n L → n ≤ maxLen → Calls Try.prog 26 #[.slice A n c, .int .i64 r] w fun e w' => e = .returned (.tuple #[.int .i64 x, .int .i64 y]) ∧ Below w.heap.size w w') := fun A n c w h hn => by rw [← F]; exact specLoadStep_any A n c L r w h hn
  have H2 : Hid (∀ A n c w, Steps w w.heap.size A n L → n ≤ maxLen → Calls Try.prog 27 #[.slice A n c, .int .i64 r] w fun e w' => e = .returned (.tuple #[.int .i64 x, .int .i64 y]) ∧ Below w.heap.size w w') := fun A n c w h hn => by rw [← F]; exact implLoadStep_any A n c L r w h hn
  clear F _wr
  by_cases hs : (n : Int) ≤ 1048576
  · have B0 := Below.refl w.heap.size w
    clear hn
    go_enter Try.func7, Try.ntmps7
    go_wp2_with fail
    refine (sz_in hs _ _ _ (by omega) (by omega) (by unfold maxLen; omega)).mono ?_
    rintro e w' ⟨rfl, rfl⟩
    go_wp2_with fail
    refine (toSteps_any _ _ _ _ _ S0 (by omega)).mono ?_
    rintro e w1 ⟨Aa, rfl, Oa1, hb1⟩
    have S1 := S0.next hb1
    have B1 := B0.trans (hb1.mono B0.size)
    clear hb1 B0 S0
    have Sa1 := steps_own Oa1
    go_wp2_with fail
    refine (H1.out _ _ _ _ Sa1 (by unfold maxLen; omega)).mono ?_
    rintro e w2 ⟨rfl, hb2⟩
    have S2 := S1.next hb2
    have B2 := B1.trans (hb2.mono B1.size)
    clear hb2 B1 S1 Oa1 Sa1
    go_wp2_with fail
    refine (toSteps_any _ _ _ _ _ S2 (by omega)).mono ?_
    rintro e w3 ⟨Ab, rfl, Ob3, hb3⟩
    have S3 := S2.next hb3
    have B3 := B2.trans (hb3.mono B2.size)
    clear hb3 B2 S2
    have Sb3 := steps_own Ob3
    go_wp2_with fail
    refine (H2.out _ _ _ _ Sb3 (by unfold maxLen; omega)).mono ?_
    rintro e w4 ⟨rfl, hb4⟩
    have S4 := S3.next hb4
    have Ob4 := own_below Ob3 hb4
    have Sb4 := Sb3.next hb4
    have B4 := B3.trans (hb4.mono B3.size)
    clear hb4 B3 S3 Ob3 Sb3
    go_wp2_with fail
    refine (toSteps_any _ _ _ _ _ S4 (by omega)).mono ?_
    rintro e w5 ⟨Ad, rfl, Od5, hb5⟩
    have S5 := S4.next hb5
    have Ob5 := own_below Ob4 hb5
    have Sb5 := Sb4.next hb5
    have B5 := B4.trans (hb5.mono B4.size)
    clear hb5 B4 S4 Ob4 Sb4
    have Sd5 := steps_own Od5
    go_wp2_with fail
    refine (eqChartStepS_same _ _ _ _ _ _ _ Sb5 Sd5 (by unfold maxLen; omega)).mono ?_
    rintro e w6 ⟨rfl, hb6⟩
    have S6 := S5.next hb6
    have Ob6 := own_below Ob5 hb6
    have Sb6 := Sb5.next hb6
    have Od6 := own_below Od5 hb6
    have Sd6 := Sd5.next hb6
    have B6 := B5.trans (hb6.mono B5.size)
    clear hb6 B5 S5 Ob5 Sb5 Od5 Sd5
    go_wp2
    go_ret
    exact ⟨rfl, B6⟩
  · go_enter Try.func7, Try.ntmps7
    go_wp2_with fail
    refine (sz_out (by omega) _ _ _ (by omega) (by omega) hn).mono ?_
    rintro e w' ⟨rfl, rfl⟩
    go_wp2
    go_ret
    exact ⟨rfl, Below.refl _ _⟩
end Go.Proofs.Ytiaineljcmjfoaa
