/- Charts and their loads: the codes, the load of a step, the load at a radius, the greatest moment, the radius for a load; their laws. -/
import Derived.Test.YtihbomgbkpmojaaDoorProg
import Derived.Test.YtihbomgbkpmojaaDoorKit
import Derived.Test.YtihbomgbkpmojaaDoorBasics
import Derived.Test.YtihbomgbkpmojaaDoorMem
import Derived.Test.YtihbomgbkpmojaaDoorCodeRes
import Derived.Test.YtihbomgbkpmojaaDoorLists
import Derived.Test.YtihbomgbkpmojaaDoorSteps
import Derived.Test.YtihbomgbkpmojaaDoorCharts
import Derived.Test.YtihbomgbkpmojaaDoorChartLaws
import Derived.Test.YtihbomgbkpmojaaDoorFinds
import Derived.BigRegion
namespace Go.Proofs.YtihbomgbkpmojaaDoor
open Go.RowKit Go.WideShapes Go.ChangeShapes Go.Joins Go.Deep Go.Sort
set_option linter.unusedVariables false
set_option linter.unusedSimpArgs false
theorem chartCode_any (A : Option Addr) (n c : Nat) (L : List (Int × Int)) (r lo hi : Int) (w : World) (h : Steps w w.heap.size A n L) (hn : n ≤ maxLen) : Calls Tryd.prog 48 #[.slice A n c, .int .i64 r, .int .i64 lo, .int .i64 hi] w fun e w' => e = .returned (.int .i64 (codeV (chartB L) (inB r lo hi))) ∧ Below w.heap.size w w' := by
  have V := implValidChart_any A n c L w h hn
  clear h hn
  cases h0 : chartB L
  · rw [codeV_f]
    rw [h0] at V
    have HV := Lib.hid V
    clear V h0
    go_enter Tryd.func48, Tryd.ntmps48
    go_wp2_with fail
    refine HV.out.mono ?_
    rintro e w1 ⟨rfl, hb1⟩
    go_wp2_with (first | (go_at_call 47; refine (within_any _ _ _ _).mono ?_; rintro e w' ⟨rfl, rfl⟩))
    go_ret
    exact ⟨rfl, hb1⟩
  · skip
    cases h1 : inB r lo hi
    · rw [codeV_tf]
      rw [h0] at V
      have HV := Lib.hid V
      clear V h0
      go_enter Tryd.func48, Tryd.ntmps48
      go_wp2_with fail
      refine HV.out.mono ?_
      rintro e w1 ⟨rfl, hb1⟩
      go_wp2_with (first | (go_at_call 47; refine (within_any _ _ _ _).mono ?_; rintro e w' ⟨rfl, rfl⟩))
      go_ret
      exact ⟨rfl, hb1⟩
    · rw [codeV_tt]
      rw [h0] at V
      have HV := Lib.hid V
      clear V h0
      go_enter Tryd.func48, Tryd.ntmps48
      go_wp2_with fail
      refine HV.out.mono ?_
      rintro e w1 ⟨rfl, hb1⟩
      go_wp2_with (first | (go_at_call 47; refine (within_any _ _ _ _).mono ?_; rintro e w' ⟨rfl, rfl⟩))
      go_ret
      exact ⟨rfl, hb1⟩
theorem l03Code_any (A : Option Addr) (n c : Nat) (L : List (Int × Int)) (r : Int) (w : World) (h : Steps w w.heap.size A n L) (hn : n ≤ maxLen) : Calls Tryd.prog 51 #[.slice A n c, .int .i64 r] w fun e w' => e = .returned (.int .i64 (codeV (chartB L) (inB r 0 1000))) ∧ Below w.heap.size w w' := by
  have V := l03Ok_any A n c L w h hn
  clear h hn
  cases h0 : chartB L
  · rw [codeV_f]
    rw [h0] at V
    have HV := Lib.hid V
    clear V h0
    go_enter Tryd.func51, Tryd.ntmps51
    go_wp2_with fail
    refine HV.out.mono ?_
    rintro e w1 ⟨rfl, hb1⟩
    go_wp2_with (first | (go_at_call 58; refine (l00In_any _ _ _ _).mono ?_; rintro e w' ⟨rfl, rfl⟩))
    go_ret
    exact ⟨rfl, hb1⟩
  · skip
    cases h1 : inB r 0 1000
    · rw [codeV_tf]
      rw [h0] at V
      have HV := Lib.hid V
      clear V h0
      go_enter Tryd.func51, Tryd.ntmps51
      go_wp2_with fail
      refine HV.out.mono ?_
      rintro e w1 ⟨rfl, hb1⟩
      go_wp2_with (first | (go_at_call 58; refine (l00In_any _ _ _ _).mono ?_; rintro e w' ⟨rfl, rfl⟩))
      go_ret
      exact ⟨rfl, hb1⟩
    · rw [codeV_tt]
      rw [h0] at V
      have HV := Lib.hid V
      clear V h0
      go_enter Tryd.func51, Tryd.ntmps51
      go_wp2_with fail
      refine HV.out.mono ?_
      rintro e w1 ⟨rfl, hb1⟩
      go_wp2_with (first | (go_at_call 58; refine (l00In_any _ _ _ _).mono ?_; rintro e w' ⟨rfl, rfl⟩))
      go_ret
      exact ⟨rfl, hb1⟩

def resLoadStep (L : List (Int × Int)) (r : Int) : Value := codeRes (chartB L) (inB r 0 1000) (if findV L r < 0 then .tuple #[.int .i64 0, .int .i64 3] else .tuple #[.int .i64 (L.getD (findV L r).toNat (0, 0)).2, .int .i64 0]) (.int .i64 0)
theorem resLoadStep_form (L : List (Int × Int)) (r : Int) : ∃ x y : Int, resLoadStep L r = .tuple #[.int .i64 x, .int .i64 y] := by
  unfold resLoadStep codeRes
  split
  · split <;> exact ⟨_, _, rfl⟩
  · exact ⟨_, _, rfl⟩
  · exact ⟨_, _, rfl⟩
theorem resLoadStep_none {L : List (Int × Int)} {r : Int} (h : chartB L = true) (h' : inB r 0 1000 = true) (hf : findV L r = -1) : resLoadStep L r = .tuple #[.int .i64 0, .int .i64 3] := by
  unfold resLoadStep; rw [h, h', codeRes_tt, hf]; rfl
theorem resLoadStep_some {L : List (Int × Int)} {r : Int} (h : chartB L = true) (h' : inB r 0 1000 = true) {k : Nat} {x y : Int} (hf : findV L r = (k : Int)) (hk : L[k]? = some (x, y)) : resLoadStep L r = .tuple #[.int .i64 y, .int .i64 0] := by
  unfold resLoadStep; rw [h, h', codeRes_tt, hf, if_neg (by omega), Int.toNat_natCast, List.getD_eq_getElem?_getD, hk]; rfl
set_option maxHeartbeats 400000 in
theorem implLoadStep_any (A : Option Addr) (n c : Nat) (L : List (Int × Int)) (r : Int) (w : World) (h : Steps w w.heap.size A n L) (hn : n ≤ maxLen) : Calls Tryd.prog 27 #[.slice A n c, .int .i64 r] w fun e w' => e = .returned (resLoadStep L r) ∧ Below w.heap.size w w' := by
  have C := chartCode_any A n c L r 0 1000 w h hn
  cases h0 : chartB L
  · have E : resLoadStep L r = .tuple #[.int .i64 0, .int .i64 1] := by unfold resLoadStep codeRes; simp [h0]
    rw [E]; clear E
    rw [h0, codeV_f] at C
    have HC := Lib.hid C
    clear C h h0
    go_enter Tryd.func27, Tryd.ntmps27
    go_wp2_with fail
    refine HC.out.mono ?_
    rintro e w1 ⟨rfl, hb1⟩
    go_wp2
    go_ret2
    exact ⟨rfl, hb1⟩
  · skip
    cases h1 : inB r 0 1000
    · have E : resLoadStep L r = .tuple #[.int .i64 0, .int .i64 2] := by unfold resLoadStep codeRes; simp [h0, h1]
      rw [E]; clear E
      rw [h0, h1, codeV_tf] at C
      have HC := Lib.hid C
      clear C h h0 h1
      go_enter Tryd.func27, Tryd.ntmps27
      go_wp2_with fail
      refine HC.out.mono ?_
      rintro e w1 ⟨rfl, hb1⟩
      go_wp2
      go_ret2
      exact ⟨rfl, hb1⟩
    · rw [h0, h1, codeV_tt] at C
      have HC := Lib.hid C
      clear C
      have hn' := hn
      unfold maxLen at hn'
      have S0 := Lib.hid h
      clear h
      rcases findV_cases L r with ⟨hf, _⟩ | ⟨k, x, y, hf, hkl, hk, _⟩
      · rw [resLoadStep_none h0 h1 hf]
        have FC : Hid (∀ w, Steps w w.heap.size A n L → Calls Tryd.prog 50 #[.slice A n c, .int .i64 r] w fun e w' => e = .returned (.int .i64 (-1)) ∧ Below w.heap.size w w') := fun w h => by have := stepFor_any A n c L r w h hn; rwa [hf] at this
        clear h0 h1 hf
        go_enter Tryd.func27, Tryd.ntmps27
        go_wp2_with fail
        refine HC.out.mono ?_
        rintro e w1 ⟨rfl, hb1⟩
        have S1 := Lib.hid (S0.out.next hb1)
        go_wp2_with fail
        refine (FC.out _ S1.out).mono ?_
        rintro e w2 ⟨rfl, hb2⟩
        have S2 := Lib.hid (S1.out.next hb2)
        have hb1 := hb1.trans (hb2.mono hb1.size)
        clear hb2 S1
        go_wp2
        go_ret2
        exact ⟨rfl, hb1⟩
      · rw [resLoadStep_some h0 h1 hf hk]
        have FC : Hid (∀ w, Steps w w.heap.size A n L → Calls Tryd.prog 50 #[.slice A n c, .int .i64 r] w fun e w' => e = .returned (.int .i64 (k : Int)) ∧ Below w.heap.size w w') := fun w h => by have := stepFor_any A n c L r w h hn; rwa [hf] at this
        have hkn : k < n := by have := S0.out.1; omega
        have i1 : (0 : Int) ≤ (k : Int) := Int.natCast_nonneg _
        have i2 : (k : Int) < (n : Int) := by omega
        have HK := Lib.hid hk
        clear h0 h1 hf hk
        go_enter Tryd.func27, Tryd.ntmps27
        go_wp2_with fail
        refine HC.out.mono ?_
        rintro e w1 ⟨rfl, hb1⟩
        have S1 := Lib.hid (S0.out.next hb1)
        go_wp2_with fail
        refine (FC.out _ S1.out).mono ?_
        rintro e w2 ⟨rfl, hb2⟩
        have S2 := Lib.hid (S1.out.next hb2)
        have hb1 := hb1.trans (hb2.mono hb1.size)
        clear hb2 S1
        obtain ⟨b, o, x', y', rfl, _, hx, hc1, hc2⟩ := S2.out.at_ hkn
        rw [HK.out] at hx
        obtain ⟨rfl, rfl⟩ : x = x' ∧ y = y' := by simpa using hx
        clear hx
        go_wp2
        go_ret2
        exact ⟨rfl, hb1⟩
end Go.Proofs.YtihbomgbkpmojaaDoor
