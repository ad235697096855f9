/- The text of a chart: both sides at all lists, and the law. -/
import Derived.Test.YtihbomgbkpmojaaDoorProg
import Derived.Test.YtihbomgbkpmojaaDoorKit
import Derived.Test.YtihbomgbkpmojaaDoorBasics
import Derived.Test.YtihbomgbkpmojaaDoorMem
import Derived.Test.YtihbomgbkpmojaaDoorLists
import Derived.Test.YtihbomgbkpmojaaDoorSteps
import Derived.Test.YtihbomgbkpmojaaDoorCharts
import Derived.Test.YtihbomgbkpmojaaDoorChartLaws
import Derived.Test.YtihbomgbkpmojaaDoorStrs
import Derived.Test.YtihbomgbkpmojaaDoorLaid
import Derived.Test.YtihbomgbkpmojaaDoorText
namespace Go.Proofs.YtihbomgbkpmojaaDoor
open Go.RowKit Go.WideShapes Go.ChangeShapes Go.Joins Go.Deep Go.Sort
set_option linter.unusedVariables false
set_option linter.unusedSimpArgs false
def ctS (L : List (Int × Int)) : ByteArray := match chartB L with | true => textS L | false => ⟨#[]⟩
theorem ctS_good {L : List (Int × Int)} (h : chartB L = true) : ctS L = textS L := by unfold ctS; rw [h]
theorem ctS_bad {L : List (Int × Int)} (h : chartB L = false) : ctS L = ⟨#[]⟩ := by unfold ctS; rw [h]
theorem implChartText_any (A : Option Addr) (n c : Nat) (L : List (Int × Int)) (w : World) (T : TabAt w) (h : Steps w w.heap.size A n L) (hn : n ≤ maxLen) :
    Calls Tryd.prog 15 #[.slice A n c] w fun e w' => e = .returned (.string (ctS L)) ∧ Below w.heap.size w w' := by
  cases hc : chartB L
  · rw [ctS_bad hc]
    have HV := Lib.hid (by have := implValidChart_any A n c L w h hn; rwa [hc] at this)
    clear h hc T hn
    go_enter Tryd.func15, Tryd.ntmps15
    go_wp2_with fail
    refine HV.out.mono ?_
    rintro e w1 ⟨rfl, hb1⟩
    go_wp2
    go_ret
    exact ⟨rfl, hb1⟩
  · rw [ctS_good hc]
    exact implChartText_good A n c L w T h hc
theorem specChartText_any (A : Option Addr) (n c : Nat) (L : List (Int × Int)) (w : World) (h : Steps w w.heap.size A n L) (hn : n ≤ maxLen) :
    Calls Tryd.prog 13 #[.slice A n c] w fun e w' => e = .returned (.string (ctS L)) ∧ Below w.heap.size w w' := by
  cases hc : chartB L
  · rw [ctS_bad hc]
    have HV := Lib.hid (by have := l03Ok_any A n c L w h hn; rwa [hc] at this)
    clear h hc hn
    go_enter Tryd.func13, Tryd.ntmps13
    go_wp2_with fail
    refine HV.out.mono ?_
    rintro e w1 ⟨rfl, hb1⟩
    go_wp2
    go_ret
    exact ⟨rfl, hb1⟩
  · rw [ctS_good hc]
    have HV := Lib.hid (by have := l03Ok_any A n c L w h hn; rwa [hc] at this)
    have HT : Hid (∀ w, Steps w w.heap.size A n L → Calls Tryd.prog 36 #[.slice A n c] w fun e w' => e = .returned (.string (textS L)) ∧ Below w.heap.size w w') := fun w h => l03Text_any A n c L w h hc
    generalize textS L = s at HT
    have HS := Lib.hid h
    clear h hc hn
    go_enter Tryd.func13, Tryd.ntmps13
    go_wp2_with fail
    refine HV.out.mono ?_
    rintro e w1 ⟨rfl, hb1⟩
    have S1 := Lib.hid (HS.out.next hb1)
    go_wp2_with fail
    refine (HT.out _ S1.out).mono ?_
    rintro e w2 ⟨rfl, hb2⟩
    have B2 := hb1.trans (hb2.mono hb1.size)
    clear hb1 hb2
    go_wp2
    go_ret
    exact ⟨rfl, B2⟩
set_option maxHeartbeats 1000000 in
theorem FnExactChartText_walk (w : World) (T : TabAt w) (A : Option Addr) (n c : Nat) (L : List (Int × Int)) (hn : n ≤ maxLen) (S0 : Steps w w.heap.size A n L) : Calls Tryd.prog 5 #[.slice A n c] w fun e w' => e = .returned (.bool true) ∧ Below w.heap.size w w' := by
  have HT := Lib.hid T
  clear T
  by_cases hs : (n : Int) ≤ 1048576
  · have B0 := Below.refl w.heap.size w
    clear hn
    have H1 : Hid (∀ A c w, Steps w w.heap.size A n L → Calls Tryd.prog 13 #[.slice A n c] w fun e w' => e = .returned (.string (ctS L)) ∧ Below w.heap.size w w') := fun A c w h => specChartText_any A n c L w h (by unfold maxLen; omega)
    have H2 : Hid (∀ A c w, TabAt w → Steps w w.heap.size A n L → Calls Tryd.prog 15 #[.slice A n c] w fun e w' => e = .returned (.string (ctS L)) ∧ Below w.heap.size w w') := fun A c w T h => implChartText_any A n c L w T h (by unfold maxLen; omega)
    generalize ctS L = s at H1 H2
    go_enter Tryd.func5, Tryd.ntmps5
    go_wp2_with fail
    refine (sz_in hs _ _ _ (by omega) (by omega) (by unfold maxLen; omega)).mono ?_
    rintro e w' ⟨rfl, rfl⟩
    go_wp2_with fail
    refine (toSteps_any _ _ _ _ _ S0 (by omega)).mono ?_
    rintro e w1 ⟨Aa, rfl, Oa1, hb1⟩
    have S1 := S0.next hb1
    have B1 := B0.trans (hb1.mono B0.size)
    clear hb1 B0 S0
    have Sa1 := steps_own Oa1
    go_wp2_with fail
    refine (H1.out _ _ _ Sa1).mono ?_
    rintro e w2 ⟨rfl, hb2⟩
    have S2 := S1.next hb2
    have B2 := B1.trans (hb2.mono B1.size)
    clear hb2 B1 S1 Oa1 Sa1
    go_wp2_with fail
    refine (toSteps_any _ _ _ _ _ S2 (by omega)).mono ?_
    rintro e w3 ⟨Ab, rfl, Ob3, hb3⟩
    have S3 := S2.next hb3
    have B3 := B2.trans (hb3.mono B2.size)
    clear hb3 B2 S2
    have Sb3 := steps_own Ob3
    have T3 := HT.out.on B3
    go_wp2_with fail
    refine (H2.out _ _ _ T3 Sb3).mono ?_
    rintro e w4 ⟨rfl, hb4⟩
    have S4 := S3.next hb4
    have Ob4 := own_below Ob3 hb4
    have Sb4 := Sb3.next hb4
    have B4 := B3.trans (hb4.mono B3.size)
    clear hb4 B3 S3 Ob3 Sb3 T3
    go_wp2_with fail
    refine (toSteps_any _ _ _ _ _ S4 (by omega)).mono ?_
    rintro e w5 ⟨Ad, rfl, Od5, hb5⟩
    have S5 := S4.next hb5
    have Ob5 := own_below Ob4 hb5
    have Sb5 := Sb4.next hb5
    have B5 := B4.trans (hb5.mono B4.size)
    clear hb5 B4 S4 Ob4 Sb4
    have Sd5 := steps_own Od5
    go_wp2_with fail
    refine (eqChartStepS_same _ _ _ _ _ _ _ Sb5 Sd5 (by unfold maxLen; omega)).mono ?_
    rintro e w6 ⟨rfl, hb6⟩
    have B6 := B5.trans (hb6.mono B5.size)
    clear hb6 B5 S5 Ob5 Sb5 Od5 Sd5
    go_wp2
    go_ret
    exact ⟨rfl, B6⟩
  · go_enter Tryd.func5, Tryd.ntmps5
    go_wp2_with fail
    refine (sz_out (by omega) _ _ _ (by omega) (by omega) hn).mono ?_
    rintro e w' ⟨rfl, rfl⟩
    go_wp2
    go_ret
    exact ⟨rfl, Below.refl _ _⟩
end Go.Proofs.YtihbomgbkpmojaaDoor
