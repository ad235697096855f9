/- Numbers in decimal: the program's by the library's contract; the law. -/
import Derived.Test.YtihbomgbkpmojaaDoorProg
import Derived.Test.YtihbomgbkpmojaaDoorKit
import Derived.Test.YtihbomgbkpmojaaDoorMem
import Derived.Test.YtihbomgbkpmojaaDoorStrs
import Derived.Test.YtihbomgbkpmojaaDoorShelf
import Derived.Test.YtihbomgbkpmojaaDoorDec
import Derived.Test.YtihbomgbkpmojaaDoorDec2
import Derived.Test.YtihbomgbkpmojaaDoorLaid
import Derived.OpenShut
namespace Go.Proofs.YtihbomgbkpmojaaDoor
open Go.RowKit Go.WideShapes Go.ChangeShapes Go.Joins Go.Deep Go.Sort
set_option linter.unusedVariables false
set_option linter.unusedSimpArgs false
theorem below_gr (w : World) (k : Nat) (os : Array Obj) : Below w.heap.size w (grow (w.drewN k) os) :=
  ⟨rfl, rfl, rfl, by show w.heap.size ≤ (w.heap ++ os).size; rw [Array.size_append]; omega, fun _ hj => Sort.heap_grow_old (w.drewN k) os hj⟩
theorem i64_of {n : Int} (h : (Lit.int .i64 n).wf = true) : -9223372036854775808 ≤ n ∧ n ≤ 9223372036854775807 := bounds_i64 h
theorem implDecimal_any (n : Int) (w : World) (T : TabAt w) (h0 : -9223372036854775808 ≤ n) (h1 : n ≤ 9223372036854775807) : Calls Tryd.prog 9 #[.int .i64 n] w fun e w' => e = .returned (.string (decS n)) ∧ Below w.heap.size w w' := by
  have C := Lib.hid (Tryd.strconv_FormatInt_10 n h0 h1 w T)
  have D : Hid (decS n = ⟨(Lib.itoa n).toArray⟩) := rfl
  rw [← D.out] at C
  generalize decS n = s at C
  clear D T h0 h1
  go_enter Tryd.func9, Tryd.ntmps9
  go_wp2_with fail
  refine C.out.mono ?_
  rintro e w1 ⟨rfl, k, os, rfl⟩
  have B := below_gr w k os
  generalize grow (w.drewN k) os = w1 at B
  go_wp2
  go_ret
  exact ⟨rfl, B⟩
theorem specDecimal_any (n : Int) (w : World) (h0 : -9223372036854775808 ≤ n) (h1 : n ≤ 9223372036854775807) : Calls Tryd.prog 8 #[.int .i64 n] w fun e w' => e = .returned (.string (decS n)) ∧ Below w.heap.size w w' := by
  have C := Lib.hid (l01Dec_any n w h0 h1)
  generalize decS n = s at C
  clear h0 h1
  go_enter Tryd.func8, Tryd.ntmps8
  go_wp2_with fail
  refine C.out.mono ?_
  rintro e w1 ⟨rfl, B⟩
  go_wp2
  go_ret
  exact ⟨rfl, B⟩
theorem FnExactDecimal_walk (w : World) (T : TabAt w) (n : Int) (wn : (Lit.int .i64 n).wf = true) : Calls Tryd.prog 3 #[.int .i64 n] w fun e w' => e = .returned (.bool true) ∧ Below w.heap.size w w' := by
  obtain ⟨h0, h1⟩ := i64_of wn
  have C := Lib.hid (specDecimal_any n w h0 h1)
  have D : Hid (∀ w, TabAt w → Calls Tryd.prog 9 #[.int .i64 n] w fun e w' => e = .returned (.string (decS n)) ∧ Below w.heap.size w w') := fun w T => implDecimal_any n w T h0 h1
  generalize decS n = s at C D
  have HT := Lib.hid T
  clear h0 h1 wn T
  go_enter Tryd.func3, Tryd.ntmps3
  go_wp2_with fail
  refine C.out.mono ?_
  rintro e w1 ⟨rfl, B1⟩
  have T1 := Lib.hid (HT.out.on B1)
  go_wp2_with fail
  refine (D.out _ T1.out).mono ?_
  rintro e w2 ⟨rfl, hb⟩
  have B2 := B1.trans (hb.mono B1.size)
  clear hb B1
  go_wp2
  go_ret
  exact ⟨rfl, B2⟩
end Go.Proofs.YtihbomgbkpmojaaDoor
