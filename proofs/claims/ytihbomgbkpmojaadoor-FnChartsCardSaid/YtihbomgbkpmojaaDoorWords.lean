/- The words of a text: the walks of both sides, and their law. -/
import Derived.Test.YtihbomgbkpmojaaDoorProg
import Derived.Test.YtihbomgbkpmojaaDoorKit
import Derived.Test.YtihbomgbkpmojaaDoorMem
import Derived.Test.YtihbomgbkpmojaaDoorApart
import Derived.Test.YtihbomgbkpmojaaDoorStrs
import Derived.Test.YtihbomgbkpmojaaDoorSplit
import Derived.Test.YtihbomgbkpmojaaDoorSplit2
import Derived.Test.YtihbomgbkpmojaaDoorShelf
import Derived.Deep.AppendLies
namespace Go.Proofs.YtihbomgbkpmojaaDoor
open Go.RowKit Go.WideShapes Go.ChangeShapes Go.Joins Go.Deep Go.Sort
set_option linter.unusedVariables false
set_option linter.unusedSimpArgs false
theorem filter_snoc {L : List ByteArray} {k : Nat} {s : ByteArray} (h : L[k]? = some s) : (L.take (k + 1)).filter neB = (L.take k).filter neB ++ (if neB s then [s] else []) := by
  rw [List.take_add_one, h, List.filter_append]
  cases hn : neB s
  · simp [hn]
  · simp [hn]
theorem toList_empty {s : ByteArray} (h : neB s = false) : s.toList = [] := by
  have : s.size = 0 := by simpa [neB] using h
  rw [ByteArray.toList_eq]
  exact List.eq_nil_of_length_eq_zero (by simpa using this)
theorem toList_full {s : ByteArray} (h : neB s = true) : s.toList.isEmpty = false ∧ ¬ s.toList = [] := by
  have h0 : 0 < s.size := by simpa [neB] using h
  have e : s.toList ≠ [] := by
    intro e
    rw [ByteArray.toList_eq] at e
    have h2 : s.data.toList.length = 0 := by rw [e]; rfl
    rw [Array.length_toList] at h2
    have h3 : s.size = s.data.size := rfl
    omega
  exact ⟨by cases hh : s.toList with
    | nil => exact absurd hh e
    | cons a r => rfl, e⟩
theorem spaceAt (w : World) : PredAt Tryd.prog 63 #[] encR isSp w := fun W r _ => by
  unfold FnGives
  go_enter Tryd.func63, Tryd.ntmps63
  go_wp2
  go_ret
  exact ⟨rfl, 0, rfl⟩
theorem implSplitWords_any (s : ByteArray) (w : World) (hs : s.size ≤ 1048576) : Calls Tryd.prog 41 #[.string s] w (RetStrs w (wordsL s)) := by
  have eg := enters_of Tryd.func63 (by kernel_rfl) rfl
  have C := Lib.hid (Tryd.strings_FieldsFunc 63 #[] eg isSp s w (by omega) (spaceAt w))
  rw [goFields_eq] at C
  clear eg
  go_enter Tryd.func41, Tryd.ntmps41
  go_wp2_with fail
  refine C.out.mono ?_
  rintro e w1 ⟨A, rfl, _, ho, hb⟩
  have R1 : Hid (RetStrs w (wordsL s) (.returned (.slice (some ⟨A, 0, none⟩) (wordsL s).length (wordsL s).length)) w1) := ⟨_, _, rfl, ho, hb⟩
  clear ho hb
  go_wp2
  go_ret
  exact R1.out
end Go.Proofs.YtihbomgbkpmojaaDoor
