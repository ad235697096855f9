/- Slices of strings: how they read; the walks of the laws' functions on them: equal, mark, still marked. -/
import Derived.Test.YtihbomgbkpmojaaDoorProg
import Derived.Test.YtihbomgbkpmojaaDoorKit
import Derived.Test.YtihbomgbkpmojaaDoorMem
import Derived.Laws.IdiomStrings
import Derived.Laws.Concat
namespace Go.Proofs.YtihbomgbkpmojaaDoor
open Go.RowKit Go.WideShapes Go.ChangeShapes Go.Joins Go.Deep Go.Sort
set_option linter.unusedVariables false
set_option linter.unusedSimpArgs false

/-- strings as cells -/
def strs (L : List ByteArray) : List Value := L.map Value.string
theorem strs_length (L : List ByteArray) : (strs L).length = L.length := by simp [strs]
theorem strs_at {L : List ByteArray} {k : Nat} {u : Value} (h : (strs L)[k]? = some u) : ∃ s, L[k]? = some s ∧ u = .string s := by
  simp only [strs, List.getElem?_map] at h
  cases hz : L[k]? with
  | none => rw [hz] at h; cases h
  | some z => rw [hz] at h; simp at h; exact ⟨z, rfl, h.symm⟩
theorem strs_snoc (L : List ByteArray) (x : ByteArray) : strs L ++ [.string x] = strs (L ++ [x]) := by simp [strs]
/-- the marks' digits -/
def mtL : Nat → Nat → List UInt8
  | 0, _ => []
  | f + 1, k => if k = 0 then [] else mtL f (k / 10) ++ [UInt8.ofNat (48 + k % 10)]
theorem mtL_zero (f : Nat) : mtL f 0 = [] := by cases f <;> simp [mtL]
theorem mtL_succ (f k : Nat) (h : 0 < k) : mtL (f + 1) k = mtL f (k / 10) ++ [UInt8.ofNat (48 + k % 10)] := by
  rw [mtL, if_neg (by omega)]
def markT (k : Nat) : ByteArray := ⟨(109 :: mtL 7 k).toArray⟩
def texts (k : Nat) : Nat → List ByteArray
  | 0 => []
  | n + 1 => texts k n ++ [markT (k + n)]
theorem texts_length (k n : Nat) : (texts k n).length = n := by
  induction n with
  | zero => rfl
  | succ n ih => simp [texts, ih]
theorem texts_at (k : Nat) : ∀ {n j : Nat}, j < n → (texts k n)[j]? = some (markT (k + j))
  | 0, j, h => by omega
  | n + 1, j, h => by
    unfold texts
    by_cases hj : j < n
    · rw [List.getElem?_append_left (by rw [texts_length]; exact hj)]
      exact texts_at k hj
    · obtain rfl : j = n := by omega
      rw [List.getElem?_append_right (by rw [texts_length]; exact Nat.le_refl _), texts_length, Nat.sub_self]
      rfl
theorem texts_step {L : List ByteArray} (k j : Nat) (h : j < L.length) : (strs (texts k j ++ L.drop j)).set j (.string (markT (k + j))) = strs (texts k (j + 1) ++ L.drop (j + 1)) := by
  have h1 : (strs (texts k j)).length = j := by rw [strs_length, texts_length]
  unfold strs at h1 ⊢
  rw [List.map_append, List.set_append_right _ _ (by rw [h1]; exact Nat.le_refl _), h1, Nat.sub_self, List.drop_eq_getElem_cons h, List.map_cons, List.set_cons_zero]
  show _ = List.map Value.string ((texts k j ++ [markT (k + j)]) ++ List.drop (j + 1) L)
  rw [List.map_append, List.map_append, List.append_assoc]
  rfl
theorem u8_digit (j : Nat) : (UInt8.ofNat (48 + j % 10)).toNat = 48 + j % 10 := by
  rw [UInt8.toNat_ofNat']
  omega

end Go.Proofs.YtihbomgbkpmojaaDoor
