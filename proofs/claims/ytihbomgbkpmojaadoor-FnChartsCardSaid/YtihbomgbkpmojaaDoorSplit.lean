/- The parts of a text between bytes: the plain law (by bytes as by runes), and the reference's walks. -/
import Derived.Test.YtihbomgbkpmojaaDoorProg
import Derived.Test.YtihbomgbkpmojaaDoorKit
import Derived.Test.YtihbomgbkpmojaaDoorMem
import Derived.Test.YtihbomgbkpmojaaDoorStrs
import Derived.Lib.FieldsP
import Derived.Laws.DeepStrings4
namespace Go.Proofs.YtihbomgbkpmojaaDoor
open Go.RowKit Go.WideShapes Go.ChangeShapes Go.Joins Go.Deep Go.Sort
set_option linter.unusedVariables false
set_option linter.unusedSimpArgs false

/-! ### the plain law -/
def splitAt (s : ByteArray) (c : UInt8) : Nat → Nat → Nat → List (Nat × Nat)
  | 0, i, a => [(a, i)]
  | f + 1, i, a => if s.get! i = c then (a, i) :: splitAt s c f (i + 1) (i + 1) else splitAt s c f (i + 1) a
def cut (s : ByteArray) (x : Nat × Nat) : ByteArray := s.extract x.1 x.2
def splitL (s : ByteArray) (c : UInt8) : List ByteArray := (splitAt s c s.size 0 0).map (cut s)
theorem splitAt_length (s : ByteArray) (c : UInt8) : ∀ f i a, (splitAt s c f i a).length ≤ f + 1 ∧ 1 ≤ (splitAt s c f i a).length
  | 0, i, a => by simp [splitAt]
  | f + 1, i, a => by
    unfold splitAt
    split
    · have := splitAt_length s c f (i + 1) (i + 1)
      simp; omega
    · have := splitAt_length s c f (i + 1) a
      omega
theorem splitL_length (s : ByteArray) (c : UInt8) : (splitL s c).length ≤ s.size + 1 ∧ 1 ≤ (splitL s c).length := by
  unfold splitL
  rw [List.length_map]
  exact splitAt_length s c _ _ _
theorem get_at (s : ByteArray) (k : Nat) (h : k < s.size) : s.get! k = s[k] := by
  show s.data[k]! = s.data[k]
  rw [getElem!_pos s.data k h]
theorem split_hit {s : ByteArray} {c : UInt8} {k a : Nat} (h : k < s.size) (e : s[k] = c) : splitAt s c (s.size - k) k a = (a, k) :: splitAt s c (s.size - (k + 1)) (k + 1) (k + 1) := by
  rw [show s.size - k = (s.size - (k + 1)) + 1 by omega, splitAt, get_at s k h, if_pos e]
theorem split_miss {s : ByteArray} {c : UInt8} {k a : Nat} (h : k < s.size) (e : ¬ s[k] = c) : splitAt s c (s.size - k) k a = splitAt s c (s.size - (k + 1)) (k + 1) a := by
  rw [show s.size - k = (s.size - (k + 1)) + 1 by omega, splitAt, get_at s k h, if_neg e]
theorem split_end {s : ByteArray} {c : UInt8} {k a : Nat} (h : k = s.size) : splitAt s c (s.size - k) k a = [(a, s.size)] := by
  subst h
  rw [Nat.sub_self]; rfl
def neB (x : ByteArray) : Bool := decide (0 < x.size)

/-- a rune's bytes: a space stands alone, and no other rune holds one -/
theorem decode_space (s : ByteArray) (i : Nat) (h : i < s.size) (e : s.get! i = 32) : Utf8.decode s i = (32, 1) := by
  unfold Utf8.decode
  simp only [Nat.add_zero, e]
  rfl
theorem lt1 {j : Nat} (h : j < 1) : j = 0 := by omega
theorem lt2 {j : Nat} (h : j < 2) : j = 0 ∨ j = 1 := by omega
theorem lt3 {j : Nat} (h : j < 3) : j = 0 ∨ j = 1 ∨ j = 2 := by omega
theorem lt4 {j : Nat} (h : j < 4) : j = 0 ∨ j = 1 ∨ j = 2 ∨ j = 3 := by omega
theorem decode_other (s : ByteArray) (i : Nat) (h : i < s.size) (e : ¬ s.get! i = 32) :
    (Utf8.decode s i).1 ≠ 32 ∧ 1 ≤ (Utf8.decode s i).2 ∧ i + (Utf8.decode s i).2 ≤ s.size ∧ ∀ j, j < (Utf8.decode s i).2 → s.get! (i + j) ≠ 32 := by
  have hn : (s.get! i).toNat ≠ 32 := fun h => e (by
    have : s.get! i = UInt8.ofNat 32 := by rw [← h]; simp
    exact this)
  have cont : ∀ j, (s.get! (i + j)).toNat / 64 = 2 → s.get! (i + j) ≠ 32 := fun j h h' => by rw [h'] at h; revert h; decide
  have z : s.get! (i + 0) ≠ 32 := e
  unfold Utf8.decode
  simp only [Nat.add_zero, Utf8.runeError]
  repeat' split
  all_goals (simp only [Bool.and_eq_true, decide_eq_true_eq, beq_iff_eq] at *)
  all_goals (try dsimp only)
  all_goals (refine ⟨by omega, by omega, by omega, ?_⟩; intro j hj)
  all_goals
    first
      | (cases lt1 hj; exact z)
      | (rcases lt2 hj with rfl | rfl
         · exact z
         · exact cont 1 (by omega))
      | (rcases lt3 hj with rfl | rfl | rfl
         · exact z
         · exact cont 1 (by omega)
         · exact cont 2 (by omega))
      | (rcases lt4 hj with rfl | rfl | rfl | rfl
         · exact z
         · exact cont 1 (by omega)
         · exact cont 2 (by omega)
         · exact cont 3 (by omega))
theorem split_skip (s : ByteArray) (c : UInt8) : ∀ (w f i a : Nat), (∀ j, j < w → s.get! (i + j) ≠ c) → splitAt s c (f + w) i a = splitAt s c f (i + w) a
  | 0, f, i, a, _ => rfl
  | w + 1, f, i, a, h => by
    rw [show f + (w + 1) = (f + w) + 1 by omega, splitAt, if_neg (show ¬ s.get! i = c from h 0 (by omega)), split_skip s c w f (i + 1) a (fun j hj => by
      have := h (j + 1) (by omega)
      rwa [show i + 1 + j = i + (j + 1) by omega])]
    rw [show i + 1 + w = i + (w + 1) by omega]
def fullB (x : Nat × Nat) : Bool := decide (x.1 < x.2)
def isSp (r : Nat) : Bool := ((r : Int) == 32)
theorem spans_eq (s : ByteArray) : ∀ (g pos : Nat) (acc : List (Nat × Nat)), s.size ≤ pos + g → pos ≤ s.size →
    (Lib.closeSpans s (Lib.spansFromP isSp s g pos none acc) = acc ++ (splitAt s 32 (s.size - pos) pos pos).filter fullB) ∧
    (∀ a, a < pos → Lib.closeSpans s (Lib.spansFromP isSp s g pos (some a) acc) = acc ++ (splitAt s 32 (s.size - pos) pos a).filter fullB)
  | g, pos, acc, hg, hp => by
    by_cases hlt : pos < s.size
    · obtain ⟨g, rfl⟩ : ∃ g', g = g' + 1 := ⟨g - 1, by omega⟩
      by_cases e : s.get! pos = 32
      · have hd := decode_space s pos hlt e
        have ih := spans_eq s g (pos + 1)
        have es : ∀ a, splitAt s 32 (s.size - pos) pos a = (a, pos) :: splitAt s 32 (s.size - (pos + 1)) (pos + 1) (pos + 1) := fun a => by
          rw [show s.size - pos = (s.size - (pos + 1)) + 1 by omega, splitAt, if_pos e]
        have p32 : isSp 32 = true := rfl
        constructor
        · rw [Lib.spansFromP, if_pos hlt, hd]
          simp only [p32, if_true]
          rw [(ih acc (by omega) (by omega)).1, es pos, List.filter_cons_of_neg (by simp [fullB])]
        · intro a ha
          rw [Lib.spansFromP, if_pos hlt, hd]
          simp only [p32, if_true]
          rw [(ih (acc ++ [(a, pos)]) (by omega) (by omega)).1, es a, List.filter_cons_of_pos (by simp [fullB, ha])]
          simp
      · obtain ⟨h1, h2, h3, h4⟩ := decode_other s pos hlt e
        have hr : isSp (Utf8.decode s pos).1 = false := by
          unfold isSp
          rw [beq_eq_false_iff_ne]
          omega
        have ih := spans_eq s g (pos + (Utf8.decode s pos).2)
        have es : ∀ a, splitAt s 32 (s.size - pos) pos a = splitAt s 32 (s.size - (pos + (Utf8.decode s pos).2)) (pos + (Utf8.decode s pos).2) a := fun a => by
          rw [show s.size - pos = (s.size - (pos + (Utf8.decode s pos).2)) + (Utf8.decode s pos).2 by omega, split_skip s 32 _ _ _ _ h4]
        constructor
        · rw [Lib.spansFromP, if_pos hlt, hr]
          simp only [Bool.false_eq_true, if_false]
          rw [(ih acc (by omega) (by omega)).2 pos (by omega), es pos]
        · intro a ha
          rw [Lib.spansFromP, if_pos hlt, hr]
          simp only [Bool.false_eq_true, if_false]
          rw [(ih acc (by omega) (by omega)).2 a (by omega), es a]
    · obtain rfl : pos = s.size := by omega
      rw [Nat.sub_self]
      constructor
      · rw [Lib.spansFromP_end _ _ _ _ _ _ hlt]
        simp [splitAt, fullB, Lib.closeSpans]
      · intro a ha
        rw [Lib.spansFromP_end _ _ _ _ _ _ hlt]
        simp [splitAt, fullB, Lib.closeSpans, ha]
theorem cut_full {s : ByteArray} {x : Nat × Nat} (h1 : x.2 ≤ s.size) : neB (cut s x) = fullB x := by
  unfold neB cut fullB
  rw [ByteArray.size_extract]
  have : min x.2 s.size = x.2 := by omega
  rw [this]
  by_cases h : x.1 < x.2
  · rw [decide_eq_true h, decide_eq_true (by omega)]
  · rw [decide_eq_false h, decide_eq_false (by omega)]
theorem splitAt_bound (s : ByteArray) (c : UInt8) : ∀ f i a, i + f ≤ s.size → ∀ x ∈ splitAt s c f i a, x.2 ≤ s.size
  | 0, i, a, h, x, hx => by
    simp [splitAt] at hx
    subst hx
    simpa using h
  | f + 1, i, a, h, x, hx => by
    unfold splitAt at hx
    split at hx
    · simp only [List.mem_cons] at hx
      rcases hx with rfl | hx
      · show i ≤ s.size; omega
      · exact splitAt_bound s c f (i + 1) (i + 1) (by omega) x hx
    · exact splitAt_bound s c f (i + 1) a (by omega) x hx
theorem filter_cut {s : ByteArray} : ∀ {M : List (Nat × Nat)}, (∀ x ∈ M, x.2 ≤ s.size) → (M.map (cut s)).filter neB = (M.filter fullB).map (cut s)
  | [], _ => rfl
  | x :: r, h => by
    have ih := filter_cut (s := s) (M := r) (fun y hy => h y (by simp [hy]))
    have e := cut_full (s := s) (h x (by simp))
    rw [List.map_cons, List.filter_cons, List.filter_cons, e]
    split
    · rw [List.map_cons, ih]
    · exact ih
/-- the words of a text: as the library splits it by runes, so it is split by bytes -/
def wordsL (s : ByteArray) : List ByteArray := (splitL s 32).filter neB
theorem goFields_eq (s : ByteArray) : Lib.goFieldsP isSp s = wordsL s := by
  unfold Lib.goFieldsP Lib.spansOfP wordsL splitL
  rw [filter_cut (splitAt_bound s 32 _ _ _ (by omega)), (spans_eq s s.size 0 [] (by omega) (by omega)).1, Nat.sub_zero]
  rfl
theorem wordsL_length (s : ByteArray) : (wordsL s).length ≤ s.size + 1 := Nat.le_trans (List.length_filter_le _ _) (splitL_length s 32).1
end Go.Proofs.YtihbomgbkpmojaaDoor
