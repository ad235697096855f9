/- A decimal form read: the plain law, of no program: what the library's parse and the reference's loop answer is one. -/
import Derived.Test.YtihbomgbkpmojaaDoorKit
import Derived.Lib.ItoaNum
import Derived.Lib.ItoaMem
import Derived.Lib.ParseIntB
import Derived.Lib.Strings
namespace Go.Proofs.YtihbomgbkpmojaaDoor
open Go.RowKit Go.WideShapes Go.ChangeShapes Go.Joins Go.Deep Go.Sort
set_option linter.unusedVariables false
def digB (c : UInt8) : Bool := decide (48 ≤ c.toNat) && decide (c.toNat ≤ 57)
theorem digB_iff {c : UInt8} : digB c = true ↔ 48 ≤ c.toNat ∧ c.toNat ≤ 57 := by simp [digB]
def valL (a : Nat) (l : List UInt8) : Nat := l.foldl (fun a c => a * 10 + (c.toNat - 48)) a
theorem valL_nil (a : Nat) : valL a [] = a := rfl
theorem valL_cons (a : Nat) (c : UInt8) (r : List UInt8) : valL a (c :: r) = valL (a * 10 + (c.toNat - 48)) r := by unfold valL; rw [List.foldl_cons]
theorem valL_snoc (l : List UInt8) (a : Nat) (c : UInt8) : valL a (l ++ [c]) = valL a l * 10 + (c.toNat - 48) := by
  unfold valL
  rw [List.foldl_append, List.foldl_cons, List.foldl_nil]
theorem valL_bound : ∀ (l : List UInt8) (a : Nat), l.all digB = true → valL a l + 1 ≤ (a + 1) * 10 ^ l.length
  | [], a, _ => by rw [valL_nil]; simp
  | c :: l, a, h => by
    simp only [List.all_cons, Bool.and_eq_true] at h
    have hc := digB_iff.1 h.1
    have ih := valL_bound l (a * 10 + (c.toNat - 48)) h.2
    rw [valL_cons, List.length_cons, Nat.pow_succ]
    refine Nat.le_trans ih ?_
    rw [Nat.mul_comm (10 ^ l.length) 10, ← Nat.mul_assoc]
    exact Nat.mul_le_mul_right _ (by omega)
theorem valL_lt {l : List UInt8} (h : l.all digB = true) (hl : l.length ≤ 18) : valL 0 l < 1000000000000000000 := by
  have h1 := valL_bound l 0 h
  have h2 : (10 : Nat) ^ l.length ≤ 10 ^ 18 := Nat.pow_le_pow_right (by decide) hl
  have h3 : (10 : Nat) ^ 18 = 1000000000000000000 := by decide
  omega
theorem valL_lt17 {l : List UInt8} (h : l.all digB = true) (hl : l.length ≤ 17) : valL 0 l < 100000000000000000 := by
  have h1 := valL_bound l 0 h
  have h2 : (10 : Nat) ^ l.length ≤ 10 ^ 17 := Nat.pow_le_pow_right (by decide) hl
  have h3 : (10 : Nat) ^ 17 = 100000000000000000 := by decide
  omega
def magL (l : List UInt8) : List UInt8 := if l.head? = some 45 then l.tail else l
def evalS (l : List UInt8) : Int := if l.head? = some 45 then -(valL 0 l.tail : Int) else (valL 0 l : Int)
def rd (l : List UInt8) : Option Int := if (magL l).length ≤ 18 ∧ Lib.itoa (evalS l) = l then some (evalS l) else none
theorem magL_neg (r : List UInt8) : magL (45 :: r) = r := by simp [magL]
theorem evalS_neg (r : List UInt8) : evalS (45 :: r) = -(valL 0 r : Int) := by simp [evalS]
theorem magL_pos {l : List UInt8} (h : ¬ l.head? = some 45) : magL l = l := by rw [magL, if_neg h]
theorem evalS_pos {l : List UInt8} (h : ¬ l.head? = some 45) : evalS l = (valL 0 l : Int) := by rw [evalS, if_neg h]
theorem dec_digits (u : Nat) : (Lib.decDigits u).all digB = true := by
  induction u using Nat.strongRecOn with
  | _ u ih =>
    by_cases h : u < 10
    · rw [Lib.decDigits_one h]
      simp only [List.all_cons, List.all_nil, Bool.and_true]
      rw [digB_iff, UInt8.toNat_ofNat']
      omega
    · rw [Lib.decDigits, dif_neg h, List.all_append, ih (u / 10) (by omega)]
      simp only [List.all_cons, List.all_nil, Bool.and_true, Bool.true_and]
      rw [digB_iff, UInt8.toNat_ofNat']
      omega
theorem dec_ne (u : Nat) : Lib.decDigits u ≠ [] := fun h => by
  have := Lib.decDigits_length u
  rw [h] at this
  have := Lib.nDigits_pos u
  simp at *
  omega
theorem dec_head (u : Nat) : ¬ (Lib.decDigits u).head? = some 45 := fun h => by
  have hd := dec_digits u
  cases hh : Lib.decDigits u with
  | nil => exact dec_ne u hh
  | cons a r =>
    rw [hh] at h hd
    simp only [List.all_cons, Bool.and_eq_true] at hd
    have := digB_iff.1 hd.1
    simp at h
    subst h
    revert this
    decide
/-- what a decimal form looks like -/
theorem mag_itoa {v : Int} {l : List UInt8} (h : Lib.itoa v = l) : magL l = Lib.decDigits v.natAbs := by
  subst h
  unfold Lib.itoa
  split
  · rw [magL_neg]
  · rw [magL_pos (dec_head _)]
    congr 1
    omega
theorem rd_of_mag {l : List UInt8} (h : (magL l).all digB = false ∨ magL l = []) : rd l = none := by
  unfold rd
  rw [if_neg]
  rintro ⟨_, e⟩
  have m := mag_itoa e
  rcases h with h | h
  · rw [m, dec_digits] at h; cases h
  · rw [m] at h; exact dec_ne _ h
theorem rd_long {l : List UInt8} (h : ¬ (magL l).length ≤ 18) : rd l = none := by
  unfold rd
  rw [if_neg (fun h' => h h'.1)]
theorem rd_yes {l : List UInt8} (h : (magL l).length ≤ 18) (e : Lib.itoa (evalS l) = l) : rd l = some (evalS l) := by
  unfold rd
  rw [if_pos ⟨h, e⟩]
theorem rd_no {l : List UInt8} (e : ¬ Lib.itoa (evalS l) = l) : rd l = none := by
  unfold rd
  rw [if_neg (fun h' => e h'.2)]
/-! ### the library's parse -/
theorem parse_digits : ∀ (l : List UInt8) (a : Nat), l.all digB = true → (a + 1) * 10 ^ l.length ≤ 1000000000000000000 → Lib.parseUintM (2 ^ 64 - 1) a l = .ok (valL a l)
  | [], a, _, _ => rfl
  | c :: l, a, h, hb => by
    simp only [List.all_cons, Bool.and_eq_true] at h
    have hc := digB_iff.1 h.1
    rw [List.length_cons, Nat.pow_succ, Nat.mul_comm (10 ^ l.length) 10, ← Nat.mul_assoc] at hb
    have hp : 1 ≤ 10 ^ l.length := Nat.one_le_pow _ _ (by decide)
    have h10 : (a + 1) * 10 ≤ (a + 1) * 10 * 10 ^ l.length := Nat.le_mul_of_pos_right _ hp
    have ha : (a + 1) * 10 ≤ 1000000000000000000 := Nat.le_trans h10 hb
    rw [Lib.parseUintM, if_pos hc, if_neg (by omega), if_neg (by omega), parse_digits l _ h.2 (Nat.le_trans (Nat.mul_le_mul_right _ (by omega)) hb)]
    rfl
theorem parse_ok_digits : ∀ (l : List UInt8) (a u : Nat), Lib.parseUintM (2 ^ 64 - 1) a l = .ok u → u = valL a l
  | [], a, u, h => by
    simp only [Lib.parseUintM] at h
    injection h with h
    exact h.symm
  | c :: l, a, u, h => by
    simp only [Lib.parseUintM] at h
    split at h
    · split at h
      · cases h
      · split at h
        · cases h
        · exact parse_ok_digits l _ u h
    · cases h
theorem parseB_digits {l : List UInt8} (h : l.all digB = true) (h0 : l ≠ []) (hl : l.length ≤ 18) : Lib.parseUintB 64 l = .ok (valL 0 l) := by
  unfold Lib.parseUintB
  rw [if_neg h0]
  refine parse_digits l 0 h ?_
  have h2 : (10 : Nat) ^ l.length ≤ 10 ^ 18 := Nat.pow_le_pow_right (by decide) hl
  have h3 : (10 : Nat) ^ 18 = 1000000000000000000 := by decide
  omega
theorem parseB_ok {l : List UInt8} {u : Nat} (h : Lib.parseUintB 64 l = .ok u) : u = valL 0 l := by
  unfold Lib.parseUintB at h
  split at h
  · cases h
  · exact parse_ok_digits l 0 u h
theorem c45 {c : UInt8} : c.toNat = 45 ↔ c = 45 := ⟨fun h => UInt8.toNat_inj.1 h, fun h => by rw [h]; rfl⟩
/-- the parse says a number: it is the value, or the text has a plus -/
theorem parse_value {l : List UInt8} {v : Int} (h : Lib.parseIntB 64 l = .ok v) : v = evalS l ∨ l.head? = some 43 := by
  unfold Lib.parseIntB at h
  cases l with
  | nil => cases h
  | cons c r =>
    simp only at h
    by_cases h43 : c.toNat = 43
    · right
      have : c = 43 := UInt8.toNat_inj.1 h43
      rw [this]; rfl
    · left
      by_cases h45 : c.toNat = 45
      · rw [if_pos (.inr h45)] at h
        have hc := c45.1 h45
        subst hc
        rw [evalS_neg]
        cases hp : Lib.parseUintB 64 r with
        | ok u =>
          rw [hp] at h
          simp only at h
          split at h
          · cases h
          · split at h
            · cases h
            · injection h with h
              rw [← h, parseB_ok hp]
        | _ => rw [hp] at h; cases h
      · rw [if_neg (by omega)] at h
        have hh : ¬ (c :: r).head? = some 45 := fun e => h45 (c45.2 (by simpa using e))
        rw [evalS_pos hh]
        cases hp : Lib.parseUintB 64 (c :: r) with
        | ok u =>
          rw [hp] at h
          simp only at h
          split at h
          · cases h
          · split at h
            · cases h
            · injection h with h
              rw [← h, parseB_ok hp]
        | _ => rw [hp] at h; cases h
theorem head_itoa (v : Int) : ¬ (Lib.itoa v).head? = some 43 := fun h => by
  unfold Lib.itoa at h
  split at h
  · simp at h
  · have hd := dec_digits v.toNat
    cases hh : Lib.decDigits v.toNat with
    | nil => exact dec_ne _ hh
    | cons a r =>
      rw [hh] at h hd
      simp only [List.all_cons, Bool.and_eq_true] at hd
      have := digB_iff.1 hd.1
      simp at h
      subst h
      revert this
      decide
theorem rd_parse_yes {l : List UInt8} {v : Int} (h : Lib.parseIntB 64 l = .ok v) (hl : (magL l).length ≤ 18) (e : Lib.itoa v = l) : rd l = some v := by
  rcases parse_value h with rfl | h
  · exact rd_yes hl e
  · rw [← e] at h; exact absurd h (head_itoa v)
theorem rd_parse_no {l : List UInt8} {v : Int} (h : Lib.parseIntB 64 l = .ok v) (e : ¬ Lib.itoa v = l) : rd l = none := by
  rcases parse_value h with rfl | h
  · exact rd_no e
  · exact rd_no (fun e' => by rw [← e'] at h; exact head_itoa _ h)
theorem parse_of_itoa {l : List UInt8} (hl : (magL l).length ≤ 18) (e : Lib.itoa (evalS l) = l) : Lib.parseIntB 64 l = .ok (evalS l) := by
  have m := mag_itoa e
  have hd := dec_digits (evalS l).natAbs
  have h0 := dec_ne (evalS l).natAbs
  rw [← m] at hd h0
  have hp := parseB_digits hd h0 hl
  have hv := valL_lt hd hl
  have p63 : (2 : Nat) ^ (64 - 1) = 9223372036854775808 := by decide
  unfold Lib.parseIntB
  cases l with
  | nil => exact absurd rfl h0
  | cons c r =>
    by_cases h45 : c.toNat = 45
    · have hc := c45.1 h45
      subst hc
      rw [magL_neg] at hp hv
      simp only
      rw [if_pos (.inr h45), hp]
      simp only
      rw [if_neg (fun h => h.1 h45), if_neg (by rw [p63]; omega), if_pos h45, evalS_neg]
    · have hh : ¬ (c :: r).head? = some 45 := fun e => h45 (c45.2 (by simpa using e))
      rw [magL_pos hh] at hp hv hd
      have h43 : ¬ c.toNat = 43 := by
        simp only [List.all_cons, Bool.and_eq_true] at hd
        have := digB_iff.1 hd.1
        omega
      simp only
      rw [if_neg (by omega), hp]
      simp only
      rw [if_neg (by rw [p63]; omega), if_neg (fun h => h45 h.1), if_neg h45, evalS_pos hh]
theorem rd_parse_bad {l : List UInt8} (h : ∀ v, Lib.parseIntB 64 l ≠ .ok v) : rd l = none := by
  by_cases hl : (magL l).length ≤ 18
  · exact rd_no (fun e => h _ (parse_of_itoa hl e))
  · exact rd_long hl
theorem trim_mag (l : List UInt8) : Lib.trimPrefix l [45] = magL l := by
  unfold Lib.trimPrefix Lib.hasPrefix magL
  cases l with
  | nil => rfl
  | cons c r =>
    by_cases h : c = 45
    · subst h; simp
    · simp [h, Ne.symm h]
end Go.Proofs.YtihbomgbkpmojaaDoor
