/- Charts: the test of a chart as a plain function; the walks of both tests; the law of that test. -/
import Derived.Test.YtbdompadkeamdaaProg
import Derived.Test.YtbdompadkeamdaaKit
import Derived.Test.YtbdompadkeamdaaBasics
import Derived.Test.YtbdompadkeamdaaMem
import Derived.Test.YtbdompadkeamdaaSteps
namespace Go.Proofs.Ytbdompadkeamdaa
open Go.RowKit Go.WideShapes Go.ChangeShapes Go.Joins Go.Deep Go.Sort
set_option linter.unusedVariables false

/-! ### the plain law -/
def stepB (s : Int × Int) : Bool := inB s.1 1 1000 && inB s.2 0 50000
def linkB (p s : Int × Int) : Bool := decide (p.1 < s.1) && decide (s.2 ≤ p.2)
def nextB : Option (Int × Int) → Int × Int → Bool
  | none, s => stepB s
  | some p, s => stepB s && linkB p s
def chainB : Option (Int × Int) → List (Int × Int) → Bool
  | _, [] => true
  | p, s :: r => nextB p s && chainB (some s) r
def lastOr (p : Option (Int × Int)) (M : List (Int × Int)) : Option (Int × Int) := match M.getLast? with | none => p | some s => some s
theorem chainB_append : ∀ (M R : List (Int × Int)) (p : Option (Int × Int)), chainB p (M ++ R) = (chainB p M && chainB (lastOr p M) R)
  | [], R, p => by simp [chainB, lastOr]
  | s :: M, R, p => by
    have h := chainB_append M R (some s)
    have e : lastOr p (s :: M) = lastOr (some s) M := by
      cases M with
      | nil => simp [lastOr]
      | cons a r =>
        have e0 : (s :: a :: r).getLast? = (a :: r).getLast? := by simp
        unfold lastOr
        rw [e0]
        cases e1 : (a :: r).getLast? with
        | none => simp at e1
        | some q => rfl
    rw [List.cons_append, chainB, h, e, chainB, Bool.and_assoc]
def chartB (L : List (Int × Int)) : Bool := chainB none L && inB L.length 1 20
theorem chain_step {L : List (Int × Int)} {k : Nat} {s : Int × Int} (h : L[k]? = some s) : chainB none (L.take (k + 1)) = (chainB none (L.take k) && nextB (if k = 0 then none else L[k - 1]?) s) := by
  rw [List.take_add_one, h]
  show chainB none (L.take k ++ [s]) = _
  rw [chainB_append]
  have e : lastOr none (L.take k) = if k = 0 then none else L[k - 1]? := by
    unfold lastOr
    have hk : k < L.length := (List.getElem?_eq_some_iff.1 h).1
    by_cases h0 : k = 0
    · subst h0; simp
    · rw [if_neg h0, List.getLast?_eq_getElem?, List.length_take, show min k L.length - 1 = k - 1 by omega, List.getElem?_take, if_pos (by omega)]
      cases L[k - 1]? <;> rfl
  rw [e]
  simp [chainB]
theorem chain_bad {L : List (Int × Int)} {k : Nat} {s : Int × Int} (h : L[k]? = some s) (hb : nextB (if k = 0 then none else L[k - 1]?) s = false) : chartB L = false := by
  have e : L = L.take (k + 1) ++ L.drop (k + 1) := (List.take_append_drop _ _).symm
  have : chainB none L = false := by rw [e, chainB_append, chain_step h, hb, Bool.and_false, Bool.false_and]
  simp [chartB, this]
theorem chain_good {L : List (Int × Int)} {k : Nat} {s : Int × Int} (h : L[k]? = some s) (h0 : chainB none (L.take k) = true) (hb : nextB (if k = 0 then none else L[k - 1]?) s = true) : chainB none (L.take (k + 1)) = true := by
  rw [chain_step h, h0, hb]; rfl
theorem chain_end {L : List (Int × Int)} {k : Nat} (h : ¬ k < L.length) (h0 : chainB none (L.take k) = true) : chartB L = inB L.length 1 20 := by
  rw [List.take_of_length_le (by omega)] at h0
  simp [chartB, h0]
theorem next_first {k : Nat} (h : k ≤ 0) (L : List (Int × Int)) (s : Int × Int) : nextB (if k = 0 then none else L[k - 1]?) s = stepB s := by rw [if_pos (by omega)]; rfl
theorem next_later {k : Nat} (h : 0 < k) {L : List (Int × Int)} {p : Int × Int} (hp : L[k - 1]? = some p) (s : Int × Int) : nextB (if k = 0 then none else L[k - 1]?) s = (stepB s && linkB p s) := by rw [if_neg (by omega), hp]; rfl
theorem next_bad1 {o : Option (Int × Int)} {x y : Int} (h : inB x 1 1000 = false) : nextB o (x, y) = false := by cases o <;> simp [nextB, stepB, h]
theorem next_bad2 {o : Option (Int × Int)} {x y : Int} (h : inB y 0 50000 = false) : nextB o (x, y) = false := by cases o <;> simp [nextB, stepB, h]

theorem Steps.two {w : World} {B n : Nat} {A : Option Addr} {L : List (Int × Int)} {k : Nat} (h : Steps w B A n L) (hk : k < n) (h0 : 0 < k) :
    ∃ b o x y p q, A = some ⟨b, o, none⟩ ∧ b < B ∧ L[k]? = some (x, y) ∧ L[k - 1]? = some (p, q) ∧ w.cell? ⟨b, o + k * 2, none⟩ = some (.int .i64 x) ∧ w.cell? ⟨b, o + k * 2 + 1, none⟩ = some (.int .i64 y) ∧
      w.cell? ⟨b, o + (k - 1) * 2, none⟩ = some (.int .i64 p) ∧ w.cell? ⟨b, o + (k - 1) * 2 + 1, none⟩ = some (.int .i64 q) := by
  obtain ⟨b, o, e, hb, hc⟩ := h.2 (by omega)
  have hl : k < L.length := by have := h.1; omega
  have hl' : k - 1 < L.length := by omega
  obtain ⟨c1, c2⟩ := hc k _ (List.getElem?_eq_getElem hl)
  obtain ⟨c3, c4⟩ := hc (k - 1) _ (List.getElem?_eq_getElem hl')
  exact ⟨b, o, _, _, _, _, e, hb, List.getElem?_eq_getElem hl, List.getElem?_eq_getElem hl', c1, c2, c3, c4⟩

set_option maxHeartbeats 1000000 in
theorem l03Ok_any (A : Option Addr) (n c : Nat) (L : List (Int × Int)) (w : World) (h : Steps w w.heap.size A n L) (hn : n ≤ maxLen) :
    Calls Try.prog 91 #[.slice A n c] w fun e w' => e = .returned (.bool (chartB L)) ∧ Below w.heap.size w w' := by
  unfold maxLen at hn
  have H := Lib.hid h
  clear h
  go_enter Try.func91, Try.ntmps91
  go_wp2
  go_loopw [3] (fun i wr => ∃ k : Nat, k ≤ n ∧ i = .int .i64 k ∧ Below w.heap.size w wr ∧ Hid (chainB none (L.take k) = true)) (fun i _ => n - (intOf i).toNat)
  case atStart => exact ⟨0, Nat.zero_le _, rfl, Below.refl _ _, by show chainB none (L.take 0) = true; simp [chainB]⟩
  case round =>
    obtain ⟨k, hk, rfl, HB, HC⟩ := hrel
    by_cases hlt : k < n
    · have i1 : (0 : Int) ≤ (k : Int) := Int.natCast_nonneg _
      have i2 : (k : Int) < (n : Int) := by omega
      rcases Nat.eq_zero_or_pos k with h0 | h0
      · obtain ⟨b, o, x, y, rfl, _, hx, hc1, hc2⟩ := (H.out.below HB).at_ hlt
        have h00 : k ≤ 0 := by omega
        clear h0
        have G := Lib.hid (chain_good hx HC.out)
        have D := Lib.hid (chain_bad hx)
        clear hx
        have hd : decide (0 < k) = false := by simp; omega
        cases h1 : inB x 1 1000
        · go_wp2_with (go_at_call 83; refine (l00In_any _ _ _ _).mono ?_; rintro e w' ⟨rfl, rfl⟩)
          go_ret
          exact ⟨ret_bool (D.out (next_bad1 h1)).symm, HB⟩
        · cases h2 : inB y 0 50000
          · go_wp2_with (go_at_call 83; refine (l00In_any _ _ _ _).mono ?_; rintro e w' ⟨rfl, rfl⟩)
            go_ret
            exact ⟨ret_bool (D.out (next_bad2 h2)).symm, HB⟩
          · go_wp2_with (go_at_call 83; refine (l00In_any _ _ _ _).mono ?_; rintro e w' ⟨rfl, rfl⟩)
            go_quiet (fail)
            go_wp2
            exact ⟨⟨k + 1, by omega, by go_num, below_drewN HB _, G.out (by rw [next_first h00]; simp [stepB, h1, h2])⟩, by simp [intOf]; omega⟩
      · obtain ⟨b, o, x, y, p, q, rfl, _, hx, hp, hc1, hc2, hc3, hc4⟩ := (H.out.below HB).two hlt h0
        have G := Lib.hid (chain_good hx HC.out)
        have D := Lib.hid (chain_bad hx)
        have NL := Lib.hid (next_later h0 hp)
        clear hx hp
        have hd : decide ((0 : Int) < (k : Int)) = true := by simp; omega
        have i3 : (0 : Int) < (k : Int) := by omega
        cases h1 : inB x 1 1000
        · go_wp2_with (go_at_call 83; refine (l00In_any _ _ _ _).mono ?_; rintro e w' ⟨rfl, rfl⟩)
          go_ret
          exact ⟨ret_bool (D.out (next_bad1 h1)).symm, HB⟩
        · cases h2 : inB y 0 50000
          · go_wp2_with (go_at_call 83; refine (l00In_any _ _ _ _).mono ?_; rintro e w' ⟨rfl, rfl⟩)
            go_ret
            exact ⟨ret_bool (D.out (next_bad2 h2)).symm, HB⟩
          · by_cases h3 : x ≤ p
            · have h3' : decide (x ≤ p) = true := by simpa using h3
              go_wp2_with (go_at_call 83; refine (l00In_any _ _ _ _).mono ?_; rintro e w' ⟨rfl, rfl⟩)
              go_quiet (fail)
              go_wp2
              go_ret
              exact ⟨ret_bool (D.out (by rw [NL.out]; simp [linkB]; omega)).symm, below_drewN HB _⟩
            · have h3' : decide (x ≤ p) = false := by simpa using h3
              by_cases h4 : q < y
              · have h4' : decide (q < y) = true := by simpa using h4
                go_wp2_with (go_at_call 83; refine (l00In_any _ _ _ _).mono ?_; rintro e w' ⟨rfl, rfl⟩)
                go_quiet (fail)
                go_wp2
                go_ret
                exact ⟨ret_bool (D.out (by rw [NL.out]; simp [linkB]; omega)).symm, below_drewN HB _⟩
              · have h4' : decide (q < y) = false := by simpa using h4
                go_wp2_with (go_at_call 83; refine (l00In_any _ _ _ _).mono ?_; rintro e w' ⟨rfl, rfl⟩)
                go_quiet (fail)
                go_wp2
                exact ⟨⟨k + 1, by omega, by go_num, below_drewN HB _, G.out (by rw [NL.out]; simp [stepB, linkB, h1, h2]; omega)⟩, by simp [intOf]; omega⟩
    · have E := Lib.hid (chain_end (L := L) (k := k) (by rw [H.out.1]; exact hlt) HC.out)
      go_wp2_with (go_at_call 83; refine (l00In_any _ _ _ _).mono ?_; rintro e w' ⟨rfl, rfl⟩)
      go_ret
      exact ⟨ret_bool (by rw [E.out, H.out.1]), HB⟩
set_option maxHeartbeats 1000000 in
theorem implValidChart_any (A : Option Addr) (n c : Nat) (L : List (Int × Int)) (w : World) (h : Steps w w.heap.size A n L) (hn : n ≤ maxLen) :
    Calls Try.prog 72 #[.slice A n c] w fun e w' => e = .returned (.bool (chartB L)) ∧ Below w.heap.size w w' := by
  unfold maxLen at hn
  have H := Lib.hid h
  clear h
  go_enter Try.func72, Try.ntmps72
  go_wp2
  go_loopw [3, 4, 7] (fun _ _ i wr => ∃ k : Nat, k ≤ n ∧ i = .int .i64 k ∧ Below w.heap.size w wr ∧ Hid (chainB none (L.take k) = true)) (fun _ _ i _ => n - (intOf i).toNat)
  case atStart => exact ⟨0, Nat.zero_le _, rfl, Below.refl _ _, by show chainB none (L.take 0) = true; simp [chainB]⟩
  case round =>
    obtain ⟨k, hk, rfl, HB, HC⟩ := hrel
    by_cases hlt : k < n
    · have i1 : (0 : Int) ≤ (k : Int) := Int.natCast_nonneg _
      have i2 : (k : Int) < (n : Int) := by omega
      have hz := HB.size
      rcases Nat.eq_zero_or_pos k with h0 | h0
      · obtain ⟨b, o, x, y, rfl, hbb, hx, hc1, hc2⟩ := (H.out.below HB).at_ hlt
        have h00 : k ≤ 0 := by omega
        clear h0
        have G := Lib.hid (chain_good hx HC.out)
        have D := Lib.hid (chain_bad hx)
        clear hx
        have hlw : b < wr.heap.size := by omega
        have hd : decide (0 < k) = false := by simp; omega
        cases h1 : inB x 1 1000
        · go_wp2_with (go_at_call 52; refine (within_any _ _ _ _).mono ?_; rintro e w' ⟨rfl, rfl⟩)
          go_ret
          exact ⟨ret_bool (D.out (next_bad1 h1)).symm, HB.alloc hz _⟩
        · cases h2 : inB y 0 50000
          · go_wp2_with (go_at_call 52; refine (within_any _ _ _ _).mono ?_; rintro e w' ⟨rfl, rfl⟩)
            go_ret
            exact ⟨ret_bool (D.out (next_bad2 h2)).symm, HB.alloc hz _⟩
          · go_wp2_with (go_at_call 52; refine (within_any _ _ _ _).mono ?_; rintro e w' ⟨rfl, rfl⟩)
            go_quiet (fail)
            go_wp2
            exact ⟨⟨k + 1, by omega, by go_num, below_drewN (HB.alloc hz _) _, G.out (by rw [next_first h00]; simp [stepB, h1, h2])⟩, by simp [intOf]; omega⟩
      · obtain ⟨b, o, x, y, p, q, rfl, hbb, hx, hp, hc1, hc2, hc3, hc4⟩ := (H.out.below HB).two hlt h0
        have G := Lib.hid (chain_good hx HC.out)
        have D := Lib.hid (chain_bad hx)
        have NL := Lib.hid (next_later h0 hp)
        clear hx hp
        have hlw : b < wr.heap.size := by omega
        have hd : decide ((0 : Int) < (k : Int)) = true := by simp; omega
        have i3 : (0 : Int) < (k : Int) := by omega
        cases h1 : inB x 1 1000
        · go_wp2_with (go_at_call 52; refine (within_any _ _ _ _).mono ?_; rintro e w' ⟨rfl, rfl⟩)
          go_ret
          exact ⟨ret_bool (D.out (next_bad1 h1)).symm, HB.alloc hz _⟩
        · cases h2 : inB y 0 50000
          · go_wp2_with (go_at_call 52; refine (within_any _ _ _ _).mono ?_; rintro e w' ⟨rfl, rfl⟩)
            go_ret
            exact ⟨ret_bool (D.out (next_bad2 h2)).symm, HB.alloc hz _⟩
          · by_cases h3 : x ≤ p
            · have h3' : decide (x ≤ p) = true := by simpa using h3
              go_wp2_with (go_at_call 52; refine (within_any _ _ _ _).mono ?_; rintro e w' ⟨rfl, rfl⟩)
              go_quiet (fail)
              go_wp2
              go_ret
              exact ⟨ret_bool (D.out (by rw [NL.out]; simp [linkB]; omega)).symm, below_drewN (HB.alloc hz _) _⟩
            · have h3' : decide (x ≤ p) = false := by simpa using h3
              by_cases h4 : q < y
              · have h4' : decide (q < y) = true := by simpa using h4
                go_wp2_with (go_at_call 52; refine (within_any _ _ _ _).mono ?_; rintro e w' ⟨rfl, rfl⟩)
                go_quiet (fail)
                go_wp2
                go_ret
                exact ⟨ret_bool (D.out (by rw [NL.out]; simp [linkB]; omega)).symm, below_drewN (HB.alloc hz _) _⟩
              · have h4' : decide (q < y) = false := by simpa using h4
                go_wp2_with (go_at_call 52; refine (within_any _ _ _ _).mono ?_; rintro e w' ⟨rfl, rfl⟩)
                go_quiet (fail)
                go_wp2
                exact ⟨⟨k + 1, by omega, by go_num, below_drewN (HB.alloc hz _) _, G.out (by rw [NL.out]; simp [stepB, linkB, h1, h2]; omega)⟩, by simp [intOf]; omega⟩
    · have E := Lib.hid (chain_end (L := L) (k := k) (by rw [H.out.1]; exact hlt) HC.out)
      go_wp2
      · go_ret
        exact ⟨ret_bool (by rw [E.out, H.out.1]; simp [inB]; omega), HB⟩
      · go_ret
        exact ⟨ret_bool (by rw [E.out, H.out.1]; simp [inB]; omega), HB⟩
end Go.Proofs.Ytbdompadkeamdaa
