/- Charts searched: the first step whose radius is not less; the greatest moment; the walks, and the laws of both. -/
import Derived.Test.YtiaineljcmjfoaaProg
import Derived.Test.YtiaineljcmjfoaaKit
import Derived.Test.YtiaineljcmjfoaaBasics
import Derived.Test.YtiaineljcmjfoaaMem
import Derived.Test.YtiaineljcmjfoaaLists
import Derived.Test.YtiaineljcmjfoaaSteps
import Derived.Test.YtiaineljcmjfoaaCharts
import Derived.Test.YtiaineljcmjfoaaChartLaws
namespace Go.Proofs.Ytiaineljcmjfoaa
open Go.RowKit Go.WideShapes Go.ChangeShapes Go.Joins Go.Deep Go.Sort
set_option linter.unusedVariables false
set_option linter.unusedSimpArgs false

/-! ### the plain laws -/
theorem chain_all : ∀ {L : List (Int × Int)} {p : Option (Int × Int)}, chainB p L = true → ∀ {k : Nat} {s : Int × Int}, L[k]? = some s → stepB s = true
  | [], p, h, k, s, hk => by simp at hk
  | a :: r, p, h, 0, s, hk => by
    simp at hk; subst hk
    simp only [chainB, Bool.and_eq_true] at h
    cases p with
    | none => exact h.1
    | some q => have := h.1; simp only [nextB, Bool.and_eq_true] at this; exact this.1
  | a :: r, p, h, k + 1, s, hk => by
    simp only [chainB, Bool.and_eq_true] at h
    exact chain_all h.2 (k := k) (by simpa using hk)
theorem chain_links : ∀ {L : List (Int × Int)} {p : Option (Int × Int)}, chainB p L = true → ∀ {k : Nat} {s t : Int × Int}, L[k]? = some s → L[k + 1]? = some t → linkB s t = true
  | [], p, h, k, s, t, hk, _ => by simp at hk
  | a :: r, p, h, 0, s, t, hk, ht => by
    simp at hk; subst hk
    simp only [chainB, Bool.and_eq_true] at h
    cases r with
    | nil => simp at ht
    | cons b r' =>
      simp at ht; subst ht
      have := h.2
      simp only [chainB, nextB, Bool.and_eq_true] at this
      exact this.1.2
  | a :: r, p, h, k + 1, s, t, hk, ht => by
    simp only [chainB, Bool.and_eq_true] at h
    exact chain_links h.2 (k := k) (by simpa using hk) (by simpa using ht)
theorem chart_at {L : List (Int × Int)} (h : chartB L = true) {k : Nat} {x y : Int} (hk : L[k]? = some (x, y)) : 1 ≤ x ∧ x ≤ 1000 ∧ 0 ≤ y ∧ y ≤ 50000 := by
  simp only [chartB, Bool.and_eq_true] at h
  have := chain_all h.1 hk
  simp only [stepB, Bool.and_eq_true, inB_iff] at this
  omega
theorem chart_link {L : List (Int × Int)} (h : chartB L = true) {k : Nat} (h0 : 0 < k) {x y p q : Int} (hp : L[k - 1]? = some (p, q)) (hk : L[k]? = some (x, y)) : p < x ∧ y ≤ q := by
  simp only [chartB, Bool.and_eq_true] at h
  have := chain_links h.1 hp (t := (x, y)) (by rw [show k - 1 + 1 = k by omega]; exact hk)
  simpa [linkB] using this
theorem chart_len {L : List (Int × Int)} (h : chartB L = true) : 1 ≤ L.length ∧ L.length ≤ 20 := by
  simp only [chartB, Bool.and_eq_true, inB_iff] at h
  omega

/-- the index of the first step whose radius is not less than r, or -1 -/
def findFrom (r : Int) : List (Int × Int) → Nat → Int
  | [], _ => -1
  | s :: t, k => if r ≤ s.1 then (k : Int) else findFrom r t (k + 1)
def findV (L : List (Int × Int)) (r : Int) : Int := findFrom r L 0
theorem findFrom_none {r : Int} : ∀ {L : List (Int × Int)} {b : Nat}, (∀ (j : Nat) s, L[j]? = some s → s.1 < r) → findFrom r L b = -1
  | [], b, _ => rfl
  | s :: t, b, h => by
    unfold findFrom
    rw [if_neg (by have := h 0 s rfl; omega)]
    exact findFrom_none (fun j u hu => h (j + 1) u (by simpa using hu))
theorem findFrom_hit {r : Int} : ∀ {L : List (Int × Int)} {k b : Nat} {s : Int × Int}, L[k]? = some s → r ≤ s.1 → (∀ (j : Nat) u, j < k → L[j]? = some u → u.1 < r) → findFrom r L b = ((b + k : Nat) : Int)
  | [], k, b, s, h, _, _ => by simp at h
  | a :: t, 0, b, s, h, hr, _ => by
    simp at h; subst h
    unfold findFrom
    rw [if_pos hr]; simp
  | a :: t, k + 1, b, s, h, hr, hj => by
    unfold findFrom
    rw [if_neg (by have := hj 0 a (by omega) rfl; omega), findFrom_hit (k := k) (b := b + 1) (by simpa using h) hr (fun j u hjk hu => hj (j + 1) u (by omega) (by simpa using hu))]
    congr 1; omega
theorem findV_hit {L : List (Int × Int)} {r : Int} {k : Nat} {s : Int × Int} (h : L[k]? = some s) (hr : r ≤ s.1) (hj : ∀ (j : Nat) u, j < k → L[j]? = some u → u.1 < r) : findV L r = (k : Int) := by
  unfold findV; rw [findFrom_hit h hr hj]; simp
theorem findV_none {L : List (Int × Int)} {r : Int} (h : ∀ (j : Nat) s, L[j]? = some s → s.1 < r) : findV L r = -1 := findFrom_none h
theorem miss_step {L : List (Int × Int)} {r : Int} {k : Nat} {s : Int × Int} (h0 : ∀ (j : Nat) u, j < k → L[j]? = some u → u.1 < r) (h : L[k]? = some s) (hr : ¬ r ≤ s.1) : ∀ (j : Nat) u, j < k + 1 → L[j]? = some u → u.1 < r := by
  intro j u hj hu
  by_cases e : j = k
  · subst e; rw [h] at hu; injection hu with hu; subst hu; omega
  · exact h0 j u (by omega) hu
theorem miss_end {L : List (Int × Int)} {r : Int} {k : Nat} (h0 : ∀ (j : Nat) u, j < k → L[j]? = some u → u.1 < r) (h : L.length ≤ k) : findV L r = -1 :=
  findV_none fun j s hs => h0 j s (by have := (List.getElem?_eq_some_iff.1 hs).1; omega) hs
/-- what the search's answer says -/
theorem findV_cases (L : List (Int × Int)) (r : Int) : (findV L r = -1 ∧ ∀ (j : Nat) u, L[j]? = some u → u.1 < r) ∨ ∃ (k : Nat) (x y : Int), findV L r = (k : Int) ∧ k < L.length ∧ L[k]? = some (x, y) ∧ r ≤ x ∧ ∀ (j : Nat) u, j < k → L[j]? = some u → u.1 < r := by
  by_cases h : ∀ (j : Nat) (u : Int × Int), L[j]? = some u → u.1 < r
  · exact .inl ⟨findV_none h, h⟩
  · right
    have hex : ∃ (j : Nat) (u : Int × Int), L[j]? = some u ∧ r ≤ u.1 := by
      simp only [Classical.not_forall] at h
      obtain ⟨j, u, hu, hr⟩ := h
      exact ⟨j, u, hu, by omega⟩
    obtain ⟨j, u, hu, hr⟩ := hex
    have key : ∀ n, n ≤ j + 1 → (∀ (i : Nat) (v : Int × Int), i < n → L[i]? = some v → v.1 < r) ∨ ∃ (k : Nat) (x y : Int), findV L r = (k : Int) ∧ k < L.length ∧ L[k]? = some (x, y) ∧ r ≤ x ∧ ∀ (i : Nat) v, i < k → L[i]? = some v → v.1 < r := by
      intro n
      induction n with
      | zero => exact fun _ => .inl fun i v hi => absurd hi (by omega)
      | succ n ih =>
        intro hn
        rcases ih (by omega) with h0 | h0
        · cases hv : L[n]? with
          | none =>
            left
            intro i v hi hl
            by_cases e : i = n
            · subst e; rw [hv] at hl; cases hl
            · exact h0 i v (by omega) hl
          | some v =>
            by_cases hr' : r ≤ v.1
            · exact .inr ⟨n, v.1, v.2, findV_hit hv hr' h0, (List.getElem?_eq_some_iff.1 hv).1, hv, hr', h0⟩
            · exact .inl (miss_step h0 hv hr')
        · exact .inr h0
    rcases key (j + 1) (Nat.le_refl _) with h0 | h0
    · have := h0 j u (by omega) hu; omega
    · exact h0

set_option maxHeartbeats 400000 in
theorem l03Find_any (A : Option Addr) (n c : Nat) (L : List (Int × Int)) (r : Int) (w : World) (h : Steps w w.heap.size A n L) (hn : n ≤ maxLen) :
    Calls Try.prog 51 #[.slice A n c, .int .i64 r] w fun e w' => e = .returned (.int .i64 (findV L r)) ∧ w = w' := by
  unfold maxLen at hn
  have H := Lib.hid h
  clear h
  go_enter Try.func51, Try.ntmps51
  go_wp2
  go_loop [5] (fun i => ∃ k : Nat, k ≤ n ∧ i = .int .i64 k ∧ Hid (∀ (j : Nat) u, j < k → L[j]? = some u → u.1 < r)) (fun i => n - (intOf i).toNat)
  case atStart => exact ⟨0, Nat.zero_le _, rfl, fun j u hj => absurd hj (by omega)⟩
  case round =>
    obtain ⟨k, hk, rfl, HM⟩ := hrel
    by_cases hlt : k < n
    · obtain ⟨b, o, x, y, rfl, _, hx, hc1, hc2⟩ := H.out.at_ hlt
      have i1 : (0 : Int) ≤ (k : Int) := Int.natCast_nonneg _
      have i2 : (k : Int) < (n : Int) := by omega
      by_cases hr : r ≤ x
      · have E := Lib.hid (findV_hit hx hr HM.out)
        clear hx
        go_wp2
        go_ret
        exact ⟨ret_int E.out.symm, rfl⟩
      · have E := Lib.hid (miss_step HM.out hx hr)
        clear hx
        go_wp2
        exact ⟨⟨k + 1, by omega, by go_num, E⟩, by simp [intOf]; omega⟩
    · have E := Lib.hid (miss_end HM.out (by rw [H.out.1]; omega))
      go_wp2
      go_ret
      exact ⟨ret_int E.out.symm, rfl⟩
theorem stepFor1_any (x y r : Int) (g : Nat) (w : World) (hg : w.cell? ⟨g, 0, none⟩ = some (.int .i64 r)) (hlt : g < w.heap.size) :
    Calls Try.prog 65 #[.agg #[.int .i64 x, .int .i64 y], .pointer (some ⟨g, 0, none⟩)] w fun e w' => e = .returned (.bool (decide (r ≤ x))) ∧ Below w.heap.size w w' := by
  go_enter Try.func65, Try.ntmps65
  go_wp2
  go_ret
  exact ⟨rfl, below_alloc1 w _⟩
set_option maxHeartbeats 400000 in
theorem indexStep_any (A : Option Addr) (n c : Nat) (L : List (Int × Int)) (r : Int) (g : Nat) (w : World) (h : Steps w w.heap.size A n L) (hn : n ≤ maxLen) (hg : w.cell? ⟨g, 0, none⟩ = some (.int .i64 r)) (hgl : g < w.heap.size) :
    Calls Try.prog 64 #[.slice A n c, .func (.func 65) #[] #[.pointer (some ⟨g, 0, none⟩)]] w fun e w' => e = .returned (.int .i64 (findV L r)) ∧ Below w.heap.size w w' := by
  unfold maxLen at hn
  have H := Lib.hid h
  clear h
  go_enter Try.func64, Try.ntmps64
  go_wp2
  go_loopw [5, 8] (fun _ i wr => ∃ k : Nat, k ≤ n ∧ i = .int .i64 k ∧ Below w.heap.size w wr ∧ Hid (∀ (j : Nat) u, j < k → L[j]? = some u → u.1 < r)) (fun _ i _ => n - (intOf i).toNat)
  case atStart => exact ⟨0, Nat.zero_le _, rfl, Below.refl _ _, fun j u hj => absurd hj (by omega)⟩
  case round =>
    obtain ⟨k, hk, rfl, HB, HM⟩ := hrel
    have hg' : wr.cell? ⟨g, 0, none⟩ = some (.int .i64 r) := (HB.cell (p := ⟨g, 0, none⟩) hgl).trans hg
    have hgl' : g < wr.heap.size := Nat.lt_of_lt_of_le hgl HB.size
    have G := Lib.hid hg'
    clear hg hg'
    by_cases hlt : k < n
    · obtain ⟨b, o, x, y, rfl, _, hx, hc1, hc2⟩ := (H.out.below HB).at_ hlt
      have i1 : (0 : Int) ≤ (k : Int) := Int.natCast_nonneg _
      have i2 : (k : Int) < (n : Int) := by omega
      by_cases hr : r ≤ x
      · have E := Lib.hid (findV_hit hx hr HM.out)
        clear hx
        go_wp2_with fail
        refine (stepFor1_any _ _ _ _ _ G.out hgl').mono ?_
        rintro e w1 ⟨rfl, hb1⟩
        have B1 := HB.trans (hb1.mono HB.size)
        clear hb1
        go_wp2
        go_ret
        exact ⟨ret_int E.out.symm, B1⟩
      · have E := Lib.hid (miss_step HM.out hx hr)
        clear hx
        go_wp2_with fail
        refine (stepFor1_any _ _ _ _ _ G.out hgl').mono ?_
        rintro e w1 ⟨rfl, hb1⟩
        have B1 := HB.trans (hb1.mono HB.size)
        clear hb1
        go_wp2
        exact ⟨⟨k + 1, by omega, by go_num, B1, E⟩, by simp [intOf]; omega⟩
    · have E := Lib.hid (miss_end HM.out (by rw [H.out.1]; omega))
      go_wp2
      go_ret
      exact ⟨ret_int E.out.symm, HB⟩
theorem stepFor_any (A : Option Addr) (n c : Nat) (L : List (Int × Int)) (r : Int) (w : World) (h : Steps w w.heap.size A n L) (hn : n ≤ maxLen) :
    Calls Try.prog 52 #[.slice A n c, .int .i64 r] w fun e w' => e = .returned (.int .i64 (findV L r)) ∧ Below w.heap.size w w' := by
  have hmf : ∀ (fn : Fn) (first cap : Array Value) (w : World), (Instr.makeFunc fn first cap).run Try.prog w = .ok (.func fn first cap) w := fun _ _ _ _ => rfl
  have K := Blk.new w 2 #[.int .i64 r]
  have H := Lib.hid (h.next (below_alloc1 w (.cells #[.int .i64 r] 2)))
  clear h
  go_enter Try.func52, Try.ntmps52
  go_wp2_with fail
  refine (indexStep_any _ _ _ _ r _ _ H.out hn (K.cell 0) K.lt).mono ?_
  rintro e w1 ⟨rfl, hb1⟩
  have B1 := (below_alloc1 w _).trans (hb1.mono (by simp))
  clear hb1 K
  go_wp2
  go_ret
  exact ⟨rfl, B1⟩
end Go.Proofs.Ytiaineljcmjfoaa
