/- Zones: the plain laws, of no program: what makes a zone valid; twice its area in two ways; where a point lies. -/
import Derived.Test.YtbdompadkeamdaaKit
import Derived.Test.YtbdompadkeamdaaCodeRes
namespace Go.Proofs.Ytbdompadkeamdaa
open Go.RowKit Go.WideShapes Go.ChangeShapes Go.Joins Go.Deep Go.Sort
set_option linter.unusedVariables false

/-! ### all of the first n numbers -/
def allN (n : Nat) (P : Nat → Bool) : Bool := (List.range n).all P
theorem allN_iff {n : Nat} {P : Nat → Bool} : allN n P = true ↔ ∀ k, k < n → P k = true := by
  unfold allN; rw [List.all_eq_true]
  exact ⟨fun h k hk => h k (List.mem_range.2 hk), fun h k hk => h k (List.mem_range.1 hk)⟩
theorem allN_true {n : Nat} {P : Nat → Bool} (h : ∀ k, k < n → P k = true) : allN n P = true := allN_iff.2 h
theorem allN_at {n : Nat} {P : Nat → Bool} (h : allN n P = true) {k : Nat} (hk : k < n) : P k = true := allN_iff.1 h k hk
theorem allN_false {n k : Nat} {P : Nat → Bool} (hk : k < n) (h : P k = false) : allN n P = false := by
  cases e : allN n P with
  | false => rfl
  | true => rw [allN_at e hk] at h; cases h
theorem upto_next {P : Nat → Bool} {k : Nat} (h0 : ∀ j, j < k → P j = true) (h : P k = true) : ∀ j, j < k + 1 → P j = true := fun j hj => by
  rcases Nat.lt_or_ge j k with l | l
  · exact h0 j l
  · obtain rfl : j = k := by omega
    exact h

/-! ### points of a list -/
def ptAt (L : List (Int × Int)) (k : Nat) : Int × Int := L.getD k (0, 0)
theorem ptAt_of {L : List (Int × Int)} {k : Nat} {s : Int × Int} (h : L[k]? = some s) : ptAt L k = s := by unfold ptAt; rw [List.getD_eq_getElem?_getD, h]; rfl
def placesB (L : List (Int × Int)) : Bool := allN L.length fun k => placeB (ptAt L k).1 (ptAt L k).2
theorem places_at {L : List (Int × Int)} (h : placesB L = true) {k : Nat} {s : Int × Int} (hk : L[k]? = some s) : placeB s.1 s.2 = true := by
  have := allN_at h (List.getElem?_eq_some_iff.1 hk).1
  rw [ptAt_of hk] at this
  exact this
theorem places_get {L : List (Int × Int)} (h : placesB L = true) {k : Nat} (hk : k < L.length) : placeB (ptAt L k).1 (ptAt L k).2 = true := allN_at h hk

/-! ### turns to the left -/
def crossV (a b c d e f : Int) : Int := (c - a) * (f - b) - (d - b) * (e - a)
theorem crossV_bound {a b c d e f : Int} (h1 : placeB a b = true) (h2 : placeB c d = true) (h3 : placeB e f = true) :
    (-400000000 ≤ (c - a) * (f - b) ∧ (c - a) * (f - b) ≤ 400000000) ∧ (-400000000 ≤ (d - b) * (e - a) ∧ (d - b) * (e - a) ≤ 400000000) := by
  rw [placeB_iff] at h1 h2 h3
  have key : ∀ x y : Int, -20000 ≤ x → x ≤ 20000 → -20000 ≤ y → y ≤ 20000 → -400000000 ≤ x * y ∧ x * y ≤ 400000000 := by
    intro x y x0 x1 y0 y1
    have := Int.mul_nonneg (show 0 ≤ 20000 - x by omega) (show 0 ≤ 20000 - y by omega)
    have := Int.mul_nonneg (show 0 ≤ 20000 + x by omega) (show 0 ≤ 20000 + y by omega)
    have := Int.mul_nonneg (show 0 ≤ 20000 - x by omega) (show 0 ≤ 20000 + y by omega)
    have := Int.mul_nonneg (show 0 ≤ 20000 + x by omega) (show 0 ≤ 20000 - y by omega)
    simp only [Int.sub_mul, Int.mul_sub, Int.add_mul, Int.mul_add] at *
    omega
  exact ⟨key _ _ (by omega) (by omega) (by omega) (by omega), key _ _ (by omega) (by omega) (by omega) (by omega)⟩
/-- corner i lies left of the side behind corner k, or is an end of it -/
def leftB (L : List (Int × Int)) (k i : Nat) : Bool := decide (i = k) || decide (i = (k + 1) % L.length) || decide (0 < crossV (ptAt L k).1 (ptAt L k).2 (ptAt L ((k + 1) % L.length)).1 (ptAt L ((k + 1) % L.length)).2 (ptAt L i).1 (ptAt L i).2)
def sideB (L : List (Int × Int)) (k : Nat) : Bool := allN L.length (leftB L k)
def turnsB (L : List (Int × Int)) : Bool := allN L.length (sideB L)
theorem left_same {L : List (Int × Int)} {k : Nat} : leftB L k k = true := by simp [leftB]
theorem left_next {L : List (Int × Int)} {k i : Nat} (h : i = (k + 1) % L.length) : leftB L k i = true := by simp [leftB, h]
theorem left_cross {L : List (Int × Int)} {k i : Nat} {p q r : Int × Int} (h1 : ¬ i = k) (h2 : ¬ i = (k + 1) % L.length) (hp : ptAt L k = p) (hq : ptAt L ((k + 1) % L.length) = q) (hr : ptAt L i = r) :
    leftB L k i = decide (0 < crossV p.1 p.2 q.1 q.2 r.1 r.2) := by
  unfold leftB; rw [hp, hq, hr]; simp [h1, h2]

/-! ### the kind and the height -/
def heightB (k s e : Int) : Bool := if k = 1 then inB s 1 60 && inB e 20 60 && decide (s * e ≤ 2000) else decide (s = 0) && decide (e = 0)
def zoneB (k s e : Int) (L : List (Int × Int)) : Bool := inB k 1 3 && heightB k s e && inB (L.length : Int) 3 12 && placesB L && turnsB L
structure ZoneOk (k s e : Int) (L : List (Int × Int)) : Prop where
  kind : 1 ≤ k ∧ k ≤ 3
  tall : heightB k s e = true
  low : 3 ≤ L.length
  few : L.length ≤ 12
  places : placesB L = true
  turns : turnsB L = true
theorem zone_ok {k s e : Int} {L : List (Int × Int)} (h : zoneB k s e L = true) : ZoneOk k s e L := by
  simp only [zoneB, Bool.and_eq_true, inB_iff] at h
  exact ⟨h.1.1.1.1, h.1.1.1.2, by omega, by omega, h.1.2, h.2⟩
theorem height_room {k s e : Int} (h : heightB k s e = true) : 0 ≤ s * e ∧ s * e ≤ 2000 ∧ (0 ≤ s ∧ s ≤ 60) ∧ (0 ≤ e ∧ e ≤ 60) := by
  unfold heightB at h
  split at h
  · simp only [Bool.and_eq_true, inB_iff, decide_eq_true_eq] at h
    refine ⟨Int.mul_nonneg (by omega) (by omega), h.2, by omega, by omega⟩
  · simp only [Bool.and_eq_true, decide_eq_true_eq] at h
    obtain ⟨rfl, rfl⟩ := h
    simp

/-! ### twice the area -/
/-- the sum over the sides up to corner m -/
def chainZ (P : Nat → Int × Int) : Nat → Int
  | 0 => 0
  | m + 1 => chainZ P m + ((P m).1 * (P (m + 1)).2 - (P (m + 1)).1 * (P m).2)
/-- the sum over the triangles at corner 0, up to corner m + 1 -/
def fanZ (P : Nat → Int × Int) : Nat → Int
  | 0 => 0
  | m + 1 => fanZ P m + crossV (P 0).1 (P 0).2 (P m).1 (P m).2 (P (m + 1)).1 (P (m + 1)).2
theorem fan_chain (P : Nat → Int × Int) (m : Nat) : fanZ P m = chainZ P m + ((P m).1 * (P 0).2 - (P 0).1 * (P m).2) := by
  induction m with
  | zero => simp [fanZ, chainZ]
  | succ m ih =>
    unfold fanZ chainZ crossV
    rw [ih]
    grind
end Go.Proofs.Ytbdompadkeamdaa
