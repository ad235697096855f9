/- The plain law of turns. -/
import Derived.Test.YtofoihohendjgaaDoorProg
import Derived.Test.YtofoihohendjgaaDoorKit
import Derived.Test.YtofoihohendjgaaDoorMem
import Derived.Test.YtofoihohendjgaaDoorDirs
import Derived.Test.YtofoihohendjgaaDoorWay
import Derived.Test.YtofoihohendjgaaDoorWay2
import Derived.Test.YtofoihohendjgaaDoorVec
import Derived.Test.YtofoihohendjgaaDoorVec2
import Derived.Test.YtofoihohendjgaaDoorVec3
import Derived.Test.YtofoihohendjgaaDoorVec4
import Derived.Test.YtofoihohendjgaaDoorVec5
import Derived.Test.YtofoihohendjgaaDoorSrc
import Derived.Test.YtofoihohendjgaaDoorSrc2
namespace Go.Proofs.YtofoihohendjgaaDoor
open Go.RowKit Go.WideShapes Go.ChangeShapes Go.Joins Go.Deep Go.Sort
set_option linter.unusedVariables false
set_option linter.unusedSimpArgs false
theorem wayL_at {f s : Int} (f0 : 0 ≤ f) (f1 : f ≤ 23) : ∀ (n k : Nat), k ≤ n → (wayL f s n)[k]? = some ((f + s * (k : Int)) % 24)
  | 0, k, h => by
    obtain rfl : k = 0 := by omega
    simp [wayL]; omega
  | n + 1, k, h => by
    unfold wayL
    rcases Nat.lt_or_ge k (n + 1) with hk | hk
    · rw [List.getElem?_append_left (by rw [wayL_length]; exact hk)]
      exact wayL_at f0 f1 n k (by omega)
    · obtain rfl : k = n + 1 := by omega
      rw [List.getElem?_append_right (by simp [wayL_length]), wayL_length, Nat.sub_self]
      simp
theorem mod_rng (z : Int) : 0 ≤ z % 24 ∧ z % 24 ≤ 23 := by omega
theorem turn_one {f s : Int} (hs : s = 1 ∨ s = -1) (k : Nat) : turnV ((f + s * (k : Int)) % 24) ((f + s * ((k + 1 : Nat) : Int)) % 24) = s := by
  unfold turnV
  rcases hs with rfl | rfl
  · rw [if_neg (by omega)]; omega
  · rw [if_pos (by omega)]; omega
/-- what a way of m steps of s does -/
structure WayIs (M : List Int) (d x : Int) (m : Nat) : Prop where
  len : M.length = m + 1
  at0 : M[0]? = some d
  atm : M[m]? = some x
  all : ∀ k, k ≤ m → ∃ z, M[k]? = some z ∧ 0 ≤ z ∧ z ≤ 23
  next : ∀ k z z', k < m → M[k]? = some z → M[k + 1]? = some z' → turnV z z' = 1 ∨ turnV z z' = -1
theorem wayL_is {f s x : Int} (f0 : 0 ≤ f) (f1 : f ≤ 23) (hs : s = 1 ∨ s = -1) (n : Nat) (hx : (f + s * (n : Int)) % 24 = x) : WayIs (wayL f s n) f x n where
  len := wayL_length _ _ _
  at0 := by rw [wayL_at f0 f1 n 0 (by omega)]; simp; omega
  atm := by rw [wayL_at f0 f1 n n (Nat.le_refl _), hx]
  all := fun k hk => ⟨_, wayL_at f0 f1 n k hk, (mod_rng _).1, (mod_rng _).2⟩
  next := fun k z z' hk e e' => by
    rw [wayL_at f0 f1 n k (by omega)] at e
    rw [wayL_at f0 f1 n (k + 1) (by omega)] at e'
    injection e with e; injection e' with e'
    subst e; subst e'
    rw [turn_one hs]; exact hs
theorem vec_quarter : (List.range 24).all (fun d => decide (vecV ((d + 6) % 24) = (-(vecV d).2, (vecV d).1))) = true := by decide
theorem vec_turned {d : Nat} (hd : d < 24) : vecV ((d + 6) % 24) = (-(vecV d).2, (vecV d).1) := by
  have := List.all_eq_true.1 vec_quarter d (List.mem_range.2 hd)
  simpa using this
/-! ### the direction of an offset -/
def bestL (dx dy : Int) : List (Int × Int) → Nat → Nat → Int → Nat
  | [], _, b, _ => b
  | (x, y) :: l, k, b, m => match decide (m < x * dx + y * dy) with
    | true => bestL dx dy l (k + 1) k (x * dx + y * dy)
    | false => bestL dx dy l (k + 1) b m
theorem bestL_cons (dx dy x y : Int) (l : List (Int × Int)) (k b : Nat) (m : Int) : bestL dx dy ((x, y) :: l) k b m = match decide (m < x * dx + y * dy) with
    | true => bestL dx dy l (k + 1) k (x * dx + y * dy)
    | false => bestL dx dy l (k + 1) b m := rfl
theorem bestL_is (dx dy : Int) : ∀ (l : List (Int × Int)) (k : Nat), (∀ j p, l[j]? = some p → vecV (k + j) = p) → bestL dx dy l k (bestN dx dy k) (dotV dx dy (bestN dx dy k)) = bestN dx dy (k + l.length)
  | [], k, _ => rfl
  | (x, y) :: l, k, h => by
    have hv : vecV k = (x, y) := h 0 _ rfl
    have ih := bestL_is dx dy l (k + 1) (fun j p hj => by have := h (j + 1) p hj; rwa [show k + (j + 1) = k + 1 + j by omega] at this)
    have hd : x * dx + y * dy = dotV dx dy k := by unfold dotV; rw [hv]
    rw [show k + ((x, y) :: l).length = k + 1 + l.length by simp; omega, ← ih, bestL_cons, hd]
    by_cases hc : dotV dx dy (bestN dx dy k) < dotV dx dy k
    · rw [show decide (dotV dx dy (bestN dx dy k) < dotV dx dy k) = true by simpa using hc, best_up hc]
    · rw [show decide (dotV dx dy (bestN dx dy k) < dotV dx dy k) = false by simpa using hc, best_stay hc]
def vecT : List (Int × Int) := [(1000, 0), (966, 259), (866, 500), (707, 707), (500, 866), (259, 966), (0, 1000), (-259, 966), (-500, 866), (-707, 707), (-866, 500), (-966, 259), (-1000, 0), (-966, -259), (-866, -500), (-707, -707), (-500, -866), (-259, -966), (0, -1000), (259, -966), (500, -866), (707, -707), (866, -500), (966, -259)]
theorem vecT_is : (List.range 24).map vecV = vecT := by decide
theorem vecT_at {j : Nat} {p : Int × Int} (h : vecT[j]? = some p) : vecV j = p := by
  rw [← vecT_is, List.getElem?_map] at h
  rcases Nat.lt_or_ge j 24 with hj | hj
  · rw [List.getElem?_range hj] at h
    injection h
  · rw [List.getElem?_eq_none (by simpa using hj)] at h
    cases h
theorem bestN_eq (dx dy : Int) : bestN dx dy 24 = bestL dx dy vecT 0 0 (1000 * dx) := by
  have h := bestL_is dx dy vecT 0 (fun j p hj => by rw [Nat.zero_add]; exact vecT_at hj)
  rw [show 0 + vecT.length = 24 from rfl] at h
  rw [← h, show bestN dx dy 0 = 0 from rfl, show dotV dx dy 0 = 1000 * dx from by unfold dotV; rw [show vecV 0 = (1000, 0) from rfl]; simp]
def offX (d : Nat) (r : Int) : Int := ((vecV d).1 * r).tdiv 1000
def offY (d : Nat) (r : Int) : Int := ((vecV d).2 * r).tdiv 1000
def offOk (d : Nat) (x y : Int) : Bool := match bestL x y vecT 0 0 (1000 * x) == d with
  | true => !(x == 0 && y == 0)
  | false => false
def offAll (d : Nat) (vx vy : Int) : Bool := (List.range 256).all fun k => offOk d ((vx * ((100 + k : Nat) : Int)).tdiv 1000) ((vy * ((100 + k : Nat) : Int)).tdiv 1000)
set_option maxRecDepth 100000 in
theorem off_all : ((List.range 24).all fun d => offAll d (vecV d).1 (vecV d).2) = true := by decide +kernel
theorem off_at {d : Nat} {k : Int} (hd : d < 24) (k0 : 0 ≤ k) (k1 : k < 256) : bestN (offX d (100 + k)) (offY d (100 + k)) 24 = d ∧ ¬ (offX d (100 + k) = 0 ∧ offY d (100 + k) = 0) := by
  have h := List.all_eq_true.1 off_all d (List.mem_range.2 hd)
  obtain ⟨j, rfl⟩ : ∃ j : Nat, k = j := ⟨k.toNat, by omega⟩
  have h := List.all_eq_true.1 h j (List.mem_range.2 (by omega))
  rw [bestN_eq]
  have e : ((100 + j : Nat) : Int) = 100 + (j : Int) := by omega
  unfold offX offY
  rw [e] at h
  revert h
  unfold offOk
  split
  · intro h
    rename_i hb
    refine ⟨by simpa using hb, ?_⟩
    rintro ⟨h1, h2⟩
    rw [h1, h2] at h
    simp at h
  · intro h; cases h
theorem tdiv_bd2 {a : Int} (h0 : -355000 ≤ a) (h1 : a ≤ 355000) : -355 ≤ a.tdiv 1000 ∧ a.tdiv 1000 ≤ 355 := by
  have hs : (1000 : Int).sign = 1 := rfl
  rw [Int.tdiv_eq_ediv, hs]
  split <;> omega
theorem off_range {v r : Int} (v0 : -1000 ≤ v) (v1 : v ≤ 1000) (r0 : 100 ≤ r) (r1 : r ≤ 355) : -355 ≤ (v * r).tdiv 1000 ∧ (v * r).tdiv 1000 ≤ 355 := by
  have := Int.mul_nonneg (show 0 ≤ 1000 - v by omega) (show 0 ≤ r by omega)
  have := Int.mul_nonneg (show 0 ≤ 1000 + v by omega) (show 0 ≤ r by omega)
  have h0 : v * r ≤ 355000 := by
    have : (1000 - v) * r = 1000 * r - v * r := by rw [Int.sub_mul]
    omega
  have h1 : -355000 ≤ v * r := by
    have : (1000 + v) * r = 1000 * r + v * r := by rw [Int.add_mul]
    omega
  generalize v * r = z at *
  exact tdiv_bd2 h1 h0
/-! ### the laws's numbers -/
theorem at_law {fx fy : Int} {d : Nat} {k : Int} (hn : Near fx fy) (hd : d < 24) (k0 : 0 ≤ k) (k1 : k < 256) : ∃ px py : Int, placeAtRes fx fy d (100 + k) = .tuple #[ptV px py, .int .i64 0] ∧ placeB px py = true ∧ dirRes fx fy px py = .tuple #[.int .i64 d, .int .i64 0] := by
  obtain ⟨⟨a0, a1⟩, b0, b1⟩ := vec_bound hd
  obtain ⟨c0, c1⟩ := off_range a0 a1 (r := 100 + k) (by omega) (by omega)
  obtain ⟨e0, e1⟩ := off_range b0 b1 (r := 100 + k) (by omega) (by omega)
  obtain ⟨hb, hz⟩ := off_at hd k0 k1
  have hp : placeB (fx + offX d (100 + k)) (fy + offY d (100 + k)) = true := by
    unfold Near at hn
    unfold offX offY
    rw [placeB_iff]
    omega
  have hf : placeB fx fy = true := by
    unfold Near at hn
    rw [placeB_iff]
    omega
  have h1 : inB (d : Int) 0 23 = true := inB_true (by omega) (by omega)
  have h2 : inB (100 + k) 0 1000 = true := inB_true (by omega) (by omega)
  refine ⟨fx + offX d (100 + k), fy + offY d (100 + k), ?_, hp, ?_⟩
  · unfold placeAtRes
    rw [hf, h1, h2]
    show ptRes (placeB (atV fx fy d (100 + k)).1 (atV fx fy d (100 + k)).2) (atV fx fy d (100 + k)) 5 = _
    rw [show placeB (atV fx fy d (100 + k)).1 (atV fx fy d (100 + k)).2 = true from hp]
    rfl
  · unfold dirRes
    rw [hf, hp]
    show (match fx == fx + offX d (100 + k) && fy == fy + offY d (100 + k) with
      | true => Value.tuple #[.int .i64 0, .int .i64 6]
      | false => .tuple #[.int .i64 (bestN (fx + offX d (100 + k) - fx) (fy + offY d (100 + k) - fy) 24 : Nat), .int .i64 0]) = _
    rw [show (fx == fx + offX d (100 + k) && fy == fy + offY d (100 + k)) = false by
      cases h : (fx == fx + offX d (100 + k) && fy == fy + offY d (100 + k)) with
      | false => rfl
      | true =>
        simp at h
        exact absurd ⟨by omega, by omega⟩ hz]
    rw [show fx + offX d (100 + k) - fx = offX d (100 + k) by omega, show fy + offY d (100 + k) - fy = offY d (100 + k) by omega, hb]
theorem turns_law {d : Nat} {e b : Int} (hd : d < 24) (e0 : 0 ≤ e) (e1 : e < 24) (b0 : -60 ≤ b) (b1 : b ≤ 59) : ∃ (x y vx vy : Int) (M : List Int) (m : Nat),
    turnByV d b = .tuple #[.int .i64 x, .int .i64 0] ∧ pairV (inB d 0 23 && inB e 0 23) (turnV d e) 2 = .tuple #[.int .i64 y, .int .i64 0] ∧ wayM d b = M ∧ wayC d b = 0 ∧ WayIs M d x m ∧ (m : Int) = (if -b > b then -b else b) ∧
    ptRes (inB d 0 23) (vecV (d : Int).toNat) 2 = .tuple #[ptV vx vy, .int .i64 0] ∧ ptRes (inB (((d : Int) + 6) % 24) 0 23) (vecV (((d : Int) + 6) % 24).toNat) 2 = .tuple #[ptV (-vy) vx, .int .i64 0] ∧ -1000 ≤ vy ∧ vy ≤ 1000 ∧
    turnByV x (-b) = .tuple #[.int .i64 d, .int .i64 0] ∧ turnByV d y = .tuple #[.int .i64 e, .int .i64 0] ∧ 0 ≤ x ∧ x ≤ 23 ∧ -11 ≤ y ∧ y ≤ 12 ∧ m ≤ 60 := by
  have hD : inB (d : Int) 0 23 = true := inB_true (by omega) (by omega)
  have hE : inB e 0 23 = true := inB_true (by omega) (by omega)
  have hB : inB b (-1000) 1000 = true := inB_true (by omega) (by omega)
  have hB' : inB (-b) (-1000) 1000 = true := inB_true (by omega) (by omega)
  have hX : inB (((d : Int) + b) % 24) 0 23 = true := inB_true (by omega) (by omega)
  have hy : -11 ≤ turnV d e ∧ turnV d e ≤ 12 ∧ ((d : Int) + turnV d e) % 24 = e := by
    unfold turnV
    split <;> omega
  have hY : inB (turnV d e) (-1000) 1000 = true := inB_true (by omega) (by omega)
  obtain ⟨_, c0, c1⟩ := vec_bound hd
  have h6 : (((d : Int) + 6) % 24).toNat = (d + 6) % 24 := by omega
  have hV : inB (((d : Int) + 6) % 24) 0 23 = true := inB_true (by omega) (by omega)
  have hv2 : ptRes (inB (((d : Int) + 6) % 24) 0 23) (vecV (((d : Int) + 6) % 24).toNat) 2 = .tuple #[ptV (-(vecV d).2) (vecV d).1, .int .i64 0] := by
    rw [hV, h6, vec_turned hd]; rfl
  have hv1 : ptRes (inB d 0 23) (vecV (d : Int).toNat) 2 = .tuple #[ptV (vecV d).1 (vecV d).2, .int .i64 0] := by
    rw [hD, show (d : Int).toNat = d by omega]; rfl
  have ht : turnByV (((d : Int) + b) % 24) (-b) = .tuple #[.int .i64 d, .int .i64 0] := by
    rw [turnByV_good hX hB', show (((d : Int) + b) % 24 + -b) % 24 = d by omega]
  have hu : turnByV d (turnV d e) = .tuple #[.int .i64 e, .int .i64 0] := by rw [turnByV_good hD hY, hy.2.2]
  have hp : pairV (inB d 0 23 && inB e 0 23) (turnV d e) 2 = .tuple #[.int .i64 (turnV d e), .int .i64 0] := by rw [hD, hE]; rfl
  rcases Int.lt_or_le b 0 with hb | hb
  · obtain ⟨hm, hc⟩ := way_neg hD hB hb
    exact ⟨_, _, _, _, _, (-b).toNat, turnByV_good hD hB, hp, hm, hc, wayL_is (by omega) (by omega) (.inr rfl) _ (by omega), by rw [if_pos (by omega)]; omega, hv1, hv2, c0, c1, ht, hu, (mod_rng _).1, (mod_rng _).2, hy.1, hy.2.1, by omega⟩
  · obtain ⟨hm, hc⟩ := way_pos hD hB hb
    exact ⟨_, _, _, _, _, b.toNat, turnByV_good hD hB, hp, hm, hc, wayL_is (by omega) (by omega) (.inl rfl) _ (by omega), by rw [if_neg (by omega)]; omega, hv1, hv2, c0, c1, ht, hu, (mod_rng _).1, (mod_rng _).2, hy.1, hy.2.1, by omega⟩
end Go.Proofs.YtofoihohendjgaaDoor
