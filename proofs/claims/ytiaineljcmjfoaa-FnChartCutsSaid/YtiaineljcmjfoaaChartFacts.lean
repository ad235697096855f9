/- The plain law of charts: loads never increase with the radius, lie between the steps; the told radius is the greatest. -/
import Derived.Test.YtiaineljcmjfoaaProg
import Derived.Test.YtiaineljcmjfoaaKit
import Derived.Test.YtiaineljcmjfoaaBasics
import Derived.Test.YtiaineljcmjfoaaCodeRes
import Derived.Test.YtiaineljcmjfoaaLists
import Derived.Test.YtiaineljcmjfoaaSteps
import Derived.Test.YtiaineljcmjfoaaCharts
import Derived.Test.YtiaineljcmjfoaaFinds
import Derived.Test.YtiaineljcmjfoaaLoads
import Derived.Test.YtiaineljcmjfoaaLoads2
import Derived.Test.YtiaineljcmjfoaaLoads3
import Derived.Test.YtiaineljcmjfoaaRadius
namespace Go.Proofs.Ytiaineljcmjfoaa
open Go.RowKit Go.WideShapes Go.ChangeShapes Go.Joins Go.Deep Go.Sort
set_option linter.unusedVariables false
set_option linter.unusedSimpArgs false
theorem chart_mono {L : List (Int × Int)} (h : chartB L = true) : ∀ (d i : Nat) {x y p q : Int}, L[i]? = some (x, y) → L[i + d]? = some (p, q) → x ≤ p ∧ q ≤ y
  | 0, i, x, y, p, q, hx, hp => by
    rw [Nat.add_zero, hx] at hp
    injection hp with hp
    injection hp with h1 h2
    omega
  | d + 1, i, x, y, p, q, hx, hp => by
    have hl : i + d < L.length := by
      obtain ⟨hl, _⟩ := List.getElem?_eq_some_iff.1 hp
      omega
    have hm : L[i + d]? = some (L[i + d].1, L[i + d].2) := List.getElem?_eq_getElem hl
    have := chart_mono h d i hx hm
    have := chart_link h (k := i + (d + 1)) (by omega) (by rw [show i + (d + 1) - 1 = i + d by omega]; exact hm) hp
    omega
theorem chart_mono' {L : List (Int × Int)} (h : chartB L = true) {i j : Nat} (hij : i ≤ j) {x y p q : Int} (hx : L[i]? = some (x, y)) (hp : L[j]? = some (p, q)) : x ≤ p ∧ q ≤ y :=
  chart_mono h (j - i) i hx (by rw [show i + (j - i) = j by omega]; exact hp)
theorem chart_first {L : List (Int × Int)} (h : chartB L = true) : ∃ x y, L[0]? = some (x, y) := by
  have := (chart_len h).1
  exact ⟨L[0].1, L[0].2, List.getElem?_eq_getElem (by omega)⟩
theorem find_past {L : List (Int × Int)} (h : chartB L = true) {r : Int} (hr : lastR L < r) : findV L r = -1 := by
  refine findV_none fun j s hs => ?_
  obtain ⟨x, y, hx, e⟩ := last_at (chart_len h).1
  have hj : j ≤ L.length - 1 := by
    obtain ⟨hl, _⟩ := List.getElem?_eq_some_iff.1 hs
    omega
  have := chart_mono' h hj (x := s.1) (y := s.2) hs hx
  omega
theorem ceil_mono {n m d : Int} (d0 : 1 ≤ d) (h : n ≤ m) : ceilZ n d ≤ ceilZ m d := by
  unfold ceilZ
  exact Int.ediv_le_ediv (by omega) (by omega)
theorem inter_mono {p q x y r s : Int} (p1 : p < x) (h : y ≤ q) (hrs : r ≤ s) : interZ p q x y s ≤ interZ p q x y r := by
  unfold interZ
  have := ceil_mono (d := x - p) (by omega) (Int.mul_le_mul_of_nonneg_left (show r - p ≤ s - p by omega) (show 0 ≤ q - y by omega))
  omega
/-- a load of a valid chart and the step beneath it -/
structure LoadIs (L : List (Int × Int)) (r : Int) (k : Nat) (x y : Int) : Prop where
  find : findV L r = (k : Int)
  at_ : L[k]? = some (x, y)
  le : r ≤ x
  low : y ≤ loadV L r
  high : ∀ j p q, j < k → L[j]? = some (p, q) → p < r ∧ loadV L r ≤ q
  fst : k = 0 → loadV L r = y
theorem load_is {L : List (Int × Int)} (h : chartB L = true) {r : Int} (hr : r ≤ lastR L) : ∃ k x y, LoadIs L r k x y := by
  rcases findV_cases L r with ⟨hf, hm⟩ | ⟨k, x, y, hf, hkl, hk, hrx, hj⟩
  · exact absurd (by omega) (find_upto_last h hr)
  · refine ⟨k, x, y, ?_⟩
    rcases Nat.eq_zero_or_pos k with h0 | h0
    · subst h0
      have e := loadV_first hf hk
      exact ⟨hf, hk, hrx, by omega, fun j p q hj' _ => absurd hj' (by omega), fun _ => e⟩
    · have hl : k - 1 < L.length := by omega
      have hp : L[k - 1]? = some (L[k - 1].1, L[k - 1].2) := List.getElem?_eq_getElem hl
      have e := loadV_inter hf h0 hp hk
      have p1 : L[k - 1].1 < r := hj _ _ (by omega) hp
      have hq := (chart_link h h0 hp hk).2
      obtain ⟨b0, b1⟩ := inter_bounds p1 hrx hq
      rw [← e] at b0 b1
      refine ⟨hf, hk, hrx, b0, fun j p q hj' hpq => ?_, fun h1 => absurd h1 (by omega)⟩
      have := chart_mono' h (i := j) (j := k - 1) (by omega) hpq hp
      omega
theorem load_mono {L : List (Int × Int)} (h : chartB L = true) {r s : Int} (hrs : r ≤ s) (hs : s ≤ lastR L) : loadV L s ≤ loadV L r := by
  obtain ⟨k, x, y, K⟩ := load_is h (show r ≤ lastR L by omega)
  obtain ⟨j, p, q, J⟩ := load_is h hs
  rcases Nat.lt_or_ge k j with hkj | hkj
  · have a := (J.high k x y hkj K.at_).2
    have b := K.low
    omega
  · rcases Nat.lt_or_ge j k with hjk | hjk
    · have a := (K.high j p q hjk J.at_).1
      have b := J.le
      omega
    · obtain rfl : j = k := by omega
      have e : (p, q) = (x, y) := Option.some.inj (J.at_.symm.trans K.at_)
      injection e with e1 e2
      subst e1; subst e2
      rcases Nat.eq_zero_or_pos j with h0 | h0
      · have a := K.fst h0
        have b := J.fst h0
        omega
      · have hl : j - 1 < L.length := by
          obtain ⟨hl, _⟩ := List.getElem?_eq_some_iff.1 K.at_
          omega
        have hp : L[j - 1]? = some (L[j - 1].1, L[j - 1].2) := List.getElem?_eq_getElem hl
        rw [loadV_inter J.find h0 hp J.at_, loadV_inter K.find h0 hp K.at_]
        have lk := chart_link h h0 hp K.at_
        exact inter_mono lk.1 lk.2 hrs
theorem load_top {L : List (Int × Int)} (h : chartB L = true) {r : Int} (hr : r ≤ lastR L) {x y : Int} (h0 : L[0]? = some (x, y)) : loadV L r ≤ y := by
  obtain ⟨k, p, q, K⟩ := load_is h hr
  rcases Nat.eq_zero_or_pos k with e | e
  · subst e
    have := K.fst rfl
    have e := Option.some.inj (K.at_.symm.trans h0)
    injection e with e1 e2
    omega
  · exact (K.high 0 x y e h0).2
theorem load_zero {L : List (Int × Int)} (h : chartB L = true) {x y : Int} (h0 : L[0]? = some (x, y)) : loadV L 0 = y := by
  have := chart_at h h0
  exact loadV_first (findV_hit h0 (by show (0 : Int) ≤ x; omega) (fun j u hj _ => absurd hj (by omega))) h0
theorem radDown_is {L : List (Int × Int)} {load : Int} : ∀ n : Nat, (radDown L load n = -1 ∧ ∀ k : Nat, k ≤ n → loadV L (k : Int) < load) ∨ ∃ m : Nat, m ≤ n ∧ radDown L load n = (m : Int) ∧ load ≤ loadV L (m : Int) ∧ ∀ k : Nat, m < k → k ≤ n → loadV L (k : Int) < load
  | 0 => by
    by_cases h : load ≤ loadV L ((0 : Nat) : Int)
    · exact .inr ⟨0, Nat.le_refl _, radDown_hit h, h, fun k h1 h2 => absurd h1 (by omega)⟩
    · refine .inl ⟨radDown_zero h, fun k hk => ?_⟩
      obtain rfl : k = 0 := by omega
      omega
  | n + 1 => by
    by_cases h : load ≤ loadV L ((n + 1 : Nat) : Int)
    · exact .inr ⟨n + 1, Nat.le_refl _, radDown_hit h, h, fun k h1 h2 => absurd h1 (by omega)⟩
    · rw [radDown_miss h]
      rcases radDown_is n with ⟨e, hk⟩ | ⟨m, hm, e, hl, hk⟩
      · refine .inl ⟨e, fun k h1 => ?_⟩
        rcases Nat.lt_or_ge k (n + 1) with h2 | h2
        · exact hk k (by omega)
        · obtain rfl : k = n + 1 := by omega
          omega
      · refine .inr ⟨m, by omega, e, hl, fun k h1 h2 => ?_⟩
        rcases Nat.lt_or_ge k (n + 1) with h3 | h3
        · exact hk k h1 (by omega)
        · obtain rfl : k = n + 1 := by omega
          omega
/-! ### the answers -/
theorem at_good {L : List (Int × Int)} (h : chartB L = true) {r : Int} (r0 : 0 ≤ r) (hr : r ≤ lastR L) : resLoadAt L r = .tuple #[.int .i64 (loadV L r), .int .i64 0] := by
  have := lastR_bounds h
  unfold resLoadAt
  rw [h, inB_true r0 (by omega), codeRes_tt, if_neg (find_upto_last h hr)]
theorem at_past {L : List (Int × Int)} (h : chartB L = true) {r : Int} (r0 : 0 ≤ r) (r1 : r ≤ 1000) (hr : lastR L < r) : resLoadAt L r = .tuple #[.int .i64 0, .int .i64 3] := by
  unfold resLoadAt
  rw [h, inB_true r0 r1, codeRes_tt, find_past h hr]; rfl
theorem step_good {L : List (Int × Int)} (h : chartB L = true) {r : Int} (r0 : 0 ≤ r) (hr : r ≤ lastR L) : ∃ y, resLoadStep L r = .tuple #[.int .i64 y, .int .i64 0] ∧ y ≤ loadV L r := by
  have := lastR_bounds h
  obtain ⟨k, x, y, K⟩ := load_is h hr
  exact ⟨y, resLoadStep_some h (inB_true r0 (by omega)) K.find K.at_, K.low⟩
theorem step_past {L : List (Int × Int)} (h : chartB L = true) {r : Int} (r0 : 0 ≤ r) (r1 : r ≤ 1000) (hr : lastR L < r) : resLoadStep L r = .tuple #[.int .i64 0, .int .i64 3] := resLoadStep_none h (inB_true r0 r1) (find_past h hr)
/-- the told radius: none, and the load is more than the first; or the greatest whose load is enough -/
theorem rad_law {L : List (Int × Int)} (h : chartB L = true) {load : Int} (l0 : 0 ≤ load) (l1 : load ≤ 50000) {x y : Int} (h0 : L[0]? = some (x, y)) :
    (resRadiusFor L load = .tuple #[.int .i64 0, .int .i64 3] ∧ y < load) ∨ ∃ m : Int, 0 ≤ m ∧ m ≤ lastR L ∧ resRadiusFor L load = .tuple #[.int .i64 m, .int .i64 0] ∧ load ≤ loadV L m ∧ (m < lastR L → loadV L (m + 1) < load) := by
  have lb := lastR_bounds h
  have hi := inB_true l0 l1
  rcases radDown_is (L := L) (load := load) (lastR L).toNat with ⟨e, hk⟩ | ⟨m, hm, e, hl, hk⟩
  · refine .inl ⟨resRadius_none h hi e, ?_⟩
    have := hk 0 (by omega)
    rw [show ((0 : Nat) : Int) = 0 from rfl, load_zero h h0] at this
    exact this
  · refine .inr ⟨m, by omega, by omega, ?_, hl, fun hm' => ?_⟩
    · unfold resRadiusFor
      rw [h, hi, codeRes_tt, show radV L load = (m : Int) from e, if_neg (by omega)]
    · have := hk (m + 1) (by omega) (by omega)
      rwa [show ((m + 1 : Nat) : Int) = (m : Int) + 1 by omega] at this
end Go.Proofs.Ytiaineljcmjfoaa
