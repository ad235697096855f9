/- The lesser of two charts: the plain law: the radii of both up to the lesser last one, sorted and without doubles, are those that a search by rising radius finds. -/
import Derived.Test.YtiaineljcmjfoaaProg
import Derived.Test.YtiaineljcmjfoaaKit
import Derived.Test.YtiaineljcmjfoaaMem
import Derived.Test.YtiaineljcmjfoaaLists
import Derived.Test.YtiaineljcmjfoaaSteps
import Derived.Test.YtiaineljcmjfoaaCharts
import Derived.Test.YtiaineljcmjfoaaFinds
import Derived.Test.YtiaineljcmjfoaaLoads2
import Derived.Test.YtiaineljcmjfoaaRadius
import Derived.Test.YtiaineljcmjfoaaChartFacts
import Derived.Lib.SlicesCompact
namespace Go.Proofs.Ytiaineljcmjfoaa
open Go.RowKit Go.WideShapes Go.ChangeShapes Go.Joins Go.Deep Go.Sort

/-! ### strictly rising lists -/
theorem rising_eq : ∀ {l m : List Int}, l.Pairwise (· < ·) → m.Pairwise (· < ·) → (∀ x, x ∈ l ↔ x ∈ m) → l = m
  | [], [], _, _, _ => rfl
  | [], b :: m, _, _, h => absurd ((h b).2 (List.mem_cons_self ..)) (by simp)
  | a :: l, [], _, _, h => absurd ((h a).1 (List.mem_cons_self ..)) (by simp)
  | a :: l, b :: m, hl, hm, h => by
    rw [List.pairwise_cons] at hl hm
    have e : a = b := by
      have h1 := (h a).1 (List.mem_cons_self ..)
      have h2 := (h b).2 (List.mem_cons_self ..)
      rw [List.mem_cons] at h1 h2
      rcases h1 with h1 | h1
      · exact h1
      · rcases h2 with h2 | h2
        · exact h2.symm
        · have := hm.1 a h1; have := hl.1 b h2; omega
    subst e
    congr 1
    refine rising_eq hl.2 hm.2 fun x => ⟨fun hx => ?_, fun hx => ?_⟩
    · have := (h x).1 (List.mem_cons_of_mem _ hx)
      rw [List.mem_cons] at this
      rcases this with e | h3
      · subst e; have := hl.1 x hx; omega
      · exact h3
    · have := (h x).2 (List.mem_cons_of_mem _ hx)
      rw [List.mem_cons] at this
      rcases this with e | h3
      · subst e; have := hm.1 x hx; omega
      · exact h3
theorem compactUpTo_rising {d : Array Int} (hd : ∀ i j, i ≤ j → j < d.size → d[i]! ≤ d[j]!) : ∀ m, m ≤ d.size →
    (Lib.compactUpTo d m).Pairwise (· < ·) ∧ (∀ x ∈ Lib.compactUpTo d m, ∃ j, j < m ∧ x = d[j]!) ∧ ∀ j, j < m → d[j]! ∈ Lib.compactUpTo d m
  | 0, _ => by simp [Lib.compactUpTo]
  | m + 1, hm => by
    obtain ⟨h1, h2, h3⟩ := compactUpTo_rising hd m (by omega)
    rw [Lib.compactUpTo_succ]
    cases hk : Lib.keeps d m with
    | true =>
      rw [if_pos rfl]
      refine ⟨?_, ?_, ?_⟩
      · rw [List.pairwise_append]
        refine ⟨h1, by simp, fun x hx y hy => ?_⟩
        obtain ⟨j, hj, rfl⟩ := h2 x hx
        rw [List.mem_singleton] at hy
        subst hy
        have q1 := hd j (m - 1) (by omega) (by omega)
        have q2 := hd (m - 1) m (by omega) (by omega)
        have q3 : m = 0 ∨ d[m]! ≠ d[m - 1]! := by simpa [Lib.keeps] using hk
        rcases q3 with q3 | q3
        · omega
        · omega
      · intro x hx
        rw [List.mem_append, List.mem_singleton] at hx
        rcases hx with hx | rfl
        · obtain ⟨j, hj, e⟩ := h2 x hx
          exact ⟨j, by omega, e⟩
        · exact ⟨m, by omega, rfl⟩
      · intro j hj
        rw [List.mem_append, List.mem_singleton]
        by_cases e : j = m
        · subst e; exact .inr rfl
        · exact .inl (h3 j (by omega))
    | false =>
      rw [if_neg (by simp), List.append_nil]
      refine ⟨h1, fun x hx => ?_, fun j hj => ?_⟩
      · obtain ⟨j, hj, e⟩ := h2 x hx
        exact ⟨j, by omega, e⟩
      · have q : m ≠ 0 ∧ d[m]! = d[m - 1]! := by
          have : ¬ (m = 0 ∨ d[m]! ≠ d[m - 1]!) := by simpa [Lib.keeps] using hk
          exact ⟨fun e => this (.inl e), Classical.byContradiction fun e => this (.inr e)⟩
        by_cases e : j = m
        · subst e; rw [q.2]; exact h3 _ (by omega)
        · exact h3 j (by omega)
theorem compact_rising {zs : List Int} (h : zs.Pairwise (· ≤ ·)) : (Lib.compact zs).Pairwise (· < ·) ∧ ∀ x, x ∈ Lib.compact zs ↔ x ∈ zs := by
  have key : ∀ i (hi : i < zs.length), zs.toArray[i]! = zs[i] := fun i hi => by simp [hi]
  have hd : ∀ i j, i ≤ j → j < zs.toArray.size → zs.toArray[i]! ≤ zs.toArray[j]! := by
    intro i j hij hj
    have hj' : j < zs.length := by simpa using hj
    rw [key i (by omega), key j hj']
    by_cases e : i = j
    · subst e; exact Int.le_refl _
    · exact List.pairwise_iff_getElem.1 h i j (by omega) hj' (by omega)
  obtain ⟨h1, h2, h3⟩ := compactUpTo_rising hd zs.length (by simp)
  refine ⟨h1, fun x => ⟨fun hx => ?_, fun hx => ?_⟩⟩
  · obtain ⟨j, hj, e⟩ := h2 x hx
    rw [e, key j hj]
    exact List.getElem_mem hj
  · obtain ⟨j, hj, e⟩ := List.getElem_of_mem hx
    rw [← e, ← key j hj]
    exact h3 j hj

/-! ### the search by rising radius -/
def hasV (L : List (Int × Int)) (r : Int) : Bool := decide (0 ≤ findV L r) && decide ((L.getD (findV L r).toNat (0, 0)).1 = r)
theorem hasV_none {L : List (Int × Int)} {r : Int} (h : findV L r = -1) : hasV L r = false := by unfold hasV; rw [h]; rfl
theorem hasV_at {L : List (Int × Int)} {r x y : Int} {k : Nat} (h : findV L r = (k : Int)) (hk : L[k]? = some (x, y)) : hasV L r = decide (x = r) := by
  unfold hasV; rw [h, Int.toNat_natCast, getD_of hk]; simp
theorem hasV_iff {L : List (Int × Int)} (h : chartB L = true) {r : Int} : hasV L r = true ↔ ∃ (k : Nat) (y : Int), L[k]? = some (r, y) := by
  rcases findV_cases L r with ⟨hf, hm⟩ | ⟨k, x, y, hf, hkl, hk, hr, hm⟩
  · rw [hasV_none hf]
    refine ⟨fun e => by simp at e, fun ⟨k, y, hk⟩ => ?_⟩
    have := hm k _ hk
    simp only at this
    omega
  · rw [hasV_at hf hk, decide_eq_true_iff]
    refine ⟨fun e => ⟨k, y, by rw [hk, e]⟩, fun ⟨j, z, hj⟩ => ?_⟩
    have hkj : k ≤ j := by
      rcases Nat.lt_or_ge j k with hlt | hge
      · have := hm j _ hlt hj; simp only at this; omega
      · exact hge
    have := chart_mono' h hkj hk hj
    omega
def bothHas (a b : List (Int × Int)) (r : Int) : Bool := hasV a r || hasV b r
def commonTo (a b : List (Int × Int)) : Nat → List Int
  | 0 => []
  | n + 1 => commonTo a b n ++ (if bothHas a b ((n : Int) + 1) then [(n : Int) + 1] else [])
theorem commonTo_length (a b : List (Int × Int)) : ∀ n, (commonTo a b n).length ≤ n
  | 0 => Nat.le_refl _
  | n + 1 => by
    unfold commonTo
    have := commonTo_length a b n
    rw [List.length_append]
    split <;> simp <;> omega
theorem commonTo_hit {a b : List (Int × Int)} {n : Nat} (h : bothHas a b ((n : Int) + 1) = true) : commonTo a b (n + 1) = commonTo a b n ++ [(n : Int) + 1] := by
  rw [commonTo, if_pos h]
theorem commonTo_miss {a b : List (Int × Int)} {n : Nat} (h : bothHas a b ((n : Int) + 1) = false) : commonTo a b (n + 1) = commonTo a b n := by
  rw [commonTo, if_neg (by rw [h]; simp), List.append_nil]
theorem commonTo_mem {a b : List (Int × Int)} {x : Int} : ∀ {n : Nat}, x ∈ commonTo a b n ↔ 1 ≤ x ∧ x ≤ (n : Int) ∧ bothHas a b x = true
  | 0 => by
    simp only [commonTo, List.not_mem_nil, false_iff]
    intro h; omega
  | n + 1 => by
    cases hb : bothHas a b ((n : Int) + 1) with
    | true =>
      rw [commonTo_hit hb, List.mem_append, List.mem_singleton, commonTo_mem]
      refine ⟨fun h => ?_, fun ⟨h1, h2, h3⟩ => ?_⟩
      · rcases h with ⟨h1, h2, h3⟩ | rfl
        · exact ⟨h1, by omega, h3⟩
        · exact ⟨by omega, by omega, hb⟩
      · by_cases e : x = (n : Int) + 1
        · exact .inr e
        · exact .inl ⟨h1, by omega, h3⟩
    | false =>
      rw [commonTo_miss hb, commonTo_mem]
      refine ⟨fun ⟨h1, h2, h3⟩ => ⟨h1, by omega, h3⟩, fun ⟨h1, h2, h3⟩ => ⟨h1, ?_, h3⟩⟩
      by_cases e : x = (n : Int) + 1
      · subst e; rw [hb] at h3; cases h3
      · omega
theorem commonTo_rising (a b : List (Int × Int)) : ∀ n : Nat, (commonTo a b n).Pairwise (· < ·)
  | 0 => by simp [commonTo]
  | n + 1 => by
    have ih := commonTo_rising a b n
    cases hb : bothHas a b ((n : Int) + 1) with
    | true =>
      rw [commonTo_hit hb, List.pairwise_append]
      refine ⟨ih, by simp, fun x hx y hy => ?_⟩
      rw [List.mem_singleton] at hy
      have := commonTo_mem.1 hx
      omega
    | false => rw [commonTo_miss hb]; exact ih

/-! ### the radii, sorted -/
def radiiTo (m : Int) (L : List (Int × Int)) : List Int := (L.map Prod.fst).filter fun x => decide (x ≤ m)
theorem radiiTo_append (m : Int) (L M : List (Int × Int)) : radiiTo m (L ++ M) = radiiTo m L ++ radiiTo m M := by simp [radiiTo]
theorem radiiTo_length (m : Int) (L : List (Int × Int)) : (radiiTo m L).length ≤ L.length := by
  unfold radiiTo
  exact Nat.le_trans (List.length_filter_le _ _) (by simp)
theorem radiiTo_hit {m : Int} {L : List (Int × Int)} {k : Nat} {x y : Int} (h : L[k]? = some (x, y)) (hx : x ≤ m) : radiiTo m (L.take (k + 1)) = radiiTo m (L.take k) ++ [x] := by
  rw [List.take_add_one, h, radiiTo_append]
  simp [radiiTo, hx]
theorem radiiTo_miss {m : Int} {L : List (Int × Int)} {k : Nat} {x y : Int} (h : L[k]? = some (x, y)) (hx : ¬ x ≤ m) : radiiTo m (L.take (k + 1)) = radiiTo m (L.take k) := by
  rw [List.take_add_one, h, radiiTo_append]
  simp [radiiTo, hx]
theorem radiiTo_mem {m : Int} {L : List (Int × Int)} {x : Int} : x ∈ radiiTo m L ↔ x ≤ m ∧ ∃ (k : Nat) (y : Int), L[k]? = some (x, y) := by
  unfold radiiTo
  rw [List.mem_filter, List.mem_map, decide_eq_true_iff, And.comm]
  refine and_congr_right fun _ => ⟨fun ⟨s, hs, e⟩ => ?_, fun ⟨k, y, hk⟩ => ⟨(x, y), List.mem_of_getElem? hk, rfl⟩⟩
  obtain ⟨k, hk, e2⟩ := List.getElem_of_mem hs
  exact ⟨k, s.2, by rw [List.getElem?_eq_getElem hk, e2, ← e]⟩
def sorted (zs : List Int) : List Int := zs.mergeSort fun x y => decide (x ≤ y)
theorem sorted_rising (zs : List Int) : (sorted zs).Pairwise (· ≤ ·) := by
  have := List.pairwise_mergeSort (le := fun (x y : Int) => decide (x ≤ y)) (fun a b c h1 h2 => by simp only [decide_eq_true_iff] at *; omega) (fun a b => by simp only [Bool.or_eq_true, decide_eq_true_iff]; omega) zs
  exact this.imp fun h => by simpa using h
theorem sorted_mem {zs : List Int} {x : Int} : x ∈ sorted zs ↔ x ∈ zs := List.mem_mergeSort
def minZ (a b : Int) : Int := if b < a then b else a
/-- the lesser last radius -/
def lastBoth (a b : List (Int × Int)) : Int := minZ (lastR a) (lastR b)
theorem lastBoth_bounds {a b : List (Int × Int)} (ha : chartB a = true) (hb : chartB b = true) : 1 ≤ lastBoth a b ∧ lastBoth a b ≤ 1000 := by
  have := lastR_bounds ha
  have := lastR_bounds hb
  unfold lastBoth minZ
  split <;> omega
theorem radii_law {a b : List (Int × Int)} (ha : chartB a = true) (hb : chartB b = true) {m : Nat} : Lib.compact (sorted (radiiTo (m : Int) (a ++ b))) = commonTo a b m := by
  obtain ⟨h1, h2⟩ := compact_rising (sorted_rising (radiiTo (m : Int) (a ++ b)))
  refine rising_eq h1 (commonTo_rising a b m) fun x => ?_
  rw [h2, sorted_mem, commonTo_mem, radiiTo_append, List.mem_append, radiiTo_mem, radiiTo_mem]
  unfold bothHas
  rw [Bool.or_eq_true, hasV_iff ha, hasV_iff hb]
  constructor
  · rintro (⟨hx, k, y, hk⟩ | ⟨hx, k, y, hk⟩)
    · have := chart_at ha hk
      exact ⟨by omega, hx, .inl ⟨k, y, hk⟩⟩
    · have := chart_at hb hk
      exact ⟨by omega, hx, .inr ⟨k, y, hk⟩⟩
  · rintro ⟨_, hx, h | h⟩
    · exact .inl ⟨hx, h⟩
    · exact .inr ⟨hx, h⟩
theorem radii_some {a b : List (Int × Int)} (ha : chartB a = true) (hb : chartB b = true) : 1 ≤ (radiiTo (lastBoth a b) (a ++ b)).length := by
  obtain ⟨x, y, hx, ex⟩ := last_at (chart_len ha).1
  obtain ⟨p, q, hp, ep⟩ := last_at (chart_len hb).1
  have key : lastBoth a b ∈ radiiTo (lastBoth a b) (a ++ b) := by
    rw [radiiTo_append, List.mem_append, radiiTo_mem, radiiTo_mem]
    by_cases h : lastR b < lastR a
    · refine .inr ⟨Int.le_refl _, b.length - 1, q, ?_⟩
      rw [show lastBoth a b = p by unfold lastBoth minZ; rw [if_pos h, ep]]
      exact hp
    · refine .inl ⟨Int.le_refl _, a.length - 1, y, ?_⟩
      rw [show lastBoth a b = x by unfold lastBoth minZ; rw [if_neg h, ex]]
      exact hx
  exact List.length_pos_of_mem key
theorem radii_len {a b : List (Int × Int)} (ha : chartB a = true) (hb : chartB b = true) (m : Int) : (radiiTo m (a ++ b)).length ≤ 40 := by
  have := radiiTo_length m (a ++ b)
  have := (chart_len ha).2
  have := (chart_len hb).2
  rw [List.length_append] at *
  omega
theorem common_some {a b : List (Int × Int)} (ha : chartB a = true) (hb : chartB b = true) : 1 ≤ (commonTo a b (lastBoth a b).toNat).length := by
  have l := lastBoth_bounds ha hb
  have e := radii_law ha hb (m := (lastBoth a b).toNat)
  rw [show (((lastBoth a b).toNat : Nat) : Int) = lastBoth a b by omega] at e
  rw [← e]
  have h := radii_some ha hb
  obtain ⟨x, hx⟩ := List.exists_mem_of_length_pos h
  have := (compact_rising (sorted_rising (radiiTo (lastBoth a b) (a ++ b)))).2 x
  rw [sorted_mem] at this
  exact List.length_pos_of_mem (this.2 hx)

/-! ### the answer -/
def stepOf (a b : List (Int × Int)) (r : Int) : Int × Int := (r, minZ (loadV a r) (loadV b r))
def lesserL (a b : List (Int × Int)) : List (Int × Int) := (commonTo a b (lastBoth a b).toNat).map (stepOf a b)
theorem lesserL_length (a b : List (Int × Int)) : (lesserL a b).length = (commonTo a b (lastBoth a b).toNat).length := by simp [lesserL]
def lesserOk (a b : List (Int × Int)) : Bool := decide ((lesserL a b).length ≤ 20)
def lesserCode (a b : List (Int × Int)) : Int := if chartB a && chartB b then (if lesserOk a b then 0 else 5) else 1
def lesserOut (a b : List (Int × Int)) : List (Int × Int) := if chartB a && chartB b && lesserOk a b then lesserL a b else []
theorem lesserOut_length (a b : List (Int × Int)) : (lesserOut a b).length ≤ 20 := by
  unfold lesserOut
  cases h : (chartB a && chartB b && lesserOk a b)
  · exact Nat.zero_le _
  · simp only [Bool.and_eq_true, lesserOk, decide_eq_true_iff] at h
    exact h.2
end Go.Proofs.Ytiaineljcmjfoaa
