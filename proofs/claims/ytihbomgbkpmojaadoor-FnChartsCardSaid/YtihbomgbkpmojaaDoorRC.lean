/- A chart read from its text: the plain law, of no program: words cut by the library's functions, or split by bytes. -/
import Derived.Test.YtihbomgbkpmojaaDoorKit
import Derived.Test.YtihbomgbkpmojaaDoorStrs
import Derived.Test.YtihbomgbkpmojaaDoorSplit
import Derived.Test.YtihbomgbkpmojaaDoorCharts
import Derived.Test.YtihbomgbkpmojaaDoorNum
import Derived.Test.YtihbomgbkpmojaaDoorNum2
import Derived.Test.YtihbomgbkpmojaaDoorText
import Derived.Lib.IndexMore
import Derived.Lib.IndexLaws
namespace Go.Proofs.YtihbomgbkpmojaaDoor
open Go.RowKit Go.WideShapes Go.ChangeShapes Go.Joins Go.Deep Go.Sort
set_option linter.unusedVariables false
/-- a text split at a byte -/
def splitB (c : UInt8) : List UInt8 → List (List UInt8)
  | [] => [[]]
  | b :: r => if b = c then [] :: splitB c r else match splitB c r with
    | [] => [[b]]
    | p :: ps => (b :: p) :: ps
def interB (c : UInt8) : List (List UInt8) → List UInt8
  | [] => []
  | x :: r => x ++ r.flatMap (fun y => c :: y)
theorem splitB_ne (c : UInt8) (l : List UInt8) : splitB c l ≠ [] := by
  cases l with
  | nil => simp [splitB]
  | cons b r =>
    unfold splitB
    split
    · simp
    · split <;> simp
theorem split_hitB {c : UInt8} {r : List UInt8} : splitB c (c :: r) = [] :: splitB c r := by rw [splitB, if_pos rfl]
theorem split_missB {c b : UInt8} {r : List UInt8} (h : ¬ b = c) {p : List UInt8} {ps : List (List UInt8)} (e : splitB c r = p :: ps) : splitB c (b :: r) = (b :: p) :: ps := by
  rw [splitB, if_neg h, e]
theorem inter_split (c : UInt8) : ∀ l : List UInt8, interB c (splitB c l) = l
  | [] => rfl
  | b :: r => by
    have ih := inter_split c r
    obtain ⟨p, ps, e⟩ : ∃ p ps, splitB c r = p :: ps := by
      cases h : splitB c r with
      | nil => exact absurd h (splitB_ne c r)
      | cons p ps => exact ⟨p, ps, rfl⟩
    rw [e] at ih
    by_cases h : b = c
    · subst h
      rw [split_hitB, e]
      show [] ++ (p :: ps).flatMap (fun y => b :: y) = b :: r
      rw [List.flatMap_cons, ← ih]
      rfl
    · rw [split_missB h e]
      show (b :: p) ++ _ = b :: r
      rw [← ih]; rfl
theorem split_none {c : UInt8} : ∀ {l : List UInt8}, c ∉ l → splitB c l = [l]
  | [], _ => rfl
  | b :: r, h => by
    have hb : ¬ b = c := fun e => h (by rw [e]; simp)
    rw [split_missB hb (split_none (fun e => h (by simp [e])))]
theorem split_first {c : UInt8} {r : List UInt8} : ∀ {a : List UInt8}, c ∉ a → splitB c (a ++ c :: r) = a :: splitB c r
  | [], _ => split_hitB
  | b :: a, h => by
    have hb : ¬ b = c := fun e => h (by rw [e]; simp)
    rw [List.cons_append, split_missB hb (split_first (fun e => h (by simp [e])))]
theorem split_inter {c : UInt8} : ∀ {M : List (List UInt8)}, M ≠ [] → (∀ x ∈ M, c ∉ x) → splitB c (interB c M) = M
  | [], h, _ => absurd rfl h
  | [x], _, h => by
    show splitB c (x ++ []) = [x]
    rw [List.append_nil]
    exact split_none (h x (by simp))
  | x :: y :: r, _, h => by
    have e : interB c (x :: y :: r) = x ++ c :: interB c (y :: r) := by
      show x ++ (y :: r).flatMap (fun y => c :: y) = _
      rw [List.flatMap_cons]; rfl
    rw [e, split_first (h x (by simp)), split_inter (by simp) (fun z hz => h z (by simp [hz]))]
theorem first_occ (c : UInt8) : ∀ l : List UInt8, c ∉ l ∨ ∃ a r, l = a ++ c :: r ∧ c ∉ a
  | [] => .inl (by simp)
  | b :: l => by
    by_cases h : b = c
    · exact .inr ⟨[], l, by rw [h]; rfl, by simp⟩
    · rcases first_occ c l with h1 | ⟨a, r, e, ha⟩
      · exact .inl (by simp only [List.mem_cons, not_or]; exact ⟨fun e => h e.symm, h1⟩)
      · exact .inr ⟨b :: a, r, by rw [e]; rfl, by simp only [List.mem_cons, not_or]; exact ⟨fun e => h e.symm, ha⟩⟩
/-! ### the library's cut at a byte -/
theorem index_none1 {c : UInt8} : ∀ {l : List UInt8}, c ∉ l → Lib.index l [c] = -1
  | [], _ => rfl
  | b :: l, h => by
    have hb : ¬ c = b := fun e => h (by rw [e]; simp)
    have ih := index_none1 (l := l) (fun e => h (List.mem_cons_of_mem _ e))
    simp [Lib.index, hb, ih]
theorem index_first1 {c : UInt8} {r : List UInt8} : ∀ {a : List UInt8}, c ∉ a → Lib.index (a ++ c :: r) [c] = (a.length : Int)
  | [], _ => by simp [Lib.index]
  | b :: a, h => by
    have hb : ¬ c = b := fun e => h (by rw [e]; simp)
    have ih := index_first1 (r := r) (a := a) (fun e => h (List.mem_cons_of_mem _ e))
    have hn : ¬ ((a.length : Int) = -1) := by omega
    simp [Lib.index, hb, ih]
theorem cut_none {c : UInt8} {l : List UInt8} (h : c ∉ l) : Lib.cut l [c] = (l, [], false) := by
  unfold Lib.cut
  rw [index_none1 h, if_neg (by omega)]
theorem cut_first {c : UInt8} {a r : List UInt8} (h : c ∉ a) : Lib.cut (a ++ c :: r) [c] = (a, r, true) := by
  unfold Lib.cut
  rw [index_first1 h, if_pos (by omega)]
  simp
/-! ### a step -/
def both (o p : Option Int) : Option (Int × Int) := match o, p with | some x, some y => some (x, y) | _, _ => none
theorem both_none (o : Option Int) : both o none = none := by cases o <;> rfl
def stepOf (l : List UInt8) : Option (Int × Int) := match splitB 58 l with | [a, b] => both (rd a) (rd b) | _ => none
def stepC (l : List UInt8) : Option (Int × Int) := both (rd (Lib.cut l [58]).1) (rd (Lib.cut l [58]).2.1)
theorem rd_nil : rd [] = none := rd_of_mag (.inr rfl)
theorem rd_colon {l : List UInt8} (h : (58 : UInt8) ∈ l) : rd l = none := by
  refine rd_of_mag (.inl ?_)
  rw [List.all_eq_false]
  refine ⟨58, ?_, by decide⟩
  unfold magL
  split
  · rename_i hh
    cases l with
    | nil => cases h
    | cons b r =>
      simp only [List.head?_cons, Option.some.injEq] at hh
      subst hh
      simp only [List.mem_cons] at h
      rcases h with h | h
      · exact absurd h (by decide)
      · exact h
  · exact h
theorem stepC_eq (l : List UInt8) : stepC l = stepOf l := by
  unfold stepC stepOf
  rcases first_occ 58 l with h | ⟨a, r, rfl, ha⟩
  · rw [cut_none h, split_none h]
    show both (rd l) (rd []) = none
    rw [rd_nil, both_none]
  · rw [cut_first ha, split_first ha]
    rcases first_occ 58 r with h | ⟨b, r', rfl, hb⟩
    · rw [split_none h]
    · rw [split_first hb]
      obtain ⟨p, ps, e⟩ : ∃ p ps, splitB 58 r' = p :: ps := by
        cases h : splitB 58 r' with
        | nil => exact absurd h (splitB_ne 58 r')
        | cons p ps => exact ⟨p, ps, rfl⟩
      rw [e]
      show both (rd a) (rd (b ++ 58 :: r')) = none
      rw [rd_colon (l := b ++ 58 :: r') (by simp), both_none]
def stepT (s : Int × Int) : List UInt8 := Lib.itoa s.1 ++ 58 :: Lib.itoa s.2
theorem rd_itoa {l : List UInt8} {v : Int} (h : rd l = some v) : Lib.itoa v = l := by
  unfold rd at h
  split at h
  · rename_i hh
    injection h with h
    rw [← h]; exact hh.2
  · cases h
theorem both_some {o p : Option Int} {s : Int × Int} (h : both o p = some s) : o = some s.1 ∧ p = some s.2 := by
  cases o <;> cases p <;> simp [both] at h
  subst h
  exact ⟨rfl, rfl⟩
theorem stepOf_text {l : List UInt8} {s : Int × Int} (h : stepOf l = some s) : l = stepT s := by
  unfold stepOf at h
  split at h
  · rename_i a b e
    obtain ⟨h1, h2⟩ := both_some h
    have := inter_split 58 l
    rw [e] at this
    rw [← this]
    unfold stepT
    rw [rd_itoa h1, rd_itoa h2]
    show a ++ List.flatMap _ [b] = _
    simp
  · cases h
/-! ### all of them -/
def allO {α β : Type} (f : α → Option β) : List α → Option (List β)
  | [] => some []
  | x :: r => match f x, allO f r with | some y, some R => some (y :: R) | _, _ => none
theorem allO_cons {α β : Type} {f : α → Option β} {x : α} {y : β} {r : List α} (h : f x = some y) : allO f (x :: r) = (allO f r).map (y :: ·) := by
  rw [allO, h]; cases allO f r <;> rfl
theorem allO_bad {α β : Type} {f : α → Option β} {x : α} {r : List α} (h : f x = none) : allO f (x :: r) = none := by rw [allO, h]
theorem allO_text {f : List UInt8 → Option (Int × Int)} (hf : ∀ l s, f l = some s → l = stepT s) : ∀ {W : List (List UInt8)} {L : List (Int × Int)}, allO f W = some L → W = L.map stepT
  | [], L, h => by simp [allO] at h; subst h; rfl
  | x :: r, L, h => by
    cases hx : f x with
    | none => rw [allO_bad hx] at h; cases h
    | some y =>
      rw [allO_cons hx] at h
      cases hr : allO f r with
      | none => rw [hr] at h; cases h
      | some R =>
        rw [hr] at h
        simp at h
        subst h
        rw [List.map_cons, ← allO_text hf hr, ← hf x y hx]
theorem allO_map {α β γ : Type} {f : β → Option γ} {g : α → β} : ∀ W : List α, allO (fun x => f (g x)) W = allO f (W.map g)
  | [] => rfl
  | x :: r => by
    rw [List.map_cons, allO, allO, allO_map r]
/-- the state of a loop: what k rounds have made of the words -/
def Made {α β : Type} (f : α → Option β) (W : List α) (k : Nat) (M : List β) : Prop := M.length = k ∧ allO f W = (allO f (W.drop k)).map (M ++ ·)
theorem Made.start {α β : Type} (f : α → Option β) (W : List α) : Made f W 0 [] := ⟨rfl, by rw [List.drop_zero]; cases allO f W <;> rfl⟩
theorem Made.step {α β : Type} {f : α → Option β} {W : List α} {k : Nat} {M : List β} {x : α} {y : β} (h : Made f W k M) (hx : W[k]? = some x) (hy : f x = some y) : Made f W (k + 1) (M ++ [y]) := by
  refine ⟨by simp [h.1], ?_⟩
  have hk : k < W.length := (List.getElem?_eq_some_iff.1 hx).1
  have e : W.drop k = x :: W.drop (k + 1) := by rw [List.drop_eq_getElem_cons hk]; congr 1; exact (List.getElem?_eq_some_iff.1 hx).2
  rw [h.2, e, allO_cons hy]
  cases allO f (W.drop (k + 1)) <;> simp
theorem Made.bad {α β : Type} {f : α → Option β} {W : List α} {k : Nat} {M : List β} {x : α} (h : Made f W k M) (hx : W[k]? = some x) (hy : f x = none) : allO f W = none := by
  have hk : k < W.length := (List.getElem?_eq_some_iff.1 hx).1
  have e : W.drop k = x :: W.drop (k + 1) := by rw [List.drop_eq_getElem_cons hk]; congr 1; exact (List.getElem?_eq_some_iff.1 hx).2
  rw [h.2, e, allO_bad hy]; rfl
theorem Made.done {α β : Type} {f : α → Option β} {W : List α} {M : List β} (h : Made f W W.length M) : allO f W = some M := by
  rw [h.2, List.drop_length]
  simp [allO]
/-! ### a chart -/
def textB (L : List (Int × Int)) : List UInt8 := interB 32 (L.map stepT)
def rcSpec (l : List UInt8) : Option (List (Int × Int)) := match allO stepOf (splitB 32 l) with | some L => if chartB L then some L else none | none => none
def rcImpl (l : List UInt8) : Option (List (Int × Int)) := match allO stepOf ((splitB 32 l).filter (fun x => !x.isEmpty)) with | some L => if chartB L && decide (textB L = l) then some L else none | none => none
theorem itoa_no32 (v : Int) : (32 : UInt8) ∉ Lib.itoa v := by
  intro h
  have key : ∀ u, (32 : UInt8) ∉ Lib.decDigits u := fun u hu => by
    have hd := dec_digits u
    rw [List.all_eq_true] at hd
    have := hd 32 hu
    revert this; decide
  unfold Lib.itoa at h
  split at h
  · simp only [List.mem_cons] at h
    rcases h with h | h
    · revert h; decide
    · exact key _ h
  · exact key _ h
theorem stepT_no32 (s : Int × Int) : (32 : UInt8) ∉ stepT s := by
  unfold stepT
  intro h
  rw [List.mem_append, List.mem_cons] at h
  rcases h with h | h | h
  · exact itoa_no32 _ h
  · revert h; decide
  · exact itoa_no32 _ h
theorem stepT_ne (s : Int × Int) : (stepT s).isEmpty = false := by
  unfold stepT
  cases Lib.itoa s.1 <;> rfl
theorem filter_steps (L : List (Int × Int)) : (L.map stepT).filter (fun x => !x.isEmpty) = L.map stepT := by
  rw [List.filter_eq_self]
  intro x hx
  obtain ⟨s, _, rfl⟩ := List.mem_map.1 hx
  rw [stepT_ne]; rfl
theorem chart_ne {L : List (Int × Int)} (h : chartB L = true) : L ≠ [] := fun e => by
  have := (chart_len' h).1
  rw [e] at this
  simp at this
theorem rc_eq (l : List UInt8) : rcImpl l = rcSpec l := by
  cases hs : rcSpec l with
  | some L =>
    unfold rcSpec at hs
    cases ha : allO stepOf (splitB 32 l) with
    | none => rw [ha] at hs; cases hs
    | some L' =>
      rw [ha] at hs
      simp only at hs
      split at hs
      · rename_i hc
        injection hs with hs
        subst hs
        have hw := allO_text (fun l s h => stepOf_text h) ha
        have ht : textB L' = l := by unfold textB; rw [← hw]; exact inter_split 32 l
        unfold rcImpl
        rw [hw, filter_steps, ← hw, ha]
        simp only
        rw [hc, decide_eq_true ht]; rfl
      · cases hs
  | none =>
    cases hi : rcImpl l with
    | none => rfl
    | some L =>
      exfalso
      unfold rcImpl at hi
      cases ha : allO stepOf ((splitB 32 l).filter (fun x => !x.isEmpty)) with
      | none => rw [ha] at hi; cases hi
      | some L' =>
        rw [ha] at hi
        simp only at hi
        split at hi
        · rename_i hc
          rw [Bool.and_eq_true, decide_eq_true_eq] at hc
          obtain ⟨hc, ht⟩ := hc
          have hsp : splitB 32 l = L'.map stepT := by
            rw [← ht]
            exact split_inter (by intro e; exact chart_ne hc (List.map_eq_nil_iff.1 e)) (fun x hx => by
              obtain ⟨s, _, rfl⟩ := List.mem_map.1 hx
              exact stepT_no32 s)
          unfold rcSpec at hs
          rw [hsp, filter_steps] at ha
          rw [hsp, ha] at hs
          simp only at hs
          rw [if_pos hc] at hs
          cases hs
        · cases hi
/-! ### the spans' texts -/
theorem data_get (s : ByteArray) (i : Nat) (h : i < s.size) : s.data.toList.drop i = s.get! i :: s.data.toList.drop (i + 1) := by
  rw [get_at s i h, List.drop_eq_getElem_cons (by rw [len_data]; exact h)]
  rfl
theorem cut_data (s : ByteArray) (a b : Nat) : (cut s (a, b)).data.toList = (s.data.toList.drop a).take (b - a) := Lib.extract_data s a b
theorem split_data (s : ByteArray) (c : UInt8) : ∀ (f i a : Nat), i + f = s.size → a ≤ i → ∀ p ps, splitB c (s.data.toList.drop i) = p :: ps →
    (splitAt s c f i a).map (fun x => (cut s x).data.toList) = ((s.data.toList.drop a).take (i - a) ++ p) :: ps
  | 0, i, a, hi, ha, p, ps, e => by
    have hd : s.data.toList.drop i = [] := List.drop_eq_nil_of_le (by rw [len_data]; omega)
    rw [hd] at e
    simp [splitB] at e
    obtain ⟨rfl, rfl⟩ := e
    show [(cut s (a, i)).data.toList] = _
    rw [cut_data, List.append_nil]
  | f + 1, i, a, hi, ha, p, ps, e => by
    have hlt : i < s.size := by omega
    have hd := data_get s i hlt
    rw [hd] at e
    obtain ⟨q, qs, eq⟩ : ∃ q qs, splitB c (s.data.toList.drop (i + 1)) = q :: qs := by
      cases h : splitB c (s.data.toList.drop (i + 1)) with
      | nil => exact absurd h (splitB_ne c _)
      | cons q qs => exact ⟨q, qs, rfl⟩
    unfold splitAt
    by_cases h : s.get! i = c
    · rw [if_pos h, List.map_cons, split_data s c f (i + 1) (i + 1) (by omega) (Nat.le_refl _) q qs eq]
      rw [h, split_hitB, eq] at e
      injection e with e1 e2
      rw [cut_data, ← e1, ← e2, Nat.sub_self]
      simp
    · rw [if_neg h, split_data s c f (i + 1) a (by omega) (by omega) q qs eq]
      rw [split_missB h eq] at e
      injection e with e1 e2
      rw [← e1, ← e2]
      congr 1
      have ht : (s.data.toList.drop a).take (i + 1 - a) = (s.data.toList.drop a).take (i - a) ++ [s.get! i] := by
        rw [show i + 1 - a = (i - a) + 1 by omega, List.take_add_one]
        congr 1
        rw [List.getElem?_drop, show a + (i - a) = i by omega, get_at s i hlt, List.getElem?_eq_getElem (by rw [len_data]; exact hlt)]
        rfl
      rw [ht]
      simp
theorem splitL_data (s : ByteArray) (c : UInt8) : (splitL s c).map (·.data.toList) = splitB c s.data.toList := by
  unfold splitL
  rw [List.map_map]
  obtain ⟨p, ps, e⟩ : ∃ p ps, splitB c s.data.toList = p :: ps := by
    cases h : splitB c s.data.toList with
    | nil => exact absurd h (splitB_ne c _)
    | cons p ps => exact ⟨p, ps, rfl⟩
  have := split_data s c s.size 0 0 (by omega) (Nat.le_refl _) p ps (by rw [List.drop_zero]; exact e)
  rw [e]
  rw [Nat.sub_self, List.take_zero, List.nil_append] at this
  exact this
theorem ne_data (x : ByteArray) : neB x = !x.data.toList.isEmpty := by
  unfold neB
  have h := len_data x
  cases hx : x.data.toList with
  | nil => rw [hx] at h; simp at h; simp [← h]
  | cons a r => rw [hx] at h; simp at h; simp [← h]
theorem words_data (s : ByteArray) : (wordsL s).map (·.data.toList) = (splitB 32 s.data.toList).filter (fun x => !x.isEmpty) := by
  unfold wordsL
  rw [← splitL_data, List.filter_map]
  congr 1
  apply List.filter_congr
  intro x _
  rw [ne_data]; rfl
end Go.Proofs.YtihbomgbkpmojaaDoor
