/- Ways of turning: the walks of both sides and their law. -/
import Derived.Test.YtofoihohendjgaaDoorProg
import Derived.Test.YtofoihohendjgaaDoorKit
import Derived.Test.YtofoihohendjgaaDoorBasics
import Derived.Test.YtofoihohendjgaaDoorDirs
import Derived.Test.YtofoihohendjgaaDoorMem
import Derived.Test.YtofoihohendjgaaDoorInts
import Derived.Deep.RegionHeld3
import Derived.Deep.AppendLies
namespace Go.Proofs.YtofoihohendjgaaDoor
open Go.RowKit Go.WideShapes Go.ChangeShapes Go.Joins Go.Deep Go.Sort
set_option linter.unusedVariables false
set_option linter.unusedSimpArgs false

/-! ### the plain law -/
def wayL (f s : Int) : Nat → List Int
  | 0 => [f]
  | n + 1 => wayL f s n ++ [(f + s * ((n : Int) + 1)) % 24]
theorem wayL_length (f s : Int) (n : Nat) : (wayL f s n).length = n + 1 := by
  induction n with
  | zero => rfl
  | succ n ih => simp [wayL, ih]
theorem wayL_last {f s : Int} (f0 : 0 ≤ f) (f1 : f ≤ 23) (n : Nat) : (ints (wayL f s n))[n]? = some (.int .i64 ((f + s * (n : Int)) % 24)) := by
  cases n with
  | zero => simp [wayL, ints]; omega
  | succ n =>
    unfold wayL ints
    rw [List.map_append, List.getElem?_append_right (by simp [wayL_length]), List.length_map, wayL_length, Nat.sub_self]
    simp
theorem way_step (f s : Int) (n : Nat) : ((f + s * (n : Int)) % 24 + s) % 24 = (f + s * ((n : Int) + 1)) % 24 := by
  rw [Int.mul_add, Int.mul_one]; omega
theorem ints_snoc (L : List Int) (x : Int) : ints L ++ [.int .i64 x] = ints (L ++ [x]) := by simp [ints]
theorem info64 : (Tryd.prog.info? 2).map (fun i => (i.zero, i.size, i.bytes)) = some (some (Value.int .i64 0), 1, 8) := by kernel_rfl
theorem own_mono {w : World} {base base' : Nat} {e : TypeId} {size : Nat} {v : Value} {n : Nat} {xs : List Value} (h : w.ownsRow base e size v n xs) (hb : base' ≤ base) : w.ownsRow base' e size v n xs := by
  refine ⟨h.1, ?_⟩
  rcases h.2 with h2 | ⟨g, cap, cur, hv, hg, r⟩
  · exact .inl h2
  · exact .inr ⟨g, cap, cur, hv, by omega, r⟩
def RetInts (w : World) (M : List Int) (code : Int) (e : Ending) (w' : World) : Prop := ∃ A c, e = .returned (.tuple #[.slice A M.length c, .int .i64 code]) ∧ w'.ownsRow w.heap.size 2 1 (.slice A M.length c) M.length (ints M) ∧ Below w.heap.size w w'
theorem RetInts.mk {w w' : World} {code : Int} {M : List Int} {m : Nat} {A : Option Addr} {c : Nat} (hM : M.length = m) (ho : w'.ownsRow w.heap.size 2 1 (.slice A m c) m (ints M)) (hb : Below w.heap.size w w') : RetInts w M code (.returned (.tuple #[.slice A m c, .int .i64 code])) w' := by
  subst hM
  exact ⟨_, _, rfl, ho, hb⟩
theorem RetInts.none_ {w w' : World} {code : Int} (hb : Below w.heap.size w w') : RetInts w [] code (.returned (.tuple #[.slice none 0 0, .int .i64 code])) w' := ⟨_, _, rfl, World.ownsRow_nil _ _ _ _, hb⟩
theorem abs_pos (b : Int) (w : World) (b0 : 0 ≤ b) (b1 : -1000 ≤ b) (b2 : b ≤ 1000) : Calls Tryd.prog 37 #[.int .i64 b] w fun e w' => e = .returned (.int .i64 b) ∧ w = w' := by
  go_enter Tryd.func37, Tryd.ntmps37
  go_wp2
  go_ret
  exact ⟨rfl, rfl⟩
set_option maxRecDepth 100000 in
set_option maxHeartbeats 4000000 in
theorem implWay_pos (f b : Int) (n : Nat) (w : World) (hf : inB f 0 23 = true) (hb : inB b (-1000) 1000 = true) (b0 : 0 ≤ b) (hn : b = (n : Int)) :
    Calls Tryd.prog 19 #[.int .i64 f, .int .i64 b] w (RetInts w (wayL f 1 n) 0) := by
  obtain ⟨i0, hi0, hz0, hz1, hz2⟩ := info_parts info64
  obtain ⟨f0, f1⟩ := inB_of hf
  obtain ⟨b1, b2⟩ := inB_of hb
  have n1 : n ≤ 1000 := by omega
  have CA : Hid (∀ w, Calls Tryd.prog 37 #[.int .i64 b] w fun e w' => e = .returned (.int .i64 (n : Int)) ∧ w = w') := fun w => by rw [← hn]; exact abs_pos b w b0 b1 b2
  clear hn
  go_enter Tryd.func19, Tryd.ntmps19
  go_wp2_with (first | (go_at_call 25; refine (isDirection_any _ _).mono ?_; rintro e w' ⟨rfl, rfl⟩) | (go_at_call 33; refine (within_any _ _ _ _).mono ?_; rintro e w' ⟨rfl, rfl⟩) | (go_at_call 37; refine (CA.out _).mono ?_; rintro e w' ⟨rfl, rfl⟩))
  go_loopw [7, 22] (fun v i wr => ∃ (k : Nat) (g cap : Nat), k ≤ n ∧ i = .int .i64 k ∧ v = .slice (some ⟨g, 0, none⟩) (k + 1) cap ∧ Below w.heap.size w wr ∧ Hid (wr.ownsRow w.heap.size 2 1 (.slice (some ⟨g, 0, none⟩) (k + 1) cap) (k + 1) (ints (wayL f 1 k)))) (fun _ i _ => n - (intOf i).toNat)
  case atStart => exact ⟨0, w.heap.size, 1, Nat.zero_le _, rfl, rfl, below_alloc1 _ _, by show World.ownsRow _ _ _ _ _ _ _; simpa [ints, wayL] using World.ownsRow_lit (base := w.heap.size) (e := 2) (size := 1) w #[.int .i64 f] 1 (Nat.le_refl _) (by unfold maxLen; omega) rfl⟩
  case round =>
    obtain ⟨k, g, cap, hk, rfl, rfl, HB, HO⟩ := hrel
    by_cases hlt : k < n
    · have hc : wr.cell? ⟨g, k, none⟩ = some (.int .i64 ((f + 1 * (k : Int)) % 24)) := (HO.out.cellAt k (by omega)).trans (wayL_last f0 f1 k)
      have E := Lib.hid (way_step f 1 k)
      have i1 : (0 : Int) ≤ (k : Int) := Int.natCast_nonneg _
      have i2 : (k : Int) < (n : Int) := by omega
      have q0 : 0 ≤ (f + 1 * (k : Int)) % 24 := Int.emod_nonneg _ (by decide)
      have q1 : (f + 1 * (k : Int)) % 24 ≤ 23 := by omega
      have nb1 : (k + 1 + 1) * 8 ≤ 140737488355328 := by omega
      have nm : k + 1 + 1 ≤ maxLen := by unfold maxLen; omega
      have z2 := HB.size
      generalize hqq : (f + 1 * (k : Int)) % 24 = q at hc q0 q1 E
      clear hqq
      go_wp2_with (first | (go_at_call 35; refine (turned_any _ _ _ (by omega) (by omega) (by omega) (by omega)).mono ?_; rintro e w' ⟨rfl, rfl⟩) | (at_builtin; refine wpList_append_own _ rfl _ _ 39 rfl w.heap.size 2 i0 _ 1 8 Tryd.underlying39 hi0 hz0 hz1 hz2 rfl (by omega) _ _ _ rfl (HO.out.alloc _) ⟨wr.heap.size, 0, none⟩ 1 1 [.int .i64 ((q + 1) % 24)] rfl rfl (cell_one_new _ _ _) (by simp [Value.oneCell']) nm nb1 (by simp; omega) ?_; intro v' w3 hown' hgrow _))
      obtain ⟨gg, cap2, hv2, _, _⟩ := hown'.form (by omega)
      have HB3 : Below w.heap.size w w3 := (HB.alloc z2 _).grown hgrow (by simp; omega) (fun j hj => (HO.out.lt j hj).1)
      have HO3 : Hid (w3.ownsRow w.heap.size 2 1 (.slice (some ⟨gg, 0, none⟩) (k + 1 + 1) cap2) (k + 1 + 1) (ints (wayL f 1 (k + 1)))) := by
        show World.ownsRow _ _ _ _ _ _ _
        have h3 := hown'
        rw [E.out, ints_snoc, hv2] at h3
        exact h3
      exact ⟨⟨k + 1, gg, cap2, by omega, by go_num, hv2, HB3, HO3⟩, by simp [intOf]; omega⟩
    · obtain rfl : k = n := by omega
      go_wp2
      go_ret2
      exact RetInts.mk (wayL_length _ _ _) HO.out HB
theorem abs_neg (b : Int) (w : World) (b0 : b < 0) (b1 : -1000 ≤ b) (b2 : b ≤ 1000) : Calls Tryd.prog 37 #[.int .i64 b] w fun e w' => e = .returned (.int .i64 (-b)) ∧ w = w' := by
  go_enter Tryd.func37, Tryd.ntmps37
  go_wp2
  go_ret
  exact ⟨rfl, rfl⟩
set_option maxRecDepth 100000 in
set_option maxHeartbeats 4000000 in
theorem implWay_neg (f b : Int) (n : Nat) (w : World) (hf : inB f 0 23 = true) (hb : inB b (-1000) 1000 = true) (b0 : b < 0) (hn : -b = (n : Int)) :
    Calls Tryd.prog 19 #[.int .i64 f, .int .i64 b] w (RetInts w (wayL f (-1) n) 0) := by
  obtain ⟨i0, hi0, hz0, hz1, hz2⟩ := info_parts info64
  obtain ⟨f0, f1⟩ := inB_of hf
  obtain ⟨b1, b2⟩ := inB_of hb
  have n1 : n ≤ 1000 := by omega
  have CA : Hid (∀ w, Calls Tryd.prog 37 #[.int .i64 b] w fun e w' => e = .returned (.int .i64 (n : Int)) ∧ w = w') := fun w => by rw [← hn]; exact abs_neg b w b0 b1 b2
  clear hn
  go_enter Tryd.func19, Tryd.ntmps19
  go_wp2_with (first | (go_at_call 25; refine (isDirection_any _ _).mono ?_; rintro e w' ⟨rfl, rfl⟩) | (go_at_call 33; refine (within_any _ _ _ _).mono ?_; rintro e w' ⟨rfl, rfl⟩) | (go_at_call 37; refine (CA.out _).mono ?_; rintro e w' ⟨rfl, rfl⟩))
  go_loopw [7, 22] (fun v i wr => ∃ (k : Nat) (g cap : Nat), k ≤ n ∧ i = .int .i64 k ∧ v = .slice (some ⟨g, 0, none⟩) (k + 1) cap ∧ Below w.heap.size w wr ∧ Hid (wr.ownsRow w.heap.size 2 1 (.slice (some ⟨g, 0, none⟩) (k + 1) cap) (k + 1) (ints (wayL f (-1) k)))) (fun _ i _ => n - (intOf i).toNat)
  case atStart => exact ⟨0, w.heap.size, 1, Nat.zero_le _, rfl, rfl, below_alloc1 _ _, by show World.ownsRow _ _ _ _ _ _ _; simpa [ints, wayL] using World.ownsRow_lit (base := w.heap.size) (e := 2) (size := 1) w #[.int .i64 f] 1 (Nat.le_refl _) (by unfold maxLen; omega) rfl⟩
  case round =>
    obtain ⟨k, g, cap, hk, rfl, rfl, HB, HO⟩ := hrel
    by_cases hlt : k < n
    · have hc : wr.cell? ⟨g, k, none⟩ = some (.int .i64 ((f + (-1) * (k : Int)) % 24)) := (HO.out.cellAt k (by omega)).trans (wayL_last f0 f1 k)
      have E := Lib.hid (way_step f (-1) k)
      have i1 : (0 : Int) ≤ (k : Int) := Int.natCast_nonneg _
      have i2 : (k : Int) < (n : Int) := by omega
      have q0 : 0 ≤ (f + (-1) * (k : Int)) % 24 := Int.emod_nonneg _ (by decide)
      have q1 : (f + (-1) * (k : Int)) % 24 ≤ 23 := by omega
      have nb1 : (k + 1 + 1) * 8 ≤ 140737488355328 := by omega
      have nm : k + 1 + 1 ≤ maxLen := by unfold maxLen; omega
      have z2 := HB.size
      generalize hqq : (f + (-1) * (k : Int)) % 24 = q at hc q0 q1 E
      clear hqq
      go_wp2_with (first | (go_at_call 35; refine (turned_any _ _ _ (by omega) (by omega) (by omega) (by omega)).mono ?_; rintro e w' ⟨rfl, rfl⟩) | (at_builtin; refine wpList_append_own _ rfl _ _ 39 rfl w.heap.size 2 i0 _ 1 8 Tryd.underlying39 hi0 hz0 hz1 hz2 rfl (by omega) _ _ _ rfl (HO.out.alloc _) ⟨wr.heap.size, 0, none⟩ 1 1 [.int .i64 ((q + (-1)) % 24)] rfl rfl (cell_one_new _ _ _) (by simp [Value.oneCell']) nm nb1 (by simp; omega) ?_; intro v' w3 hown' hgrow _))
      obtain ⟨gg, cap2, hv2, _, _⟩ := hown'.form (by omega)
      have HB3 : Below w.heap.size w w3 := (HB.alloc z2 _).grown hgrow (by simp; omega) (fun j hj => (HO.out.lt j hj).1)
      have HO3 : Hid (w3.ownsRow w.heap.size 2 1 (.slice (some ⟨gg, 0, none⟩) (k + 1 + 1) cap2) (k + 1 + 1) (ints (wayL f (-1) (k + 1)))) := by
        show World.ownsRow _ _ _ _ _ _ _
        have h3 := hown'
        rw [E.out, ints_snoc, hv2] at h3
        exact h3
      exact ⟨⟨k + 1, gg, cap2, by omega, by go_num, hv2, HB3, HO3⟩, by simp [intOf]; omega⟩
    · obtain rfl : k = n := by omega
      go_wp2
      go_ret2
      exact RetInts.mk (wayL_length _ _ _) HO.out HB
end Go.Proofs.YtofoihohendjgaaDoor
