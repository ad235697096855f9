/- The parts of a text: the reference's walks. -/
import Derived.Test.YtihbomgbkpmojaaDoorProg
import Derived.Test.YtihbomgbkpmojaaDoorKit
import Derived.Test.YtihbomgbkpmojaaDoorMem
import Derived.Test.YtihbomgbkpmojaaDoorStrs
import Derived.Test.YtihbomgbkpmojaaDoorSplit
import Derived.Laws.DeepStrings4
import Derived.Deep.AppendLies
namespace Go.Proofs.YtihbomgbkpmojaaDoor
open Go.RowKit Go.WideShapes Go.ChangeShapes Go.Joins Go.Deep Go.Sort
set_option linter.unusedVariables false
set_option linter.unusedSimpArgs false
theorem infoStr : (Tryd.prog.info? 9).map (fun i => (i.zero, i.size, i.bytes)) = some (some (Value.string ⟨#[]⟩), 1, 16) := by kernel_rfl
/-- texts in memory of the call's own -/
def RetStrs (w : World) (L : List ByteArray) (e : Ending) (w' : World) : Prop := ∃ A c, e = .returned (.slice A L.length c) ∧ w'.ownsRow w.heap.size 9 1 (.slice A L.length c) L.length (strs L) ∧ Below w.heap.size w w'
theorem RetStrs.mk {w w' : World} {L : List ByteArray} {m : Nat} {v : Value} (hL : L.length = m) (ho : w'.ownsRow w.heap.size 9 1 v m (strs L)) (hb : Below w.heap.size w w') : RetStrs w L (.returned v) w' := by
  subst hL
  obtain ⟨A, c, rfl⟩ := own_form ho
  exact ⟨A, c, rfl, ho, hb⟩
theorem own_mono {w : World} {base base' : Nat} {e : TypeId} {size : Nat} {v : Value} {n : Nat} {xs : List Value} (h : w.ownsRow base e size v n xs) (hb : base' ≤ base) : w.ownsRow base' e size v n xs := by
  refine ⟨h.1, ?_⟩
  rcases h.2 with h2 | ⟨g, cap, cur, hv, hg, r⟩
  · exact .inl h2
  · exact .inr ⟨g, cap, cur, hv, by omega, r⟩
set_option maxHeartbeats 1000000 in
theorem l01Split_any (s : ByteArray) (c : UInt8) (w : World) (hs : s.size ≤ 1048576) : Calls Tryd.prog 40 #[.string s, .int .u8 (c.toNat : Int)] w (RetStrs w (splitL s c)) := by
  obtain ⟨i0, hi0, hz0, hz1, hz2⟩ := info_parts infoStr
  go_enter Tryd.func40, Tryd.ntmps40
  go_wp2
  go_loopw [5, 6, 7] (fun v x i wr => ∃ (k a : Nat) (M : List (Nat × Nat)), k ≤ s.size ∧ a ≤ k ∧ i = .int .i64 k ∧ x = .int .i64 a ∧ M.length ≤ k ∧ Below w.heap.size w wr ∧ Hid (M ++ splitAt s c (s.size - k) k a = splitAt s c s.size 0 0) ∧ Hid (wr.ownsRow w.heap.size 9 1 v M.length (strs (M.map (cut s))))) (fun _ _ i _ => s.size - (intOf i).toNat)
  case atStart => exact ⟨0, 0, [], Nat.zero_le _, Nat.zero_le _, rfl, rfl, Nat.le_refl _, below_alloc1 _ _, rfl, by show World.ownsRow _ _ _ _ _ _ _; simpa [strs] using World.ownsRow_lit (base := w.heap.size) (e := 9) (size := 1) w #[] 0 (Nat.le_refl _) (by unfold maxLen; omega) rfl⟩
  case round =>
    obtain ⟨k, a, M, hk, ha, rfl, rfl, hM, HB, HE, HO⟩ := hrel
    obtain ⟨A', c', rfl⟩ := own_form HO.out
    have z := HB.size
    have i1 : (0 : Int) ≤ (k : Int) := Int.natCast_nonneg _
    have i2 : (0 : Int) ≤ (a : Int) := Int.natCast_nonneg _
    have i3 : (a : Int) ≤ (k : Int) := by omega
    have nb : (M.length + 1) * 16 ≤ 140737488355328 := by omega
    have nm : M.length + 1 ≤ maxLen := by unfold maxLen; omega
    by_cases hlt : k < s.size
    · have i4 : (k : Int) ≤ (s.size : Int) := by omega
      cases e : ((s[k].toNat : Int) == (c.toNat : Int))
      · have e' : ¬ s[k] = c := fun h => by rw [h] at e; simp at e
        have E := Lib.hid (split_miss (a := a) hlt e')
        clear e'
        go_wp2
        exact ⟨⟨k + 1, a, M, by omega, by omega, by go_num, rfl, by omega, HB, by rw [← HE.out, E.out]; rfl, HO⟩, by simp [intOf]; omega⟩
      · have e' : s[k] = c := by
          have := beq_iff_eq.1 e
          exact UInt8.toNat_inj.1 (by omega)
        have E := Lib.hid (split_hit (a := a) hlt e')
        clear e'
        go_wp2_with (at_builtin; refine wpList_append_own _ rfl _ _ 55 rfl w.heap.size 9 i0 _ 1 16 Tryd.underlying55 hi0 hz0 hz1 hz2 rfl (by omega) _ _ _ rfl (HO.out.alloc _) ⟨wr.heap.size, 0, none⟩ 1 1 [.string (s.extract a k)] rfl rfl (cell_one_new _ _ _) (by simp [Value.oneCell']) nm nb (by simp; omega) ?_; intro v' w3 hown' hgrow _)
        have HB3 : Below w.heap.size w w3 := (HB.alloc z _).grown hgrow (by simp; omega) (fun j hj => (HO.out.lt j hj).1)
        have HO3 : Hid (w3.ownsRow w.heap.size 9 1 v' (M ++ [(a, k)]).length (strs ((M ++ [(a, k)]).map (cut s)))) := by
          show World.ownsRow _ _ _ _ _ _ _
          rw [List.map_append, List.length_append]
          show w3.ownsRow _ _ _ _ _ (strs (M.map (cut s) ++ [s.extract a k]))
          rw [← strs_snoc]
          exact hown'
        have HE3 : Hid ((M ++ [(a, k)]) ++ splitAt s c (s.size - (k + 1)) (k + 1) (k + 1) = splitAt s c s.size 0 0) := by
          show _ = _
          rw [← HE.out, E.out]; simp
        have HM3 : (M ++ [(a, k)]).length ≤ k + 1 := by simp; omega
        clear hown' hgrow E HE
        go_wp2
        exact ⟨⟨k + 1, k + 1, M ++ [(a, k)], by omega, by omega, by go_num, by go_num, HM3, HB3, HE3, HO3⟩, by simp [intOf]; omega⟩
    · have hks : k = s.size := by omega
      have E := Lib.hid (split_end (c := c) (a := a) hks)
      have hks' : (k : Int) = (s.size : Int) := by omega
      obtain rfl : k = s.size := hks
      clear hks'
      go_wp2_with (at_builtin; refine wpList_append_own _ rfl _ _ 55 rfl w.heap.size 9 i0 _ 1 16 Tryd.underlying55 hi0 hz0 hz1 hz2 rfl (by omega) _ _ _ rfl (HO.out.alloc _) ⟨wr.heap.size, 0, none⟩ 1 1 [.string (s.extract a s.size)] rfl rfl (cell_one_new _ _ _) (by simp [Value.oneCell']) nm nb (by simp; omega) ?_; intro v' w3 hown' hgrow _)
      have HB3 : Below w.heap.size w w3 := (HB.alloc z _).grown hgrow (by simp; omega) (fun j hj => (HO.out.lt j hj).1)
      have R : Hid (RetStrs w (splitL s c) (.returned v') w3) := by
        have h1 : splitL s c = M.map (cut s) ++ [s.extract a s.size] := by
          unfold splitL
          rw [← HE.out, E.out, List.map_append]; rfl
        refine RetStrs.mk (m := M.length + 1) (by rw [h1]; simp) ?_ HB3
        rw [h1, ← strs_snoc]
        exact hown'
      clear hown' hgrow
      go_wp2
      go_ret
      exact R.out
end Go.Proofs.YtihbomgbkpmojaaDoor
