/- The words of a text: the walks of both sides, and their law. -/
import Derived.Test.YtihbomgbkpmojaaProg
import Derived.Test.YtihbomgbkpmojaaKit
import Derived.Test.YtihbomgbkpmojaaMem
import Derived.Test.YtihbomgbkpmojaaApart
import Derived.Test.YtihbomgbkpmojaaStrs
import Derived.Test.YtihbomgbkpmojaaSplit
import Derived.Test.YtihbomgbkpmojaaSplit2
import Derived.Test.YtihbomgbkpmojaaShelf
import Derived.Deep.AppendLies
namespace Go.Proofs.Ytihbomgbkpmojaa
open Go.RowKit Go.WideShapes Go.ChangeShapes Go.Joins Go.Deep Go.Sort
set_option linter.unusedVariables false
set_option linter.unusedSimpArgs false
theorem filter_snoc {L : List ByteArray} {k : Nat} {s : ByteArray} (h : L[k]? = some s) : (L.take (k + 1)).filter neB = (L.take k).filter neB ++ (if neB s then [s] else []) := by
  rw [List.take_add_one, h, List.filter_append]
  cases hn : neB s
  · simp [hn]
  · simp [hn]
theorem toList_empty {s : ByteArray} (h : neB s = false) : s.toList = [] := by
  have : s.size = 0 := by simpa [neB] using h
  rw [ByteArray.toList_eq]
  exact List.eq_nil_of_length_eq_zero (by simpa using this)
theorem toList_full {s : ByteArray} (h : neB s = true) : s.toList.isEmpty = false ∧ ¬ s.toList = [] := by
  have h0 : 0 < s.size := by simpa [neB] using h
  have e : s.toList ≠ [] := by
    intro e
    rw [ByteArray.toList_eq] at e
    have h2 : s.data.toList.length = 0 := by rw [e]; rfl
    rw [Array.length_toList] at h2
    have h3 : s.size = s.data.size := rfl
    omega
  exact ⟨by cases hh : s.toList with
    | nil => exact absurd hh e
    | cons a r => rfl, e⟩
set_option maxHeartbeats 1000000 in
theorem specSplitWords_any (s : ByteArray) (w : World) (hs : s.size ≤ 1048576) : Calls Try.prog 4 #[.string s] w (RetStrs w (wordsL s)) := by
  obtain ⟨i0, hi0, hz0, hz1, hz2⟩ := info_parts infoStr
  have C : Hid (∀ w, Calls Try.prog 9 #[.string s, .int .u8 32] w (RetStrs w (splitL s 32))) := fun w => l01Split_any s 32 w hs
  have hW : Hid ((splitL s 32).filter neB = wordsL s) := rfl
  have hl := (splitL_length s 32).1
  generalize splitL s 32 = L at C hW hl
  generalize wordsL s = R at hW
  obtain ⟨n, hn⟩ : ∃ n : Nat, n = L.length := ⟨_, rfl⟩
  unfold RetStrs at C
  rw [← hn] at C hl
  have HN := Lib.hid hn
  clear hn
  go_enter Try.func4, Try.ntmps4
  go_wp2_with fail
  refine (C.out _).mono ?_
  rintro e w1 ⟨A, c, rfl, HO1, hb1⟩
  have HR := Lib.hid (reads_own HO1)
  have z1 := hb1.size
  clear HO1
  go_wp2
  go_loopw [4, 5] (fun v i wr => ∃ (k m : Nat), k ≤ n ∧ m ≤ k ∧ i = .int .i64 k ∧ Below w1.heap.size w1 wr ∧ Hid (((L.take k).filter neB).length = m) ∧ Hid (wr.ownsRow w1.heap.size 9 1 v m (strs ((L.take k).filter neB)))) (fun _ i _ => n - (intOf i).toNat)
  case atStart => exact ⟨0, 0, Nat.zero_le _, Nat.le_refl _, rfl, below_alloc1 _ _, by show _ = _; simp, by show World.ownsRow _ _ _ _ _ _ _; simpa [strs] using World.ownsRow_lit (base := w1.heap.size) (e := 9) (size := 1) w1 #[] 0 (Nat.le_refl _) (by unfold maxLen; omega) rfl⟩
  case round =>
    obtain ⟨k, m, hk, hm, rfl, HB, HM, HO⟩ := hrel
    obtain ⟨A', c', rfl⟩ := own_form HO.out
    have z := HB.size
    have i1 : (0 : Int) ≤ (k : Int) := Int.natCast_nonneg _
    have nb : (m + 1) * 16 ≤ 140737488355328 := by omega
    have nm : m + 1 ≤ maxLen := by unfold maxLen; omega
    by_cases hlt : k < n
    · have i2 : (k : Int) < (n : Int) := by omega
      obtain ⟨ad, u, rfl, _, hx, hc⟩ := (HR.out.below HB).at_ hlt
      obtain ⟨x, hx', rfl⟩ := strs_at hx
      have F := Lib.hid (filter_snoc hx')
      clear hx hx'
      cases hne : neB x
      · have e0 := toList_empty hne
        have F1 : Hid ((L.take (k + 1)).filter neB = (L.take k).filter neB) := Lib.hid (by have := F.out; rw [hne] at this; simpa using this)
        clear hne F
        go_wp2
        exact ⟨⟨k + 1, m, by omega, by omega, by go_num, HB, by rw [F1.out]; exact HM, by rw [F1.out]; exact HO⟩, by simp [intOf]; omega⟩
      · obtain ⟨e1, e2⟩ := toList_full hne
        have F1 : Hid ((L.take (k + 1)).filter neB = (L.take k).filter neB ++ [x]) := Lib.hid (by have := F.out; rw [hne] at this; simpa using this)
        clear hne F
        go_wp2_with (at_builtin; refine wpList_append_own _ rfl _ _ 22 rfl w1.heap.size 9 i0 _ 1 16 Try.underlying22 hi0 hz0 hz1 hz2 rfl (by omega) _ _ _ rfl (HO.out.alloc _) ⟨wr.heap.size, 0, none⟩ 1 1 [.string x] rfl rfl (cell_one_new _ _ _) (by simp [Value.oneCell']) nm nb (by simp; omega) ?_; intro v' w3 hown' hgrow _)
        have HB3 : Below w1.heap.size w1 w3 := (HB.alloc z _).grown hgrow (by simp; omega) (fun j hj => (HO.out.lt j hj).1)
        have HO3 : Hid (w3.ownsRow w1.heap.size 9 1 v' (m + 1) (strs ((L.take (k + 1)).filter neB))) := by
          show World.ownsRow _ _ _ _ _ _ _
          rw [F1.out, ← strs_snoc]
          exact hown'
        have HM3 : Hid (((L.take (k + 1)).filter neB).length = m + 1) := by show _ = _; rw [F1.out, List.length_append, HM.out]; rfl
        clear hown' hgrow F1
        go_wp2
        exact ⟨⟨k + 1, m + 1, by omega, by omega, by go_num, HB3, HM3, HO3⟩, by simp [intOf]; omega⟩
    · obtain rfl : k = n := by omega
      have R1 : Hid (RetStrs w R (.returned (.slice A' m c')) wr) := by
        have ht : L.take k = L := by rw [HN.out]; exact List.take_length
        have ho := HO.out
        have hm' := HM.out
        rw [ht, hW.out] at ho hm'
        exact RetStrs.mk hm' (own_mono ho z1) (hb1.trans (HB.mono z1))
      go_wp2
      go_ret
      exact R1.out
theorem spaceAt (w : World) : PredAt Try.prog 11 #[] encR isSp w := fun W r _ => by
  unfold FnGives
  go_enter Try.func11, Try.ntmps11
  go_wp2
  go_ret
  exact ⟨rfl, 0, rfl⟩
theorem implSplitWords_any (s : ByteArray) (w : World) (hs : s.size ≤ 1048576) : Calls Try.prog 5 #[.string s] w (RetStrs w (wordsL s)) := by
  have eg := enters_of Try.func11 (by kernel_rfl) rfl
  have C := Lib.hid (Try.strings_FieldsFunc 11 #[] eg isSp s w (by omega) (spaceAt w))
  rw [goFields_eq] at C
  clear eg
  go_enter Try.func5, Try.ntmps5
  go_wp2_with fail
  refine C.out.mono ?_
  rintro e w1 ⟨A, rfl, _, ho, hb⟩
  have R1 : Hid (RetStrs w (wordsL s) (.returned (.slice (some ⟨A, 0, none⟩) (wordsL s).length (wordsL s).length)) w1) := ⟨_, _, rfl, ho, hb⟩
  clear ho hb
  go_wp2
  go_ret
  exact R1.out
set_option maxHeartbeats 4000000 in
theorem FnExactSplitWords_walk (s : ByteArray) (hs : s.size ≤ maxLen) (w : World) : Calls Try.prog 3 #[.string s] w fun e w' => e = .returned (.bool true) ∧ Below w.heap.size w w' := by
  by_cases hl : s.size ≤ 1048576
  · have hlen := wordsL_length s
    have H1 : Hid (∀ w, Calls Try.prog 4 #[.string s] w (RetStrs w (wordsL s))) := fun w => specSplitWords_any s w hl
    have H2 : Hid (∀ w, Calls Try.prog 5 #[.string s] w (RetStrs w (wordsL s))) := fun w => implSplitWords_any s w hl
    generalize wordsL s = M at hlen H1 H2
    obtain ⟨m, hm⟩ : ∃ m : Nat, m = M.length := ⟨_, rfl⟩
    unfold RetStrs at H1 H2
    rw [← hm] at H1 H2 hlen
    clear hm hs
    have B0 := Below.refl w.heap.size w
    go_enter Try.func3, Try.ntmps3
    go_wp2_with fail
    refine (H1.out _).mono ?_
    rintro e w1 ⟨Av, cv, rfl, Ov1, hb1⟩
    have B1 := B0.trans (hb1.mono B0.size)
    clear hb1 B0
    go_wp2_with fail
    refine (H2.out _).mono ?_
    rintro e w2 ⟨Ag, cg, rfl, Og2, hb2⟩
    have Pv_g := Lib.hid (apart_early Ov1 Og2)
    have Qg : ∀ k, (Value.slice Ag m cg).ownBlock = some k → w.heap.size ≤ k := fun k hk => Nat.le_trans B1.size (Og2.lt k hk).1
    have Qg := Lib.hid Qg
    have Ov2 := own_below Ov1 hb2
    have B2 := B1.trans (hb2.mono B1.size)
    clear hb2 B1 Ov1
    go_wp2_with fail
    refine (eqStringS_same _ _ _ _ _ _ _ _ _ (reads_own Og2) (reads_own Ov2) (by unfold maxLen; omega)).mono ?_
    rintro e w3 ⟨rfl, hb3⟩
    have Ov3 := own_below Ov2 hb3
    have Og3 := own_below Og2 hb3
    have B3 := B2.trans (hb3.mono B2.size)
    clear hb3 B2 Ov2 Og2
    go_wp2_with fail
    refine (markStringS_any _ _ _ _ _ 1 _ Og3 (by omega) (by omega) (by omega)).mono ?_
    rintro e w4 ⟨rfl, Og4, hg4⟩
    have Ov4 := Ov3.kept hg4 Pv_g.out
    have B4 := grown_below B3 hg4 B3.size Qg.out
    clear hg4 B3 Ov3 Og3
    go_wp2_with fail
    refine (heldStringS_any _ _ _ 1 _ (reads_own Og4) (by omega) (by omega) (by omega)).mono ?_
    rintro e w5 ⟨rfl, hb5⟩
    have Ov5 := own_below Ov4 hb5
    have Og5 := own_below Og4 hb5
    have B5 := B4.trans (hb5.mono B4.size)
    clear hb5 B4 Ov4 Og4
    go_wp2_with fail
    refine (H2.out _).mono ?_
    rintro e w6 ⟨Ah, ch, rfl, Oh6, hb6⟩
    have Ov6 := own_below Ov5 hb6
    have Og6 := own_below Og5 hb6
    have B6 := B5.trans (hb6.mono B5.size)
    clear hb6 B5 Ov5 Og5
    go_wp2_with fail
    refine (eqStringS_same _ _ _ _ _ _ _ _ _ (reads_own Oh6) (reads_own Ov6) (by unfold maxLen; omega)).mono ?_
    rintro e w7 ⟨rfl, hb7⟩
    have Og7 := own_below Og6 hb7
    have B7 := B6.trans (hb7.mono B6.size)
    clear hb7 B6 Ov6 Og6 Oh6
    go_wp2_with fail
    refine (heldStringS_any _ _ _ 1 _ (reads_own Og7) (by omega) (by omega) (by omega)).mono ?_
    rintro e w8 ⟨rfl, hb8⟩
    have B8 := B7.trans (hb8.mono B7.size)
    clear hb8 B7 Og7
    go_wp2
    go_ret
    exact ⟨rfl, B8⟩
  · unfold maxLen at hs
    go_enter Try.func3, Try.ntmps3
    go_wp2
    go_ret
    exact ⟨rfl, Below.refl _ _⟩
end Go.Proofs.Ytihbomgbkpmojaa
