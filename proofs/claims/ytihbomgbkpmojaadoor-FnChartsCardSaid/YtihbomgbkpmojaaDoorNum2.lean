/- A decimal form read: the walks of both sides, and their law. -/
import Derived.Test.YtihbomgbkpmojaaDoorProg
import Derived.Test.YtihbomgbkpmojaaDoorKit
import Derived.Test.YtihbomgbkpmojaaDoorMem
import Derived.Test.YtihbomgbkpmojaaDoorStrs
import Derived.Test.YtihbomgbkpmojaaDoorShelf
import Derived.Test.YtihbomgbkpmojaaDoorDec
import Derived.Test.YtihbomgbkpmojaaDoorDec2
import Derived.Test.YtihbomgbkpmojaaDoorDec3
import Derived.Test.YtihbomgbkpmojaaDoorLaid
import Derived.Test.YtihbomgbkpmojaaDoorNum
import Derived.Laws.DeepStrings4
namespace Go.Proofs.YtihbomgbkpmojaaDoor
open Go.RowKit Go.WideShapes Go.ChangeShapes Go.Joins Go.Deep Go.Sort
set_option linter.unusedVariables false
set_option linter.unusedSimpArgs false
def rdV (o : Option Int) : Value := match o with | some v => .tuple #[.int .i64 v, .bool true] | none => .tuple #[.int .i64 0, .bool false]
theorem rdV_none : rdV none = .tuple #[.int .i64 0, .bool false] := rfl
theorem rdV_some (v : Int) : rdV (some v) = .tuple #[.int .i64 v, .bool true] := rfl
theorem str_empty {s : ByteArray} (h : s.size = 0) : s.toList = [] := by
  rw [ByteArray.toList_eq]
  exact List.eq_nil_of_length_eq_zero (by simpa using h)
theorem str_full {s : ByteArray} (h0 : 0 < s.size) : s.toList.isEmpty = false ∧ ¬ s.toList = [] := by
  have e : s.toList ≠ [] := by
    intro e
    rw [ByteArray.toList_eq] at e
    have h2 : s.data.toList.length = 0 := by rw [e]; rfl
    rw [Array.length_toList] at h2
    have h3 : s.size = s.data.size := rfl
    omega
  exact ⟨by cases hh : s.toList with
    | nil => exact absurd hh e
    | cons a r => rfl, e⟩
theorem take_snoc' (s : ByteArray) (k : Nat) (h : k < s.size) : s.data.toList.take (k + 1) = s.data.toList.take k ++ [s[k]] := by
  rw [List.take_succ_eq_append_getElem (by simpa using h)]; rfl
theorem all_bad {t : ByteArray} {k : Nat} (h : k < t.size) (hb : digB t[k] = false) : t.data.toList.all digB = false := by
  rw [List.all_eq_false]
  refine ⟨t[k], ?_, by simp [hb]⟩
  have : t.data.toList[k]? = some t[k] := by rw [List.getElem?_eq_getElem (by simpa using h)]; rfl
  exact List.mem_of_getElem? this
theorem take_all (t : ByteArray) : t.data.toList.take t.size = t.data.toList := List.take_of_length_le (by simp)
theorem len_data (t : ByteArray) : t.data.toList.length = t.size := by rw [Array.length_toList]; rfl
/-- the sign is taken off: what is left -/
theorem head_zero {s : ByteArray} (h : 0 < s.size) : s.data.toList.head? = some s[0] := by
  rw [List.head?_eq_getElem?, List.getElem?_eq_getElem (by rw [len_data]; exact h)]; rfl
theorem mag_rest {s t : ByteArray} (h : 0 < s.size) (e : s[0] = 45) (ht : s.extract 1 s.size = t) : magL s.data.toList = t.data.toList ∧ evalS s.data.toList = -(valL 0 t.data.toList : Int) := by
  have hh := head_zero h
  rw [e] at hh
  have htl : t.data.toList = s.data.toList.tail := by
    rw [← ht, Lib.extract_data, ← List.drop_one, List.take_of_length_le]
    rw [List.length_drop, len_data]
    omega
  unfold magL evalS
  rw [if_pos hh, if_pos hh, htl]
  exact ⟨rfl, rfl⟩
theorem mag_same {s : ByteArray} (h : 0 < s.size) (e : ¬ s[0] = 45) : magL s.data.toList = s.data.toList ∧ evalS s.data.toList = (valL 0 s.data.toList : Int) := by
  have hh : ¬ s.data.toList.head? = some 45 := by rw [head_zero h]; simpa using e
  exact ⟨magL_pos hh, evalS_pos hh⟩
theorem list_ne {x s : ByteArray} (h : ¬ x = s) : (x.toList == s.toList) = false ∧ ¬ x.toList = s.toList := by
  have : ¬ x.toList = s.toList := fun e => h (by
    rw [ByteArray.toList_eq, ByteArray.toList_eq] at e
    exact ByteArray.ext (Array.toList_inj.1 e))
  exact ⟨by rw [beq_eq_false_iff_ne]; exact this, this⟩
theorem dec_same {v : Int} {s : ByteArray} : decS v = s ↔ Lib.itoa v = s.data.toList := by
  unfold decS
  constructor
  · rintro rfl; rfl
  · intro h
    rw [h]
theorem digit_any (c : UInt8) (w : World) : Calls Tryd.prog 54 #[.int .u8 (c.toNat : Int)] w fun e w' => e = .returned (.bool (digB c)) ∧ w = w' := by
  by_cases h1 : 48 ≤ (c.toNat : Int)
  · go_enter Tryd.func54, Tryd.ntmps54
    go_wp2
    go_ret
    exact ⟨ret_bool (by unfold digB; rw [decide_eq_true (by omega : 48 ≤ c.toNat), Bool.true_and]; simp only [decide_eq_decide]; omega), rfl⟩
  · go_enter Tryd.func54, Tryd.ntmps54
    go_wp2
    go_ret
    exact ⟨ret_bool (by unfold digB; rw [decide_eq_false (by omega : ¬ 48 ≤ c.toNat), Bool.false_and]), rfl⟩
set_option maxRecDepth 100000 in
set_option maxHeartbeats 2000000 in
theorem l01Number_any (s : ByteArray) (w : World) (hs : s.size ≤ 1048576) : Calls Tryd.prog 32 #[.string s] w fun e w' => e = .returned (rdV (rd s.data.toList)) ∧ Below w.heap.size w w' := by
  by_cases he : s.size ≤ 0
  · have R : Hid (rd s.data.toList = none) := rd_of_mag (.inr (by
      have : s.data.toList = [] := List.eq_nil_of_length_eq_zero (by rw [len_data]; omega)
      rw [this]; rfl))
    have e1 := str_empty (s := s) (by omega)
    go_enter Tryd.func32, Tryd.ntmps32
    go_wp2
    go_ret2
    exact ⟨by rw [R.out]; rfl, Below.refl _ _⟩
  · have hp : 0 < s.size := by omega
    obtain ⟨e1, e2⟩ := str_full hp
    clear he
    cases e45 : ((s[0].toNat : Int) == 45)
    · have ME := mag_same hp (fun h => by rw [h] at e45; revert e45; decide)
      by_cases h18 : s.size ≤ 18
      · have HR1 := Lib.hid (fun (h : s.data.toList.all digB = false) => rd_of_mag (l := s.data.toList) (.inl (by rw [ME.1]; exact h)))
        have HM := Lib.hid ME
        have HL18 : Hid ((magL s.data.toList).length ≤ 18) := by show _ ≤ 18; rw [ME.1, len_data]; exact h18
        clear ME
        go_enter Tryd.func32, Tryd.ntmps32
        go_wp2_with (first | (go_at_call 54; fail))
        go_loop [5, 6] (fun x i => ∃ (k V : Nat), k ≤ s.size ∧ i = .int .i64 k ∧ x = .int .i64 V ∧ Hid (V = valL 0 (s.data.toList.take k) ∧ (s.data.toList.take k).all digB = true)) (fun _ i => s.size - (intOf i).toNat)
        case atStart => exact ⟨0, 0, Nat.zero_le _, rfl, rfl, rfl, rfl⟩
        case round =>
          obtain ⟨k, V, hk, rfl, rfl, HV⟩ := hrel
          by_cases hlt : k < s.size
          · have hb : V < 100000000000000000 := by rw [HV.out.1]; exact valL_lt17 HV.out.2 (by have := List.length_take_le k s.data.toList; omega)
            have TS := Lib.hid (take_snoc' s k hlt)
            cases hd : digB s[k]
            · have R : Hid (rd s.data.toList = none) := HR1.out (all_bad hlt hd)
              go_wp2_with (first | (go_at_call 54; refine (digit_any _ _).mono ?_; rintro e w' ⟨rfl, rfl⟩))
              go_ret2
              exact ⟨by rw [R.out]; rfl, Below.refl _ _⟩
            · obtain ⟨d0, d1⟩ := digB_iff.1 hd
              have N : Hid (V * 10 + (s[k].toNat - 48) = valL 0 (s.data.toList.take (k + 1)) ∧ (s.data.toList.take (k + 1)).all digB = true) := by
                refine ⟨?_, ?_⟩
                · rw [TS.out, valL_snoc, ← HV.out.1]
                · rw [TS.out, List.all_append, HV.out.2]; simp [hd]
              have e1 : (48 : Int) ≤ (s[k].toNat : Int) := by omega
              have e2 : (s[k].toNat : Int) ≤ 57 := by omega
              have b1 : (V : Int) < 100000000000000000 := by omega
              have b0 : (0 : Int) ≤ (V : Int) := by omega
              go_wp2_with (first | (go_at_call 54; refine (digit_any _ _).mono ?_; rintro e w' ⟨rfl, rfl⟩))
              exact ⟨⟨k + 1, V * 10 + (s[k].toNat - 48), by omega, by go_num, ret_val (by omega), N⟩, by simp [intOf]; omega⟩
          · have hb : V < 1000000000000000000 := by rw [HV.out.1]; exact valL_lt HV.out.2 (by have := List.length_take_le k s.data.toList; omega)
            have EV : Hid (evalS s.data.toList = (V : Int)) := by
              show _ = _
              rw [HM.out.2, HV.out.1, show k = s.size by omega, take_all]
            have b1 : (V : Int) < 1000000000000000000 := by omega
            have b0 : (0 : Int) ≤ (V : Int) := by omega
            have C := l01Dec_any ((V : Int)) w (by omega) (by omega)
            by_cases hs' : decS ((V : Int)) = s
            · have R : Hid (rd s.data.toList = some ((V : Int))) := by show _ = _; rw [← EV.out]; exact rd_yes HL18.out (by rw [EV.out]; exact dec_same.1 hs')
              rw [hs'] at C
              have HC := Lib.hid C
              clear C hs' EV
              go_wp2_with fail
              refine HC.out.mono ?_
              rintro e w1 ⟨rfl, hb1⟩
              go_wp2
              go_ret2
              exact ⟨by rw [R.out]; rfl, hb1⟩
            · have R : Hid (rd s.data.toList = none) := rd_no (by rw [EV.out]; exact fun h => hs' (dec_same.2 h))
              generalize decS ((V : Int)) = x at C hs'
              obtain ⟨n1, n2⟩ := list_ne hs'
              have HC := Lib.hid C
              clear C hs' EV
              go_wp2_with fail
              refine HC.out.mono ?_
              rintro e w1 ⟨rfl, hb1⟩
              go_wp2
              go_ret2
              exact ⟨by rw [R.out]; rfl, hb1⟩
      · have R : Hid (rd s.data.toList = none) := rd_long (by rw [ME.1, len_data]; exact h18)
        clear ME
        go_enter Tryd.func32, Tryd.ntmps32
        go_wp2
        go_ret2
        exact ⟨by rw [R.out]; rfl, Below.refl _ _⟩
    · have c45 : s[0] = 45 := by
        have := beq_iff_eq.1 e45
        exact UInt8.toNat_inj.1 (by show s[0].toNat = 45; omega)
      obtain ⟨t, hx⟩ : ∃ t, s.extract 1 s.size = t := ⟨_, rfl⟩
      have ME := mag_rest hp c45 hx
      have s1 : t.size + 1 ≤ s.size := by rw [← hx, ByteArray.size_extract]; omega
      have s2 : s.size ≤ t.size + 1 := by rw [← hx, ByteArray.size_extract]; omega
      have s3 : (t.size : Int) < (s.size : Int) := by omega
      clear c45
      by_cases h1 : t.size ≤ 0
      · have R : Hid (rd s.data.toList = none) := rd_of_mag (.inr (by rw [ME.1]; exact List.eq_nil_of_length_eq_zero (by rw [len_data]; omega)))
        clear ME
        go_enter Tryd.func32, Tryd.ntmps32
        go_wp2
        go_ret2
        exact ⟨by rw [R.out]; rfl, Below.refl _ _⟩
      · by_cases h18 : t.size ≤ 18
        · have HR1 := Lib.hid (fun (h : t.data.toList.all digB = false) => rd_of_mag (l := s.data.toList) (.inl (by rw [ME.1]; exact h)))
          have HM := Lib.hid ME
          have HL18 : Hid ((magL s.data.toList).length ≤ 18) := by show _ ≤ 18; rw [ME.1, len_data]; exact h18
          clear ME
          go_enter Tryd.func32, Tryd.ntmps32
          go_wp2_with (first | (go_at_call 54; fail))
          go_loop [5, 6] (fun x i => ∃ (k V : Nat), k ≤ t.size ∧ i = .int .i64 k ∧ x = .int .i64 V ∧ Hid (V = valL 0 (t.data.toList.take k) ∧ (t.data.toList.take k).all digB = true)) (fun _ i => t.size - (intOf i).toNat)
          case atStart => exact ⟨0, 0, Nat.zero_le _, rfl, rfl, rfl, rfl⟩
          case round =>
            obtain ⟨k, V, hk, rfl, rfl, HV⟩ := hrel
            by_cases hlt : k < t.size
            · have hb : V < 100000000000000000 := by rw [HV.out.1]; exact valL_lt17 HV.out.2 (by have := List.length_take_le k t.data.toList; omega)
              have TS := Lib.hid (take_snoc' t k hlt)
              cases hd : digB t[k]
              · have R : Hid (rd s.data.toList = none) := HR1.out (all_bad hlt hd)
                go_wp2_with (first | (go_at_call 54; refine (digit_any _ _).mono ?_; rintro e w' ⟨rfl, rfl⟩))
                go_ret2
                exact ⟨by rw [R.out]; rfl, Below.refl _ _⟩
              · obtain ⟨d0, d1⟩ := digB_iff.1 hd
                have N : Hid (V * 10 + (t[k].toNat - 48) = valL 0 (t.data.toList.take (k + 1)) ∧ (t.data.toList.take (k + 1)).all digB = true) := by
                  refine ⟨?_, ?_⟩
                  · rw [TS.out, valL_snoc, ← HV.out.1]
                  · rw [TS.out, List.all_append, HV.out.2]; simp [hd]
                have e1 : (48 : Int) ≤ (t[k].toNat : Int) := by omega
                have e2 : (t[k].toNat : Int) ≤ 57 := by omega
                have b1 : (V : Int) < 100000000000000000 := by omega
                have b0 : (0 : Int) ≤ (V : Int) := by omega
                go_wp2_with (first | (go_at_call 54; refine (digit_any _ _).mono ?_; rintro e w' ⟨rfl, rfl⟩))
                exact ⟨⟨k + 1, V * 10 + (t[k].toNat - 48), by omega, by go_num, ret_val (by omega), N⟩, by simp [intOf]; omega⟩
            · have hb : V < 1000000000000000000 := by rw [HV.out.1]; exact valL_lt HV.out.2 (by have := List.length_take_le k t.data.toList; omega)
              have EV : Hid (evalS s.data.toList = -(V : Int)) := by
                show _ = _
                rw [HM.out.2, HV.out.1, show k = t.size by omega, take_all]
              have b1 : (V : Int) < 1000000000000000000 := by omega
              have b0 : (0 : Int) ≤ (V : Int) := by omega
              have C := l01Dec_any (-(V : Int)) w (by omega) (by omega)
              by_cases hs' : decS (-(V : Int)) = s
              · have R : Hid (rd s.data.toList = some (-(V : Int))) := by show _ = _; rw [← EV.out]; exact rd_yes HL18.out (by rw [EV.out]; exact dec_same.1 hs')
                rw [hs'] at C
                have HC := Lib.hid C
                clear C hs' EV
                go_wp2_with fail
                refine HC.out.mono ?_
                rintro e w1 ⟨rfl, hb1⟩
                go_wp2
                go_ret2
                exact ⟨by rw [R.out]; rfl, hb1⟩
              · have R : Hid (rd s.data.toList = none) := rd_no (by rw [EV.out]; exact fun h => hs' (dec_same.2 h))
                generalize decS (-(V : Int)) = x at C hs'
                obtain ⟨n1, n2⟩ := list_ne hs'
                have HC := Lib.hid C
                clear C hs' EV
                go_wp2_with fail
                refine HC.out.mono ?_
                rintro e w1 ⟨rfl, hb1⟩
                go_wp2
                go_ret2
                exact ⟨by rw [R.out]; rfl, hb1⟩
        · have R : Hid (rd s.data.toList = none) := rd_long (by rw [ME.1, len_data]; exact h18)
          clear ME
          go_enter Tryd.func32, Tryd.ntmps32
          go_wp2
          go_ret2
          exact ⟨by rw [R.out]; rfl, Below.refl _ _⟩
end Go.Proofs.YtihbomgbkpmojaaDoor
