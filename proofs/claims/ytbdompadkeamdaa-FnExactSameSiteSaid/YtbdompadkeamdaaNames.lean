/- Walks over names, code names and bases; the walks of their laws. -/
import Derived.Test.YtbdompadkeamdaaProg
import Derived.Test.YtbdompadkeamdaaKit
import Derived.Test.YtbdompadkeamdaaBasics
namespace Go.Proofs.Ytbdompadkeamdaa
open Go.RowKit Go.WideShapes Go.ChangeShapes Go.Joins Go.Deep
set_option linter.unusedVariables false

/-! ### names: the plain law -/
def smallB (c : UInt8) : Bool := decide (97 ≤ (c.toNat : Int)) && decide ((c.toNat : Int) ≤ 122)
def digitB (c : UInt8) : Bool := decide (48 ≤ (c.toNat : Int)) && decide ((c.toNat : Int) ≤ 57)
def tailB (c : UInt8) : Bool := smallB c || digitB c || decide ((c.toNat : Int) = 45)
def nameOk : List UInt8 → Bool
  | [] => true
  | c :: r => smallB c && r.all tailB
def nameB (l : List UInt8) : Bool := decide (1 ≤ l.length) && decide (l.length ≤ 12) && nameOk l
theorem cls (c : Int) : (97 ≤ c ∧ c ≤ 122) ∨ 122 < c ∨ (45 ≤ c ∧ c ≤ 45) ∨ (48 ≤ c ∧ c ≤ 57) ∨ c < 45 ∨ (45 < c ∧ c < 48) ∨ (57 < c ∧ c < 97) := by omega
theorem nameOk_snoc (l : List UInt8) (c : UInt8) : nameOk (l ++ [c]) = (nameOk l && if l.length = 0 then smallB c else tailB c) := by
  cases l with
  | nil => simp [nameOk]
  | cons a r => simp [nameOk, List.all_append, Bool.and_assoc]
theorem take_snoc (s : ByteArray) (k : Nat) (h : k < s.size) : s.data.toList.take (k + 1) = s.data.toList.take k ++ [s[k]] := by
  rw [List.take_succ_eq_append_getElem (by simpa using h)]; rfl
theorem nameOk_take (l : List UInt8) (k : Nat) (h : nameOk (l.take k) = false) : nameOk l = false := by
  cases l with
  | nil => simpa using h
  | cons a r =>
    cases k with
    | zero => simp [nameOk] at h
    | succ k =>
      simp only [List.take_succ_cons, nameOk, Bool.and_eq_false_iff] at h ⊢
      rcases h with h | h
      · exact .inl h
      · right
        rw [List.all_eq_false] at h ⊢
        obtain ⟨x, hx, hy⟩ := h
        exact ⟨x, List.mem_of_mem_take hx, hy⟩
theorem nameOk_step (s : ByteArray) (k : Nat) (h : k < s.size) : nameOk (s.data.toList.take (k + 1)) = (nameOk (s.data.toList.take k) && if k = 0 then smallB s[k] else tailB s[k]) := by
  rw [take_snoc s k h, nameOk_snoc]
  have : (s.data.toList.take k).length = k := by simp; omega
  rw [this]
theorem name_bad (s : ByteArray) (k : Nat) (h : k < s.size) (hb : (if k = 0 then smallB s[k] else tailB s[k]) = false) : nameB s.data.toList = false := by
  have := nameOk_take s.data.toList (k + 1) (by rw [nameOk_step s k h, hb, Bool.and_false])
  simp [nameB, this]
theorem name_good (s : ByteArray) (k : Nat) (h : k < s.size) (h0 : nameOk (s.data.toList.take k) = true) (hb : (if k = 0 then smallB s[k] else tailB s[k]) = true) : nameOk (s.data.toList.take (k + 1)) = true := by
  rw [nameOk_step s k h, h0, hb]; rfl
theorem name_end (s : ByteArray) (k : Nat) (h : ¬ k < s.size) (h0 : nameOk (s.data.toList.take k) = true) : nameB s.data.toList = (decide (1 ≤ s.size) && decide (s.size ≤ 12)) := by
  rw [List.take_of_length_le (by simp; omega)] at h0
  simp [nameB, h0]

set_option maxHeartbeats 400000 in
theorem implIsName_any (s : ByteArray) (w : World) (hs : s.size ≤ maxLen) : Calls Try.prog 71 #[.string s] w fun e w' => e = .returned (.bool (nameB s.data.toList)) ∧ w = w' := by
  unfold maxLen at hs
  go_enter Try.func71, Try.ntmps71
  go_wp2
  go_loop [3, 4, 5, 8] (fun _ _ _ i => ∃ k : Nat, k ≤ s.size ∧ i = .int .i64 k ∧ nameOk (s.data.toList.take k) = true) (fun _ _ _ i => s.size - (intOf i).toNat)
  case atStart => exact ⟨0, Nat.zero_le _, rfl, rfl⟩
  case round =>
    obtain ⟨k, hk, rfl, h0⟩ := hrel
    have H0 := Lib.hid h0
    clear h0
    by_cases hlt : k < s.size
    · have G := Lib.hid (name_good s k hlt H0.out)
      have B := Lib.hid (name_bad s k hlt)
      by_cases a1 : 97 ≤ (s[k].toNat : Int)
      · by_cases a2 : (s[k].toNat : Int) ≤ 122
        · go_wp2
          exact ⟨⟨k + 1, by omega, by go_num, G.out (by unfold tailB smallB digitB; split <;> simp <;> omega)⟩, by simp [intOf]; omega⟩
        · have a3 : ((s[k].toNat : Int) != 45) = true := by rw [bne_iff_ne]; omega
          have a4 : ¬ (s[k].toNat : Int) < 48 := by omega
          have a5 : 57 < (s[k].toNat : Int) := by omega
          cases a0 : ((k : Int) == 0)
          · go_wp2
            go_ret
            exact ⟨ret_bool (B.out (by unfold tailB smallB digitB; split <;> simp <;> omega)).symm, rfl⟩
          · go_wp2
            go_ret
            exact ⟨ret_bool (B.out (by unfold tailB smallB digitB; split <;> simp <;> omega)).symm, rfl⟩
      · cases a0 : ((k : Int) == 0)
        · have z : 0 < k := by
            have := beq_eq_false_iff_ne.1 a0
            omega
          cases a3 : ((s[k].toNat : Int) != 45)
          · have c45 : (s[k].toNat : Int) = 45 := by simpa using a3
            have C45 := Lib.hid c45
            clear c45
            go_wp2
            exact ⟨⟨k + 1, by omega, by go_num, G.out (by have := C45.out; unfold tailB smallB digitB; split <;> simp <;> omega)⟩, by simp [intOf]; omega⟩
          · have c45 : ¬ (s[k].toNat : Int) = 45 := by simpa using a3
            by_cases a4 : (s[k].toNat : Int) < 48
            · go_wp2
              go_ret
              exact ⟨ret_bool (B.out (by unfold tailB smallB digitB; split <;> simp <;> omega)).symm, rfl⟩
            · by_cases a5 : 57 < (s[k].toNat : Int)
              · go_wp2
                go_ret
                exact ⟨ret_bool (B.out (by unfold tailB smallB digitB; split <;> simp <;> omega)).symm, rfl⟩
              · go_wp2
                exact ⟨⟨k + 1, by omega, by go_num, G.out (by unfold tailB smallB digitB; split <;> simp <;> omega)⟩, by simp [intOf]; omega⟩
        · have z : k ≤ 0 := by
            have := beq_iff_eq.1 a0
            omega
          go_wp2
          go_ret
          exact ⟨ret_bool (B.out (by unfold tailB smallB digitB; split <;> simp <;> omega)).symm, rfl⟩
    · have HE := Lib.hid (name_end s k hlt H0.out)
      go_wp2
      · go_ret
        exact ⟨ret_bool (by rw [HE.out, decide_eq_true (by omega : 1 ≤ s.size)]; simp; omega), rfl⟩
      · go_ret
        exact ⟨ret_bool (by rw [HE.out, decide_eq_false (by omega : ¬ 1 ≤ s.size)]; rfl), rfl⟩

theorem l01Small_any (c : UInt8) (w : World) : Calls Try.prog 104 #[.int .u8 (c.toNat : Int)] w fun e w' => e = .returned (.bool (smallB c)) ∧ w = w' := by
  by_cases h1 : 97 ≤ (c.toNat : Int)
  · go_enter Try.func104, Try.ntmps104
    go_wp2
    go_ret
    exact ⟨ret_bool (by simp [smallB, h1]), rfl⟩
  · go_enter Try.func104, Try.ntmps104
    go_wp2
    go_ret
    exact ⟨ret_bool (by simp [smallB]; omega), rfl⟩
theorem l01Digit_any (c : UInt8) (w : World) : Calls Try.prog 105 #[.int .u8 (c.toNat : Int)] w fun e w' => e = .returned (.bool (digitB c)) ∧ w = w' := by
  by_cases h1 : 48 ≤ (c.toNat : Int)
  · go_enter Try.func105, Try.ntmps105
    go_wp2
    go_ret
    exact ⟨ret_bool (by simp [digitB, h1]), rfl⟩
  · go_enter Try.func105, Try.ntmps105
    go_wp2
    go_ret
    exact ⟨ret_bool (by simp [digitB]; omega), rfl⟩
theorem name_long (s : ByteArray) (h : ¬ s.size ≤ 12) : nameB s.data.toList = false := by
  have : ¬ s.data.toList.length ≤ 12 := by simpa using h
  unfold nameB
  rw [decide_eq_false this]
  simp
theorem name_head (s : ByteArray) (h : 0 < s.size) (h0 : smallB s[0] = false) : nameB s.data.toList = false := name_bad s 0 h (by simpa using h0)
theorem name_end2 (s : ByteArray) (h0 : 0 < s.size) (h1 : s.size ≤ 12) (k : Nat) (h : ¬ k < s.size) (hn : nameOk (s.data.toList.take k) = true) : nameB s.data.toList = true := by
  rw [name_end s k h hn]
  simp; omega
theorem small_of_zero {s : ByteArray} {k : Nat} (hlt : k < s.size) (hp : 0 < s.size) (h : smallB s[0] = true) : k = 0 → smallB s[k] = true := by
  intro h0
  subst h0
  exact h
set_option maxHeartbeats 1000000 in
theorem specIsName_any (s : ByteArray) (w : World) (hs : s.size ≤ maxLen) : Calls Try.prog 90 #[.string s] w fun e w' => e = .returned (.bool (nameB s.data.toList)) ∧ w = w' := by
  unfold maxLen at hs
  by_cases he : s.size = 0
  · have hb : nameB s.data.toList = false := by
      have : s.data.toList.length = 0 := by simpa using he
      simp [nameB, this]
    rw [hb]; clear hb
    have e1 : s.toList = [] := by
      rw [ByteArray.toList_eq]
      exact List.eq_nil_of_length_eq_zero (by simpa using he)
    clear he
    go_enter Try.func90, Try.ntmps90
    go_wp2
    go_ret
    exact ⟨rfl, rfl⟩
  · have e1 : s.toList.isEmpty = false := by
      rw [ByteArray.toList_eq]
      cases h : s.data.toList with
      | nil => exact absurd (by rw [← s.size_data]; simpa using congrArg List.length h) he
      | cons a r => rfl
    have e2 : ¬ s.toList = [] := by
      intro h
      rw [h] at e1; cases e1
    have hp : 0 < s.size := by omega
    clear he
    by_cases hl : s.size ≤ 12
    · have H0 := Lib.hid (name_head s hp)
      have HE := Lib.hid (name_end2 s hp hl)
      cases h0 : smallB s[0]
      · go_enter Try.func90, Try.ntmps90
        go_wp2_with (first | (go_at_call 104; refine (l01Small_any _ _).mono ?_; rintro e w' ⟨rfl, rfl⟩))
        go_ret
        exact ⟨ret_bool (H0.out h0).symm, rfl⟩
      · go_enter Try.func90, Try.ntmps90
        go_wp2_with (first | (go_at_call 104; refine (l01Small_any _ _).mono ?_; rintro e w' ⟨rfl, rfl⟩))
        clear e1 e2 H0
        have HS := Lib.hid h0
        clear h0
        go_loop [3] (fun i => ∃ k : Nat, k ≤ s.size ∧ i = .int .i64 k ∧ nameOk (s.data.toList.take k) = true) (fun i => s.size - (intOf i).toNat)
        case atStart => exact ⟨0, Nat.zero_le _, rfl, rfl⟩
        case round =>
          obtain ⟨k, hk, rfl, hn⟩ := hrel
          have HN := Lib.hid hn
          clear hn
          by_cases hlt : k < s.size
          · have G := Lib.hid (name_good s k hlt HN.out)
            have B := Lib.hid (name_bad s k hlt)
            have K0 := Lib.hid (small_of_zero (s := s) (k := k) hlt hp HS.out)
            cases b1 : smallB s[k]
            · have K1 : Hid (¬ k = 0) := fun h => by have := K0.out h; rw [b1] at this; cases this
              cases b2 : digitB s[k]
              · cases b3 : ((s[k].toNat : Int) != 45)
                · go_wp2_with (first | (go_at_call 104; refine (l01Small_any _ _).mono ?_; rintro e w' ⟨rfl, rfl⟩) | (go_at_call 105; refine (l01Digit_any _ _).mono ?_; rintro e w' ⟨rfl, rfl⟩))
                  exact ⟨⟨k + 1, by omega, by go_num, G.out (by rw [if_neg K1.out]; unfold tailB; rw [b1, b2]; simpa using b3)⟩, by simp [intOf]; omega⟩
                · go_wp2_with (first | (go_at_call 104; refine (l01Small_any _ _).mono ?_; rintro e w' ⟨rfl, rfl⟩) | (go_at_call 105; refine (l01Digit_any _ _).mono ?_; rintro e w' ⟨rfl, rfl⟩))
                  go_ret
                  exact ⟨ret_bool (B.out (by rw [if_neg K1.out]; unfold tailB; rw [b1, b2]; simpa using b3)).symm, rfl⟩
              · go_wp2_with (first | (go_at_call 104; refine (l01Small_any _ _).mono ?_; rintro e w' ⟨rfl, rfl⟩) | (go_at_call 105; refine (l01Digit_any _ _).mono ?_; rintro e w' ⟨rfl, rfl⟩))
                exact ⟨⟨k + 1, by omega, by go_num, G.out (by rw [if_neg K1.out]; unfold tailB; rw [b1, b2]; rfl)⟩, by simp [intOf]; omega⟩
            · go_wp2_with (first | (go_at_call 104; refine (l01Small_any _ _).mono ?_; rintro e w' ⟨rfl, rfl⟩) | (go_at_call 105; refine (l01Digit_any _ _).mono ?_; rintro e w' ⟨rfl, rfl⟩))
              exact ⟨⟨k + 1, by omega, by go_num, G.out (by unfold tailB; rw [b1]; split <;> rfl)⟩, by simp [intOf]; omega⟩
          · have E := Lib.hid (HE.out k hlt HN.out)
            go_wp2
            go_ret
            exact ⟨ret_bool E.out.symm, rfl⟩
    · have hb := name_long s hl
      rw [hb]; clear hb
      go_enter Try.func90, Try.ntmps90
      go_wp2
      go_ret
      exact ⟨rfl, rfl⟩


end Go.Proofs.Ytbdompadkeamdaa
