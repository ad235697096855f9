/- Slices of strings: how they read; the walks of the laws' functions on them: equal, mark, still marked. -/
import Derived.Test.YtihbomgbkpmojaaProg
import Derived.Test.YtihbomgbkpmojaaKit
import Derived.Test.YtihbomgbkpmojaaMem
import Derived.Laws.IdiomStrings
import Derived.Laws.Concat
namespace Go.Proofs.Ytihbomgbkpmojaa
open Go.RowKit Go.WideShapes Go.ChangeShapes Go.Joins Go.Deep Go.Sort
set_option linter.unusedVariables false
set_option linter.unusedSimpArgs false

/-- strings as cells -/
def strs (L : List ByteArray) : List Value := L.map Value.string
theorem strs_length (L : List ByteArray) : (strs L).length = L.length := by simp [strs]
theorem strs_at {L : List ByteArray} {k : Nat} {u : Value} (h : (strs L)[k]? = some u) : ∃ s, L[k]? = some s ∧ u = .string s := by
  simp only [strs, List.getElem?_map] at h
  cases hz : L[k]? with
  | none => rw [hz] at h; cases h
  | some z => rw [hz] at h; simp at h; exact ⟨z, rfl, h.symm⟩
theorem strs_snoc (L : List ByteArray) (x : ByteArray) : strs L ++ [.string x] = strs (L ++ [x]) := by simp [strs]
/-- the marks' digits -/
def mtL : Nat → Nat → List UInt8
  | 0, _ => []
  | f + 1, k => if k = 0 then [] else mtL f (k / 10) ++ [UInt8.ofNat (48 + k % 10)]
theorem mtL_zero (f : Nat) : mtL f 0 = [] := by cases f <;> simp [mtL]
theorem mtL_succ (f k : Nat) (h : 0 < k) : mtL (f + 1) k = mtL f (k / 10) ++ [UInt8.ofNat (48 + k % 10)] := by
  rw [mtL, if_neg (by omega)]
def markT (k : Nat) : ByteArray := ⟨(109 :: mtL 7 k).toArray⟩
def texts (k : Nat) : Nat → List ByteArray
  | 0 => []
  | n + 1 => texts k n ++ [markT (k + n)]
theorem texts_length (k n : Nat) : (texts k n).length = n := by
  induction n with
  | zero => rfl
  | succ n ih => simp [texts, ih]
theorem texts_at (k : Nat) : ∀ {n j : Nat}, j < n → (texts k n)[j]? = some (markT (k + j))
  | 0, j, h => by omega
  | n + 1, j, h => by
    unfold texts
    by_cases hj : j < n
    · rw [List.getElem?_append_left (by rw [texts_length]; exact hj)]
      exact texts_at k hj
    · obtain rfl : j = n := by omega
      rw [List.getElem?_append_right (by rw [texts_length]; exact Nat.le_refl _), texts_length, Nat.sub_self]
      rfl
theorem texts_step {L : List ByteArray} (k j : Nat) (h : j < L.length) : (strs (texts k j ++ L.drop j)).set j (.string (markT (k + j))) = strs (texts k (j + 1) ++ L.drop (j + 1)) := by
  have h1 : (strs (texts k j)).length = j := by rw [strs_length, texts_length]
  unfold strs at h1 ⊢
  rw [List.map_append, List.set_append_right _ _ (by rw [h1]; exact Nat.le_refl _), h1, Nat.sub_self, List.drop_eq_getElem_cons h, List.map_cons, List.set_cons_zero]
  show _ = List.map Value.string ((texts k j ++ [markT (k + j)]) ++ List.drop (j + 1) L)
  rw [List.map_append, List.map_append, List.append_assoc]
  rfl
theorem u8_digit (j : Nat) : (UInt8.ofNat (48 + j % 10)).toNat = 48 + j % 10 := by
  rw [UInt8.toNat_ofNat']
  omega

set_option maxHeartbeats 400000 in
theorem markText_any (k : Nat) (w : World) (k0 : 0 < k) (k1 : k < 10000000) : Calls Try.prog 12 #[.int .i64 k] w fun e w' => e = .returned (.string (markT k)) ∧ Below w.heap.size w w' := by
  have d0 : ¬ (k : Int) ≤ 0 := by omega
  go_enter Try.func12, Try.ntmps12
  go_wp2
  go_loopw [0, 3] (fun x o wr => ∃ (f j : Nat) (acc : ByteArray), x = .int .i64 j ∧ o = .string acc ∧ j < 10000000 ∧ Below w.heap.size w wr ∧ Hid (j < 10 ^ f ∧ mtL f j ++ acc.data.toList = mtL 7 k ∧ acc.size + f ≤ 7)) (fun x _ _ => (intOf x).toNat)
  case atStart => exact ⟨7, k, ⟨#[]⟩, rfl, rfl, k1, Below.refl _ _, ⟨k1, by simp, by simp [ByteArray.size]⟩⟩
  case round =>
    obtain ⟨f, j, acc, rfl, rfl, hj, HB, HA⟩ := hrel
    by_cases h0 : 0 < j
    · obtain ⟨f', rfl⟩ : ∃ f', f = f' + 1 := ⟨f - 1, by
        have := HA.out.1
        cases f with
        | zero => simp at this; omega
        | succ f => rfl⟩
      obtain ⟨bb, hbb⟩ : ∃ bb : ByteArray, bb = ⟨[UInt8.ofNat (48 + j % 10)].toArray⟩ := ⟨_, rfl⟩
      have hcv : ∀ wr : World, (convert 34 9 (.slice (some ⟨wr.heap.size, 0, none⟩) 1 1)).run Try.prog (wr.alloc (.cells #[.int .u8 (48 + (j : Int) % 10)] 5)) = .ok (.string bb) (wr.alloc (.cells #[.int .u8 (48 + (j : Int) % 10)] 5)) := by
        intro wr
        rw [hbb]
        exact run_convert_bytes_back _ _ _ _ _ 1 [UInt8.ofNat (48 + j % 10)] Try.underlying34 Try.underlying5 Try.underlying9 (fun i hi => by
          have : i = 0 := by simpa using hi
          subst this
          have e : (((UInt8.ofNat (48 + j % 10)).toNat : Nat) : Int) = 48 + (j : Int) % 10 := by rw [u8_digit]; omega
          simp only [List.getElem_cons_zero, e]
          simp [Addr.add])
      obtain ⟨acc', ha, hadd⟩ : ∃ acc' : ByteArray, acc' = bb ++ acc ∧ ∀ wr : World, (Op.stringOp .add bb acc).run Try.prog wr = .ok (.string acc') wr := ⟨_, rfl, fun wr => run_string_add_sum wr _ _ (by
        have := HA.out.2.2
        have e : bb.size = 1 := by rw [hbb]; rfl
        omega)⟩
      have N : Hid (j / 10 < 10 ^ f' ∧ mtL f' (j / 10) ++ acc'.data.toList = mtL 7 k ∧ acc'.size + f' ≤ 7) := by
        refine ⟨?_, ?_, ?_⟩
        · have := HA.out.1; rw [Nat.pow_succ] at this; omega
        · have := HA.out.2.1
          rw [mtL_succ _ _ h0] at this
          rw [ha, hbb, ByteArray.data_append, Array.toList_append, ← this]
          simp
        · have := HA.out.2.2
          have e : bb.size = 1 := by rw [hbb]; rfl
          rw [ha, ByteArray.size_append, e]; omega
      clear hbb ha
      have z := HB.size
      have i0 : (0 : Int) ≤ (j : Int) := Int.natCast_nonneg _
      go_wp2
      exact ⟨⟨f', j / 10, acc', by go_num, rfl, by omega, HB.alloc z _, N⟩, by simp [intOf]; omega⟩
    · obtain rfl : j = 0 := by omega
      obtain ⟨rr, hr, hadd⟩ : ∃ rr : ByteArray, rr = markT k ∧ ∀ wr : World, (Op.stringOp .add ⟨#[109]⟩ acc).run Try.prog wr = .ok (.string rr) wr := ⟨_, rfl, fun wr => by
        rw [run_string_add_sum wr _ _ (by
          have := HA.out.2.2
          have e : (ByteArray.mk #[109]).size = 1 := rfl
          omega)]
        have h := HA.out.2.1
        rw [mtL_zero, List.nil_append] at h
        have e : (ByteArray.mk #[109]) ++ acc = markT k := by
          unfold markT
          rw [← h]
          apply ByteArray.ext
          rw [ByteArray.data_append]
          apply Array.toList_inj.1
          simp
        rw [e]⟩
      have HR := Lib.hid hr
      clear hr
      go_wp2
      go_ret
      exact ⟨by rw [HR.out]; rfl, HB⟩
set_option maxHeartbeats 400000 in
theorem eqStringS_same (A A' : Option Addr) (n c c' B B' : Nat) (L : List ByteArray) (w : World) (h : Reads w B 1 A n (strs L)) (h' : Reads w B' 1 A' n (strs L)) (hn : n ≤ maxLen) :
    Calls Try.prog 6 #[.slice A n c, .slice A' n c'] w fun e w' => e = .returned (.bool true) ∧ Below w.heap.size w w' := by
  unfold maxLen at hn
  have H := Lib.hid h
  have H' := Lib.hid h'
  clear h h'
  go_enter Try.func6, Try.ntmps6
  go_wp2
  go_loopw [5] (fun i wr => ∃ k : Nat, k ≤ n ∧ i = .int .i64 k ∧ Hid (∃ m, wr = w.drewN m)) (fun i _ => n - (intOf i).toNat)
  case atStart => exact ⟨0, Nat.zero_le _, rfl, 0, rfl⟩
  case round =>
    obtain ⟨k, hk, rfl, HM⟩ := hrel
    obtain ⟨m, rfl⟩ := HM.out
    clear HM
    by_cases hlt : k < n
    · obtain ⟨ad, u, rfl, _, hx, hc⟩ := H.out.at_ hlt
      obtain ⟨ad', u', rfl, _, hx', hc'⟩ := H'.out.at_ hlt
      obtain ⟨s, hs, rfl⟩ := strs_at hx
      obtain ⟨s', hs', rfl⟩ := strs_at hx'
      rw [hs] at hs'
      obtain rfl : s = s' := by simpa using hs'
      clear hx hx' hs hs'
      have i1 : (0 : Int) ≤ (k : Int) := Int.natCast_nonneg _
      have i2 : (k : Int) < (n : Int) := by omega
      go_wp2
      go_quiet (fail)
      go_wp2
      exact ⟨⟨k + 1, by omega, by go_num, _, rfl⟩, by simp [intOf]; omega⟩
    · go_wp2
      go_ret
      exact ⟨rfl, below_draws _ _ _⟩
set_option maxHeartbeats 400000 in
theorem heldStringS_any (A : Option Addr) (n c : Nat) (q : Nat) (w : World) (h : Reads w w.heap.size 1 A n (strs (texts q n))) (q0 : 0 < q) (q1 : q ≤ 1000000) (hn1 : n ≤ 2000000) :
    Calls Try.prog 8 #[.slice A n c, .int .i64 q] w fun e w' => e = .returned (.int .i64 (q + n)) ∧ Below w.heap.size w w' := by
  have H := Lib.hid h
  clear h
  go_enter Try.func8, Try.ntmps8
  go_wp2
  go_loopw [1, 5] (fun x i wr => ∃ k : Nat, k ≤ n ∧ i = .int .i64 k ∧ x = .int .i64 (q + k) ∧ Below w.heap.size w wr) (fun _ i _ => n - (intOf i).toNat)
  case atStart => exact ⟨0, Nat.zero_le _, rfl, by simp, Below.refl _ _⟩
  case round =>
    obtain ⟨k, hk, rfl, rfl, HB⟩ := hrel
    by_cases hlt : k < n
    · obtain ⟨ad, u, rfl, _, hx, hc⟩ := (H.out.below HB).at_ hlt
      obtain ⟨s, hs, rfl⟩ := strs_at hx
      rw [texts_at q hlt] at hs
      obtain rfl : markT (q + k) = s := by simpa using hs
      clear hx hs
      have C : Hid (∀ w, Calls Try.prog 12 #[.int .i64 (q + k)] w fun e w' => e = .returned (.string (markT (q + k))) ∧ Below w.heap.size w w') := fun w => by
        have := markText_any (q + k) w (by omega) (by omega)
        rwa [show (((q + k : Nat)) : Int) = (q : Int) + k by omega] at this
      generalize markT (q + k) = tx at C hc
      have i1 : (0 : Int) ≤ (k : Int) := Int.natCast_nonneg _
      have i2 : (k : Int) < (n : Int) := by omega
      have f1 := cell_regrown hc
      clear hc
      go_wp2_with fail
      refine wp_region_quiet_below (by kernel_rfl) (by kernel_rfl) ?_
      repeat (quiet_step (first | exact Calls.regrown_of (C.out _)))
      refine wpQuiet_nil ?_
      intro w1 hw1
      have hb1 := class_below hw1
      clear f1 hw1
      go_wp2
      exact ⟨⟨k + 1, by omega, by go_num, ret_val (by omega), HB.trans (hb1.mono HB.size)⟩, by simp [intOf]; omega⟩
    · obtain rfl : k = n := by omega
      go_wp2
      go_ret
      exact ⟨rfl, HB⟩
set_option maxHeartbeats 400000 in
theorem markStringS_any (base : Nat) (A : Option Addr) (n c : Nat) (L : List ByteArray) (q : Nat) (w : World) (h : w.ownsRow base 9 1 (.slice A n c) n (strs L)) (q0 : 0 < q) (q1 : q ≤ 1000000) (hn1 : n ≤ 2000000) :
    Calls Try.prog 7 #[.slice A n c, .int .i64 q] w fun e w' => e = .returned (.int .i64 (q + n)) ∧ w'.ownsRow base 9 1 (.slice A n c) n (strs (texts q n)) ∧ w.grownBy w' (Value.ownBlock (.slice A n c)) := by
  have hz : L.length = n := by have := h.1; simpa [strs] using this
  have H := Lib.hid h
  clear h
  go_enter Try.func7, Try.ntmps7
  go_wp2
  go_loopw [1, 5] (fun x i wr => ∃ k : Nat, k ≤ n ∧ i = .int .i64 k ∧ x = .int .i64 (q + k) ∧ Hid (wr.ownsRow base 9 1 (.slice A n c) n (strs (texts q k ++ L.drop k)) ∧ w.grownBy wr (Value.ownBlock (.slice A n c)))) (fun _ i _ => n - (intOf i).toNat)
  case atStart => exact ⟨0, Nat.zero_le _, rfl, by simp, by simpa [texts] using H.out, World.grownBy.refl _ _⟩
  case round =>
    obtain ⟨k, hk, rfl, rfl, HR⟩ := hrel
    by_cases hlt : k < n
    · have C : Hid (∀ w, Calls Try.prog 12 #[.int .i64 (q + k)] w fun e w' => e = .returned (.string (markT (q + k))) ∧ Below w.heap.size w w') := fun w => by
        have := markText_any (q + k) w (by omega) (by omega)
        rwa [show (((q + k : Nat)) : Int) = (q : Int) + k by omega] at this
      obtain ⟨g, cap, hv, hg1, hg2⟩ := HR.out.1.form (by omega)
      injection hv with e1 e2 e3
      subst e1 e3
      have S := Lib.hid (texts_step (L := L) q k (by omega))
      generalize markT (q + k) = tx at C S
      have i1 : (0 : Int) ≤ (k : Int) := Int.natCast_nonneg _
      have i2 : (k : Int) < (n : Int) := by omega
      go_wp2_with fail
      refine (C.out _).mono ?_
      rintro e w1 ⟨rfl, hb1⟩
      have HO := own_below HR.out.1 hb1
      have HG := grown_trans HR.out.2 (grown_of_below hb1 (Value.ownBlock (.slice (some ⟨g, 0, none⟩) n c)))
      have hcell : w1.cell? ⟨g, k, none⟩ = (strs (texts q k ++ L.drop k))[k]? := HO.cellAt k (by omega)
      have hfz : w1.frozen? ⟨g, k, none⟩ = false := HO.frozenAt k
      obtain ⟨u, hu⟩ : ∃ u, (strs (texts q k ++ L.drop k))[k]? = some u := ⟨_, List.getElem?_eq_getElem (by simp [strs, texts_length]; omega)⟩
      rw [hu] at hcell
      have HO := Lib.hid HO
      have HG := Lib.hid HG
      clear hu hb1 HR
      go_wp2
      have ho := HO.out.stored k (.string tx)
      refine ⟨⟨k + 1, by omega, by go_num, ret_val (by omega), ⟨?_, grown_trans HG.out ho.2⟩⟩, by simp [intOf]; omega⟩
      rw [← S.out]
      exact ho.1
    · obtain rfl : k = n := by omega
      go_wp2
      go_ret
      exact ⟨rfl, by have := HR.out.1; rwa [← hz, List.drop_length, List.append_nil, hz] at this, HR.out.2⟩
end Go.Proofs.Ytihbomgbkpmojaa
