/- Marks laid over a slice of structs of two integers, and read again: the walks of both functions. -/
import Derived.Test.YtiaineljcmjfoaaProg
import Derived.Test.YtiaineljcmjfoaaKit
import Derived.Test.YtiaineljcmjfoaaMem
import Derived.Test.YtiaineljcmjfoaaLists
namespace Go.Proofs.Ytiaineljcmjfoaa
open Go.RowKit Go.WideShapes Go.ChangeShapes Go.Joins Go.Deep Go.Sort
set_option linter.unusedVariables false
set_option linter.unusedSimpArgs false

def markL (q : Int) : Nat → List (Int × Int)
  | 0 => []
  | n + 1 => markL q n ++ [(q + 2 * (n : Int), q + 2 * (n : Int) + 1)]
theorem markL_length (q : Int) (n : Nat) : (markL q n).length = n := by
  induction n with
  | zero => rfl
  | succ n ih => simp [markL, ih]
theorem markL_at (q : Int) : ∀ {n j : Nat}, j < n → (markL q n)[j]? = some (q + 2 * (j : Int), q + 2 * (j : Int) + 1)
  | 0, j, h => by omega
  | n + 1, j, h => by
    unfold markL
    by_cases hj : j < n
    · rw [List.getElem?_append_left (by rw [markL_length]; exact hj)]
      exact markL_at q hj
    · obtain rfl : j = n := by omega
      rw [List.getElem?_append_right (by rw [markL_length]; exact Nat.le_refl _), markL_length, Nat.sub_self]
      rfl
theorem markL_step {L : List (Int × Int)} (q : Int) (k : Nat) (h : k < L.length) :
    ((pairs (markL q k ++ L.drop k)).set (k * 2) (.int .i64 (q + 2 * (k : Int)))).set (k * 2 + 1) (.int .i64 (q + 2 * (k : Int) + 1)) = pairs (markL q (k + 1) ++ L.drop (k + 1)) := by
  have h1 : (pairs (markL q k)).length = k * 2 := by rw [pairs_length, markL_length]
  obtain ⟨a, ha⟩ : ∃ a, L.drop k = a :: L.drop (k + 1) := ⟨_, List.drop_eq_getElem_cons h⟩
  rw [ha, pairs_append, pairs, List.set_append_right _ _ (by rw [h1]; exact Nat.le_refl _), h1, Nat.sub_self, List.set_cons_zero,
    List.set_append_right _ _ (by rw [h1]; omega), h1, show k * 2 + 1 - k * 2 = 1 by omega, List.set_cons_succ, List.set_cons_zero]
  show _ = pairs ((markL q k ++ [(q + 2 * (k : Int), q + 2 * (k : Int) + 1)]) ++ L.drop (k + 1))
  rw [List.append_assoc, pairs_append]
  rfl

set_option maxHeartbeats 400000 in
theorem markSteps_any (base : Nat) (A : Option Addr) (n c : Nat) (L : List (Int × Int)) (q : Int) (w : World) (h : w.ownsRow base 44 2 (.slice A n c) n (pairs L)) (q0 : 0 ≤ q) (q1 : q ≤ 3000000) (hn1 : n ≤ 2000000) :
    Calls Try.prog 24 #[.slice A n c, .int .i64 q] w fun e w' => e = .returned (.int .i64 (q + 2 * n)) ∧ w'.ownsRow base 44 2 (.slice A n c) n (pairs (markL q n)) ∧ w.grownBy w' (Value.ownBlock (.slice A n c)) := by
  have hz : L.length = n := by have := h.1; rw [pairs_length] at this; omega
  have H := Lib.hid h
  clear h
  go_enter Try.func24, Try.ntmps24
  go_wp2
  go_loopw [1, 5] (fun x i wr => ∃ k : Nat, k ≤ n ∧ i = .int .i64 k ∧ x = .int .i64 (q + 2 * k) ∧ Hid (wr.ownsRow base 44 2 (.slice A n c) n (pairs (markL q k ++ L.drop k)) ∧ w.grownBy wr (Value.ownBlock (.slice A n c)))) (fun _ i _ => n - (intOf i).toNat)
  case atStart => exact ⟨0, Nat.zero_le _, rfl, by simp, by simpa [markL] using H.out, World.grownBy.refl _ _⟩
  case round =>
    obtain ⟨k, hk, rfl, rfl, HR⟩ := hrel
    by_cases hlt : k < n
    · obtain ⟨g, cap, hv, hg1, hg2⟩ := HR.out.1.form (by omega)
      injection hv with e1 e2 e3
      subst e1 e3
      have hcell1 : wr.cell? ⟨g, k * 2, none⟩ = (pairs (markL q k ++ L.drop k))[k * 2]? := HR.out.1.cellAt _ (by omega)
      have hcell2 : wr.cell? ⟨g, k * 2 + 1, none⟩ = (pairs (markL q k ++ L.drop k))[k * 2 + 1]? := HR.out.1.cellAt _ (by omega)
      have hfz1 : wr.frozen? ⟨g, k * 2, none⟩ = false := HR.out.1.frozenAt _
      have hfz2 : wr.frozen? ⟨g, k * 2 + 1, none⟩ = false := HR.out.1.frozenAt _
      have hln : (pairs (markL q k ++ L.drop k)).length = n * 2 := HR.out.1.1
      obtain ⟨u1, hu1⟩ : ∃ u, (pairs (markL q k ++ L.drop k))[k * 2]? = some u := ⟨_, List.getElem?_eq_getElem (by omega)⟩
      obtain ⟨u2, hu2⟩ : ∃ u, (pairs (markL q k ++ L.drop k))[k * 2 + 1]? = some u := ⟨_, List.getElem?_eq_getElem (by omega)⟩
      rw [hu1] at hcell1
      rw [hu2] at hcell2
      clear hu1 hu2 hln
      have i1 : (0 : Int) ≤ (k : Int) := Int.natCast_nonneg _
      have i2 : (k : Int) < (n : Int) := by omega
      go_wp2
      have ho := HR.out.1.stored (k * 2) (.int .i64 (q + 2 * (k : Int)))
      have ho2 := ho.1.stored (k * 2 + 1) (.int .i64 (q + 2 * (k : Int) + 1))
      refine ⟨⟨k + 1, by omega, by go_num, ret_val (by omega), ⟨?_, grown_trans (grown_trans HR.out.2 ho.2) ho2.2⟩⟩, by simp [intOf]; omega⟩
      rw [← markL_step q k (by omega)]
      exact ho2.1
    · obtain rfl : k = n := by omega
      go_wp2
      go_ret
      exact ⟨rfl, by have := HR.out.1; rwa [← hz, List.drop_length, List.append_nil, hz] at this, HR.out.2⟩
set_option maxHeartbeats 400000 in
theorem heldSteps_any (A : Option Addr) (n c : Nat) (q : Int) (w : World) (h : Steps w w.heap.size A n (markL q n)) (q0 : 0 ≤ q) (q1 : q ≤ 3000000) (hn1 : n ≤ 2000000) :
    Calls Try.prog 25 #[.slice A n c, .int .i64 q] w fun e w' => e = .returned (.int .i64 (q + 2 * n)) ∧ w = w' := by
  have H := Lib.hid h
  clear h
  go_enter Try.func25, Try.ntmps25
  go_wp2
  go_loop [1, 5] (fun x i => ∃ k : Nat, k ≤ n ∧ i = .int .i64 k ∧ x = .int .i64 (q + 2 * k)) (fun _ i => n - (intOf i).toNat)
  case atStart => exact ⟨0, Nat.zero_le _, rfl, by simp⟩
  case round =>
    obtain ⟨k, hk, rfl, rfl⟩ := hrel
    by_cases hlt : k < n
    · obtain ⟨b, o, x, y, rfl, _, hx, hc1, hc2⟩ := H.out.at_ hlt
      rw [markL_at q hlt] at hx
      obtain ⟨rfl, rfl⟩ : q + 2 * (k : Int) = x ∧ q + 2 * (k : Int) + 1 = y := by simpa using hx
      clear hx
      have i1 : (0 : Int) ≤ (k : Int) := Int.natCast_nonneg _
      have i2 : (k : Int) < (n : Int) := by omega
      go_wp2
      exact ⟨⟨k + 1, by omega, by go_num, ret_val (by omega)⟩, by simp [intOf]; omega⟩
    · obtain rfl : k = n := by omega
      go_wp2
      go_ret
      exact ⟨rfl, rfl⟩
end Go.Proofs.Ytiaineljcmjfoaa
