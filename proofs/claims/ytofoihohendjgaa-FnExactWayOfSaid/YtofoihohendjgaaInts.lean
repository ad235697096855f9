/- Walks of the three functions on slices of integers that the laws use: are they equal, mark them, are they still marked. -/
import Derived.Test.YtofoihohendjgaaProg
import Derived.Test.YtofoihohendjgaaKit
import Derived.Test.YtofoihohendjgaaMem
namespace Go.Proofs.Ytofoihohendjgaa
open Go.RowKit Go.WideShapes Go.ChangeShapes Go.Joins Go.Deep Go.Sort
set_option linter.unusedVariables false

set_option maxHeartbeats 400000 in
theorem eqInt64S_same (A A' : Option Addr) (n c c' B B' : Nat) (zs : List Int) (w : World) (h : Reads w B 1 A n (ints zs)) (h' : Reads w B' 1 A' n (ints zs)) (hn : n ≤ maxLen) :
    Calls Try.prog 20 #[.slice A n c, .slice A' n c'] w fun e w' => e = .returned (.bool true) ∧ Below w.heap.size w w' := by
  unfold maxLen at hn
  have H := Lib.hid h
  have H' := Lib.hid h'
  clear h h'
  go_enter Try.func20, Try.ntmps20
  go_wp2
  go_loopw [5] (fun i wr => ∃ k : Nat, k ≤ n ∧ i = .int .i64 k ∧ Hid (∃ m, wr = w.drewN m)) (fun i _ => n - (intOf i).toNat)
  case atStart => exact ⟨0, Nat.zero_le _, rfl, 0, rfl⟩
  case round =>
    obtain ⟨k, hk, rfl, HM⟩ := hrel
    obtain ⟨m, rfl⟩ := HM.out
    clear HM
    by_cases hlt : k < n
    · obtain ⟨ad, u, rfl, _, hx, hc⟩ := H.out.at_ hlt
      obtain ⟨ad', u', rfl, _, hx', hc'⟩ := H'.out.at_ hlt
      obtain rfl := ints_at hx
      obtain rfl := ints_at hx'
      clear hx hx'
      have i1 : (0 : Int) ≤ (k : Int) := Int.natCast_nonneg _
      have i2 : (k : Int) < (n : Int) := by omega
      go_wp2
      go_quiet (fail)
      go_wp2
      exact ⟨⟨k + 1, by omega, by go_num, _, rfl⟩, by simp [intOf]; omega⟩
    · go_wp2
      go_ret
      exact ⟨rfl, below_draws _ _ _⟩

theorem heldInt64S_any (A : Option Addr) (n c B : Nat) (q : Int) (w : World) (h : Reads w B 1 A n (ints (marks q n))) (hn : n ≤ maxLen) (q0 : 0 ≤ q) (q1 : q ≤ 1000000) (hn1 : n ≤ 1000000) :
    Calls Try.prog 22 #[.slice A n c, .int .i64 q] w fun e w' => e = .returned (.int .i64 (q + n)) ∧ w = w' := by
  unfold maxLen at hn
  have H := Lib.hid h
  clear h
  go_enter Try.func22, Try.ntmps22
  go_wp2
  go_loop [1, 5] (fun x i => ∃ k : Nat, k ≤ n ∧ i = .int .i64 k ∧ x = .int .i64 (q + k)) (fun _ i => n - (intOf i).toNat)
  case atStart => exact ⟨0, Nat.zero_le _, rfl, by simp⟩
  case round =>
    obtain ⟨k, hk, rfl, rfl⟩ := hrel
    by_cases hlt : k < n
    · obtain ⟨ad, u, rfl, _, hx, hc⟩ := H.out.at_ hlt
      obtain rfl := ints_at hx
      rw [marks_getD _ _ _ hlt] at hc
      clear hx
      have i1 : (0 : Int) ≤ (k : Int) := Int.natCast_nonneg _
      have i2 : (k : Int) < (n : Int) := by omega
      go_wp2
      exact ⟨⟨k + 1, by omega, by go_num, ret_val (by omega)⟩, by simp [intOf]; omega⟩
    · obtain rfl : k = n := by omega
      go_wp2
      go_ret
      exact ⟨rfl, rfl⟩
theorem markInt64S_any (base : Nat) (A : Option Addr) (n c : Nat) (zs : List Int) (q : Int) (w : World) (h : w.ownsRow base 2 1 (.slice A n c) n (ints zs)) (q0 : 0 ≤ q) (q1 : q ≤ 1000000) (hn1 : n ≤ 1000000) :
    Calls Try.prog 21 #[.slice A n c, .int .i64 q] w fun e w' => e = .returned (.int .i64 (q + n)) ∧ w'.ownsRow base 2 1 (.slice A n c) n (ints (marks q n)) ∧ w.grownBy w' (Value.ownBlock (.slice A n c)) := by
  have hz : zs.length = n := by have := h.1; simpa [ints] using this
  have H := Lib.hid h
  clear h
  go_enter Try.func21, Try.ntmps21
  go_wp2
  go_loopw [1, 5] (fun x i wr => ∃ k : Nat, k ≤ n ∧ i = .int .i64 k ∧ x = .int .i64 (q + k) ∧ Hid (wr.ownsRow base 2 1 (.slice A n c) n (ints (marks q k ++ zs.drop k)) ∧ w.grownBy wr (Value.ownBlock (.slice A n c)))) (fun _ i _ => n - (intOf i).toNat)
  case atStart => exact ⟨0, Nat.zero_le _, rfl, by simp, by simpa [marks] using H.out, World.grownBy.refl _ _⟩
  case round =>
    obtain ⟨k, hk, rfl, rfl, HR⟩ := hrel
    by_cases hlt : k < n
    · obtain ⟨g, cap, hv, hg1, hg2⟩ := HR.out.1.form (by omega)
      injection hv with e1 e2 e3
      subst e1 e3
      have hcell : wr.cell? ⟨g, k, none⟩ = (ints (marks q k ++ zs.drop k))[k]? := HR.out.1.cellAt k (by omega)
      have hfz : wr.frozen? ⟨g, k, none⟩ = false := HR.out.1.frozenAt k
      obtain ⟨u, hu⟩ : ∃ u, (ints (marks q k ++ zs.drop k))[k]? = some u := ⟨_, List.getElem?_eq_getElem (by simp [ints, marks_length]; omega)⟩
      rw [hu] at hcell
      clear hu
      have i1 : (0 : Int) ≤ (k : Int) := Int.natCast_nonneg _
      have i2 : (k : Int) < (n : Int) := by omega
      go_wp2
      have ho := HR.out.1.stored k (.int .i64 (q + k))
      refine ⟨⟨k + 1, by omega, by go_num, ret_val (by omega), ⟨?_, grown_trans HR.out.2 ho.2⟩⟩, by simp [intOf]; omega⟩
      rw [← marks_step q k (by omega)]
      exact ho.1
    · obtain rfl : k = n := by omega
      go_wp2
      go_ret
      exact ⟨rfl, by have := HR.out.1; rwa [← hz, List.drop_length, List.append_nil, hz] at this, HR.out.2⟩
end Go.Proofs.Ytofoihohendjgaa
