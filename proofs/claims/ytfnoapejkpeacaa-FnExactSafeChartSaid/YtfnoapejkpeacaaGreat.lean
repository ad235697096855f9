/- The greatest load of a base: the search down by fifty; its law. -/
import Derived.Test.YtfnoapejkpeacaaProg
import Derived.Test.YtfnoapejkpeacaaKit
import Derived.Test.YtfnoapejkpeacaaBasics
import Derived.Test.YtfnoapejkpeacaaBases
import Derived.Test.YtfnoapejkpeacaaCodeRes
import Derived.Test.YtfnoapejkpeacaaMoments
import Derived.Test.YtfnoapejkpeacaaBaseLaws
import Derived.Test.YtfnoapejkpeacaaMem
namespace Go.Proofs.Ytfnoapejkpeacaa
open Go.RowKit Go.WideShapes Go.ChangeShapes Go.Joins Go.Deep Go.Sort
set_option linter.unusedVariables false
set_option linter.unusedSimpArgs false
def loadDown (f : Int → Bool) : Nat → Int
  | 0 => if f 0 then 0 else -1
  | k + 1 => if f (50 * ((k + 1 : Nat) : Int)) then 50 * ((k + 1 : Nat) : Int) else loadDown f k
theorem loadDown_hit {f : Int → Bool} {k : Nat} (h : f (50 * (k : Int)) = true) : loadDown f k = 50 * (k : Int) := by
  cases k with
  | zero => unfold loadDown; rw [if_pos (by simpa using h)]; rfl
  | succ k => unfold loadDown; rw [if_pos h]
theorem loadDown_miss {f : Int → Bool} {k : Nat} (h : f (50 * ((k + 1 : Nat) : Int)) = false) : loadDown f (k + 1) = loadDown f k := by
  conv => lhs; unfold loadDown
  rw [h]; rfl
theorem loadDown_zero {f : Int → Bool} (h : f (50 * ((0 : Nat) : Int)) = false) : loadDown f 0 = -1 := by
  unfold loadDown; rw [if_neg (by simp at h; simp [h])]
theorem loadDown_range {f : Int → Bool} (k : Nat) : loadDown f k = -1 ∨ (0 ≤ loadDown f k ∧ loadDown f k ≤ 50 * (k : Int)) := by
  induction k with
  | zero => unfold loadDown; split <;> simp
  | succ k ih =>
    unfold loadDown
    split
    · right; omega
    · omega
def greatZ (side mass ball jm ja ct ca radius percent : Int) : Int := loadDown (fun l => stableB side mass ball jm ja ct ca l radius percent) 1000
theorem in_load {j : Nat} (h : j ≤ 1000) : inB (50 * (j : Int)) 0 50000 = true := by unfold inB; simp; omega
theorem great_range (side mass ball jm ja ct ca radius percent : Int) : greatZ side mass ball jm ja ct ca radius percent = -1 ∨ (0 ≤ greatZ side mass ball jm ja ct ca radius percent ∧ greatZ side mass ball jm ja ct ca radius percent ≤ 50000) := by
  have := loadDown_range (f := fun l => stableB side mass ball jm ja ct ca l radius percent) 1000
  unfold greatZ; omega
def greatRes (v : Int) : Value := if v < 0 then .tuple #[.int .i64 0, .bool false] else .tuple #[.int .i64 v, .bool true]
theorem greatRes_neg {v : Int} (h : v < 0) : greatRes v = .tuple #[.int .i64 0, .bool false] := if_pos h
theorem greatRes_pos {v : Int} (h : ¬ v < 0) : greatRes v = .tuple #[.int .i64 v, .bool true] := if_neg h
theorem ret_int' {a b : Int} (h : a = b) : (Value.int .i64 a) = .int .i64 b := by rw [h]
set_option maxHeartbeats 1000000 in
theorem greatestLoad_any (side mass ball jm ja ct ca radius percent : Int) (w : World) (h : baseB side mass ball jm ja ct ca = true) (r : inB radius 0 1000 = true) (p : inB percent 100 1000 = true) : Calls Try.prog 52 #[.agg #[.int .i64 side, .int .i64 mass, .int .i64 ball, .int .i64 jm, .int .i64 ja, .int .i64 ct, .int .i64 ca], .int .i64 radius, .int .i64 percent] w fun e w' => e = .returned ((greatRes (greatZ side mass ball jm ja ct ca radius percent))) ∧ Below w.heap.size w w' := by
  have X := Lib.hid h
  have Z := Lib.hid r
  have P := Lib.hid p
  clear h r p
  go_enter Try.func52, Try.ntmps52
  go_wp2_with fail
  go_loopw [8] (fun l wr => ∃ k : Int, -1 ≤ k ∧ k ≤ 1000 ∧ l = .int .i64 (50 * k) ∧ Below (w.alloc (.cells #[.int .i64 side, .int .i64 mass, .int .i64 ball, .int .i64 jm, .int .i64 ja, .int .i64 ct, .int .i64 ca] 26)).heap.size (w.alloc (.cells #[.int .i64 side, .int .i64 mass, .int .i64 ball, .int .i64 jm, .int .i64 ja, .int .i64 ct, .int .i64 ca] 26)) wr ∧ Hid (greatZ side mass ball jm ja ct ca radius percent = if k < 0 then -1 else loadDown (fun l => stableB side mass ball jm ja ct ca l radius percent) k.toNat)) (fun l _ => (intOf l + 50).toNat)
  case atStart => exact ⟨1000, by omega, by omega, rfl, Below.refl _ _, by show greatZ _ _ _ _ _ _ _ _ _ = _; rw [if_neg (by omega)]; rfl⟩
  case round =>
    obtain ⟨k, hk0, hk1, rfl, HB, HE⟩ := hrel
    by_cases hkn : 0 ≤ k
    · obtain ⟨j, rfl⟩ := Int.eq_ofNat_of_zero_le hkn
      have he := HE.out
      rw [if_neg (by omega), Int.toNat_natCast] at he
      have hi := in_load (j := j) (by omega)
      cases hh : stableB side mass ball jm ja ct ca (50 * (j : Int)) radius percent
      · have E : Hid (greatZ side mass ball jm ja ct ca radius percent = if (j : Int) - 1 < 0 then -1 else loadDown (fun l => stableB side mass ball jm ja ct ca l radius percent) ((j : Int) - 1).toNat) := by
          show greatZ _ _ _ _ _ _ _ _ _ = _
          rw [he]
          cases j with
          | zero => rw [loadDown_zero hh]; rfl
          | succ i => rw [loadDown_miss hh, if_neg (by omega), show (((i + 1 : Nat) : Int) - 1).toNat = i by omega]
        have FC : Hid (∀ w', Calls Try.prog 45 #[.agg #[.int .i64 side, .int .i64 mass, .int .i64 ball, .int .i64 jm, .int .i64 ja, .int .i64 ct, .int .i64 ca], .int .i64 (50 * (j : Int)), .int .i64 radius, .int .i64 percent] w' fun e w'' => e = .returned (.bool false) ∧ Below w'.heap.size w' w'') := fun w' => by rw [← hh]; exact stable_any side mass ball jm ja ct ca (50 * (j : Int)) radius percent w' X.out hi Z.out P.out
        clear he hh hi
        obtain ⟨a0, a1, a2, a3, a4, a5, a6⟩ := ((Blk.new w 26 #[.int .i64 side, .int .i64 mass, .int .i64 ball, .int .i64 jm, .int .i64 ja, .int .i64 ct, .int .i64 ca]).on HB).seven
        go_wp2_with fail
        refine (FC.out _).mono ?_
        rintro e w3 ⟨rfl, hb3⟩
        clear a0 a1 a2 a3 a4 a5 a6
        have B3 := HB.trans (hb3.mono HB.size)
        clear hb3 HB
        go_wp2
        exact ⟨⟨(j : Int) - 1, by omega, by omega, ret_int' (by omega), B3, E⟩, by simp [intOf] <;> omega⟩
      · have E := Lib.hid (he.trans (loadDown_hit hh))
        have FC : Hid (∀ w', Calls Try.prog 45 #[.agg #[.int .i64 side, .int .i64 mass, .int .i64 ball, .int .i64 jm, .int .i64 ja, .int .i64 ct, .int .i64 ca], .int .i64 (50 * (j : Int)), .int .i64 radius, .int .i64 percent] w' fun e w'' => e = .returned (.bool true) ∧ Below w'.heap.size w' w'') := fun w' => by rw [← hh]; exact stable_any side mass ball jm ja ct ca (50 * (j : Int)) radius percent w' X.out hi Z.out P.out
        clear he hh hi
        obtain ⟨a0, a1, a2, a3, a4, a5, a6⟩ := ((Blk.new w 26 #[.int .i64 side, .int .i64 mass, .int .i64 ball, .int .i64 jm, .int .i64 ja, .int .i64 ct, .int .i64 ca]).on HB).seven
        go_wp2_with fail
        refine (FC.out _).mono ?_
        rintro e w3 ⟨rfl, hb3⟩
        clear a0 a1 a2 a3 a4 a5 a6
        have B3 := HB.trans (hb3.mono HB.size)
        clear hb3 HB
        go_wp2
        go_ret2
        exact ⟨by rw [E.out, greatRes_pos (by omega)]; rfl, (below_alloc1 w _).trans (B3.mono (below_alloc1 w _).size)⟩
    · have he := HE.out
      rw [if_pos (by omega)] at he
      have E := Lib.hid he
      clear he
      go_wp2
      go_ret2
      exact ⟨by rw [E.out, greatRes_neg (by omega)] <;> rfl, (below_alloc1 w _).trans (HB.mono (below_alloc1 w _).size)⟩
set_option maxHeartbeats 1000000 in
theorem l06Load_any (side mass ball jm ja ct ca radius percent : Int) (g : Nat) (w : World) (h : baseB side mass ball jm ja ct ca = true) (r : inB radius 0 1000 = true) (p : inB percent 100 1000 = true) (c0 : w.cell? ⟨g, 0, none⟩ = some (.int .i64 side)) (c1 : w.cell? ⟨g, 1, none⟩ = some (.int .i64 mass)) (c2 : w.cell? ⟨g, 2, none⟩ = some (.int .i64 ball)) (c3 : w.cell? ⟨g, 3, none⟩ = some (.int .i64 jm)) (c4 : w.cell? ⟨g, 4, none⟩ = some (.int .i64 ja)) (c5 : w.cell? ⟨g, 5, none⟩ = some (.int .i64 ct)) (c6 : w.cell? ⟨g, 6, none⟩ = some (.int .i64 ca)) : Calls Try.prog 51 #[.pointer (some ⟨g, 0, none⟩), .int .i64 radius, .int .i64 percent] w fun e w' => e = .returned (.int .i64 (greatZ side mass ball jm ja ct ca radius percent)) ∧ Below w.heap.size w w' := by
  have hc : ∀ w', Below w.heap.size w w' → w'.cell? ⟨g, 0, none⟩ = some (.int .i64 side) ∧ w'.cell? ⟨g, 1, none⟩ = some (.int .i64 mass) ∧ w'.cell? ⟨g, 2, none⟩ = some (.int .i64 ball) ∧ w'.cell? ⟨g, 3, none⟩ = some (.int .i64 jm) ∧ w'.cell? ⟨g, 4, none⟩ = some (.int .i64 ja) ∧ w'.cell? ⟨g, 5, none⟩ = some (.int .i64 ct) ∧ w'.cell? ⟨g, 6, none⟩ = some (.int .i64 ca) := fun w' hb => ⟨(hb.cell (World.block_lt_of_cell? _ _ c0)).trans c0, (hb.cell (World.block_lt_of_cell? _ _ c1)).trans c1, (hb.cell (World.block_lt_of_cell? _ _ c2)).trans c2, (hb.cell (World.block_lt_of_cell? _ _ c3)).trans c3, (hb.cell (World.block_lt_of_cell? _ _ c4)).trans c4, (hb.cell (World.block_lt_of_cell? _ _ c5)).trans c5, (hb.cell (World.block_lt_of_cell? _ _ c6)).trans c6⟩
  have HC := Lib.hid hc
  clear hc c0 c1 c2 c3 c4 c5 c6
  have X := Lib.hid h
  have Z := Lib.hid r
  have P := Lib.hid p
  clear h r p
  go_enter Try.func51, Try.ntmps51
  go_wp2_with fail
  go_loopw [7] (fun l wr => ∃ k : Int, -1 ≤ k ∧ k ≤ 1000 ∧ l = .int .i64 (50 * k) ∧ Below w.heap.size w wr ∧ Hid (greatZ side mass ball jm ja ct ca radius percent = if k < 0 then -1 else loadDown (fun l => stableB side mass ball jm ja ct ca l radius percent) k.toNat)) (fun l _ => (intOf l + 50).toNat)
  case atStart => exact ⟨1000, by omega, by omega, rfl, Below.refl _ _, by show greatZ _ _ _ _ _ _ _ _ _ = _; rw [if_neg (by omega)]; rfl⟩
  case round =>
    obtain ⟨k, hk0, hk1, rfl, HB, HE⟩ := hrel
    by_cases hkn : 0 ≤ k
    · obtain ⟨j, rfl⟩ := Int.eq_ofNat_of_zero_le hkn
      have he := HE.out
      rw [if_neg (by omega), Int.toNat_natCast] at he
      have hi := in_load (j := j) (by omega)
      cases hh : stableB side mass ball jm ja ct ca (50 * (j : Int)) radius percent
      · have E : Hid (greatZ side mass ball jm ja ct ca radius percent = if (j : Int) - 1 < 0 then -1 else loadDown (fun l => stableB side mass ball jm ja ct ca l radius percent) ((j : Int) - 1).toNat) := by
          show greatZ _ _ _ _ _ _ _ _ _ = _
          rw [he]
          cases j with
          | zero => rw [loadDown_zero hh]; rfl
          | succ i => rw [loadDown_miss hh, if_neg (by omega), show (((i + 1 : Nat) : Int) - 1).toNat = i by omega]
        have FC : Hid (∀ w', Below w.heap.size w w' → Calls Try.prog 44 #[.pointer (some ⟨g, 0, none⟩), .int .i64 (50 * (j : Int)), .int .i64 radius, .int .i64 percent] w' fun e w'' => e = .returned (.bool false) ∧ Below w'.heap.size w' w'') := fun w' hb => by obtain ⟨c0, c1, c2, c3, c4, c5, c6⟩ := HC.out w' hb; rw [← hh]; exact l06Stable_any side mass ball jm ja ct ca (50 * (j : Int)) radius percent g w' X.out hi Z.out P.out c0 c1 c2 c3 c4 c5 c6
        clear he hh hi
        go_wp2_with fail
        refine (FC.out _ HB).mono ?_
        rintro e w3 ⟨rfl, hb3⟩
        have B3 := HB.trans (hb3.mono HB.size)
        clear hb3 HB
        go_wp2
        exact ⟨⟨(j : Int) - 1, by omega, by omega, ret_int' (by omega), B3, E⟩, by simp [intOf] <;> omega⟩
      · have E := Lib.hid (he.trans (loadDown_hit hh))
        have FC : Hid (∀ w', Below w.heap.size w w' → Calls Try.prog 44 #[.pointer (some ⟨g, 0, none⟩), .int .i64 (50 * (j : Int)), .int .i64 radius, .int .i64 percent] w' fun e w'' => e = .returned (.bool true) ∧ Below w'.heap.size w' w'') := fun w' hb => by obtain ⟨c0, c1, c2, c3, c4, c5, c6⟩ := HC.out w' hb; rw [← hh]; exact l06Stable_any side mass ball jm ja ct ca (50 * (j : Int)) radius percent g w' X.out hi Z.out P.out c0 c1 c2 c3 c4 c5 c6
        clear he hh hi
        go_wp2_with fail
        refine (FC.out _ HB).mono ?_
        rintro e w3 ⟨rfl, hb3⟩
        have B3 := HB.trans (hb3.mono HB.size)
        clear hb3 HB
        go_wp2
        go_ret
        exact ⟨by rw [E.out] <;> rfl, B3⟩
    · have he := HE.out
      rw [if_pos (by omega)] at he
      have E := Lib.hid he
      clear he
      go_wp2
      go_ret
      exact ⟨by rw [E.out] <;> rfl, HB⟩
def resGreatestLoad (side mass ball jm ja ct ca radius percent : Int) : Value := codeRes (baseB side mass ball jm ja ct ca) (inB radius 0 1000 && inB percent 100 1000) (if greatZ side mass ball jm ja ct ca radius percent < 0 then .tuple #[.int .i64 0, .int .i64 3] else .tuple #[.int .i64 (greatZ side mass ball jm ja ct ca radius percent), .int .i64 0]) (.int .i64 0)
set_option maxHeartbeats 1000000 in
theorem implGreatestLoad_any (side mass ball jm ja ct ca radius percent : Int) (w : World) : Calls Try.prog 27 #[.agg #[.int .i64 side, .int .i64 mass, .int .i64 ball, .int .i64 jm, .int .i64 ja, .int .i64 ct, .int .i64 ca], .int .i64 radius, .int .i64 percent] w fun e w' => e = .returned (resGreatestLoad side mass ball jm ja ct ca radius percent) ∧ Below w.heap.size w w' := by
  cases h0 : baseB side mass ball jm ja ct ca
  · have E : resGreatestLoad side mass ball jm ja ct ca radius percent = .tuple #[.int .i64 0, .int .i64 1] := by unfold resGreatestLoad codeRes; simp [h0]
    rw [E]; clear E
    have C : ∀ w, Calls Try.prog 39 #[.agg #[.int .i64 side, .int .i64 mass, .int .i64 ball, .int .i64 jm, .int .i64 ja, .int .i64 ct, .int .i64 ca], .int .i64 0, .int .i64 radius, .int .i64 percent] w fun e w' => e = .returned (.int .i64 1) ∧ Below w.heap.size w w' := fun w => by have := baseCode_any side mass ball jm ja ct ca 0 radius percent w; simpa [codeV, h0, in_l0] using this
    have HC := Lib.hid C
    clear C
    clear h0
    go_enter Try.func27, Try.ntmps27
    go_wp2_with fail
    refine (HC.out _).mono ?_
    rintro e w1 ⟨rfl, hb1⟩
    have KA1 := (Blk.new w _ _).on hb1
    have B1 := (below_alloc1 w _).trans (hb1.mono (below_alloc1 w _).size)
    clear hb1
    go_wp2
    go_ret2
    exact ⟨rfl, B1⟩
  · skip
    cases h1 : inB radius 0 1000
    · have E : resGreatestLoad side mass ball jm ja ct ca radius percent = .tuple #[.int .i64 0, .int .i64 2] := by unfold resGreatestLoad codeRes; simp [h0, h1]
      rw [E]; clear E
      have C : ∀ w, Calls Try.prog 39 #[.agg #[.int .i64 side, .int .i64 mass, .int .i64 ball, .int .i64 jm, .int .i64 ja, .int .i64 ct, .int .i64 ca], .int .i64 0, .int .i64 radius, .int .i64 percent] w fun e w' => e = .returned (.int .i64 2) ∧ Below w.heap.size w w' := fun w => by have := baseCode_any side mass ball jm ja ct ca 0 radius percent w; simpa [codeV, h0, h1, in_l0] using this
      have HC := Lib.hid C
      clear C
      clear h0 h1
      go_enter Try.func27, Try.ntmps27
      go_wp2_with fail
      refine (HC.out _).mono ?_
      rintro e w1 ⟨rfl, hb1⟩
      have KA1 := (Blk.new w _ _).on hb1
      have B1 := (below_alloc1 w _).trans (hb1.mono (below_alloc1 w _).size)
      clear hb1
      go_wp2
      go_ret2
      exact ⟨rfl, B1⟩
    · skip
      cases h2 : inB percent 100 1000
      · have E : resGreatestLoad side mass ball jm ja ct ca radius percent = .tuple #[.int .i64 0, .int .i64 2] := by unfold resGreatestLoad codeRes; simp [h0, h1, h2]
        rw [E]; clear E
        have C : ∀ w, Calls Try.prog 39 #[.agg #[.int .i64 side, .int .i64 mass, .int .i64 ball, .int .i64 jm, .int .i64 ja, .int .i64 ct, .int .i64 ca], .int .i64 0, .int .i64 radius, .int .i64 percent] w fun e w' => e = .returned (.int .i64 2) ∧ Below w.heap.size w w' := fun w => by have := baseCode_any side mass ball jm ja ct ca 0 radius percent w; simpa [codeV, h0, h1, h2, in_l0] using this
        have HC := Lib.hid C
        clear C
        clear h0 h1 h2
        go_enter Try.func27, Try.ntmps27
        go_wp2_with fail
        refine (HC.out _).mono ?_
        rintro e w1 ⟨rfl, hb1⟩
        have KA1 := (Blk.new w _ _).on hb1
        have B1 := (below_alloc1 w _).trans (hb1.mono (below_alloc1 w _).size)
        clear hb1
        go_wp2
        go_ret2
        exact ⟨rfl, B1⟩
      · by_cases hg0 : greatZ side mass ball jm ja ct ca radius percent < 0
        · have hg := hg0
          have E : resGreatestLoad side mass ball jm ja ct ca radius percent = .tuple #[.int .i64 0, .int .i64 3] := by unfold resGreatestLoad; rw [h0, h1, h2, Bool.true_and, codeRes_tt, if_pos hg]
          rw [E]; clear E
          have C : ∀ w, Calls Try.prog 39 #[.agg #[.int .i64 side, .int .i64 mass, .int .i64 ball, .int .i64 jm, .int .i64 ja, .int .i64 ct, .int .i64 ca], .int .i64 0, .int .i64 radius, .int .i64 percent] w fun e w' => e = .returned (.int .i64 0) ∧ Below w.heap.size w w' := fun w => by have := baseCode_any side mass ball jm ja ct ca 0 radius percent w; simpa [codeV, h0, h1, h2, in_l0] using this
          have HC := Lib.hid C
          clear C
          have C2 : ∀ w, Calls Try.prog 52 #[.agg #[.int .i64 side, .int .i64 mass, .int .i64 ball, .int .i64 jm, .int .i64 ja, .int .i64 ct, .int .i64 ca], .int .i64 radius, .int .i64 percent] w fun e w' => e = .returned (.tuple #[.int .i64 0, .bool false]) ∧ Below w.heap.size w w' := fun w => by rw [← greatRes_neg hg]; exact greatestLoad_any side mass ball jm ja ct ca radius percent w h0 h1 h2
          have G2 := Lib.hid C2
          clear C2
          have X0 := Lib.hid h0
          have X1 := Lib.hid h1
          have X2 := Lib.hid h2
          clear h0 h1 h2
          go_enter Try.func27, Try.ntmps27
          go_wp2_with fail
          refine (HC.out _).mono ?_
          rintro e w1 ⟨rfl, hb1⟩
          have KA1 := (Blk.new w _ _).on hb1
          have B1 := (below_alloc1 w _).trans (hb1.mono (below_alloc1 w _).size)
          clear hb1
          obtain ⟨a0, a1, a2, a3, a4, a5, a6⟩ := KA1.seven
          go_wp2_with fail
          refine (G2.out _).mono ?_
          rintro e w2 ⟨rfl, hb2⟩
          clear a0 a1 a2 a3 a4 a5 a6
          have KA2 := KA1.on hb2
          have B2 := B1.trans (hb2.mono B1.size)
          clear hb2 B1 KA1
          obtain ⟨a0, a1, a2, a3, a4, a5, a6⟩ := KA2.seven
          go_wp2
          go_ret2
          exact ⟨rfl, B2⟩
        · have E : resGreatestLoad side mass ball jm ja ct ca radius percent = .tuple #[.int .i64 (greatZ side mass ball jm ja ct ca radius percent), .int .i64 0] := by unfold resGreatestLoad; rw [h0, h1, h2, Bool.true_and, codeRes_tt, if_neg hg0]
          have hg := hg0
          rw [E]; clear E
          have C : ∀ w, Calls Try.prog 39 #[.agg #[.int .i64 side, .int .i64 mass, .int .i64 ball, .int .i64 jm, .int .i64 ja, .int .i64 ct, .int .i64 ca], .int .i64 0, .int .i64 radius, .int .i64 percent] w fun e w' => e = .returned (.int .i64 0) ∧ Below w.heap.size w w' := fun w => by have := baseCode_any side mass ball jm ja ct ca 0 radius percent w; simpa [codeV, h0, h1, h2, in_l0] using this
          have HC := Lib.hid C
          clear C
          have C2 : ∀ w, Calls Try.prog 52 #[.agg #[.int .i64 side, .int .i64 mass, .int .i64 ball, .int .i64 jm, .int .i64 ja, .int .i64 ct, .int .i64 ca], .int .i64 radius, .int .i64 percent] w fun e w' => e = .returned (.tuple #[.int .i64 (greatZ side mass ball jm ja ct ca radius percent), .bool true]) ∧ Below w.heap.size w w' := fun w => by rw [← greatRes_pos hg]; exact greatestLoad_any side mass ball jm ja ct ca radius percent w h0 h1 h2
          have G2 := Lib.hid C2
          clear C2
          have X0 := Lib.hid h0
          have X1 := Lib.hid h1
          have X2 := Lib.hid h2
          clear h0 h1 h2
          go_enter Try.func27, Try.ntmps27
          go_wp2_with fail
          refine (HC.out _).mono ?_
          rintro e w1 ⟨rfl, hb1⟩
          have KA1 := (Blk.new w _ _).on hb1
          have B1 := (below_alloc1 w _).trans (hb1.mono (below_alloc1 w _).size)
          clear hb1
          obtain ⟨a0, a1, a2, a3, a4, a5, a6⟩ := KA1.seven
          go_wp2_with fail
          refine (G2.out _).mono ?_
          rintro e w2 ⟨rfl, hb2⟩
          clear a0 a1 a2 a3 a4 a5 a6
          have KA2 := KA1.on hb2
          have B2 := B1.trans (hb2.mono B1.size)
          clear hb2 B1 KA1
          obtain ⟨a0, a1, a2, a3, a4, a5, a6⟩ := KA2.seven
          go_wp2
          go_ret2
          exact ⟨rfl, B2⟩
set_option maxHeartbeats 1000000 in
theorem specGreatestLoad_any (side mass ball jm ja ct ca radius percent : Int) (w : World) : Calls Try.prog 26 #[.agg #[.int .i64 side, .int .i64 mass, .int .i64 ball, .int .i64 jm, .int .i64 ja, .int .i64 ct, .int .i64 ca], .int .i64 radius, .int .i64 percent] w fun e w' => e = .returned (resGreatestLoad side mass ball jm ja ct ca radius percent) ∧ Below w.heap.size w w' := by
  cases h0 : baseB side mass ball jm ja ct ca
  · have E : resGreatestLoad side mass ball jm ja ct ca radius percent = .tuple #[.int .i64 0, .int .i64 1] := by unfold resGreatestLoad codeRes; simp [h0]
    rw [E]; clear E
    have C := l06Asked_any side mass ball jm ja ct ca 0 radius percent w.heap.size _ (Blk.new w 26 #[.int .i64 side, .int .i64 mass, .int .i64 ball, .int .i64 jm, .int .i64 ja, .int .i64 ct, .int .i64 ca]).seven.1 (Blk.new w 26 #[.int .i64 side, .int .i64 mass, .int .i64 ball, .int .i64 jm, .int .i64 ja, .int .i64 ct, .int .i64 ca]).seven.2.1 (Blk.new w 26 #[.int .i64 side, .int .i64 mass, .int .i64 ball, .int .i64 jm, .int .i64 ja, .int .i64 ct, .int .i64 ca]).seven.2.2.1 (Blk.new w 26 #[.int .i64 side, .int .i64 mass, .int .i64 ball, .int .i64 jm, .int .i64 ja, .int .i64 ct, .int .i64 ca]).seven.2.2.2.1 (Blk.new w 26 #[.int .i64 side, .int .i64 mass, .int .i64 ball, .int .i64 jm, .int .i64 ja, .int .i64 ct, .int .i64 ca]).seven.2.2.2.2.1 (Blk.new w 26 #[.int .i64 side, .int .i64 mass, .int .i64 ball, .int .i64 jm, .int .i64 ja, .int .i64 ct, .int .i64 ca]).seven.2.2.2.2.2.1 (Blk.new w 26 #[.int .i64 side, .int .i64 mass, .int .i64 ball, .int .i64 jm, .int .i64 ja, .int .i64 ct, .int .i64 ca]).seven.2.2.2.2.2.2
    have C' : Calls Try.prog 43 #[.pointer (some ⟨w.heap.size, 0, none⟩), .int .i64 0, .int .i64 radius, .int .i64 percent] (w.alloc (.cells #[.int .i64 side, .int .i64 mass, .int .i64 ball, .int .i64 jm, .int .i64 ja, .int .i64 ct, .int .i64 ca] 26)) fun e w' => e = .returned (.int .i64 1) ∧ w.alloc (.cells #[.int .i64 side, .int .i64 mass, .int .i64 ball, .int .i64 jm, .int .i64 ja, .int .i64 ct, .int .i64 ca] 26) = w' := by simpa [codeV, h0, in_l0] using C
    have HC := Lib.hid C'
    clear C C'
    clear h0
    go_enter Try.func26, Try.ntmps26
    go_wp2_with fail
    refine HC.out.mono ?_
    rintro e w' ⟨rfl, rfl⟩
    go_wp2
    go_ret2
    exact ⟨rfl, below_alloc1 w _⟩
  · skip
    cases h1 : inB radius 0 1000
    · have E : resGreatestLoad side mass ball jm ja ct ca radius percent = .tuple #[.int .i64 0, .int .i64 2] := by unfold resGreatestLoad codeRes; simp [h0, h1]
      rw [E]; clear E
      have C := l06Asked_any side mass ball jm ja ct ca 0 radius percent w.heap.size _ (Blk.new w 26 #[.int .i64 side, .int .i64 mass, .int .i64 ball, .int .i64 jm, .int .i64 ja, .int .i64 ct, .int .i64 ca]).seven.1 (Blk.new w 26 #[.int .i64 side, .int .i64 mass, .int .i64 ball, .int .i64 jm, .int .i64 ja, .int .i64 ct, .int .i64 ca]).seven.2.1 (Blk.new w 26 #[.int .i64 side, .int .i64 mass, .int .i64 ball, .int .i64 jm, .int .i64 ja, .int .i64 ct, .int .i64 ca]).seven.2.2.1 (Blk.new w 26 #[.int .i64 side, .int .i64 mass, .int .i64 ball, .int .i64 jm, .int .i64 ja, .int .i64 ct, .int .i64 ca]).seven.2.2.2.1 (Blk.new w 26 #[.int .i64 side, .int .i64 mass, .int .i64 ball, .int .i64 jm, .int .i64 ja, .int .i64 ct, .int .i64 ca]).seven.2.2.2.2.1 (Blk.new w 26 #[.int .i64 side, .int .i64 mass, .int .i64 ball, .int .i64 jm, .int .i64 ja, .int .i64 ct, .int .i64 ca]).seven.2.2.2.2.2.1 (Blk.new w 26 #[.int .i64 side, .int .i64 mass, .int .i64 ball, .int .i64 jm, .int .i64 ja, .int .i64 ct, .int .i64 ca]).seven.2.2.2.2.2.2
      have C' : Calls Try.prog 43 #[.pointer (some ⟨w.heap.size, 0, none⟩), .int .i64 0, .int .i64 radius, .int .i64 percent] (w.alloc (.cells #[.int .i64 side, .int .i64 mass, .int .i64 ball, .int .i64 jm, .int .i64 ja, .int .i64 ct, .int .i64 ca] 26)) fun e w' => e = .returned (.int .i64 2) ∧ w.alloc (.cells #[.int .i64 side, .int .i64 mass, .int .i64 ball, .int .i64 jm, .int .i64 ja, .int .i64 ct, .int .i64 ca] 26) = w' := by simpa [codeV, h0, h1, in_l0] using C
      have HC := Lib.hid C'
      clear C C'
      clear h0 h1
      go_enter Try.func26, Try.ntmps26
      go_wp2_with fail
      refine HC.out.mono ?_
      rintro e w' ⟨rfl, rfl⟩
      go_wp2
      go_ret2
      exact ⟨rfl, below_alloc1 w _⟩
    · skip
      cases h2 : inB percent 100 1000
      · have E : resGreatestLoad side mass ball jm ja ct ca radius percent = .tuple #[.int .i64 0, .int .i64 2] := by unfold resGreatestLoad codeRes; simp [h0, h1, h2]
        rw [E]; clear E
        have C := l06Asked_any side mass ball jm ja ct ca 0 radius percent w.heap.size _ (Blk.new w 26 #[.int .i64 side, .int .i64 mass, .int .i64 ball, .int .i64 jm, .int .i64 ja, .int .i64 ct, .int .i64 ca]).seven.1 (Blk.new w 26 #[.int .i64 side, .int .i64 mass, .int .i64 ball, .int .i64 jm, .int .i64 ja, .int .i64 ct, .int .i64 ca]).seven.2.1 (Blk.new w 26 #[.int .i64 side, .int .i64 mass, .int .i64 ball, .int .i64 jm, .int .i64 ja, .int .i64 ct, .int .i64 ca]).seven.2.2.1 (Blk.new w 26 #[.int .i64 side, .int .i64 mass, .int .i64 ball, .int .i64 jm, .int .i64 ja, .int .i64 ct, .int .i64 ca]).seven.2.2.2.1 (Blk.new w 26 #[.int .i64 side, .int .i64 mass, .int .i64 ball, .int .i64 jm, .int .i64 ja, .int .i64 ct, .int .i64 ca]).seven.2.2.2.2.1 (Blk.new w 26 #[.int .i64 side, .int .i64 mass, .int .i64 ball, .int .i64 jm, .int .i64 ja, .int .i64 ct, .int .i64 ca]).seven.2.2.2.2.2.1 (Blk.new w 26 #[.int .i64 side, .int .i64 mass, .int .i64 ball, .int .i64 jm, .int .i64 ja, .int .i64 ct, .int .i64 ca]).seven.2.2.2.2.2.2
        have C' : Calls Try.prog 43 #[.pointer (some ⟨w.heap.size, 0, none⟩), .int .i64 0, .int .i64 radius, .int .i64 percent] (w.alloc (.cells #[.int .i64 side, .int .i64 mass, .int .i64 ball, .int .i64 jm, .int .i64 ja, .int .i64 ct, .int .i64 ca] 26)) fun e w' => e = .returned (.int .i64 2) ∧ w.alloc (.cells #[.int .i64 side, .int .i64 mass, .int .i64 ball, .int .i64 jm, .int .i64 ja, .int .i64 ct, .int .i64 ca] 26) = w' := by simpa [codeV, h0, h1, h2, in_l0] using C
        have HC := Lib.hid C'
        clear C C'
        clear h0 h1 h2
        go_enter Try.func26, Try.ntmps26
        go_wp2_with fail
        refine HC.out.mono ?_
        rintro e w' ⟨rfl, rfl⟩
        go_wp2
        go_ret2
        exact ⟨rfl, below_alloc1 w _⟩
      · by_cases hg0 : greatZ side mass ball jm ja ct ca radius percent < 0
        · have hg := hg0
          have E : resGreatestLoad side mass ball jm ja ct ca radius percent = .tuple #[.int .i64 0, .int .i64 3] := by unfold resGreatestLoad; rw [h0, h1, h2, Bool.true_and, codeRes_tt, if_pos hg]
          rw [E]; clear E
          have C := l06Asked_any side mass ball jm ja ct ca 0 radius percent w.heap.size _ (Blk.new w 26 #[.int .i64 side, .int .i64 mass, .int .i64 ball, .int .i64 jm, .int .i64 ja, .int .i64 ct, .int .i64 ca]).seven.1 (Blk.new w 26 #[.int .i64 side, .int .i64 mass, .int .i64 ball, .int .i64 jm, .int .i64 ja, .int .i64 ct, .int .i64 ca]).seven.2.1 (Blk.new w 26 #[.int .i64 side, .int .i64 mass, .int .i64 ball, .int .i64 jm, .int .i64 ja, .int .i64 ct, .int .i64 ca]).seven.2.2.1 (Blk.new w 26 #[.int .i64 side, .int .i64 mass, .int .i64 ball, .int .i64 jm, .int .i64 ja, .int .i64 ct, .int .i64 ca]).seven.2.2.2.1 (Blk.new w 26 #[.int .i64 side, .int .i64 mass, .int .i64 ball, .int .i64 jm, .int .i64 ja, .int .i64 ct, .int .i64 ca]).seven.2.2.2.2.1 (Blk.new w 26 #[.int .i64 side, .int .i64 mass, .int .i64 ball, .int .i64 jm, .int .i64 ja, .int .i64 ct, .int .i64 ca]).seven.2.2.2.2.2.1 (Blk.new w 26 #[.int .i64 side, .int .i64 mass, .int .i64 ball, .int .i64 jm, .int .i64 ja, .int .i64 ct, .int .i64 ca]).seven.2.2.2.2.2.2
          have C' : Calls Try.prog 43 #[.pointer (some ⟨w.heap.size, 0, none⟩), .int .i64 0, .int .i64 radius, .int .i64 percent] (w.alloc (.cells #[.int .i64 side, .int .i64 mass, .int .i64 ball, .int .i64 jm, .int .i64 ja, .int .i64 ct, .int .i64 ca] 26)) fun e w' => e = .returned (.int .i64 0) ∧ w.alloc (.cells #[.int .i64 side, .int .i64 mass, .int .i64 ball, .int .i64 jm, .int .i64 ja, .int .i64 ct, .int .i64 ca] 26) = w' := by simpa [codeV, h0, h1, h2, in_l0] using C
          have HC := Lib.hid C'
          clear C C'
          have GR := great_range side mass ball jm ja ct ca radius percent
          have X0 := Lib.hid h0
          have X1 := Lib.hid h1
          have X2 := Lib.hid h2
          clear h0 h1 h2
          go_enter Try.func26, Try.ntmps26
          go_wp2_with fail
          refine HC.out.mono ?_
          rintro e w' ⟨rfl, rfl⟩
          go_wp2_with fail
          refine (l06Load_any _ _ _ _ _ _ _ _ _ w.heap.size _ X0.out X1.out X2.out (Blk.new w 26 #[.int .i64 side, .int .i64 mass, .int .i64 ball, .int .i64 jm, .int .i64 ja, .int .i64 ct, .int .i64 ca]).seven.1 (Blk.new w 26 #[.int .i64 side, .int .i64 mass, .int .i64 ball, .int .i64 jm, .int .i64 ja, .int .i64 ct, .int .i64 ca]).seven.2.1 (Blk.new w 26 #[.int .i64 side, .int .i64 mass, .int .i64 ball, .int .i64 jm, .int .i64 ja, .int .i64 ct, .int .i64 ca]).seven.2.2.1 (Blk.new w 26 #[.int .i64 side, .int .i64 mass, .int .i64 ball, .int .i64 jm, .int .i64 ja, .int .i64 ct, .int .i64 ca]).seven.2.2.2.1 (Blk.new w 26 #[.int .i64 side, .int .i64 mass, .int .i64 ball, .int .i64 jm, .int .i64 ja, .int .i64 ct, .int .i64 ca]).seven.2.2.2.2.1 (Blk.new w 26 #[.int .i64 side, .int .i64 mass, .int .i64 ball, .int .i64 jm, .int .i64 ja, .int .i64 ct, .int .i64 ca]).seven.2.2.2.2.2.1 (Blk.new w 26 #[.int .i64 side, .int .i64 mass, .int .i64 ball, .int .i64 jm, .int .i64 ja, .int .i64 ct, .int .i64 ca]).seven.2.2.2.2.2.2).mono ?_
          rintro e w1 ⟨rfl, hb1⟩
          have KA1 := (Blk.new w _ _).on hb1
          have B1 := (below_alloc1 w _).trans (hb1.mono (below_alloc1 w _).size)
          clear hb1
          obtain ⟨a0, a1, a2, a3, a4, a5, a6⟩ := KA1.seven
          go_wp2
          go_ret2
          exact ⟨rfl, B1⟩
        · have E : resGreatestLoad side mass ball jm ja ct ca radius percent = .tuple #[.int .i64 (greatZ side mass ball jm ja ct ca radius percent), .int .i64 0] := by unfold resGreatestLoad; rw [h0, h1, h2, Bool.true_and, codeRes_tt, if_neg hg0]
          have hg := hg0
          rw [E]; clear E
          have C := l06Asked_any side mass ball jm ja ct ca 0 radius percent w.heap.size _ (Blk.new w 26 #[.int .i64 side, .int .i64 mass, .int .i64 ball, .int .i64 jm, .int .i64 ja, .int .i64 ct, .int .i64 ca]).seven.1 (Blk.new w 26 #[.int .i64 side, .int .i64 mass, .int .i64 ball, .int .i64 jm, .int .i64 ja, .int .i64 ct, .int .i64 ca]).seven.2.1 (Blk.new w 26 #[.int .i64 side, .int .i64 mass, .int .i64 ball, .int .i64 jm, .int .i64 ja, .int .i64 ct, .int .i64 ca]).seven.2.2.1 (Blk.new w 26 #[.int .i64 side, .int .i64 mass, .int .i64 ball, .int .i64 jm, .int .i64 ja, .int .i64 ct, .int .i64 ca]).seven.2.2.2.1 (Blk.new w 26 #[.int .i64 side, .int .i64 mass, .int .i64 ball, .int .i64 jm, .int .i64 ja, .int .i64 ct, .int .i64 ca]).seven.2.2.2.2.1 (Blk.new w 26 #[.int .i64 side, .int .i64 mass, .int .i64 ball, .int .i64 jm, .int .i64 ja, .int .i64 ct, .int .i64 ca]).seven.2.2.2.2.2.1 (Blk.new w 26 #[.int .i64 side, .int .i64 mass, .int .i64 ball, .int .i64 jm, .int .i64 ja, .int .i64 ct, .int .i64 ca]).seven.2.2.2.2.2.2
          have C' : Calls Try.prog 43 #[.pointer (some ⟨w.heap.size, 0, none⟩), .int .i64 0, .int .i64 radius, .int .i64 percent] (w.alloc (.cells #[.int .i64 side, .int .i64 mass, .int .i64 ball, .int .i64 jm, .int .i64 ja, .int .i64 ct, .int .i64 ca] 26)) fun e w' => e = .returned (.int .i64 0) ∧ w.alloc (.cells #[.int .i64 side, .int .i64 mass, .int .i64 ball, .int .i64 jm, .int .i64 ja, .int .i64 ct, .int .i64 ca] 26) = w' := by simpa [codeV, h0, h1, h2, in_l0] using C
          have HC := Lib.hid C'
          clear C C'
          have GR := great_range side mass ball jm ja ct ca radius percent
          have X0 := Lib.hid h0
          have X1 := Lib.hid h1
          have X2 := Lib.hid h2
          clear h0 h1 h2
          go_enter Try.func26, Try.ntmps26
          go_wp2_with fail
          refine HC.out.mono ?_
          rintro e w' ⟨rfl, rfl⟩
          go_wp2_with fail
          refine (l06Load_any _ _ _ _ _ _ _ _ _ w.heap.size _ X0.out X1.out X2.out (Blk.new w 26 #[.int .i64 side, .int .i64 mass, .int .i64 ball, .int .i64 jm, .int .i64 ja, .int .i64 ct, .int .i64 ca]).seven.1 (Blk.new w 26 #[.int .i64 side, .int .i64 mass, .int .i64 ball, .int .i64 jm, .int .i64 ja, .int .i64 ct, .int .i64 ca]).seven.2.1 (Blk.new w 26 #[.int .i64 side, .int .i64 mass, .int .i64 ball, .int .i64 jm, .int .i64 ja, .int .i64 ct, .int .i64 ca]).seven.2.2.1 (Blk.new w 26 #[.int .i64 side, .int .i64 mass, .int .i64 ball, .int .i64 jm, .int .i64 ja, .int .i64 ct, .int .i64 ca]).seven.2.2.2.1 (Blk.new w 26 #[.int .i64 side, .int .i64 mass, .int .i64 ball, .int .i64 jm, .int .i64 ja, .int .i64 ct, .int .i64 ca]).seven.2.2.2.2.1 (Blk.new w 26 #[.int .i64 side, .int .i64 mass, .int .i64 ball, .int .i64 jm, .int .i64 ja, .int .i64 ct, .int .i64 ca]).seven.2.2.2.2.2.1 (Blk.new w 26 #[.int .i64 side, .int .i64 mass, .int .i64 ball, .int .i64 jm, .int .i64 ja, .int .i64 ct, .int .i64 ca]).seven.2.2.2.2.2.2).mono ?_
          rintro e w1 ⟨rfl, hb1⟩
          have KA1 := (Blk.new w _ _).on hb1
          have B1 := (below_alloc1 w _).trans (hb1.mono (below_alloc1 w _).size)
          clear hb1
          obtain ⟨a0, a1, a2, a3, a4, a5, a6⟩ := KA1.seven
          go_wp2
          go_ret2
          exact ⟨rfl, B1⟩
set_option maxHeartbeats 1000000 in
theorem FnExactGreatestLoad_walk (side : Int) (_wside : (Lit.int .i64 side).wf = true) (mass : Int) (_wmass : (Lit.int .i64 mass).wf = true) (ball : Int) (_wball : (Lit.int .i64 ball).wf = true) (jm : Int) (_wjm : (Lit.int .i64 jm).wf = true) (ja : Int) (_wja : (Lit.int .i64 ja).wf = true) (ct : Int) (_wct : (Lit.int .i64 ct).wf = true) (ca : Int) (_wca : (Lit.int .i64 ca).wf = true) (radius : Int) (_wradius : (Lit.int .i64 radius).wf = true) (percent : Int) (_wpercent : (Lit.int .i64 percent).wf = true) (w : World) : Calls Try.prog 9 #[.agg #[.int .i64 side, .int .i64 mass, .int .i64 ball, .int .i64 jm, .int .i64 ja, .int .i64 ct, .int .i64 ca], .int .i64 radius, .int .i64 percent] w fun e w' => e = .returned (.bool true) ∧ Below w.heap.size w w' := by
  clear _wside _wmass _wball _wjm _wja _wct _wca _wradius _wpercent
  have F : ∃ (x : Int) (y : Int), resGreatestLoad side mass ball jm ja ct ca radius percent = .tuple #[.int .i64 x, .int .i64 y] := by unfold resGreatestLoad codeRes; repeat (first | exact ⟨_, _, rfl⟩ | split)
  obtain ⟨x, y, F⟩ := F
  have C : ∀ w, Calls Try.prog 26 #[.agg #[.int .i64 side, .int .i64 mass, .int .i64 ball, .int .i64 jm, .int .i64 ja, .int .i64 ct, .int .i64 ca], .int .i64 radius, .int .i64 percent] w fun e w' => e = .returned (.tuple #[.int .i64 x, .int .i64 y]) ∧ Below w.heap.size w w' := fun w => by rw [← F]; exact specGreatestLoad_any side mass ball jm ja ct ca radius percent w
  have H1 := Lib.hid C
  clear C
  have C : ∀ w, Calls Try.prog 27 #[.agg #[.int .i64 side, .int .i64 mass, .int .i64 ball, .int .i64 jm, .int .i64 ja, .int .i64 ct, .int .i64 ca], .int .i64 radius, .int .i64 percent] w fun e w' => e = .returned (.tuple #[.int .i64 x, .int .i64 y]) ∧ Below w.heap.size w w' := fun w => by rw [← F]; exact implGreatestLoad_any side mass ball jm ja ct ca radius percent w
  have H2 := Lib.hid C
  clear C
  clear F
  go_enter Try.func9, Try.ntmps9
  go_wp2_with fail
  refine (toBase_any _ _ _ _ _ _ _ _).mono ?_
  rintro e w1 ⟨rfl, hb1⟩
  have KA1 := (Blk.new w _ _).on hb1
  have B1 := (below_alloc1 w _).trans (hb1.mono (below_alloc1 w _).size)
  clear hb1
  go_wp2_with fail
  refine (H1.out _).mono ?_
  rintro e w2 ⟨rfl, hb2⟩
  have KA2 := KA1.on hb2
  have B2 := B1.trans (hb2.mono B1.size)
  clear hb2 B1 KA1
  obtain ⟨a0, a1, a2, a3, a4, a5, a6⟩ := KA2.seven
  go_wp2_with fail
  refine (toBase_any _ _ _ _ _ _ _ _).mono ?_
  rintro e w3 ⟨rfl, hb3⟩
  clear a0 a1 a2 a3 a4 a5 a6
  have KA3 := KA2.on hb3
  have B3 := B2.trans (hb3.mono B2.size)
  clear hb3 B2 KA2
  go_wp2_with fail
  refine (H2.out _).mono ?_
  rintro e w4 ⟨rfl, hb4⟩
  have KA4 := KA3.on hb4
  have B4 := B3.trans (hb4.mono B3.size)
  clear hb4 B3 KA3
  go_wp2
  go_ret
  exact ⟨rfl, B4⟩
end Go.Proofs.Ytfnoapejkpeacaa
