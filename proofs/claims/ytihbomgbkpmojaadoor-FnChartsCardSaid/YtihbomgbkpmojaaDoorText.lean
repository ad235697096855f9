/- The text of a chart: the plain law, the walks of both sides, and their law. -/
import Derived.Test.YtihbomgbkpmojaaDoorProg
import Derived.Test.YtihbomgbkpmojaaDoorKit
import Derived.Test.YtihbomgbkpmojaaDoorBasics
import Derived.Test.YtihbomgbkpmojaaDoorMem
import Derived.Test.YtihbomgbkpmojaaDoorLists
import Derived.Test.YtihbomgbkpmojaaDoorSteps
import Derived.Test.YtihbomgbkpmojaaDoorCharts
import Derived.Test.YtihbomgbkpmojaaDoorChartLaws
import Derived.Test.YtihbomgbkpmojaaDoorStrs
import Derived.Test.YtihbomgbkpmojaaDoorSplit2
import Derived.Test.YtihbomgbkpmojaaDoorTail
import Derived.Test.YtihbomgbkpmojaaDoorShelf
import Derived.Test.YtihbomgbkpmojaaDoorDec
import Derived.Test.YtihbomgbkpmojaaDoorDec2
import Derived.Test.YtihbomgbkpmojaaDoorDec3
import Derived.Test.YtihbomgbkpmojaaDoorLaid
import Derived.Lib.ItoaLen
import Derived.Lib.Join
import Derived.Deep.RegionHeld3
import Derived.Deep.AppendLies
namespace Go.Proofs.YtihbomgbkpmojaaDoor
open Go.RowKit Go.WideShapes Go.ChangeShapes Go.Joins Go.Deep Go.Sort
set_option linter.unusedVariables false
set_option linter.unusedSimpArgs false
/-! ### the plain law -/
def joinS : List ByteArray → ByteArray
  | [] => ⟨#[]⟩
  | x :: r => r.foldl (fun a y => (a ++ ⟨#[32]⟩) ++ y) x
def stepS (s : Int × Int) : ByteArray := (decS s.1 ++ ⟨#[58]⟩) ++ decS s.2
def textS (L : List (Int × Int)) : ByteArray := joinS (L.map stepS)
theorem joinS_one (y : ByteArray) : joinS [y] = y := rfl
theorem joinS_snoc {M : List ByteArray} (h : M ≠ []) (y : ByteArray) : joinS (M ++ [y]) = (joinS M ++ ⟨#[32]⟩) ++ y := by
  cases M with
  | nil => exact absurd rfl h
  | cons x r =>
    show (r ++ [y]).foldl _ x = _
    rw [List.foldl_append]
    rfl
theorem fold_data : ∀ (r : List ByteArray) (a : ByteArray), (r.foldl (fun a y => (a ++ ⟨#[32]⟩) ++ y) a).data.toList = a.data.toList ++ r.flatMap (fun y => 32 :: y.data.toList)
  | [], a => by simp
  | y :: r, a => by
    rw [List.foldl_cons, fold_data r, List.flatMap_cons, ByteArray.data_append, ByteArray.data_append]
    simp
theorem inter_cons : ∀ (r : List (List UInt8)) (x : List UInt8), ([32] : List UInt8).intercalate (x :: r) = x ++ r.flatMap (fun y => 32 :: y)
  | [], x => by simp [List.intercalate]
  | y :: r, x => by
    rw [List.intercalate_cons_cons, inter_cons r y, List.flatMap_cons]
    simp
theorem join_data (xs : List ByteArray) : Lib.join (xs.map (·.data.toList)) [32] = (joinS xs).data.toList := by
  unfold Lib.join
  cases xs with
  | nil => rfl
  | cons x r =>
    rw [List.map_cons, inter_cons]
    show _ = (r.foldl _ x).data.toList
    rw [fold_data, List.flatMap_map]
theorem decS_size {n : Int} (h0 : -9223372036854775808 ≤ n) (h1 : n ≤ 9223372036854775807) : (decS n).size ≤ 21 := by
  have := Lib.itoa_length_le n h0 h1
  show (Lib.itoa n).toArray.size ≤ 21
  simpa using this
theorem chart_at' {L : List (Int × Int)} {k : Nat} {x y : Int} (hc : chartB L = true) (h : L[k]? = some (x, y)) : 1 ≤ x ∧ x ≤ 1000 ∧ 0 ≤ y ∧ y ≤ 50000 := by
  have h1 : chainB none L = true := by
    unfold chartB at hc
    rw [Bool.and_eq_true] at hc
    exact hc.1
  have e : L = L.take (k + 1) ++ L.drop (k + 1) := (List.take_append_drop _ _).symm
  rw [e, chainB_append, Bool.and_eq_true, chain_step h, Bool.and_eq_true] at h1
  have hn := h1.1.2
  have hs : stepB (x, y) = true := by
    generalize (if k = 0 then none else L[k - 1]?) = p at hn
    cases p with
    | none => exact hn
    | some q => simp only [nextB, Bool.and_eq_true] at hn; exact hn.1
  unfold stepB at hs
  rw [Bool.and_eq_true] at hs
  have a := inB_of hs.1
  have b := inB_of hs.2
  exact ⟨a.1, a.2, b.1, b.2⟩
theorem chart_len' {L : List (Int × Int)} (hc : chartB L = true) : 1 ≤ L.length ∧ L.length ≤ 20 := by
  unfold chartB at hc
  rw [Bool.and_eq_true] at hc
  have := inB_of hc.2
  omega
theorem text_step {L : List (Int × Int)} {k : Nat} {s : Int × Int} (h : L[k]? = some s) : (L.take (k + 1)).map stepS = (L.take k).map stepS ++ [stepS s] := by
  rw [List.take_add_one, h, List.map_append]
  rfl
theorem text_ne {L : List (Int × Int)} {k : Nat} (h : 0 < k) (hk : k < L.length) : (L.take k).map stepS ≠ [] := fun e => by
  have : ((L.take k).map stepS).length = 0 := by rw [e]; rfl
  rw [List.length_map, List.length_take] at this
  omega
theorem adds (a b : ByteArray) (ha : a.size ≤ 1000000) (hb : b.size ≤ 1000000) : ∃ c : ByteArray, c = a ++ b ∧ c.size = a.size + b.size ∧ ∀ W : World, (Op.stringOp .add a b).run Tryd.prog W = .ok (.string c) W :=
  ⟨_, rfl, by rw [ByteArray.size_append], fun W => run_string_add_sum W _ _ (by omega)⟩
/-- the pieces that a step's text is made of, and what is made on the way -/
theorem pieces {x y : Int} (hx : 1 ≤ x ∧ x ≤ 1000 ∧ 0 ≤ y ∧ y ≤ 50000) : ∃ X Y c1 c2 : ByteArray, decS x = X ∧ decS y = Y ∧ stepS (x, y) = c2 ∧ c2.size ≤ 43 ∧
    (∀ W : World, (Op.stringOp .add X ⟨#[58]⟩).run Tryd.prog W = .ok (.string c1) W) ∧ (∀ W : World, (Op.stringOp .add c1 Y).run Tryd.prog W = .ok (.string c2) W) := by
  have s1 := decS_size (n := x) (by omega) (by omega)
  have s2 := decS_size (n := y) (by omega) (by omega)
  have e1 : (ByteArray.mk #[58]).size = 1 := rfl
  obtain ⟨c1, h1, z1, a1⟩ := adds (decS x) ⟨#[58]⟩ (by omega) (by omega)
  obtain ⟨c2, h2, z2, a2⟩ := adds c1 (decS y) (by omega) (by omega)
  refine ⟨_, _, c1, c2, rfl, rfl, ?_, by omega, a1, a2⟩
  rw [h2, h1]; rfl
theorem text_bound {L : List (Int × Int)} (hc : chartB L = true) : (joinS (L.map stepS)).size ≤ 880 := by
  have key : ∀ k, k ≤ L.length → (joinS ((L.take k).map stepS)).size ≤ 44 * k := by
    intro k
    induction k with
    | zero => intro _; show (0 : Nat) ≤ _; omega
    | succ k ih =>
      intro hk
      have hx : L[k]? = some (L[k]'(by omega)) := List.getElem?_eq_getElem (by omega)
      obtain ⟨X, Y, c1, c2, EX, EY, E2, zc, s1, s2⟩ := pieces (chart_at' hc (x := (L[k]'(by omega)).1) (y := (L[k]'(by omega)).2) hx)
      have E2' : stepS (L[k]'(by omega)) = c2 := E2
      rw [text_step hx, E2']
      by_cases h0 : 0 < k
      · rw [joinS_snoc (text_ne h0 (by omega)), ByteArray.size_append, ByteArray.size_append]
        have e : (ByteArray.mk #[32]).size = 1 := rfl
        have := ih (by omega)
        omega
      · obtain rfl : k = 0 := by omega
        show (joinS [c2]).size ≤ _
        rw [joinS_one]
        omega
  have := key L.length (Nat.le_refl _)
  rw [List.take_length] at this
  have := (chart_len' hc).2
  omega
theorem own_cap {w : World} {base g m c : Nat} {e : TypeId} {xs : List Value} (h : w.ownsRow base e 1 (.slice (some ⟨g, 0, none⟩) m c) m xs) : m ≤ c := by
  rcases h.2 with ⟨e, _⟩ | ⟨g', cap, cur, e, _, _, hc, _⟩
  · cases e
  · injection e with e1 e2 e3
    omega
set_option maxRecDepth 100000 in
set_option maxHeartbeats 2000000 in
theorem l03Text_any (A : Option Addr) (n c : Nat) (L : List (Int × Int)) (w : World) (h : Steps w w.heap.size A n L) (hc : chartB L = true) :
    Calls Tryd.prog 36 #[.slice A n c] w fun e w' => e = .returned (.string (textS L)) ∧ Below w.heap.size w w' := by
  have hl := chart_len' hc
  rw [h.1] at hl
  have H1 := Lib.hid h
  have HC := Lib.hid hc
  have HL := Lib.hid h.1
  clear h hc
  go_enter Tryd.func36, Tryd.ntmps36
  go_wp2
  go_loopw [3, 4] (fun v i wr => ∃ (k : Nat) (acc : ByteArray), k ≤ n ∧ i = .int .i64 k ∧ v = .string acc ∧ Below w.heap.size w wr ∧ Hid (acc = joinS ((L.take k).map stepS)) ∧ acc.size ≤ 44 * k) (fun _ i _ => n - (intOf i).toNat)
  case atStart => exact ⟨0, _, Nat.zero_le _, rfl, rfl, Below.refl _ _, rfl, by show (0 : Nat) ≤ _; omega⟩
  case round =>
    obtain ⟨k, acc, hk, rfl, rfl, HB, HA, hz⟩ := hrel
    by_cases hlt : k < n
    · obtain ⟨b, o, x, y, rfl, _, hx, hc1, hc2⟩ := (H1.out.below HB).at_ hlt
      have bk := chart_at' HC.out hx
      obtain ⟨X, Y, c1, c2, EX, EY, E2, zc, s1, s2⟩ := pieces bk
      obtain ⟨bk1, bk2, bk3, bk4⟩ := bk
      have HS := Lib.hid (text_step hx)
      clear hx
      have i1 : (0 : Int) ≤ (k : Int) := Int.natCast_nonneg _
      have i2 : (k : Int) < (n : Int) := by omega
      by_cases h0 : 0 < k
      · obtain ⟨acc1, g1, y1, b1⟩ := adds acc ⟨#[32]⟩ (by omega) (by show (1 : Nat) ≤ _; omega)
        obtain ⟨c3, h3, z3, a3⟩ := adds acc1 c2 (by rw [y1]; show acc.size + 1 ≤ _; omega) (by omega)
        have z0 : (ByteArray.mk #[32]).size = 1 := rfl
        have N : Hid (c3 = joinS ((L.take (k + 1)).map stepS)) := by
          show _ = _
          rw [HS.out, E2, h3, g1, joinS_snoc (text_ne (by omega) (by rw [HL.out]; exact hlt)), ← HA.out]
        have hd : decide ((0 : Int) < (k : Int)) = true := by simp; omega
        have ZB : Hid (c3.size ≤ 44 * (k + 1)) := by show _ ≤ _; rw [z3, y1]; omega
        clear h3 z3 HS HA z0 E2 g1 y1
        have CX : Hid (∀ w, Calls Tryd.prog 30 #[.int .i64 x] w fun e w' => e = .returned (.string X) ∧ Below w.heap.size w w') := fun w => by rw [← EX]; exact l01Dec_any x w (by omega) (by omega)
        have CY : Hid (∀ w, Calls Tryd.prog 30 #[.int .i64 y] w fun e w' => e = .returned (.string Y) ∧ Below w.heap.size w w') := fun w => by rw [← EY]; exact l01Dec_any y w (by omega) (by omega)
        have f1 := cell_regrown hc1
        have f2 := cell_regrown hc2
        clear EX EY hc1 hc2
        go_wp2_with fail
        refine wp_region_quiet_below (by kernel_rfl) (by kernel_rfl) ?_
        repeat (quiet_step (first | with_reducible exact Calls.regrown_of (CX.out _) | with_reducible exact Calls.regrown_of (CY.out _)))
        refine wpQuiet_nil ?_
        intro w1 hw1
        have hb1 := class_below hw1
        clear f1 f2 hw1
        go_wp2
        exact ⟨⟨k + 1, c3, by omega, by go_num, rfl, HB.trans (hb1.mono HB.size), N, ZB.out⟩, by simp [intOf]; omega⟩
      · obtain rfl : k = 0 := by omega
        have ea : acc = ⟨#[]⟩ := by rw [HA.out]; rfl
        subst ea
        obtain ⟨c3, h3, z3, a3⟩ := adds ⟨#[]⟩ c2 (by show (0 : Nat) ≤ _; omega) (by omega)
        have z0 : (ByteArray.mk #[]).size = 0 := rfl
        have N : Hid (c3 = joinS ((L.take (0 + 1)).map stepS)) := by
          show _ = _
          rw [HS.out, E2, h3]
          show _ = joinS [c2]
          rw [joinS_one]
          exact ByteArray.empty_append
        have hd : decide (0 < 0) = false := rfl
        have ZB : Hid (c3.size ≤ 44 * (0 + 1)) := by show _ ≤ _; rw [z3]; omega
        clear h3 z3 HS HA z0 E2
        have CX : Hid (∀ w, Calls Tryd.prog 30 #[.int .i64 x] w fun e w' => e = .returned (.string X) ∧ Below w.heap.size w w') := fun w => by rw [← EX]; exact l01Dec_any x w (by omega) (by omega)
        have CY : Hid (∀ w, Calls Tryd.prog 30 #[.int .i64 y] w fun e w' => e = .returned (.string Y) ∧ Below w.heap.size w w') := fun w => by rw [← EY]; exact l01Dec_any y w (by omega) (by omega)
        have hc1' : wr.cell? ⟨b, o, none⟩ = some (.int .i64 x) := by simpa using hc1
        have hc2' : wr.cell? ⟨b, o + 1, none⟩ = some (.int .i64 y) := by simpa using hc2
        have f1 := cell_regrown hc1'
        have f2 := cell_regrown hc2'
        clear hc1' hc2'
        clear EX EY hc1 hc2
        go_wp2_with fail
        refine wp_region_quiet_below (by kernel_rfl) (by kernel_rfl) ?_
        repeat (quiet_step (first | with_reducible exact Calls.regrown_of (CX.out _) | with_reducible exact Calls.regrown_of (CY.out _)))
        refine wpQuiet_nil ?_
        intro w1 hw1
        have hb1 := class_below hw1
        clear f1 f2 hw1
        go_wp2
        exact ⟨⟨0 + 1, c3, by omega, by go_num, rfl, HB.trans (hb1.mono HB.size), N, ZB.out⟩, by simp [intOf]; omega⟩
    · obtain rfl : k = n := by omega
      have R : Hid (acc = textS L) := by
        show _ = _
        rw [HA.out, List.take_of_length_le (by rw [HL.out]; exact Nat.le_refl _)]
        rfl
      go_wp2
      go_ret
      exact ⟨by rw [R.out]; rfl, HB⟩
set_option maxRecDepth 100000 in
set_option maxHeartbeats 4000000 in
theorem implChartText_good (A : Option Addr) (n c : Nat) (L : List (Int × Int)) (w : World) (T : TabAt w) (h : Steps w w.heap.size A n L) (hc : chartB L = true) :
    Calls Tryd.prog 15 #[.slice A n c] w fun e w' => e = .returned (.string (textS L)) ∧ Below w.heap.size w w' := by
  obtain ⟨i0, hi0, hz0, hz1, hz2⟩ := info_parts infoStr
  have hl := chart_len' hc
  rw [h.1] at hl
  have HV := Lib.hid (by have := implValidChart_any A n c L w h (by unfold maxLen; omega); rwa [hc] at this)
  have H0 := Lib.hid h
  have HC := Lib.hid hc
  have HL := Lib.hid h.1
  have HT := Lib.hid T
  clear h hc T
  go_enter Tryd.func15, Tryd.ntmps15
  go_wp2_with fail
  refine HV.out.mono ?_
  rintro e w1 ⟨rfl, hb1⟩
  have H1 := Lib.hid (H0.out.next hb1)
  have T1 := Lib.hid (HT.out.on hb1)
  have z1 := hb1.size
  clear H0 HV HT
  go_wp2
  go_loopw [3, 5, 11] (fun v _ i wr => ∃ (k : Nat), k ≤ n ∧ i = .int .i64 k ∧ Below w1.heap.size w1 wr ∧ Hid (wr.ownsRow w1.heap.size 9 1 v k (strs ((L.take k).map stepS)))) (fun _ _ i _ => n - (intOf i).toNat)
  case atStart => exact ⟨0, Nat.zero_le _, rfl, Below.refl _ _, by show World.ownsRow _ _ _ _ _ _ _; simpa [strs] using World.ownsRow_nil _ _ _ _⟩
  case round =>
    obtain ⟨k, hk, rfl, HB, HO⟩ := hrel
    obtain ⟨A', c', rfl⟩ := own_form HO.out
    by_cases hlt : k < n
    · obtain ⟨b, o, x, y, rfl, hbb, hx, hc1, hc2⟩ := (H1.out.below HB).at_ hlt
      have bk := chart_at' HC.out hx
      obtain ⟨X, Y, c1, c2, EX, EY, E2, zc, s1, s2⟩ := pieces bk
      obtain ⟨bk1, bk2, bk3, bk4⟩ := bk
      have HS := Lib.hid (by have := text_step hx; rwa [E2] at this)
      have HS' := Lib.hid (show strs ((L.take (k + 1)).map stepS) = strs ((L.take k).map stepS) ++ [.string c2] by rw [HS.out, ← strs_snoc])
      clear hx
      have i1 : (0 : Int) ≤ (k : Int) := Int.natCast_nonneg _
      have i2 : (k : Int) < (n : Int) := by omega
      have lb : b < wr.heap.size := by have := HB.size; omega
      have nb1 : (k + 1) * 16 ≤ 140737488355328 := by omega
      have nm : k + 1 ≤ maxLen := by unfold maxLen; omega
      have z2 := HB.size
      have CX : Hid (∀ w, TabAt w → Calls Tryd.prog 9 #[.int .i64 x] w fun e w' => e = .returned (.string X) ∧ Below w.heap.size w w') := fun w T => by rw [← EX]; exact implDecimal_any x w T (by omega) (by omega)
      have CY : Hid (∀ w, TabAt w → Calls Tryd.prog 9 #[.int .i64 y] w fun e w' => e = .returned (.string Y) ∧ Below w.heap.size w w') := fun w T => by rw [← EY]; exact implDecimal_any y w T (by omega) (by omega)
      clear EX EY E2 zc
      go_wp2_with fail
      refine name_world (f := fun w => (Code.region _ _ _).wp _ _ _ w) ?_
      intro W hW
      have KS : Hid (Blk W wr.heap.size 43 #[.int .i64 x, .int .i64 y]) := by rw [hW]; exact Blk.new _ _ _
      have OW : Hid (W.ownsRow w1.heap.size 9 1 (.slice A' k c') k (strs ((L.take k).map stepS))) := by rw [hW]; exact HO.out.alloc _
      have BW : Below w1.heap.size w1 W := by rw [hW]; exact HB.alloc z2 _
      have TW := Lib.hid (T1.out.on BW)
      have WZ : wr.heap.size < W.heap.size := KS.out.lt
      clear hW hc1 hc2 lb HB
      obtain ⟨f1, f2⟩ := KS.out.far_two
      have TT := trivial
      generalize strs ((L.take k).map stepS) = XS at OW HS'
      clear f1 f2 TT
      obtain ⟨f1, f2⟩ := KS.out.two
      have SS : Hid (∀ w', Below W.heap.size W w' → w'.cell? ⟨wr.heap.size, 0, none⟩ = some (.int .i64 x) ∧ w'.cell? ⟨wr.heap.size, 1, none⟩ = some (.int .i64 y) ∧ Below W.heap.size W w' ∧ w'.ownsRow w1.heap.size 9 1 (.slice A' k c') k XS ∧ W.heap.size ≤ w'.heap.size) := fun w' hb => ⟨(KS.out.on hb).two.1, (KS.out.on hb).two.2, hb, own_below OW.out hb, hb.size⟩
      have QX : Hid (∀ w', Below W.heap.size W w' → Calls Tryd.prog 9 #[.int .i64 x] w' fun e w'' => e = .returned (.string X) ∧ w''.cell? ⟨wr.heap.size, 0, none⟩ = some (.int .i64 x) ∧ w''.cell? ⟨wr.heap.size, 1, none⟩ = some (.int .i64 y) ∧ Below W.heap.size W w'' ∧ w''.ownsRow w1.heap.size 9 1 (.slice A' k c') k XS ∧ W.heap.size ≤ w''.heap.size) := fun w' hb => (CX.out _ (TW.out.on hb)).mono fun e w'' ⟨he, hb2⟩ => ⟨he, SS.out _ (hb.trans (hb2.mono hb.size))⟩
      have QY : Hid (∀ w', Below W.heap.size W w' → Calls Tryd.prog 9 #[.int .i64 y] w' fun e w'' => e = .returned (.string Y) ∧ w''.cell? ⟨wr.heap.size, 0, none⟩ = some (.int .i64 x) ∧ w''.cell? ⟨wr.heap.size, 1, none⟩ = some (.int .i64 y) ∧ Below W.heap.size W w'' ∧ w''.ownsRow w1.heap.size 9 1 (.slice A' k c') k XS ∧ W.heap.size ≤ w''.heap.size) := fun w' hb => (CY.out _ (TW.out.on hb)).mono fun e w'' ⟨he, hb2⟩ => ⟨he, SS.out _ (hb.trans (hb2.mono hb.size))⟩
      have S0 := SS.out _ (Below.refl _ _)
      obtain ⟨_, _, b0, o0, _⟩ := S0
      have wz1 := BW.size
      have b0d : Below W.heap.size W W.drew := below_drewN (Below.refl _ _) 1
      have o0d : W.drew.ownsRow w1.heap.size 9 1 (.slice A' k c') k XS := OW.out
      clear CX CY SS
      have ne1 : (Value.slice A' k c').ownBlock ≠ some wr.heap.size := fun e => by have := (HO.out.lt _ e).2; omega
      have ne1 := Ne.symm ne1
      go_region_held3 (fun w' => w'.cell? ⟨wr.heap.size, 0, none⟩ = some (.int .i64 x) ∧ w'.cell? ⟨wr.heap.size, 1, none⟩ = some (.int .i64 y))
        (first | go_keep | (go_split_ands; refine ⟨?_, ?_⟩ <;> (rw [hgrow.cell_far _ (by simp; omega) ne1]; assumption)))
        (first | (go_at_call 9; (first | (with_reducible refine (QX.out _ ?_).mono ?_) | (with_reducible refine (QY.out _ ?_).mono ?_)); assumption; rintro e w' ⟨rfl, q1, q2, q3, q4, q5⟩) | (refine step_append_lies _ (by rfl) _ _ _ (by rfl) w1.heap.size 9 i0 _ 1 16 Tryd.underlying55 hi0 hz0 hz1 hz2 rfl (by omega) _ k _ (by rfl) (q4.alloc _) ⟨w'.heap.size, 0, none⟩ 1 1 [.string c2] (by rfl) (by rfl) (World.news_of_block (cs := #[.string c2]) (t := 9) (fr := (0, 0)) (heap_alloc_new w' _)) (by simp [Value.oneCell']) (by omega) nm nb1 (by simp; omega) (w'.heap.size + 1) (by simp) ?_; intro gg cap w3 hown1 hgrow hat hlt3))
      have B2 := BW.trans (q3.mono BW.size)
      have z3 := B2.size
      have HB3 : Below w1.heap.size w1 w3 := (B2.alloc z3 _).grown hgrow (by simp; omega) (fun j hj => (q4.lt j hj).1)
      have HO3 : Hid (w3.ownsRow w1.heap.size 9 1 (.slice (some ⟨gg, 0, none⟩) (k + 1) cap) (k + 1) (strs ((L.take (k + 1)).map stepS))) := by
        show World.ownsRow _ _ _ _ _ _ _
        rw [HS'.out]
        exact hown1
      clear hown1 hgrow HS HS' B2 q1 q2 q3 q4 q5 BW WZ o0 o0d b0 b0d ne1 hat
      go_wp2
      exact ⟨⟨k + 1, by omega, by go_num, HB3, HO3⟩, by simp [intOf]; omega⟩
    · obtain rfl : k = n := by omega
      have ht : (L.take k).map stepS = L.map stepS := by rw [List.take_of_length_le (by rw [HL.out]; exact Nat.le_refl _)]
      have HO2 := HO.out
      rw [ht] at HO2
      obtain ⟨gg, cap, hv, hg1, hg2⟩ := HO2.form (by omega)
      injection hv with e1 e2 e3
      subst e1 e3
      have hln : (L.map stepS).length = k := by rw [List.length_map]; exact HL.out
      have J := Tryd.strings_Join gg 0 c' (L.map stepS) ⟨#[32]⟩ wr (fun j x hj => by
          have := HO2.cells (g := gg) rfl j (.string x) (by simp only [strs, List.getElem?_map, hj]; rfl)
          rw [Lib.add_plain, Nat.zero_add] at this; rw [Nat.zero_add]; exact this) hg2 (by rw [hln]; omega) (by rw [hln]; exact own_cap HO2) (by
          rw [show (ByteArray.mk #[32]).data.toList = [32] from rfl, join_data]
          have := text_bound HC.out
          rw [Array.length_toList]
          have e : (joinS (L.map stepS)).data.size = (joinS (L.map stepS)).size := rfl
          omega)
      rw [show (ByteArray.mk #[32]).data.toList = [32] from rfl, join_data, hln] at J
      have R : Hid ((⟨(joinS (L.map stepS)).data.toList.toArray⟩ : ByteArray) = textS L) := by show _ = _; rfl
      rw [R.out] at J
      have HJ := Lib.hid J
      have B3 := hb1.trans (HB.mono z1)
      clear J HO HO2 ht hln
      go_wp2_with fail
      refine HJ.out.mono ?_
      rintro e w4 ⟨rfl, hb4⟩
      have B4 := B3.trans (hb4.mono B3.size)
      clear hb4 B3
      go_wp2
      go_ret
      exact ⟨rfl, B4⟩
end Go.Proofs.YtihbomgbkpmojaaDoor
