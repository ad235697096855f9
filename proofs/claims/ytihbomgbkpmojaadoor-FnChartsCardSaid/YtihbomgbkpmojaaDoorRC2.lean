/- A chart read from its text: numbers read together; the reference's walk. -/
import Derived.Test.YtihbomgbkpmojaaDoorProg
import Derived.Test.YtihbomgbkpmojaaDoorKit
import Derived.Test.YtihbomgbkpmojaaDoorBasics
import Derived.Test.YtihbomgbkpmojaaDoorMem
import Derived.Test.YtihbomgbkpmojaaDoorLists
import Derived.Test.YtihbomgbkpmojaaDoorSteps
import Derived.Test.YtihbomgbkpmojaaDoorCharts
import Derived.Test.YtihbomgbkpmojaaDoorChartLaws
import Derived.Test.YtihbomgbkpmojaaDoorStrs
import Derived.Test.YtihbomgbkpmojaaDoorSplit
import Derived.Test.YtihbomgbkpmojaaDoorSplit2
import Derived.Test.YtihbomgbkpmojaaDoorWords
import Derived.Test.YtihbomgbkpmojaaDoorShelf
import Derived.Test.YtihbomgbkpmojaaDoorLaid
import Derived.Test.YtihbomgbkpmojaaDoorNum
import Derived.Test.YtihbomgbkpmojaaDoorNum2
import Derived.Test.YtihbomgbkpmojaaDoorNum3
import Derived.Test.YtihbomgbkpmojaaDoorRC
import Derived.Deep.AppendLies
import Derived.Deep.RegionHeld3
namespace Go.Proofs.YtihbomgbkpmojaaDoor
open Go.RowKit Go.WideShapes Go.ChangeShapes Go.Joins Go.Deep Go.Sort
set_option linter.unusedVariables false
set_option linter.unusedSimpArgs false
theorem infoI : (Tryd.prog.info? 2).map (fun i => (i.zero, i.size, i.bytes)) = some (some (Value.int .i64 0), 1, 8) := by kernel_rfl
theorem ints_more (L : List Int) (x : Int) : ints L ++ [.int .i64 x] = ints (L ++ [x]) := by simp [ints]
def rdS (x : ByteArray) : Option Int := rd x.data.toList
/-- numbers, or nothing -/
def outO {α : Type} (o : Option (List α)) : List α := match o with | some L => L | none => []
def RetAll (w : World) (o : Option (List Int)) (e : Ending) (w' : World) : Prop := ∃ A m c, m = (outO o).length ∧ e = .returned (.tuple #[.slice A m c, .bool o.isSome]) ∧ w'.ownsRow w.heap.size 2 1 (.slice A m c) m (ints (outO o)) ∧ Below w.heap.size w w'
theorem RetAll.none_ {w w' : World} (hb : Below w.heap.size w w') : RetAll w none (.returned (.tuple #[.slice none 0 0, .bool false])) w' := ⟨none, 0, 0, rfl, rfl, World.ownsRow_nil _ _ _ _, hb⟩
set_option maxRecDepth 100000 in
set_option maxHeartbeats 1000000 in
theorem readAll_any (A : Option Addr) (n c : Nat) (W : List ByteArray) (w : World) (TE : TabAt w ∧ ErrsAt w) (h : Reads w w.heap.size 1 A n (strs W)) (hn : n ≤ 1048576) (hw : ∀ x ∈ W, x.size ≤ 1048576) :
    Calls Tryd.prog 43 #[.slice A n c] w (RetAll w (allO rdS W)) := by
  obtain ⟨i0, hi0, hz0, hz1, hz2⟩ := info_parts infoI
  have hl : W.length = n := by have := h.1; rw [strs_length] at this; omega
  have H1 := Lib.hid h
  have HL := Lib.hid hl
  have HT := Lib.hid TE
  have HW := Lib.hid hw
  clear h hl TE hw
  go_enter Tryd.func43, Tryd.ntmps43
  go_wp2
  go_loopw [4, 6, 7, 8, 11] (fun v _ _ _ i wr => ∃ (k : Nat) (M : List Int), k ≤ n ∧ i = .int .i64 k ∧ Below w.heap.size w wr ∧ Hid (Made rdS W k M) ∧ Hid (wr.ownsRow w.heap.size 2 1 v k (ints M))) (fun _ _ _ _ i _ => n - (intOf i).toNat)
  case atStart => exact ⟨0, [], Nat.zero_le _, rfl, Below.refl _ _, Made.start _ _, by show World.ownsRow _ _ _ _ _ _ _; simpa [ints] using World.ownsRow_nil _ _ _ _⟩
  case round =>
    obtain ⟨k, M, hk, rfl, HB, HM, HO⟩ := hrel
    obtain ⟨A', c', rfl⟩ := own_form HO.out
    by_cases hlt : k < n
    · obtain ⟨ad, u, rfl, _, hx, hc⟩ := (H1.out.below HB).at_ hlt
      obtain ⟨x, hx', rfl⟩ := strs_at hx
      have xs := HW.out x (List.mem_of_getElem? hx')
      have C := implReadDecimal_any x wr xs (HT.out.1.on HB) (HT.out.2.on HB)
      have i1 : (0 : Int) ≤ (k : Int) := Int.natCast_nonneg _
      have i2 : (k : Int) < (n : Int) := by omega
      have z := HB.size
      cases hr : rd x.data.toList with
      | none =>
        have R := Lib.hid (HM.out.bad hx' hr)
        rw [hr, rdV_none] at C
        have HC := Lib.hid C
        clear C hr hx hx' HM HO
        go_wp2_with fail
        refine HC.out.mono ?_
        rintro e w1 ⟨rfl, hb1⟩
        have B1 := HB.trans (hb1.mono z)
        clear hb1
        go_wp2
        go_ret2
        rw [R.out]
        exact RetAll.none_ B1
      | some y =>
        have N := Lib.hid (HM.out.step hx' hr)
        rw [hr, rdV_some] at C
        have HC := Lib.hid C
        clear C hr hx hx' HM
        go_wp2_with fail
        refine HC.out.mono ?_
        rintro e w1 ⟨rfl, hb1⟩
        have B1 := HB.trans (hb1.mono z)
        have O1 := Lib.hid (own_below HO.out hb1)
        have z1 := B1.size
        have nb : (k + 1) * 8 ≤ 140737488355328 := by omega
        have nm : k + 1 ≤ maxLen := by unfold maxLen; omega
        clear hb1 HO HB hc
        go_wp2_with (at_builtin; refine wpList_append_own _ rfl _ _ 62 rfl w.heap.size 2 i0 _ 1 8 Tryd.underlying62 hi0 hz0 hz1 hz2 rfl (by omega) _ _ _ rfl (O1.out.alloc _) ⟨w1.heap.size, 0, none⟩ 1 1 [.int .i64 y] rfl rfl (cell_one_new _ _ _) (by simp [Value.oneCell']) nm nb (by simp; omega) ?_; intro v' w3 hown' hgrow _)
        have HB3 : Below w.heap.size w w3 := (B1.alloc z1 _).grown hgrow (by simp; omega) (fun j hj => (O1.out.lt j hj).1)
        have HO3 : Hid (w3.ownsRow w.heap.size 2 1 v' (k + 1) (ints (M ++ [y]))) := by
          show World.ownsRow _ _ _ _ _ _ _
          rw [← ints_more]
          exact hown'
        clear hown' hgrow O1 B1 HC
        go_wp2
        exact ⟨⟨k + 1, M ++ [y], by omega, by go_num, HB3, N, HO3⟩, by simp [intOf]; omega⟩
    · obtain rfl : k = n := by omega
      have HM' : Made rdS W W.length M := by rw [HL.out]; exact HM.out
      have E : Hid (allO rdS W = some M) := HM'.done
      have R : Hid (RetAll w (allO rdS W) (.returned (.tuple #[.slice A' k c', .bool true])) wr) := by
        show RetAll _ _ _ _
        rw [E.out]
        exact ⟨A', k, c', HM.out.1.symm, rfl, HO.out, HB⟩
      go_wp2
      go_ret2
      exact R.out
/-- a chart, or nothing -/
def RetCS (w : World) (o : Option (List (Int × Int))) (e : Ending) (w' : World) : Prop := ∃ A m c, m = (outO o).length ∧ e = .returned (.tuple #[.slice A m c, .bool o.isSome]) ∧ w'.ownsRow w.heap.size 43 2 (.slice A m c) m (pairs (outO o)) ∧ Below w.heap.size w w'
theorem RetCS.none_ {w w' : World} (hb : Below w.heap.size w w') : RetCS w none (.returned (.tuple #[.slice none 0 0, .bool false])) w' := ⟨none, 0, 0, rfl, rfl, World.ownsRow_nil _ _ _ _, hb⟩
def stpS (x : ByteArray) : Option (Int × Int) := stepOf x.data.toList
theorem cut_le (s : ByteArray) (x : Nat × Nat) : (cut s x).size ≤ s.size := by
  unfold cut
  rw [ByteArray.size_extract]
  omega
theorem splitL_le {s : ByteArray} {c : UInt8} {x : ByteArray} (h : x ∈ splitL s c) : x.size ≤ s.size := by
  unfold splitL at h
  obtain ⟨y, _, rfl⟩ := List.mem_map.1 h
  exact cut_le s y
theorem stpS_two {x u v : ByteArray} (h : splitL x 58 = [u, v]) : stpS x = both (rdS u) (rdS v) := by
  have := splitL_data x 58
  rw [h] at this
  unfold stpS stepOf
  rw [← this]
  rfl
theorem stpS_not {x : ByteArray} (h : ¬ (splitL x 58).length = 2) : stpS x = none := by
  have := splitL_data x 58
  unfold stpS stepOf
  split
  · rename_i a b e
    rw [e] at this
    have := congrArg List.length this
    simp at this
    exact absurd this h
  · rfl
theorem two_of {α : Type} {L : List α} (h : L.length = 2) : ∃ u v, L = [u, v] := by
  match L, h with
  | [u, v], _ => exact ⟨u, v, rfl⟩
def rcO (s : ByteArray) : Option (List (Int × Int)) := rcSpec s.data.toList
theorem rc_words (s : ByteArray) : allO stpS (splitL s 32) = allO stepOf (splitB 32 s.data.toList) := by
  rw [← splitL_data]
  exact allO_map (f := stepOf) (g := fun x : ByteArray => x.data.toList) _
theorem rcO_none {s : ByteArray} (h : allO stpS (splitL s 32) = none) : rcO s = none := by
  unfold rcO rcSpec
  rw [← rc_words, h]
theorem rcO_bad {s : ByteArray} {L : List (Int × Int)} (h : allO stpS (splitL s 32) = some L) (hc : chartB L = false) : rcO s = none := by
  unfold rcO rcSpec
  rw [← rc_words, h]
  simp only
  rw [hc]; rfl
theorem rcO_good {s : ByteArray} {L : List (Int × Int)} (h : allO stpS (splitL s 32) = some L) (hc : chartB L = true) : rcO s = some L := by
  unfold rcO rcSpec
  rw [← rc_words, h]
  simp only
  rw [hc]; rfl
theorem pairs_one (x y : Int) (M : List (Int × Int)) : pairs M ++ [.int .i64 x, .int .i64 y] = pairs (M ++ [(x, y)]) := by rw [pairs_append]; rfl
theorem cell_pair (w : World) (x y : Value) (t : TypeId) : ∀ j u, [x, y][j]? = some u → (w.alloc (.cells #[x, y] t)).cell? ((⟨w.heap.size, 0, none⟩ : Addr).add j) = some u := by
  intro j u hj
  match j, hj with
  | 0, hj => simp at hj; subst hj; simp [Addr.add]
  | 1, hj => simp at hj; subst hj; simp [Addr.add]
  | (j + 2), hj => simp at hj
theorem own_ne {w : World} {base base' : Nat} {e e' : TypeId} {size size' n n' : Nat} {v v' : Value} {xs ys : List Value} (h : w.ownsRow base e size v n xs) (h' : w.ownsRow base' e' size' v' n' ys) (hne : e ≠ e') : v.ownBlock = none ∨ v.ownBlock ≠ v'.ownBlock := by
  rcases h.2 with ⟨rfl, _⟩ | ⟨g, cap, cur, rfl, _, hg, _⟩
  · left; rfl
  · right
    rcases h'.2 with ⟨rfl, _⟩ | ⟨g', cap', cur', rfl, _, hg', _⟩
    · simp [Value.ownBlock]
    · intro e0
      have e1 : g = g' := by simpa [Value.ownBlock] using e0
      subst e1
      rw [hg] at hg'
      injection hg' with hg'
      injection hg' with _ ht
      exact hne ht
set_option maxRecDepth 100000 in
set_option maxHeartbeats 4000000 in
theorem specReadChart_any (s : ByteArray) (w : World) (hs : s.size ≤ 1048576) : Calls Tryd.prog 17 #[.string s] w (RetCS w (rcO s)) := by
  obtain ⟨i0, hi0, hz0, hz1, hz2⟩ := info_parts infoStep
  have CS : Hid (∀ w, Calls Tryd.prog 40 #[.string s, .int .u8 32] w (RetStrs w (splitL s 32))) := fun w => l01Split_any s 32 w hs
  have RN := Lib.hid (rcO_none (s := s))
  have RB := Lib.hid (fun L => rcO_bad (s := s) (L := L))
  have RG := Lib.hid (fun L => rcO_good (s := s) (L := L))
  have HW : Hid (∀ x ∈ splitL s 32, x.size ≤ 1048576) := fun x hx => Nat.le_trans (splitL_le hx) hs
  have hl := (splitL_length s 32).1
  generalize splitL s 32 = L at CS RN RB RG HW hl
  generalize rcO s = R at RN RB RG
  obtain ⟨n, hn⟩ : ∃ n : Nat, n = L.length := ⟨_, rfl⟩
  unfold RetStrs at CS
  rw [← hn] at CS hl
  have HN := Lib.hid hn
  have B0 := Lib.hid (below_alloc1 w (.cells #[] 43))
  clear hn
  go_enter Tryd.func17, Tryd.ntmps17
  go_wp2_with fail
  refine (CS.out _).mono ?_
  rintro e w1 ⟨A, c, rfl, HO1, hb1⟩
  have OS1 := Lib.hid (own_mono HO1 (show w.heap.size ≤ _ by simp))
  have B1 := B0.out.trans (hb1.mono (by simp))
  have OZ : Hid (w1.ownsRow w.heap.size 43 2 (.slice (some ⟨w.heap.size, 0, none⟩) 0 0) 0 (pairs [])) := own_below (World.ownsRow_lit (base := w.heap.size) (e := 43) (size := 2) w #[] 0 (Nat.le_refl _) (by unfold maxLen; omega) rfl) hb1
  clear hb1 HO1 B0
  go_wp2
  go_loopw [4, 6, 7, 8, 9, 10, 11] (fun v i _ _ _ _ _ wr => ∃ (k : Nat) (M : List (Int × Int)), k ≤ n ∧ i = .int .i64 k ∧ Below w.heap.size w wr ∧ Hid (Made stpS L k M) ∧ Hid (wr.ownsRow w.heap.size 43 2 v k (pairs M)) ∧ Hid (wr.ownsRow w.heap.size 9 1 (.slice A n c) n (strs L))) (fun _ i _ _ _ _ _ _ => n - (intOf i).toNat)
  case atStart => exact ⟨0, [], Nat.zero_le _, rfl, B1, Made.start _ _, OZ, OS1⟩
  case round =>
    clear OZ OS1 B1
    obtain ⟨k, M, hk, rfl, HB, HM, HO, HS⟩ := hrel
    obtain ⟨A', c', rfl⟩ := own_form HO.out
    have z := HB.size
    by_cases hlt : k < n
    · obtain ⟨ad, u, rfl, _, hx, hc⟩ := (reads_own HS.out).at_ hlt
      obtain ⟨x, hx', rfl⟩ := strs_at hx
      have xs := HW.out x (List.mem_of_getElem? hx')
      have i1 : (0 : Int) ≤ (k : Int) := Int.natCast_nonneg _
      have i2 : (k : Int) < (n : Int) := by omega
      have CX : Hid (∀ w, Calls Tryd.prog 40 #[.string x, .int .u8 58] w (RetStrs w (splitL x 58))) := fun w => l01Split_any x 58 w xs
      have hl2 := (splitL_length x 58).1
      by_cases h2 : (splitL x 58).length = 2
      · obtain ⟨u, v, euv⟩ := two_of h2
        have ES := Lib.hid (stpS_two euv)
        have us : u.size ≤ 1048576 := Nat.le_trans (splitL_le (by rw [euv]; simp)) xs
        have vs : v.size ≤ 1048576 := Nat.le_trans (splitL_le (by rw [euv]; simp)) xs
        rw [euv] at CX
        have CU : ∀ w, Calls Tryd.prog 32 #[.string u] w fun e w' => e = .returned (rdV (rdS u)) ∧ Below w.heap.size w w' := fun w => l01Number_any u w us
        have CV : ∀ w, Calls Tryd.prog 32 #[.string v] w fun e w' => e = .returned (rdV (rdS v)) ∧ Below w.heap.size w w' := fun w => l01Number_any v w vs
        clear h2 hl2 us vs xs euv
        cases hu : rdS u with
        | none =>
          cases hv : rdS v with
          | none =>
            have R0 := Lib.hid (RN.out (HM.out.bad hx' (by rw [ES.out, hu, hv]; rfl)))
            rw [hu, rdV_none] at CU
            rw [hv, rdV_none] at CV
            have HU := Lib.hid CU
            have HV := Lib.hid CV
            clear CU CV hu hv ES HM hx hx'
            unfold RetStrs at CX
            go_wp2_with fail
            refine (CX.out _).mono ?_
            rintro e w2 ⟨A2, c2, rfl, O2, hb2⟩
            obtain ⟨g, cap, hv2, _, _⟩ := O2.form (show 0 < [u, v].length by simp)
            injection hv2 with e1 e2 e3
            subst e1
            have B2 := HB.trans (hb2.mono z)
            have OO2 := own_below HO.out hb2
            have OS2 := own_below HS.out hb2
            have d0 : w2.cell? ⟨g, 0, none⟩ = some (.string u) := (O2.cellAt 0 (by simp)).trans rfl
            have z2 := B2.size
            have OO2 := Lib.hid OO2
            have OS2 := Lib.hid OS2
            have HO2 := Lib.hid O2
            clear hb2 HO HS HB O2 e2 e3 hc z
            go_wp2_with fail
            refine (HU.out _).mono ?_
            rintro e w3 ⟨rfl, hb3⟩
            have B3 := B2.trans (hb3.mono z2)
            have OO3 := Lib.hid (own_below OO2.out hb3)
            have OS3 := Lib.hid (own_below OS2.out hb3)
            have d1 : w3.cell? ⟨g, 1, none⟩ = some (.string v) := ((own_below HO2.out hb3).cellAt 1 (by simp)).trans rfl
            have z3 := B3.size
            clear hb3 OO2 OS2 HO2 B2 d0 z2 HU
            go_wp2_with fail
            refine (HV.out _).mono ?_
            rintro e w4 ⟨rfl, hb4⟩
            have B4 := B3.trans (hb4.mono z3)
            have OO4 := Lib.hid (own_below OO3.out hb4)
            have OS4 := Lib.hid (own_below OS3.out hb4)
            have z4 := B4.size
            clear hb4 OO3 OS3 B3 d1 z3 HV
            go_wp2
            go_ret2
            rw [R0.out]
            exact RetCS.none_ B4
          | some q =>
            have R0 := Lib.hid (RN.out (HM.out.bad hx' (by rw [ES.out, hu, hv]; rfl)))
            rw [hu, rdV_none] at CU
            rw [hv, rdV_some] at CV
            have HU := Lib.hid CU
            have HV := Lib.hid CV
            clear CU CV hu hv ES HM hx hx'
            unfold RetStrs at CX
            go_wp2_with fail
            refine (CX.out _).mono ?_
            rintro e w2 ⟨A2, c2, rfl, O2, hb2⟩
            obtain ⟨g, cap, hv2, _, _⟩ := O2.form (show 0 < [u, v].length by simp)
            injection hv2 with e1 e2 e3
            subst e1
            have B2 := HB.trans (hb2.mono z)
            have OO2 := own_below HO.out hb2
            have OS2 := own_below HS.out hb2
            have d0 : w2.cell? ⟨g, 0, none⟩ = some (.string u) := (O2.cellAt 0 (by simp)).trans rfl
            have z2 := B2.size
            have OO2 := Lib.hid OO2
            have OS2 := Lib.hid OS2
            have HO2 := Lib.hid O2
            clear hb2 HO HS HB O2 e2 e3 hc z
            go_wp2_with fail
            refine (HU.out _).mono ?_
            rintro e w3 ⟨rfl, hb3⟩
            have B3 := B2.trans (hb3.mono z2)
            have OO3 := Lib.hid (own_below OO2.out hb3)
            have OS3 := Lib.hid (own_below OS2.out hb3)
            have d1 : w3.cell? ⟨g, 1, none⟩ = some (.string v) := ((own_below HO2.out hb3).cellAt 1 (by simp)).trans rfl
            have z3 := B3.size
            clear hb3 OO2 OS2 HO2 B2 d0 z2 HU
            go_wp2_with fail
            refine (HV.out _).mono ?_
            rintro e w4 ⟨rfl, hb4⟩
            have B4 := B3.trans (hb4.mono z3)
            have OO4 := Lib.hid (own_below OO3.out hb4)
            have OS4 := Lib.hid (own_below OS3.out hb4)
            have z4 := B4.size
            clear hb4 OO3 OS3 B3 d1 z3 HV
            go_wp2
            go_ret2
            rw [R0.out]
            exact RetCS.none_ B4
        | some p =>
          cases hv : rdS v with
          | none =>
            have R0 := Lib.hid (RN.out (HM.out.bad hx' (by rw [ES.out, hu, hv]; rfl)))
            rw [hu, rdV_some] at CU
            rw [hv, rdV_none] at CV
            have HU := Lib.hid CU
            have HV := Lib.hid CV
            clear CU CV hu hv ES HM hx hx'
            unfold RetStrs at CX
            go_wp2_with fail
            refine (CX.out _).mono ?_
            rintro e w2 ⟨A2, c2, rfl, O2, hb2⟩
            obtain ⟨g, cap, hv2, _, _⟩ := O2.form (show 0 < [u, v].length by simp)
            injection hv2 with e1 e2 e3
            subst e1
            have B2 := HB.trans (hb2.mono z)
            have OO2 := own_below HO.out hb2
            have OS2 := own_below HS.out hb2
            have d0 : w2.cell? ⟨g, 0, none⟩ = some (.string u) := (O2.cellAt 0 (by simp)).trans rfl
            have z2 := B2.size
            have OO2 := Lib.hid OO2
            have OS2 := Lib.hid OS2
            have HO2 := Lib.hid O2
            clear hb2 HO HS HB O2 e2 e3 hc z
            go_wp2_with fail
            refine (HU.out _).mono ?_
            rintro e w3 ⟨rfl, hb3⟩
            have B3 := B2.trans (hb3.mono z2)
            have OO3 := Lib.hid (own_below OO2.out hb3)
            have OS3 := Lib.hid (own_below OS2.out hb3)
            have d1 : w3.cell? ⟨g, 1, none⟩ = some (.string v) := ((own_below HO2.out hb3).cellAt 1 (by simp)).trans rfl
            have z3 := B3.size
            clear hb3 OO2 OS2 HO2 B2 d0 z2 HU
            go_wp2_with fail
            refine (HV.out _).mono ?_
            rintro e w4 ⟨rfl, hb4⟩
            have B4 := B3.trans (hb4.mono z3)
            have OO4 := Lib.hid (own_below OO3.out hb4)
            have OS4 := Lib.hid (own_below OS3.out hb4)
            have z4 := B4.size
            clear hb4 OO3 OS3 B3 d1 z3 HV
            go_wp2
            go_ret2
            rw [R0.out]
            exact RetCS.none_ B4
          | some q =>
            have N : Hid (Made stpS L (k + 1) (M ++ [(p, q)])) := HM.out.step hx' (by rw [ES.out, hu, hv]; rfl)
            rw [hu, rdV_some] at CU
            rw [hv, rdV_some] at CV
            have HU := Lib.hid CU
            have HV := Lib.hid CV
            clear CU CV hu hv ES HM hx hx'
            unfold RetStrs at CX
            go_wp2_with fail
            refine (CX.out _).mono ?_
            rintro e w2 ⟨A2, c2, rfl, O2, hb2⟩
            obtain ⟨g, cap, hv2, _, _⟩ := O2.form (show 0 < [u, v].length by simp)
            injection hv2 with e1 e2 e3
            subst e1
            have B2 := HB.trans (hb2.mono z)
            have OO2 := own_below HO.out hb2
            have OS2 := own_below HS.out hb2
            have d0 : w2.cell? ⟨g, 0, none⟩ = some (.string u) := (O2.cellAt 0 (by simp)).trans rfl
            have z2 := B2.size
            have OO2 := Lib.hid OO2
            have OS2 := Lib.hid OS2
            have HO2 := Lib.hid O2
            clear hb2 HO HS HB O2 e2 e3 hc z
            go_wp2_with fail
            refine (HU.out _).mono ?_
            rintro e w3 ⟨rfl, hb3⟩
            have B3 := B2.trans (hb3.mono z2)
            have OO3 := Lib.hid (own_below OO2.out hb3)
            have OS3 := Lib.hid (own_below OS2.out hb3)
            have d1 : w3.cell? ⟨g, 1, none⟩ = some (.string v) := ((own_below HO2.out hb3).cellAt 1 (by simp)).trans rfl
            have z3 := B3.size
            clear hb3 OO2 OS2 HO2 B2 d0 z2 HU
            go_wp2_with fail
            refine (HV.out _).mono ?_
            rintro e w4 ⟨rfl, hb4⟩
            have B4 := B3.trans (hb4.mono z3)
            have OO4 := Lib.hid (own_below OO3.out hb4)
            have OS4 := Lib.hid (own_below OS3.out hb4)
            have z4 := B4.size
            clear hb4 OO3 OS3 B3 d1 z3 HV
            have nb : (k + 1) * 16 ≤ 140737488355328 := by omega
            have nm : k + 1 ≤ maxLen := by unfold maxLen; omega
            go_wp2_with (at_builtin; refine wpList_append_own _ rfl _ _ 30 rfl w.heap.size 43 i0 _ 2 16 Tryd.underlying30 hi0 hz0 hz1 hz2 rfl (by omega) _ _ _ rfl (OO4.out.alloc _) ⟨w4.heap.size, 0, none⟩ 1 1 [.int .i64 p, .int .i64 q] rfl rfl (cell_pair _ _ _ _) (by simp [Value.oneCell']) nm nb (by simp; omega) ?_; intro v' w5 hown' hgrow _)
            have B5 : Below w.heap.size w w5 := (B4.alloc z4 _).grown hgrow (by simp; omega) (fun j hj => (OO4.out.lt j hj).1)
            have OS5 : Hid (w5.ownsRow w.heap.size 9 1 (.slice (some ad) n c) n (strs L)) := (OS4.out.alloc _).kept hgrow (own_ne OS4.out OO4.out (by decide))
            have OO5 : Hid (w5.ownsRow w.heap.size 43 2 v' (k + 1) (pairs (M ++ [(p, q)]))) := by
              show World.ownsRow _ _ _ _ _ _ _
              rw [← pairs_one]
              exact hown'
            clear hown' hgrow OO4 OS4 B4
            go_wp2
            exact ⟨⟨k + 1, M ++ [(p, q)], by omega, by go_num, B5, N, OO5, OS5⟩, by simp [intOf]; omega⟩
      · have R0 := Lib.hid (RN.out (HM.out.bad hx' (stpS_not h2)))
        have h2' : (((splitL x 58).length : Int) != 2) = true := by rw [bne_iff_ne]; omega
        unfold RetStrs at CX
        generalize (splitL x 58).length = m at CX h2' hl2
        generalize splitL x 58 = V at CX
        clear h2 HM hx hx'
        go_wp2_with fail
        refine (CX.out _).mono ?_
        rintro e w2 ⟨A2, c2, rfl, _, hb2⟩
        have B2 := HB.trans (hb2.mono z)
        clear hb2 HO HS HB
        go_wp2
        go_ret2
        rw [R0.out]
        exact RetCS.none_ B2
    · obtain rfl : k = n := by omega
      have HM' : Made stpS L L.length M := by rw [← HN.out]; exact HM.out
      have E := Lib.hid HM'.done
      have HL := Lib.hid HM.out.1
      have SM := steps_own HO.out
      have CV := l03Ok_any A' k c' M wr SM (by unfold maxLen; omega)
      clear SM HM' HM HS
      cases hc : chartB M
      · have R0 := Lib.hid (RB.out M E.out hc)
        rw [hc] at CV
        have HC := Lib.hid CV
        clear CV hc
        go_wp2_with fail
        refine HC.out.mono ?_
        rintro e w2 ⟨rfl, hb2⟩
        have B2 := HB.trans (hb2.mono z)
        clear hb2 HO HB
        go_wp2
        go_ret2
        rw [R0.out]
        exact RetCS.none_ B2
      · have R0 := Lib.hid (RG.out M E.out hc)
        rw [hc] at CV
        have HC := Lib.hid CV
        clear CV hc
        go_wp2_with fail
        refine HC.out.mono ?_
        rintro e w2 ⟨rfl, hb2⟩
        have B2 := HB.trans (hb2.mono z)
        have O2 := own_below HO.out hb2
        clear hb2 HO HB
        have R1 : Hid (RetCS w R (.returned (.tuple #[.slice A' k c', .bool true])) w2) := by
          show RetCS _ _ _ _
          rw [R0.out]
          exact ⟨A', k, c', HL.out.symm, rfl, O2, B2⟩
        clear O2 B2
        go_wp2
        go_ret2
        exact R1.out
end Go.Proofs.YtihbomgbkpmojaaDoor
