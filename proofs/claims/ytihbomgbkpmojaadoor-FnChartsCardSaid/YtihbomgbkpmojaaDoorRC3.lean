/- A chart read from its text: the program's walk. -/
import Derived.Test.YtihbomgbkpmojaaDoorProg
import Derived.Test.YtihbomgbkpmojaaDoorKit
import Derived.Test.YtihbomgbkpmojaaDoorBasics
import Derived.Test.YtihbomgbkpmojaaDoorMem
import Derived.Test.YtihbomgbkpmojaaDoorLists
import Derived.Test.YtihbomgbkpmojaaDoorSteps
import Derived.Test.YtihbomgbkpmojaaDoorCharts
import Derived.Test.YtihbomgbkpmojaaDoorChartLaws
import Derived.Test.YtihbomgbkpmojaaDoorStrs
import Derived.Test.YtihbomgbkpmojaaDoorSplit
import Derived.Test.YtihbomgbkpmojaaDoorSplit2
import Derived.Test.YtihbomgbkpmojaaDoorWords
import Derived.Test.YtihbomgbkpmojaaDoorShelf
import Derived.Test.YtihbomgbkpmojaaDoorLaid
import Derived.Test.YtihbomgbkpmojaaDoorNum
import Derived.Test.YtihbomgbkpmojaaDoorNum2
import Derived.Test.YtihbomgbkpmojaaDoorNum3
import Derived.Test.YtihbomgbkpmojaaDoorText
import Derived.Test.YtihbomgbkpmojaaDoorText2
import Derived.Test.YtihbomgbkpmojaaDoorRC
import Derived.Test.YtihbomgbkpmojaaDoorRC2
import Derived.Deep.AppendLies
import Derived.Deep.RegionHeld3
namespace Go.Proofs.YtihbomgbkpmojaaDoor
open Go.RowKit Go.WideShapes Go.ChangeShapes Go.Joins Go.Deep Go.Sort
set_option linter.unusedVariables false
set_option linter.unusedSimpArgs false
theorem stepS_data (s : Int × Int) : (stepS s).data.toList = stepT s := by
  unfold stepS stepT decS
  rw [ByteArray.data_append, ByteArray.data_append]
  simp
theorem textS_data (M : List (Int × Int)) : (textS M).data.toList = textB M := by
  unfold textS textB
  cases M with
  | nil => rfl
  | cons x r =>
    show ((r.map stepS).foldl _ (stepS x)).data.toList = stepT x ++ (r.map stepT).flatMap (fun y => 32 :: y)
    rw [fold_data, stepS_data, List.flatMap_map, List.flatMap_map]
    congr 1
    congr 1
    funext y
    simp only [stepS_data]
theorem text_is {M : List (Int × Int)} {s : ByteArray} : textS M = s ↔ textB M = s.data.toList := by
  rw [← textS_data]
  constructor
  · rintro rfl; rfl
  · intro h
    exact ByteArray.ext (Array.toList_inj.1 h)
theorem ri_words (s : ByteArray) : allO stpS (wordsL s) = allO stepOf ((splitB 32 s.data.toList).filter (fun x => !x.isEmpty)) := by
  rw [← words_data]
  exact allO_map (f := stepOf) (g := fun x : ByteArray => x.data.toList) _
theorem ri_none {s : ByteArray} (h : allO stpS (wordsL s) = none) : rcO s = none := by
  unfold rcO
  rw [← rc_eq, rcImpl, ← ri_words, h]
theorem ri_bad {s : ByteArray} {L : List (Int × Int)} (h : allO stpS (wordsL s) = some L) (hc : chartB L = false) : rcO s = none := by
  unfold rcO
  rw [← rc_eq, rcImpl, ← ri_words, h]
  simp only
  rw [hc]; rfl
theorem ri_no {s : ByteArray} {L : List (Int × Int)} (h : allO stpS (wordsL s) = some L) (ht : ¬ textS L = s) : rcO s = none := by
  unfold rcO
  rw [← rc_eq, rcImpl, ← ri_words, h]
  simp only
  rw [decide_eq_false (fun e => ht (text_is.2 e)), Bool.and_false]; rfl
theorem ri_yes {s : ByteArray} {L : List (Int × Int)} (h : allO stpS (wordsL s) = some L) (hc : chartB L = true) (ht : textS L = s) : rcO s = some L := by
  unfold rcO
  rw [← rc_eq, rcImpl, ← ri_words, h]
  simp only
  rw [hc, decide_eq_true (text_is.1 ht)]; rfl
theorem wordsL_le {s : ByteArray} {x : ByteArray} (h : x ∈ wordsL s) : x.size ≤ s.size := splitL_le (List.mem_filter.1 h).1
def MaxAt (w : World) : Prop := ∃ m : Int, w.cell? ⟨3, 0, none⟩ = some (.int .i64 m)
theorem MaxAt.on {w w' : World} (h : MaxAt w) (hb : Below w.heap.size w w') : MaxAt w' := by
  obtain ⟨m, hm⟩ := h
  exact ⟨m, (hb.cell (p := ⟨_, 0, none⟩) (World.block_lt_of_cell? _ _ hm)).trans hm⟩
theorem cut_lens (l : List UInt8) : (Lib.cut l [58]).1.length ≤ l.length ∧ (Lib.cut l [58]).2.1.length ≤ l.length := by
  rcases first_occ 58 l with h | ⟨a, r, rfl, ha⟩
  · rw [cut_none h]; simp
  · rw [cut_first ha]; simp; omega
theorem cut_any (x : ByteArray) (hx : x.size ≤ 1048576) : ∃ (a b : ByteArray) (t : Bool), stpS x = both (rdS a) (rdS b) ∧ a.size ≤ 1048576 ∧ b.size ≤ 1048576 ∧
    ∀ w, MaxAt w → Calls Tryd.prog 42 #[.string x, .string ⟨#[58]⟩] w fun e w' => e = .returned (.tuple #[.string a, .string b, .bool t]) ∧ Below w.heap.size w w' := by
  have hl := cut_lens x.data.toList
  rw [len_data] at hl
  refine ⟨⟨(Lib.cut x.data.toList [58]).1.toArray⟩, ⟨(Lib.cut x.data.toList [58]).2.1.toArray⟩, (Lib.cut x.data.toList [58]).2.2, ?_, ?_, ?_, fun w ⟨m, hm⟩ => ?_⟩
  · unfold stpS
    rw [← stepC_eq]
    rfl
  · show (Lib.cut x.data.toList [58]).1.toArray.size ≤ _
    rw [List.size_toArray]; omega
  · show (Lib.cut x.data.toList [58]).2.1.toArray.size ≤ _
    rw [List.size_toArray]; omega
  · exact (Tryd.strings_Cut x ⟨#[58]⟩ m w (by omega) hm).mono fun e w' ⟨he, k, hw⟩ => ⟨he, by rw [hw]; exact below_drewN (Below.refl _ _) k⟩
theorem two_none {a b : ByteArray} (h : both (rdS a) (rdS b) = none) : allO rdS [a, b] = none := by
  cases ha : rdS a with
  | none => exact allO_bad ha
  | some p =>
    cases hb : rdS b with
    | none => rw [allO_cons ha, allO_bad hb]; rfl
    | some q => rw [ha, hb] at h; cases h
theorem two_some {a b : ByteArray} {p q : Int} (h : both (rdS a) (rdS b) = some (p, q)) : allO rdS [a, b] = some [p, q] := by
  obtain ⟨ha, hb⟩ := both_some h
  rw [allO_cons ha, allO_cons hb]
  rfl
set_option maxRecDepth 100000 in
set_option maxHeartbeats 4000000 in
theorem implReadChart_any (s : ByteArray) (w : World) (hs : s.size ≤ 1048576) (TE : TabAt w ∧ ErrsAt w) (MX : MaxAt w) : Calls Tryd.prog 18 #[.string s] w (RetCS w (rcO s)) := by
  obtain ⟨i0, hi0, hz0, hz1, hz2⟩ := info_parts infoStep
  have CS : Hid (∀ w, Calls Tryd.prog 41 #[.string s] w (RetStrs w (wordsL s))) := fun w => implSplitWords_any s w hs
  have RN := Lib.hid (ri_none (s := s))
  have RB := Lib.hid (fun L => ri_bad (s := s) (L := L))
  have RX := Lib.hid (fun L => ri_no (s := s) (L := L))
  have RG := Lib.hid (fun L => ri_yes (s := s) (L := L))
  have HW : Hid (∀ x ∈ wordsL s, x.size ≤ 1048576) := fun x hx => Nat.le_trans (wordsL_le hx) hs
  have hl := wordsL_length s
  generalize wordsL s = L at CS RN RB RX RG HW hl
  generalize rcO s = R at RN RB RX RG
  obtain ⟨n, hn⟩ : ∃ n : Nat, n = L.length := ⟨_, rfl⟩
  unfold RetStrs at CS
  rw [← hn] at CS hl
  have HN := Lib.hid hn
  have HT := Lib.hid TE
  have HMX := Lib.hid MX
  clear hn TE MX
  go_enter Tryd.func18, Tryd.ntmps18
  go_wp2_with fail
  refine (CS.out _).mono ?_
  rintro e w1 ⟨A, c, rfl, HO1, B1⟩
  have OS1 := Lib.hid HO1
  clear HO1
  go_wp2
  go_loopw [4, 6, 7, 8, 9, 10, 11, 15] (fun v _ _ _ _ _ _ i wr => ∃ (k : Nat) (M : List (Int × Int)), k ≤ n ∧ i = .int .i64 k ∧ Below w.heap.size w wr ∧ Hid (Made stpS L k M) ∧ Hid (wr.ownsRow w.heap.size 43 2 v k (pairs M)) ∧ Hid (wr.ownsRow w.heap.size 9 1 (.slice A n c) n (strs L))) (fun _ _ _ _ _ _ _ i _ => n - (intOf i).toNat)
  case atStart => exact ⟨0, [], Nat.zero_le _, rfl, B1, Made.start _ _, (by show World.ownsRow _ _ _ _ _ _ _; simpa [pairs] using World.ownsRow_nil _ _ _ _), OS1⟩
  case round =>
    clear OS1 B1
    obtain ⟨k, M, hk, rfl, HB, HM, HO, HS⟩ := hrel
    obtain ⟨A', c', rfl⟩ := own_form HO.out
    have z := HB.size
    by_cases hlt : k < n
    · obtain ⟨ad, u, rfl, _, hx, hc⟩ := (reads_own HS.out).at_ hlt
      obtain ⟨x, hx', rfl⟩ := strs_at hx
      have xs := HW.out x (List.mem_of_getElem? hx')
      have i1 : (0 : Int) ≤ (k : Int) := Int.natCast_nonneg _
      have i2 : (k : Int) < (n : Int) := by omega
      obtain ⟨a, b, t, ES, sa, sb, CC⟩ := cut_any x xs
      have HC := Lib.hid (CC wr (HMX.out.on HB))
      clear CC xs
      have CR : Hid (∀ w : World, TabAt w → ErrsAt w → Calls Tryd.prog 43 #[.slice (some ⟨w.heap.size, 0, none⟩) 2 2] (w.alloc (.cells #[.string a, .string b] 9)) (RetAll (w.alloc (.cells #[.string a, .string b] 9)) (allO rdS [a, b]))) := fun w T E => by
        have bl := below_alloc1 w (.cells #[.string a, .string b] 9)
        refine readAll_any _ 2 2 [a, b] _ ⟨T.on bl, E.on bl⟩ (reads_own (World.ownsRow_lit (base := w.heap.size) (e := 9) (size := 1) w #[.string a, .string b] 2 (Nat.le_refl _) (by unfold maxLen; omega) rfl)) (by omega) ?_
        intro y hy
        simp only [List.mem_cons, List.not_mem_nil, or_false] at hy
        rcases hy with rfl | rfl
        · exact sa
        · exact sb
      clear sa sb
      cases hb : both (rdS a) (rdS b) with
      | none =>
        have R0 := Lib.hid (RN.out (HM.out.bad hx' (by rw [ES, hb])))
        rw [two_none hb] at CR
        unfold RetAll at CR
        simp only [outO, List.length_nil, Option.isSome_none] at CR
        clear ES hb hx hx' HM
        go_wp2_with fail
        refine HC.out.mono ?_
        rintro e w2 ⟨rfl, hb2⟩
        have B2 := HB.trans (hb2.mono z)
        have z2 := B2.size
        have CR2 := Lib.hid (CR.out w2 (HT.out.1.on B2) (HT.out.2.on B2))
        clear hb2 HB HO HS CR
        go_wp2_with fail
        refine CR2.out.mono ?_
        rintro e w3 ⟨A3, m3, c3, hm3, rfl, _, hb3⟩
        have B3 := (B2.alloc z2 _).trans (hb3.mono (by simp; omega))
        clear hb3 B2 hm3
        go_wp2
        go_ret2
        rw [R0.out]
        exact RetCS.none_ B3
      | some pq =>
        obtain ⟨p, q⟩ := pq
        have N := Lib.hid (HM.out.step hx' (by rw [ES, hb]))
        rw [two_some hb] at CR
        unfold RetAll at CR
        simp only [outO, List.length_cons, List.length_nil, Option.isSome_some] at CR
        clear ES hb hx hx' HM
        go_wp2_with fail
        refine HC.out.mono ?_
        rintro e w2 ⟨rfl, hb2⟩
        have B2 := HB.trans (hb2.mono z)
        have z2 := B2.size
        have CR2 := Lib.hid (CR.out w2 (HT.out.1.on B2) (HT.out.2.on B2))
        have O2 := Lib.hid (own_below HO.out hb2)
        have S2 := Lib.hid (own_below HS.out hb2)
        clear hb2 HB HO HS CR
        go_wp2_with fail
        refine CR2.out.mono ?_
        rintro e w3 ⟨A3, m3, c3, hm3, rfl, OI, hb3⟩
        have hm3' : m3 = 2 := hm3
        subst hm3'
        obtain ⟨g, cap, hv, _, _⟩ := OI.form (by omega)
        injection hv with e1 e2 e3
        subst e1
        have B3 := (B2.alloc z2 _).trans (hb3.mono (by simp; omega))
        have O3 := own_below (O2.out.alloc _) hb3
        have S3 := Lib.hid (own_below (S2.out.alloc _) hb3)
        have d0 : w3.cell? ⟨g, 0, none⟩ = some (.int .i64 p) := (OI.cellAt 0 (by simp)).trans rfl
        have d1 : w3.cell? ⟨g, 1, none⟩ = some (.int .i64 q) := (OI.cellAt 1 (by simp)).trans rfl
        have ne0 := own_ne O3 OI (by decide)
        have ne : (Value.slice A' k c').ownBlock ≠ some g := fun e => by
          rcases ne0 with h | h
          · rw [h] at e; cases e
          · exact h (by rw [e]; rfl)
        have lg : g < w3.heap.size := World.block_lt_of_cell? _ _ d0
        have z3 := B3.size
        have nb1 : (k + 1) * 16 ≤ 140737488355328 := by omega
        have nm : k + 1 ≤ maxLen := by unfold maxLen; omega
        have HO3 := Lib.hid O3
        clear hb3 B2 hm3 O2 S2 OI ne0 e2 e3 hc CR2 HC
        have hown := O3
        clear O3
        go_wp2_with fail
        go_region_held3 (fun w' => w'.cell? ⟨g, 0, none⟩ = some (.int .i64 p) ∧ w'.cell? ⟨g, 1, none⟩ = some (.int .i64 q))
          (first
            | go_keep
            | (go_split_ands
               refine ⟨?_, ?_⟩
               · (rw [hgrow.cell_far _ (by simp; omega) (Ne.symm ne)]; assumption)
               · (rw [hgrow.cell_far _ (by simp; omega) (Ne.symm ne)]; assumption)))
          ((refine step_append_lies _ (by rfl) _ _ _ (by rfl) w.heap.size 43 i0 _ 2 16 Tryd.underlying30 hi0 hz0 hz1 hz2 rfl (by omega) _ k _ (by rfl) ((hown.alloc _).drew) ⟨w3.heap.size, 0, none⟩ 1 1 [.int .i64 p, .int .i64 q] (by rfl) (by rfl) (World.news_of_block (cs := #[.int .i64 p, .int .i64 q]) (t := 43) (fr := (0, 0)) (heap_alloc_new w3 _)) (by simp [Value.oneCell']) (by omega) nm nb1 (by simp; omega) (w3.heap.size + 1) (by simp) ?_; intro gg cap2 w4 hown1 hgrow hat hlt3))
        have B4 : Below w.heap.size w w4 := ((B3.alloc z3 _).drew).grown hgrow (by simp; omega) (fun j hj => (HO3.out.lt j hj).1)
        have S4 : Hid (w4.ownsRow w.heap.size 9 1 (.slice (some ad) n c) n (strs L)) := ((S3.out.alloc _).drew).kept hgrow (own_ne S3.out HO3.out (by decide))
        have O4 : Hid (w4.ownsRow w.heap.size 43 2 (.slice (some ⟨gg, 0, none⟩) (k + 1) cap2) (k + 1) (pairs (M ++ [(p, q)]))) := by
          show World.ownsRow _ _ _ _ _ _ _
          rw [← pairs_one]
          exact hown1
        clear hown hown1 hgrow d0 d1 ne lg hat S3 HO3 B3
        go_wp2
        exact ⟨⟨k + 1, M ++ [(p, q)], by omega, by go_num, B4, N, O4, S4⟩, by simp [intOf]; omega⟩
    · obtain rfl : k = n := by omega
      have HM' : Made stpS L L.length M := by rw [← HN.out]; exact HM.out
      have E := Lib.hid HM'.done
      have HL := Lib.hid HM.out.1
      have SM := steps_own HO.out
      have CV := implValidChart_any A' k c' M wr SM (by unfold maxLen; omega)
      clear SM HM' HM HS
      cases hc : chartB M
      · have R0 := Lib.hid (RB.out M E.out hc)
        rw [hc] at CV
        have HC := Lib.hid CV
        clear CV hc
        go_wp2_with fail
        refine HC.out.mono ?_
        rintro e w2 ⟨rfl, hb2⟩
        have B2 := HB.trans (hb2.mono z)
        clear hb2 HO HB
        go_wp2
        go_ret2
        rw [R0.out]
        exact RetCS.none_ B2
      · have CT : ∀ w, TabAt w → Steps w w.heap.size A' k M → Calls Tryd.prog 15 #[.slice A' k c'] w fun e w' => e = .returned (.string (textS M)) ∧ Below w.heap.size w w' := fun w T h => implChartText_good A' k c' M w T h hc
        rw [hc] at CV
        have HC := Lib.hid CV
        clear CV
        by_cases ht : textS M = s
        · have R0 := Lib.hid (RG.out M E.out hc ht)
          rw [ht] at CT
          have HCT := Lib.hid CT
          clear hc ht CT
          go_wp2_with fail
          refine HC.out.mono ?_
          rintro e w2 ⟨rfl, hb2⟩
          have B2 := HB.trans (hb2.mono z)
          have O2 := Lib.hid (own_below HO.out hb2)
          have T2 := HT.out.1.on B2
          have HC3 := Lib.hid (HCT.out w2 T2 (steps_own O2.out))
          have z2 := B2.size
          clear hb2 HO HB T2
          go_wp2_with fail
          refine HC3.out.mono ?_
          rintro e w3 ⟨rfl, hb3⟩
          have B3 := B2.trans (hb3.mono z2)
          have O3 := own_below O2.out hb3
          have R1 : Hid (RetCS w R (.returned (.tuple #[.slice A' k c', .bool true])) w3) := by
            show RetCS _ _ _ _
            rw [R0.out]
            exact ⟨A', k, c', HL.out.symm, rfl, O3, B3⟩
          clear O3 B3 hb3
          go_wp2
          go_ret2
          exact R1.out
        · have R0 := Lib.hid (RX.out M E.out ht)
          generalize textS M = tx at CT ht
          obtain ⟨n1, n2⟩ := list_ne ht
          have HCT := Lib.hid CT
          clear hc ht CT
          go_wp2_with fail
          refine HC.out.mono ?_
          rintro e w2 ⟨rfl, hb2⟩
          have B2 := HB.trans (hb2.mono z)
          have O2 := Lib.hid (own_below HO.out hb2)
          have T2 := HT.out.1.on B2
          have HC3 := Lib.hid (HCT.out w2 T2 (steps_own O2.out))
          have z2 := B2.size
          clear hb2 HO HB T2
          go_wp2_with fail
          refine HC3.out.mono ?_
          rintro e w3 ⟨rfl, hb3⟩
          have B3 := B2.trans (hb3.mono z2)
          clear hb3
          go_wp2
          go_ret2
          rw [R0.out]
          exact RetCS.none_ B3
end Go.Proofs.YtihbomgbkpmojaaDoor
