/- The lesser of two charts: the walk of the program's side. -/
import Derived.Test.YtiaineljcmjfoaaProg
import Derived.Test.YtiaineljcmjfoaaKit
import Derived.Test.YtiaineljcmjfoaaBasics
import Derived.Test.YtiaineljcmjfoaaMem
import Derived.Test.YtiaineljcmjfoaaCodeRes
import Derived.Test.YtiaineljcmjfoaaLists
import Derived.Test.YtiaineljcmjfoaaSteps
import Derived.Test.YtiaineljcmjfoaaCharts
import Derived.Test.YtiaineljcmjfoaaChartLaws
import Derived.Test.YtiaineljcmjfoaaFinds
import Derived.Test.YtiaineljcmjfoaaLoads
import Derived.Test.YtiaineljcmjfoaaLoads2
import Derived.Test.YtiaineljcmjfoaaLoads3
import Derived.Test.YtiaineljcmjfoaaRadius
import Derived.Test.YtiaineljcmjfoaaReduce
import Derived.Test.YtiaineljcmjfoaaReduce2
import Derived.Test.YtiaineljcmjfoaaReduce3
import Derived.Test.YtiaineljcmjfoaaLesser
import Derived.Test.YtiaineljcmjfoaaLesser2
import Derived.Test.YtiaineljcmjfoaaConcat
import Derived.Test.YtiaineljcmjfoaaRadii
import Derived.Deep.AppendLies
namespace Go.Proofs.Ytiaineljcmjfoaa
open Go.RowKit Go.WideShapes Go.ChangeShapes Go.Joins Go.Deep Go.Sort
set_option linter.unusedVariables false
set_option linter.unusedSimpArgs false

theorem infoL : (Try.prog.info? 2).map (fun i => (i.zero, i.size, i.bytes)) = some (some (Value.int .i64 0), 1, 8) := by kernel_rfl
theorem own_monoL {w : World} {base base' : Nat} {e : TypeId} {size : Nat} {v : Value} {n : Nat} {xs : List Value} (h : w.ownsRow base e size v n xs) (hb : base' ≤ base) : w.ownsRow base' e size v n xs := by
  refine ⟨h.1, ?_⟩
  rcases h.2 with h2 | ⟨g, cap, cur, hv, hg, r⟩
  · exact .inl h2
  · exact .inr ⟨g, cap, cur, hv, by omega, r⟩
theorem cell_one_l (w : World) (x : Value) (t : TypeId) : ∀ j u, [x][j]? = some u → (w.alloc (.cells #[x] t)).cell? ((⟨w.heap.size, 0, none⟩ : Addr).add j) = some u := by
  intro j u h
  match j with
  | 0 => simp at h; subst h; exact (Blk.new w t #[x]).cell 0
  | j + 1 => simp at h
theorem last_cell {w : World} {B n : Nat} {A : Option Addr} {L : List (Int × Int)} {x : Int} (h : Steps w B A n L) (hn : 1 ≤ n) (e : lastR L = x) : ∃ b o y, A = some ⟨b, o, none⟩ ∧ b < B ∧ w.cell? ⟨b, o + (n - 1) * 2, none⟩ = some (.int .i64 x) ∧ w.cell? ⟨b, o + (n - 1) * 2 + 1, none⟩ = some (.int .i64 y) := by
  obtain ⟨x', y', hx, e'⟩ := last_at (L := L) (by have := h.1; omega)
  have hl : L.length = n := h.1
  rw [hl] at hx
  obtain ⟨b, o, x2, y2, rfl, hb, hx', hc1, hc2⟩ := h.at_ (k := n - 1) (by omega)
  rw [hx] at hx'
  obtain ⟨rfl, rfl⟩ : x' = x2 ∧ y' = y2 := by simpa using hx'
  exact ⟨b, o, y', rfl, hb, by rw [← e, e']; exact hc1, hc2⟩
theorem ints_append (a b : List Int) : ints (a ++ b) = ints a ++ ints b := by simp [ints]
theorem lesser_take {L M : List (Int × Int)} {zs : List Int} {k : Nat} {r x : Int} (h : zs[k]? = some r) (hx : minZ (loadV L r) (loadV M r) = x) : pairs ((zs.take k).map (stepOf L M)) ++ [.int .i64 r, .int .i64 x] = pairs ((zs.take (k + 1)).map (stepOf L M)) := by
  rw [List.take_add_one, h, List.map_append, pairs_append, ← hx]
  rfl
set_option maxRecDepth 100000 in
set_option maxHeartbeats 8000000 in
/-- the second loop: the lesser loads at the radii, which lie in a row of the call's own -/
theorem impl_lesser_good (Aa Ab : Option Addr) (n ca m cb : Nat) (L M : List (Int × Int)) (w : World) (ha : Steps w w.heap.size Aa n L) (hb : Steps w w.heap.size Ab m M) (hn : n ≤ maxLen) (hm : m ≤ maxLen) (h0 : chartB L = true) (h1 : chartB M = true) :
    Calls Try.prog 35 #[.slice Aa n ca, .slice Ab m cb] w (RetList w (lesserOut L M) (lesserCode L M)) := by
  obtain ⟨i0, hi0, hz0, hz1, hz2⟩ := info_parts infoStep
  obtain ⟨ti, hi1, hy0, hy1, hy2⟩ := info_parts infoL
  have l0 := chart_len h0
  have l1 := chart_len h1
  rw [ha.1] at l0
  rw [hb.1] at l1
  obtain ⟨la, hla⟩ : ∃ x, lastR L = x := ⟨_, rfl⟩
  obtain ⟨lb, hlb⟩ : ∃ x, lastR M = x := ⟨_, rfl⟩
  have q := lastBoth_bounds h0 h1
  obtain ⟨R, hR⟩ : ∃ R : Nat, lastBoth L M = (R : Int) := ⟨(lastBoth L M).toNat, by omega⟩
  rw [hR] at q
  have hRm : minZ la lb = (R : Int) := by rw [← hR, ← hla, ← hlb]; rfl
  have ER : Hid ((lastBoth L M).toNat = R) := by show _ = _; rw [hR]; rfl
  have some1 := common_some h0 h1
  rw [ER.out] at some1
  have somer := radii_some h0 h1
  rw [hR] at somer
  have lenr := radii_len h0 h1 (R : Int)
  have LAW := Lib.hid (radii_law h0 h1 (m := R))
  have VA := Lib.hid (fun W (hb : Below w.heap.size w W) => implValidChart_any Aa n ca L W (ha.next hb) hn)
  have VB := Lib.hid (fun W (hb' : Below w.heap.size w W) => implValidChart_any Ab m cb M W (hb.next hb') hm)
  rw [h0] at VA
  rw [h1] at VB
  have HRa : Hid (∀ r, r ≤ (R : Int) → loadRes L r = .tuple #[.int .i64 (loadV L r), .bool true]) := fun r hr => by unfold loadRes; rw [if_neg (find_upto_last h0 (by rw [hla]; unfold minZ at hRm; split at hRm <;> omega))]
  have HRb : Hid (∀ r, r ≤ (R : Int) → loadRes M r = .tuple #[.int .i64 (loadV M r), .bool true]) := fun r hr => by unfold loadRes; rw [if_neg (find_upto_last h1 (by rw [hlb]; unfold minZ at hRm; split at hRm <;> omega))]
  have HXa : Hid (∀ W r, Below w.heap.size w W → 0 ≤ r → r ≤ 1000000 → r ≤ (R : Int) → Calls Try.prog 56 #[.slice Aa n ca, .int .i64 r] W fun e w' => e = .returned (.tuple #[.int .i64 (loadV L r), .bool true]) ∧ Below W.heap.size W w') := fun W r hb r0 r1 r2 => by have := loadAt_any Aa n ca L r W (ha.next hb) hn h0 r0 r1; rwa [HRa.out r r2] at this
  have HXb : Hid (∀ W r, Below w.heap.size w W → 0 ≤ r → r ≤ 1000000 → r ≤ (R : Int) → Calls Try.prog 56 #[.slice Ab m cb, .int .i64 r] W fun e w' => e = .returned (.tuple #[.int .i64 (loadV M r), .bool true]) ∧ Below W.heap.size W w') := fun W r hb' r0 r1 r2 => by have := loadAt_any Ab m cb M r W (hb.next hb') hm h1 r0 r1; rwa [HRb.out r r2] at this
  have C0 := Lib.hid h0
  have C1 := Lib.hid h1
  have HA := Lib.hid ha
  have HB := Lib.hid hb
  have HLA := Lib.hid hla
  have HLB := Lib.hid hlb
  have HM := Lib.hid hRm
  have r1000 : R ≤ 1000 := by omega
  have HS1 := Lib.hid some1
  have HS2 := Lib.hid somer
  have HS3 := Lib.hid lenr
  clear ha hb h0 h1 hla hlb hR hRm hn hm HRa HRb some1 somer lenr
  go_enter Try.func35, Try.ntmps35
  go_wp2_with fail
  with_reducible refine (VA.out _ (Below.refl _ _)).mono ?_
  rintro e w1 ⟨rfl, hb1⟩
  go_wp2_with fail
  with_reducible refine (VB.out _ hb1).mono ?_
  rintro e w2 ⟨rfl, hb2⟩
  have B2 := hb1.trans (hb2.mono hb1.size)
  clear hb1 hb2 VA VB
  have SA2 := HA.out.next B2
  have SB2 := HB.out.next B2
  clear HA HB
  obtain ⟨b, o, y1, rfl, hbb, hc1, hc2⟩ := last_cell SA2 l0.1 HLA.out
  obtain ⟨b', o', y2, rfl, hbb', hc3, hc4⟩ := last_cell SB2 l1.1 HLB.out
  have QA := Lib.hid SA2
  have QB := Lib.hid SB2
  have k1 : (1 : Int) ≤ (n : Int) := by omega
  have k2 : (1 : Int) ≤ (m : Int) := by omega
  clear SA2 SB2
  have hmin : min la lb = (R : Int) := by have := HM.out; unfold minZ at this; split at this <;> omega
  go_wp2
  go_quiet (fail)
  clear hmin hc1 hc2 hc3 hc4
  go_wp2_with fail
  refine name_world (f := fun w => Calls _ _ _ w _) ?_
  intro W3 hW3
  have K3 : Blk W3 w2.heap.size 25 #[.slice (some ⟨b, o, none⟩) n ca, .slice (some ⟨b', o', none⟩) m cb] := by rw [hW3]; exact Blk.new (w2.drewN nq) _ _
  have b3 : Below w2.heap.size w2 W3 := by rw [hW3]; exact Below.alloc (below_drewN (Below.refl _ _) _) (by simp) _
  have SA3 := QA.out.next b3
  have SB3 := QB.out.next b3
  have B3 := B2.trans (b3.mono B2.size)
  clear b3 hW3 B2
  refine (concat_any _ _ n ca m cb L M _ W3 SA3 SB3 K3 l0.1 l0.2 l1.1 l1.2).mono ?_
  rintro e w4 ⟨v4, rfl, O4, hb4⟩
  have z3 := B3.size
  have B4 := B3.trans (hb4.mono z3)
  have z4 := B4.size
  obtain ⟨C, c4, rfl⟩ := own_form O4
  have SC := Lib.hid (steps_own O4)
  obtain ⟨q40, hq40⟩ : ∃ q : Nat, q = n + m := ⟨_, rfl⟩
  have q40le : q40 ≤ 40 := by omega
  have HQ := Lib.hid hq40
  have O4h := Lib.hid O4
  clear hb4 B3 K3 SA3 SB3 QA QB z3 O4
  rw [← hq40] at SC O4h
  rw [← hq40]
  clear hq40
  go_wp2
  go_loopw [7, 9, 45] (fun v _ i wr => ∃ (k j : Nat), k ≤ q40 ∧ j ≤ k ∧ i = .int .i64 k ∧ Hid ((radiiTo (R : Int) ((L ++ M).take k)).length = j) ∧ Below w4.heap.size w4 wr ∧ Hid (wr.ownsRow w4.heap.size 2 1 v j (ints (radiiTo (R : Int) ((L ++ M).take k))))) (fun _ _ i _ => q40 - (intOf i).toNat)
  case atStart => exact ⟨0, 0, Nat.zero_le _, Nat.le_refl _, rfl, rfl, Below.refl _ _, (by show World.ownsRow _ _ _ _ _ _ _; simpa [ints, radiiTo] using World.ownsRow_nil w4 w4.heap.size 2 1)⟩
  case round =>
    obtain ⟨k, j, hk, hj, rfl, HJ, BW, HO⟩ := hrel
    have zw := BW.size
    by_cases hlt : k < q40
    · obtain ⟨bc, oc, x, y, rfl, hbc, hx, hc1, hc2⟩ := (SC.out.below BW).at_ hlt
      have f1 : (wr.alloc (.cells #[.int .i64 x, .int .i64 y] 44)).cell? ⟨wr.heap.size, 0, none⟩ = some (.int .i64 x) := (Blk.new wr 44 #[.int .i64 x, .int .i64 y]).two.1
      have i1 : (0 : Int) ≤ (k : Int) := Int.natCast_nonneg _
      have i2 : (k : Int) < (q40 : Int) := by omega
      by_cases hR : x ≤ (R : Int)
      · have E := Lib.hid (radiiTo_hit hx hR)
        clear hx
        go_wp2_with (at_builtin; refine wpList_append_own _ rfl _ _ 59 rfl w4.heap.size 2 ti _ 1 8 Try.underlying59 hi1 hy0 hy1 hy2 rfl (by omega) _ _ _ rfl ((HO.out.alloc _).alloc _) ⟨wr.heap.size + 1, 0, none⟩ 1 1 [.int .i64 x] rfl rfl (by have := cell_one_l (wr.alloc (.cells #[.int .i64 x, .int .i64 y] 44)) (.int .i64 x) 2; simpa using this) (by simp [Value.oneCell']) (by unfold maxLen; omega) (by omega) (by simp; omega) ?_; intro v' w5 hown' hgrow _)
        have B5 : Below w4.heap.size w4 w5 := ((BW.alloc zw _).alloc (by simp; omega) _).grown hgrow (by simp; omega) (fun j hj => (HO.out.lt j hj).1)
        have O5 : Hid (w5.ownsRow w4.heap.size 2 1 v' (j + 1) (ints (radiiTo (R : Int) ((L ++ M).take (k + 1))))) := by show World.ownsRow _ _ _ _ _ _ _; rw [E.out, ints_append]; exact hown'
        have J5 : Hid ((radiiTo (R : Int) ((L ++ M).take (k + 1))).length = j + 1) := by show _ = _; rw [E.out, List.length_append, HJ.out]; rfl
        clear hown' hgrow hc1 hc2 f1
        go_wp2
        exact ⟨⟨k + 1, j + 1, by omega, by omega, by go_num, J5, B5, O5⟩, by simp [intOf]; omega⟩
      · have E := Lib.hid (radiiTo_miss hx hR)
        clear hx
        go_wp2
        exact ⟨⟨k + 1, j, by omega, by omega, by go_num, (by show _ = _; rw [E.out]; exact HJ.out), BW.alloc zw _, (by show World.ownsRow _ _ _ _ _ _ _; rw [E.out]; exact HO.out.alloc _)⟩, by simp [intOf]; omega⟩
    · obtain rfl : k = q40 := by omega
      have hall : (L ++ M).take k = L ++ M := List.take_of_length_le (by have := SC.out.1; omega)
      rw [hall] at HO HJ
      have j1 : 1 ≤ j := by have := HS2.out; have := HJ.out; omega
      obtain ⟨A7, c7, rfl⟩ := own_form HO.out
      have BWw : Below w.heap.size w wr := B4.trans (BW.mono z4)
      have hO := own_monoL HO.out z4
      have zz := BWw.size
      clear hall SC O4h BW B4 HO
      have CS := sort_own A7 j c7 w.heap.size _ wr hO j1 zz (by omega)
      have HCS := Lib.hid CS
      clear CS hO
      go_wp2_with fail
      with_reducible refine HCS.out.mono ?_
      rintro e w5 ⟨rfl, O5, fr5⟩
      have B5 := fr5 _ _ (Nat.le_refl _) BWw
      have z5 := B5.size
      have CC := compact_own A7 j c7 w.heap.size _ w5 O5 j1 z5 (by omega)
      rw [LAW.out] at CC
      have HCC := Lib.hid CC
      clear CC O5 fr5 BWw HCS
      go_wp2_with fail
      with_reducible refine HCC.out.mono ?_
      rintro e w6 ⟨rfl, O6, fr6⟩
      have B6 := fr6 _ _ (Nat.le_refl _) B5
      clear fr6 B5 HCC z5 zz
      have z6 := B6.size
      obtain ⟨zs, hzs⟩ : ∃ zs, zs = commonTo L M R := ⟨_, rfl⟩
      have HB : Hid (∀ r, r ∈ zs → 1 ≤ r ∧ r ≤ (R : Int)) := fun r hr => by rw [hzs] at hr; have := commonTo_mem.1 hr; exact ⟨this.1, this.2.1⟩
      have HL : Hid (lesserL L M = zs.map (stepOf L M)) := by show _ = _; unfold lesserL; rw [ER.out, hzs]
      rw [← hzs] at O6 HS1
      rw [← hzs]
      clear hzs LAW ER
      obtain ⟨l, hl⟩ : ∃ l, l = zs.length := ⟨_, rfl⟩
      have HLn := Lib.hid hl
      have l1 : 1 ≤ l := by rw [hl]; exact HS1.out
      rw [← hl] at O6
      rw [← hl]
      clear hl HS1
      obtain ⟨g6, rfl, hb6, hg6, hlc, hcm, _, _⟩ := own_holds O6 l1
      have O6h := Lib.hid O6
      have d0 : ((l : Int) == 0) = false := by simp; omega
      clear O6 hb6
      by_cases h20 : l ≤ 20
      · obtain ⟨e1, e2⟩ := lesser_code_good C0.out C1.out (by rw [HL.out, List.length_map, ← HLn.out]; exact h20)
        have E1 := Lib.hid e1
        have E2 := Lib.hid e2
        clear e1 e2
        go_wp2
        go_loopw [10, 12, 13, 14, 15, 16, 73] (fun v _ _ _ _ _ i wr => ∃ (k : Nat), k ≤ l ∧ i = .int .i64 k ∧ Below w6.heap.size w6 wr ∧ Hid (wr.ownsRow w6.heap.size 44 2 v k (pairs ((zs.take k).map (stepOf L M))))) (fun _ _ _ _ _ _ i _ => l - (intOf i).toNat)
        case atStart => exact ⟨0, Nat.zero_le _, rfl, Below.refl _ _, (by show World.ownsRow _ _ _ _ _ _ _; simpa [pairs] using World.ownsRow_nil w6 w6.heap.size 44 2)⟩
        case round =>
          obtain ⟨k, hk, rfl, BW, HO⟩ := hrel
          have zw := BW.size
          by_cases hlt : k < l
          · obtain ⟨r, hr⟩ : ∃ r, zs[k]? = some r := ⟨_, List.getElem?_eq_getElem (by rw [← HLn.out]; exact hlt)⟩
            obtain ⟨r0, r1⟩ := HB.out r (List.mem_of_getElem? hr)
            have hc6 : w6.cell? ⟨g6, k, none⟩ = some (.int .i64 r) := by
              have := O6h.out.cellAt (g := g6) (cap := c7) k (by rw [Nat.mul_one]; exact hlt)
              rw [this]; simp [ints, hr]
            have hc : wr.cell? ⟨g6, k, none⟩ = some (.int .i64 r) := (BW.cell (p := ⟨g6, k, none⟩) hg6).trans hc6
            obtain ⟨x, hx⟩ : ∃ x, minZ (loadV L r) (loadV M r) = x := ⟨_, rfl⟩
            have E := Lib.hid (lesser_take (L := L) (M := M) hr hx)
            have hmin : min (loadV L r) (loadV M r) = x := by rw [← hx]; unfold minZ; split <;> omega
            have i1 : (0 : Int) ≤ (k : Int) := Int.natCast_nonneg _
            have i2 : (k : Int) < (l : Int) := by omega
            have BWw : Below w.heap.size w wr := B6.trans (BW.mono z6)
            clear hr hx hc6
            go_wp2_with fail
            with_reducible refine (HXa.out _ r BWw (by omega) (by omega) (by omega)).mono ?_
            rintro e w7 ⟨rfl, hb7⟩
            have B7 := BWw.trans (hb7.mono BWw.size)
            have D7 := BW.trans (hb7.mono zw)
            have O7 := Lib.hid (own_below HO.out hb7)
            clear hb7 BWw BW hc HO
            go_wp2_with fail
            with_reducible refine (HXb.out _ r B7 (by omega) (by omega) (by omega)).mono ?_
            rintro e w8 ⟨rfl, hb8⟩
            have D8 := D7.trans (hb8.mono D7.size)
            have O8 := Lib.hid (own_below O7.out hb8)
            have z8 := D8.size
            clear hb8 D7 O7 B7
            go_wp2_with (at_builtin; refine wpList_append_own _ rfl _ _ 25 rfl w6.heap.size 44 i0 _ 2 16 Try.underlying25 hi0 hz0 hz1 hz2 rfl (by omega) _ _ _ rfl (O8.out.alloc _) ⟨w8.heap.size, 0, none⟩ 1 1 [.int .i64 r, .int .i64 x] rfl rfl (cell_two_l _ _ _ _) (by simp [Value.oneCell']) (by unfold maxLen; omega) (by omega) (by simp; omega) ?_; intro v' w9 hown' hgrow _)
            have B9 : Below w6.heap.size w6 w9 := (D8.alloc z8 _).grown hgrow (by simp; omega) (fun j hj => (O8.out.lt j hj).1)
            have O9 : Hid (w9.ownsRow w6.heap.size 44 2 v' (k + 1) (pairs ((zs.take (k + 1)).map (stepOf L M)))) := by show World.ownsRow _ _ _ _ _ _ _; rw [← E.out]; exact hown'
            clear hown' hgrow D8 O8 z8 hmin
            go_wp2
            go_roundw
            case rel => exact ⟨k + 1, by omega, by go_num, B9, O9⟩
            case measure => simp [intOf]; omega
          · obtain rfl : k = l := by omega
            have hall : zs.take k = zs := List.take_of_length_le (by rw [← HLn.out]; exact Nat.le_refl _)
            rw [hall, ← HL.out] at HO
            obtain ⟨A9, c9, rfl⟩ := own_form HO.out
            have LL : Hid ((lesserL L M).length = k) := by show _ = _; rw [HL.out, List.length_map]; exact HLn.out.symm
            have OO := Lib.hid (own_monoL HO.out z6)
            have BB := B6.trans (BW.mono z6)
            clear hall HO BW B6
            go_wp2
            go_ret2
            rw [E1.out, E2.out]
            exact RetList.some_ LL.out OO.out BB
      · obtain ⟨e1, e2⟩ := lesser_code_full C0.out C1.out (by rw [HL.out, List.length_map, ← HLn.out]; exact h20)
        have E1 := Lib.hid e1
        have E2 := Lib.hid e2
        clear e1 e2
        go_wp2
        go_ret2
        rw [E1.out, E2.out]
        exact RetList.none_ rfl B6
set_option maxHeartbeats 1000000 in
theorem impl_lesser_any (Aa Ab : Option Addr) (n ca m cb : Nat) (L M : List (Int × Int)) (w : World) (ha : Steps w w.heap.size Aa n L) (hb : Steps w w.heap.size Ab m M) (hn : n ≤ maxLen) (hm : m ≤ maxLen) :
    Calls Try.prog 35 #[.slice Aa n ca, .slice Ab m cb] w (RetList w (lesserOut L M) (lesserCode L M)) := by
  cases h0 : chartB L
  · obtain ⟨e1, e2⟩ := lesser_code_bad (L := L) (M := M) (by rw [h0]; rfl)
    rw [e1, e2]
    have VA := implValidChart_any Aa n ca L w ha hn
    rw [h0] at VA
    have HA := Lib.hid VA
    clear VA ha hb h0 e1 e2
    go_enter Try.func35, Try.ntmps35
    go_wp2_with fail
    refine HA.out.mono ?_
    rintro e w1 ⟨rfl, hb1⟩
    go_wp2
    go_ret2
    exact RetList.none_ rfl hb1
  · cases h1 : chartB M
    · obtain ⟨e1, e2⟩ := lesser_code_bad (L := L) (M := M) (by rw [h0, h1]; rfl)
      rw [e1, e2]
      have VA := implValidChart_any Aa n ca L w ha hn
      rw [h0] at VA
      have HA := Lib.hid VA
      have VB := Lib.hid (fun W (hb' : Below w.heap.size w W) => implValidChart_any Ab m cb M W (hb.next hb') hm)
      rw [h1] at VB
      clear VA ha hb h0 h1 e1 e2
      go_enter Try.func35, Try.ntmps35
      go_wp2_with fail
      refine HA.out.mono ?_
      rintro e w1 ⟨rfl, hb1⟩
      go_wp2_with fail
      with_reducible refine (VB.out _ hb1).mono ?_
      rintro e w2 ⟨rfl, hb2⟩
      have B2 := hb1.trans (hb2.mono hb1.size)
      clear hb1 hb2
      go_wp2
      go_ret2
      exact RetList.none_ rfl B2
    · exact impl_lesser_good Aa Ab n ca m cb L M w ha hb hn hm h0 h1
end Go.Proofs.Ytiaineljcmjfoaa
