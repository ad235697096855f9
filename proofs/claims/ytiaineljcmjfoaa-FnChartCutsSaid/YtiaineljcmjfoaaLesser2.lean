/- The lesser of two charts: the walk of the model's side. -/
import Derived.Test.YtiaineljcmjfoaaProg
import Derived.Test.YtiaineljcmjfoaaKit
import Derived.Test.YtiaineljcmjfoaaBasics
import Derived.Test.YtiaineljcmjfoaaMem
import Derived.Test.YtiaineljcmjfoaaCodeRes
import Derived.Test.YtiaineljcmjfoaaLists
import Derived.Test.YtiaineljcmjfoaaSteps
import Derived.Test.YtiaineljcmjfoaaCharts
import Derived.Test.YtiaineljcmjfoaaChartLaws
import Derived.Test.YtiaineljcmjfoaaFinds
import Derived.Test.YtiaineljcmjfoaaLoads
import Derived.Test.YtiaineljcmjfoaaLoads2
import Derived.Test.YtiaineljcmjfoaaLoads3
import Derived.Test.YtiaineljcmjfoaaRadius
import Derived.Test.YtiaineljcmjfoaaReduce
import Derived.Test.YtiaineljcmjfoaaReduce2
import Derived.Test.YtiaineljcmjfoaaReduce3
import Derived.Test.YtiaineljcmjfoaaLesser
import Derived.Deep.AppendLies
namespace Go.Proofs.Ytiaineljcmjfoaa
open Go.RowKit Go.WideShapes Go.ChangeShapes Go.Joins Go.Deep Go.Sort
set_option linter.unusedVariables false
set_option linter.unusedSimpArgs false

theorem RetList.none_ {w w' : World} {M : List (Int × Int)} {code : Int} (hM : M = []) (hb : Below w.heap.size w w') : RetList w M code (.returned (.tuple #[.slice none 0 0, .int .i64 code])) w' := by
  subst hM
  exact ⟨none, 0, rfl, World.ownsRow_nil _ _ _ _, hb⟩
theorem RetList.some_ {w w' : World} {M : List (Int × Int)} {code : Int} {A : Option Addr} {n c : Nat} (hM : M.length = n) (ho : w'.ownsRow w.heap.size 44 2 (.slice A n c) n (pairs M)) (hb : Below w.heap.size w w') : RetList w M code (.returned (.tuple #[.slice A n c, .int .i64 code])) w' := by
  subst hM
  exact ⟨A, c, rfl, ho, hb⟩
theorem lesser_code_bad {L M : List (Int × Int)} (h : (chartB L && chartB M) = false) : lesserCode L M = 1 ∧ lesserOut L M = [] := by unfold lesserCode lesserOut; simp [h]
theorem lesser_code_full {L M : List (Int × Int)} (h0 : chartB L = true) (h1 : chartB M = true) (h : ¬ (lesserL L M).length ≤ 20) : lesserCode L M = 5 ∧ lesserOut L M = [] := by
  unfold lesserCode lesserOut lesserOk; simp [h0, h1, h]
theorem lesser_code_good {L M : List (Int × Int)} (h0 : chartB L = true) (h1 : chartB M = true) (h : (lesserL L M).length ≤ 20) : lesserCode L M = 0 ∧ lesserOut L M = lesserL L M := by
  unfold lesserCode lesserOut lesserOk; simp [h0, h1, h]
theorem lesser_hit {L M : List (Int × Int)} {k : Nat} {r x : Int} (hr : r = (k : Int) + 1) (h : bothHas L M r = true) (hx : minZ (loadV L r) (loadV M r) = x) : pairs ((commonTo L M k).map (stepOf L M)) ++ [.int .i64 r, .int .i64 x] = pairs ((commonTo L M (k + 1)).map (stepOf L M)) := by
  subst hr
  rw [commonTo_hit h, List.map_append, pairs_append, ← hx]
  rfl
theorem cell_two_l (w : World) (x y : Value) (t : TypeId) : ∀ j u, [x, y][j]? = some u → (w.alloc (.cells #[x, y] t)).cell? ((⟨w.heap.size, 0, none⟩ : Addr).add j) = some u := by
  intro j u h
  match j with
  | 0 => simp at h; subst h; exact (Blk.new w t #[x, y]).two.1
  | 1 => simp at h; subst h; exact (Blk.new w t #[x, y]).two.2
  | j + 2 => simp at h
theorem l00Min_z (a b : Int) (w : World) : Calls Try.prog 58 #[.int .i64 a, .int .i64 b] w fun e w' => e = .returned (.int .i64 (minZ a b)) ∧ w = w' := by
  by_cases h : b < a
  · have h' : ¬ a < b := by omega
    rw [show minZ a b = b from if_pos h]
    go_enter Try.func58, Try.ntmps58
    go_wp2
    go_ret
    exact ⟨rfl, rfl⟩
  · rw [show minZ a b = a from if_neg h]
    by_cases h2 : a < b
    · go_enter Try.func58, Try.ntmps58
      go_wp2
      go_ret
      exact ⟨rfl, rfl⟩
    · obtain rfl : a = b := by omega
      go_enter Try.func58, Try.ntmps58
      go_wp2
      go_ret
      exact ⟨rfl, rfl⟩
theorem l03Has_any (A : Option Addr) (n c : Nat) (L : List (Int × Int)) (r : Int) (w : World) (h : Steps w w.heap.size A n L) (hn : n ≤ maxLen) : Calls Try.prog 57 #[.slice A n c, .int .i64 r] w fun e w' => e = .returned (.bool (hasV L r)) ∧ w = w' := by
  have C := l03Find_any A n c L r w h hn
  unfold maxLen at hn
  rcases findV_cases L r with ⟨hf, _⟩ | ⟨k, x, y, hf, hkl, hk, hr, hm⟩
  · rw [hasV_none hf]
    rw [hf] at C
    have HC := Lib.hid C
    clear C h hf
    go_enter Try.func57, Try.ntmps57
    go_wp2_with fail
    refine HC.out.mono ?_
    rintro e w' ⟨rfl, rfl⟩
    go_wp2
    go_ret
    exact ⟨rfl, rfl⟩
  · rw [hasV_at hf hk]
    have hkn : k < n := by have := h.1; omega
    obtain ⟨b, o, x', y', rfl, _, hx, hc1, hc2⟩ := h.at_ hkn
    rw [hk] at hx
    obtain ⟨rfl, rfl⟩ : x = x' ∧ y = y' := by simpa using hx
    have i1 : (0 : Int) ≤ (k : Int) := Int.natCast_nonneg _
    have i2 : (k : Int) < (n : Int) := by omega
    rw [hf] at C
    have HC := Lib.hid C
    clear C h hf hk hm hx hkl
    go_enter Try.func57, Try.ntmps57
    go_wp2_with fail
    refine HC.out.mono ?_
    rintro e w' ⟨rfl, rfl⟩
    go_wp2
    go_ret
    exact ⟨by first | rfl | exact ret_bool (by simp), rfl⟩
set_option maxRecDepth 100000 in
set_option maxHeartbeats 8000000 in
theorem spec_lesser_good (Aa Ab : Option Addr) (n ca m cb : Nat) (L M : List (Int × Int)) (w : World) (ha : Steps w w.heap.size Aa n L) (hb : Steps w w.heap.size Ab m M) (hn : n ≤ maxLen) (hm : m ≤ maxLen) (h0 : chartB L = true) (h1 : chartB M = true) :
    Calls Try.prog 34 #[.slice Aa n ca, .slice Ab m cb] w (RetList w (lesserOut L M) (lesserCode L M)) := by
  obtain ⟨i0, hi0, hz0, hz1, hz2⟩ := info_parts infoStep
  have l0 := chart_len h0
  have l1 := chart_len h1
  rw [ha.1] at l0
  rw [hb.1] at l1
  have hn1 : 1 ≤ n := l0.1
  have hm1 : 1 ≤ m := l1.1
  obtain ⟨la, hla⟩ : ∃ x, lastR L = x := ⟨_, rfl⟩
  obtain ⟨lb, hlb⟩ : ∃ x, lastR M = x := ⟨_, rfl⟩
  have qa := lastR_bounds h0
  have qb := lastR_bounds h1
  rw [hla] at qa
  rw [hlb] at qb
  have q := lastBoth_bounds h0 h1
  obtain ⟨R, hR⟩ : ∃ R : Nat, lastBoth L M = (R : Int) := ⟨(lastBoth L M).toNat, by omega⟩
  have hRm : (R : Int) = minZ la lb := by rw [← hR, ← hla, ← hlb]; rfl
  have ER : Hid ((lastBoth L M).toNat = R) := by show _ = _; rw [hR]; rfl
  have some1 := common_some h0 h1
  rw [ER.out] at some1
  have S1 := Lib.hid some1
  have VA := Lib.hid (fun W (hb : Below w.heap.size w W) => l03Ok_any Aa n ca L W (ha.next hb) hn)
  have VB := Lib.hid (fun W (hb' : Below w.heap.size w W) => l03Ok_any Ab m cb M W (hb.next hb') hm)
  rw [h0] at VA
  rw [h1] at VB
  have HLa := Lib.hid (fun W (hb : Below w.heap.size w W) => l03Last_any Aa n ca L W (ha.next hb) hn hn1)
  have HLb := Lib.hid (fun W (hb' : Below w.heap.size w W) => l03Last_any Ab m cb M W (hb.next hb') hm hm1)
  rw [hla] at HLa
  rw [hlb] at HLb
  have HA := Lib.hid (fun W r (hb : Below w.heap.size w W) => l03Has_any Aa n ca L r W (ha.next hb) hn)
  have HB := Lib.hid (fun W r (hb' : Below w.heap.size w W) => l03Has_any Ab m cb M r W (hb.next hb') hm)
  have HXa := Lib.hid (fun W r (hb : Below w.heap.size w W) r0 r1 => l03Load_any Aa n ca L r W (ha.next hb) hn h0 r0 r1)
  have HXb := Lib.hid (fun W r (hb' : Below w.heap.size w W) r0 r1 => l03Load_any Ab m cb M r W (hb.next hb') hm h1 r0 r1)
  have C0 := Lib.hid h0
  have C1 := Lib.hid h1
  have HRm := Lib.hid hRm
  have r1000 : R ≤ 1000 := by omega
  clear ha hb h0 h1 hla hlb hR hRm some1 hn hm
  go_enter Try.func34, Try.ntmps34
  go_wp2_with fail
  refine (VA.out _ (Below.refl _ _)).mono ?_
  rintro e w1 ⟨rfl, hb1⟩
  go_wp2_with fail
  refine (VB.out _ hb1).mono ?_
  rintro e w2 ⟨rfl, hb2⟩
  have B2 := hb1.trans (hb2.mono hb1.size)
  have z2 := B2.size
  clear hb1 hb2 VA VB
  go_wp2
  go_loopw [6, 7] (fun v r wr => ∃ (k j : Nat), k ≤ R ∧ j ≤ k ∧ ∃ r' : Int, r = .int .i64 r' ∧ 1 ≤ r' ∧ r' ≤ 1001 ∧ Hid ((commonTo L M k).length = j) ∧ Below w.heap.size w wr ∧ Hid (wr.ownsRow w.heap.size 44 2 v j (pairs ((commonTo L M k).map (stepOf L M)))) ∧ Hid (r' = (k : Int) + 1)) (fun _ r _ => (1001 - intOf r).toNat)
  case atStart => exact ⟨0, 0, Nat.zero_le _, Nat.le_refl _, 1, rfl, by omega, by omega, rfl, B2.alloc z2 _, (by show World.ownsRow _ _ _ _ _ _ _; simpa [pairs, commonTo] using World.ownsRow_lit (base := w.heap.size) (e := 44) (size := 2) w2 #[] 0 z2 (by unfold maxLen; omega) rfl), rfl⟩
  case round =>
    obtain ⟨k, j, hk, hj, r, rfl, r0, r1, HJ, BW, HO, HR⟩ := hrel
    have zw := BW.size
    clear B2 z2
    by_cases hlt : k < R
    · have i1 : r ≤ la ∧ r ≤ lb := by
        have e1 := HRm.out
        have e2 := HR.out
        unfold minZ at e1
        split at e1 <;> omega
      obtain ⟨i1, i2⟩ := i1
      have EA : Hid (bothHas L M r = (hasV L r || hasV M r)) := rfl
      have HAr := Lib.hid (fun W hb => HA.out W r hb)
      have HBr := Lib.hid (fun W hb => HB.out W r hb)
      cases hA : hasV L r
      · rw [hA] at HAr EA
        cases hB : hasV M r
        · rw [hB] at HBr EA
          have EB : Hid (bothHas L M r = false) := EA.out
          clear EA hA hB HA HB
          go_wp2_with (first | (go_at_call 54; ((first | (with_reducible refine (HLa.out _ BW).mono ?_) | (with_reducible refine (HLb.out _ BW).mono ?_)); rintro e w' ⟨rfl, rfl⟩)) | (go_at_call 57; ((first | (with_reducible refine (HAr.out _ BW).mono ?_) | (with_reducible refine (HBr.out _ BW).mono ?_)); rintro e w' ⟨rfl, rfl⟩)))
          exact ⟨⟨k + 1, j, by omega, by omega, r + 1, rfl, by omega, by omega, (by show _ = _; have e1 := commonTo_miss (a := L) (b := M) (n := k) (by have := EB.out; rw [HR.out] at this; exact this); rw [e1]; exact HJ.out), BW, (by show World.ownsRow _ _ _ _ _ _ _; have e1 := commonTo_miss (a := L) (b := M) (n := k) (by have := EB.out; rw [HR.out] at this; exact this); rw [e1]; exact HO.out), (by show _ = _; have := HR.out; omega)⟩, by simp [intOf]; omega⟩
        · rw [hB] at HBr EA
          have EB : Hid (bothHas L M r = true) := EA.out
          clear EA hA hB HA HB
          go_wp2_with (first | (go_at_call 54; ((first | (with_reducible refine (HLa.out _ BW).mono ?_) | (with_reducible refine (HLb.out _ BW).mono ?_)); rintro e w' ⟨rfl, rfl⟩)) | (go_at_call 57; ((first | (with_reducible refine (HAr.out _ BW).mono ?_) | (with_reducible refine (HBr.out _ BW).mono ?_)); rintro e w' ⟨rfl, rfl⟩)))
          with_reducible refine (HXa.out _ r BW (by omega) (by omega)).mono ?_
          rintro e w3 ⟨rfl, hb3⟩
          have B3 := BW.trans (hb3.mono BW.size)
          have O3 := Lib.hid (own_below HO.out hb3)
          clear hb3
          go_wp2_with fail
          with_reducible refine (HXb.out _ r B3 (by omega) (by omega)).mono ?_
          rintro e w4 ⟨rfl, hb4⟩
          have B4 := B3.trans (hb4.mono B3.size)
          have O4 := Lib.hid (own_below O3.out hb4)
          have z4 := B4.size
          clear hb4 B3 O3
          go_wp2_with (first | (go_at_call 58; refine (l00Min_z _ _ _).mono ?_; rintro e w' ⟨rfl, rfl⟩) | (at_builtin; refine wpList_append_own _ rfl _ _ 25 rfl w.heap.size 44 i0 _ 2 16 Try.underlying25 hi0 hz0 hz1 hz2 rfl (by omega) _ _ _ rfl (O4.out.alloc _) ⟨w4.heap.size, 0, none⟩ 1 1 [.int .i64 r, .int .i64 (minZ (loadV L r) (loadV M r))] rfl rfl (cell_two_l _ _ _ _) (by simp [Value.oneCell']) (by unfold maxLen; omega) (by omega) (by simp; omega) ?_; intro v' w5 hown' hgrow _))
          have B5 : Below w.heap.size w w5 := (B4.alloc z4 _).grown hgrow (by simp; omega) (fun j hj => (O4.out.lt j hj).1)
          have O5 : Hid (w5.ownsRow w.heap.size 44 2 v' (j + 1) (pairs ((commonTo L M (k + 1)).map (stepOf L M)))) := by show World.ownsRow _ _ _ _ _ _ _; rw [← lesser_hit HR.out EB.out rfl]; exact hown'
          have J5 : Hid ((commonTo L M (k + 1)).length = j + 1) := by show _ = _; have e1 := commonTo_hit (a := L) (b := M) (n := k) (by have := EB.out; rw [HR.out] at this; exact this); rw [e1, List.length_append, HJ.out]; rfl
          clear hown' hgrow O4 B4 z4
          go_wp2
          exact ⟨⟨k + 1, j + 1, by omega, by omega, r + 1, rfl, by omega, by omega, J5, B5, O5, by show _ = _; have := HR.out; omega⟩, by simp [intOf]; omega⟩
      · rw [hA] at HAr EA
        have EB : Hid (bothHas L M r = true) := EA.out
        clear EA hA HA HB
        go_wp2_with (first | (go_at_call 54; ((first | (with_reducible refine (HLa.out _ BW).mono ?_) | (with_reducible refine (HLb.out _ BW).mono ?_)); rintro e w' ⟨rfl, rfl⟩)) | (go_at_call 57; ((first | (with_reducible refine (HAr.out _ BW).mono ?_) | (with_reducible refine (HBr.out _ BW).mono ?_)); rintro e w' ⟨rfl, rfl⟩)))
        with_reducible refine (HXa.out _ r BW (by omega) (by omega)).mono ?_
        rintro e w3 ⟨rfl, hb3⟩
        have B3 := BW.trans (hb3.mono BW.size)
        have O3 := Lib.hid (own_below HO.out hb3)
        clear hb3
        go_wp2_with fail
        with_reducible refine (HXb.out _ r B3 (by omega) (by omega)).mono ?_
        rintro e w4 ⟨rfl, hb4⟩
        have B4 := B3.trans (hb4.mono B3.size)
        have O4 := Lib.hid (own_below O3.out hb4)
        have z4 := B4.size
        clear hb4 B3 O3
        go_wp2_with (first | (go_at_call 58; refine (l00Min_z _ _ _).mono ?_; rintro e w' ⟨rfl, rfl⟩) | (at_builtin; refine wpList_append_own _ rfl _ _ 25 rfl w.heap.size 44 i0 _ 2 16 Try.underlying25 hi0 hz0 hz1 hz2 rfl (by omega) _ _ _ rfl (O4.out.alloc _) ⟨w4.heap.size, 0, none⟩ 1 1 [.int .i64 r, .int .i64 (minZ (loadV L r) (loadV M r))] rfl rfl (cell_two_l _ _ _ _) (by simp [Value.oneCell']) (by unfold maxLen; omega) (by omega) (by simp; omega) ?_; intro v' w5 hown' hgrow _))
        have B5 : Below w.heap.size w w5 := (B4.alloc z4 _).grown hgrow (by simp; omega) (fun j hj => (O4.out.lt j hj).1)
        have O5 : Hid (w5.ownsRow w.heap.size 44 2 v' (j + 1) (pairs ((commonTo L M (k + 1)).map (stepOf L M)))) := by show World.ownsRow _ _ _ _ _ _ _; rw [← lesser_hit HR.out EB.out rfl]; exact hown'
        have J5 : Hid ((commonTo L M (k + 1)).length = j + 1) := by show _ = _; have e1 := commonTo_hit (a := L) (b := M) (n := k) (by have := EB.out; rw [HR.out] at this; exact this); rw [e1, List.length_append, HJ.out]; rfl
        clear hown' hgrow O4 B4 z4
        go_wp2
        exact ⟨⟨k + 1, j + 1, by omega, by omega, r + 1, rfl, by omega, by omega, J5, B5, O5, by show _ = _; have := HR.out; omega⟩, by simp [intOf]; omega⟩
    · obtain rfl : k = R := by omega
      have i1 : ¬ r ≤ la ∨ ¬ r ≤ lb := by
        have e1 := HRm.out
        have e2 := HR.out
        unfold minZ at e1
        split at e1 <;> omega
      have j1 : 1 ≤ j := by have := S1.out; have := HJ.out; omega
      obtain ⟨A', c', rfl⟩ := own_form HO.out
      have LL : Hid ((lesserL L M).length = j) := by show _ = _; rw [lesserL_length, ER.out]; exact HJ.out
      have OO : Hid (wr.ownsRow w.heap.size 44 2 (.slice A' j c') j (pairs (lesserL L M))) := by show World.ownsRow _ _ _ _ _ _ _; unfold lesserL; rw [ER.out]; exact HO.out
      have j2 : decide ((j : Int) = 0) = false := by simp; omega
      by_cases h20 : j ≤ 20
      · obtain ⟨e1, e2⟩ := lesser_code_good C0.out C1.out (by rw [LL.out]; exact h20)
        have E1 := Lib.hid e1
        have E2 := Lib.hid e2
        clear e1 e2 HO
        by_cases hx : r ≤ la
        · have hy : ¬ r ≤ lb := by omega
          clear i1
          go_wp2_with (first | (go_at_call 54; ((first | (with_reducible refine (HLa.out _ BW).mono ?_) | (with_reducible refine (HLb.out _ BW).mono ?_)); rintro e w' ⟨rfl, rfl⟩)))
          go_ret2
          rw [E1.out, E2.out]
          exact RetList.some_ LL.out OO.out BW
        · clear i1
          go_wp2_with (first | (go_at_call 54; ((first | (with_reducible refine (HLa.out _ BW).mono ?_) | (with_reducible refine (HLb.out _ BW).mono ?_)); rintro e w' ⟨rfl, rfl⟩)))
          go_ret2
          rw [E1.out, E2.out]
          exact RetList.some_ LL.out OO.out BW
      · obtain ⟨e1, e2⟩ := lesser_code_full C0.out C1.out (by rw [LL.out]; exact h20)
        have E1 := Lib.hid e1
        have E2 := Lib.hid e2
        clear e1 e2 HO
        by_cases hx : r ≤ la
        · have hy : ¬ r ≤ lb := by omega
          clear i1
          go_wp2_with (first | (go_at_call 54; ((first | (with_reducible refine (HLa.out _ BW).mono ?_) | (with_reducible refine (HLb.out _ BW).mono ?_)); rintro e w' ⟨rfl, rfl⟩)))
          go_ret2
          rw [E1.out, E2.out]
          exact RetList.none_ rfl BW
        · clear i1
          go_wp2_with (first | (go_at_call 54; ((first | (with_reducible refine (HLa.out _ BW).mono ?_) | (with_reducible refine (HLb.out _ BW).mono ?_)); rintro e w' ⟨rfl, rfl⟩)))
          go_ret2
          rw [E1.out, E2.out]
          exact RetList.none_ rfl BW
set_option maxHeartbeats 1000000 in
theorem spec_lesser_any (Aa Ab : Option Addr) (n ca m cb : Nat) (L M : List (Int × Int)) (w : World) (ha : Steps w w.heap.size Aa n L) (hb : Steps w w.heap.size Ab m M) (hn : n ≤ maxLen) (hm : m ≤ maxLen) :
    Calls Try.prog 34 #[.slice Aa n ca, .slice Ab m cb] w (RetList w (lesserOut L M) (lesserCode L M)) := by
  cases h0 : chartB L
  · obtain ⟨e1, e2⟩ := lesser_code_bad (L := L) (M := M) (by rw [h0]; rfl)
    rw [e1, e2]
    have VA := l03Ok_any Aa n ca L w ha hn
    rw [h0] at VA
    have HA := Lib.hid VA
    clear VA ha hb h0 e1 e2
    go_enter Try.func34, Try.ntmps34
    go_wp2_with fail
    refine HA.out.mono ?_
    rintro e w1 ⟨rfl, hb1⟩
    go_wp2
    go_ret2
    exact RetList.none_ rfl hb1
  · cases h1 : chartB M
    · obtain ⟨e1, e2⟩ := lesser_code_bad (L := L) (M := M) (by rw [h0, h1]; rfl)
      rw [e1, e2]
      have VA := l03Ok_any Aa n ca L w ha hn
      rw [h0] at VA
      have HA := Lib.hid VA
      have VB := Lib.hid (fun W (hb' : Below w.heap.size w W) => l03Ok_any Ab m cb M W (hb.next hb') hm)
      rw [h1] at VB
      clear VA ha hb h0 h1 e1 e2
      go_enter Try.func34, Try.ntmps34
      go_wp2_with fail
      refine HA.out.mono ?_
      rintro e w1 ⟨rfl, hb1⟩
      go_wp2_with fail
      refine (VB.out _ hb1).mono ?_
      rintro e w2 ⟨rfl, hb2⟩
      have B2 := hb1.trans (hb2.mono hb1.size)
      clear hb1 hb2
      go_wp2
      go_ret2
      exact RetList.none_ rfl B2
    · exact spec_lesser_good Aa Ab n ca m cb L M w ha hb hn hm h0 h1
end Go.Proofs.Ytiaineljcmjfoaa
