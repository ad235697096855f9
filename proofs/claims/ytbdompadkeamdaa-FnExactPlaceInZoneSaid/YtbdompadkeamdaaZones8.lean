/- Zones: twice the area; the walks of both sides, and the law. -/
import Derived.Test.YtbdompadkeamdaaProg
import Derived.Test.YtbdompadkeamdaaKit
import Derived.Test.YtbdompadkeamdaaBasics
import Derived.Test.YtbdompadkeamdaaMem
import Derived.Test.YtbdompadkeamdaaCodeRes
import Derived.Test.YtbdompadkeamdaaLists
import Derived.Test.YtbdompadkeamdaaPts
import Derived.Test.YtbdompadkeamdaaZonePlain
import Derived.Test.YtbdompadkeamdaaZones
import Derived.Test.YtbdompadkeamdaaZones2
import Derived.Test.YtbdompadkeamdaaZones3
import Derived.Test.YtbdompadkeamdaaZones5
import Derived.Test.YtbdompadkeamdaaZones6
import Derived.Test.YtbdompadkeamdaaZones7
import Derived.Test.YtbdompadkeamdaaZonePlain2
import Derived.Test.YtbdompadkeamdaaTail
import Derived.Deep.RegionHeld3
namespace Go.Proofs.Ytbdompadkeamdaa
open Go.RowKit Go.WideShapes Go.ChangeShapes Go.Joins Go.Deep Go.Sort
set_option linter.unusedVariables false
set_option linter.unusedSimpArgs false
theorem grown_set (w : World) (g i : Nat) (v : Value) : w.grownBy (w.setCell ⟨g, i, none⟩ v) (some g) := ⟨rfl, rfl, rfl, by simp, fun k _ hne => Below.heap_setCell _ _ _ _ (by simpa using hne)⟩
theorem grown_alloc {a w : World} {row : Option Nat} (h : a.grownBy w row) (o : Obj) : a.grownBy (w.alloc o) row := grown_trans h (World.grownBy_alloc w o row)
theorem Steps.grown {w w' : World} {B n : Nat} {A : Option Addr} {L : List (Int × Int)} (h : Steps w B A n L) {row : Option Nat} (hg : w.grownBy w' row) (hB : B ≤ w.heap.size) (hr : ∀ g, row = some g → B ≤ g) : Steps w' B A n L :=
  h.keep fun p hp => World.cell?_of_block (hg.block p.block (by omega) (fun e => by have := hr _ e.symm; omega))
theorem below_of_grown {w w' : World} {B g : Nat} (hg : w.grownBy w' (some g)) (hB : B ≤ w.heap.size) (hr : B ≤ g) : Below B w w' := (Below.refl _ _).grown hg hB (fun k hk => by injection hk with hk; omega)
theorem areaSide_any (i px py qx qy v : Int) (g : Nat) (w : World) (K : Blk w g 2 #[.int .i64 v]) (hp : placeB px py = true) (hq : placeB qx qy = true) (v0 : -1000000000000 ≤ v) (v1 : v ≤ 1000000000000) :
    Calls Try.prog 56 #[.int .i64 i, ptV px py, ptV qx qy, .pointer (some ⟨g, 0, none⟩)] w fun en w' => en = .returned (.bool true) ∧ Blk w' g 2 #[.int .i64 (v + termZ (px, py) (qx, qy))] ∧ w.grownBy w' (some g) := by
  obtain ⟨⟨m1, m2⟩, m3, m4⟩ := term_bounds hp hq
  have lt := K.lt
  have c0 := K.one
  have fz := K.frozen 0
  have HK := Lib.hid K
  clear K hp hq
  go_enter Try.func56, Try.ntmps56
  go_wp2
  go_ret
  exact ⟨rfl, ((HK.out.set_ 0 _).alloc _).alloc _, grown_alloc (grown_alloc (grown_set _ _ _ _) _) _⟩
set_option maxHeartbeats 1000000 in
theorem sidesArea_any (k s e : Int) (A : Option Addr) (n c : Nat) (L : List (Int × Int))  (B g : Nat) (w : World) (hB : B ≤ g) (K : Blk w g 2 #[.int .i64 (loopZ L 0)]) (h : Steps w B A n L) (hn : n ≤ 12) (hp : placesB L = true) (hL : L.length = n) :
    Calls Try.prog 55 #[zoneV k s e A n c, .func (.func 56) #[] #[.pointer (some ⟨g, 0, none⟩)]] w fun en w' => en = .returned (.bool true) ∧ Blk w' g 2 #[.int .i64 (loopZ L n)] ∧ w.grownBy w' (some g) := by
  have lt := K.lt
  have H := Lib.hid h
  have HP := Lib.hid hp
  have HK := Lib.hid K
  clear h hp K
  go_enter Try.func55, Try.ntmps55
  go_wp2
  have G0 : w.grownBy (w.alloc (.cells #[.int .i64 k, .int .i64 s, .int .i64 e, .slice A n c] 29)) (some g) := World.grownBy_alloc _ _ _
  have KZ := Lib.hid (Blk.new w 29 #[.int .i64 k, .int .i64 s, .int .i64 e, .slice A n c])
  have KG := Lib.hid (HK.out.alloc (.cells #[.int .i64 k, .int .i64 s, .int .i64 e, .slice A n c] 29))
  go_loopw [5, 6, 10] (fun _ _ i wr => ∃ j : Nat, j ≤ n ∧ i = .int .i64 j ∧ Hid (w.grownBy wr (some g)) ∧ Hid (Blk wr w.heap.size 29 #[.int .i64 k, .int .i64 s, .int .i64 e, .slice A n c]) ∧ Hid (Blk wr g 2 #[.int .i64 (loopZ L j)])) (fun _ _ i _ => n - (intOf i).toNat)
  case atStart => exact ⟨0, Nat.zero_le _, rfl, G0, KZ, KG⟩
  case round =>
    clear G0 KZ KG
    obtain ⟨j, hj, rfl, HG, HZ, HS⟩ := hrel
    have hz := HG.out.size
    by_cases hjn : j < n
    · obtain ⟨m, hm, em1, em2⟩ := mod_form hjn
      have SR := H.out.grown HG.out (by omega) (fun g' e => by injection e with e; omega)
      obtain ⟨b, o, x, y, eA, hbb, hx, hc1, hc2⟩ := SR.at_ hjn
      obtain ⟨b', o', u, v, eA', _, hx', _, _⟩ := SR.at_ hm
      have i1 : (0 : Int) ≤ (j : Int) := Int.natCast_nonneg _
      have i2 : (j : Int) < (n : Int) := by omega
      have i3 : (0 : Int) ≤ (m : Int) := Int.natCast_nonneg _
      have i4 : (m : Int) < (n : Int) := by omega
      have i5 : (1 : Int) ≤ (n : Int) := by omega
      have v1 := IntWalk.i64_in ((j : Int) + 1) (by omega)
      have hlw : b < wr.heap.size := by omega
      have hlb : b < w.heap.size := by omega
      have hbg : b ≠ g := by omega
      subst eA
      obtain ⟨rfl, rfl⟩ : b = b' ∧ o = o' := by simpa using eA'
      obtain ⟨c0, c1, c2, c3⟩ := HZ.out.four
      have lz := HZ.out.lt
      have e1 := ptAt_of hx
      have e2 : ptAt L ((j + 1) % n) = (u, v) := by rw [em1]; exact ptAt_of hx'
      have pp : placeB x y = true := places_at HP.out hx
      have pq : placeB u v = true := places_at HP.out hx'
      have GW := grown_alloc HG.out (.cells #[.int .i64 x, .int .i64 y] 39)
      have NZ := Lib.hid (HZ.out.alloc (.cells #[.int .i64 x, .int .i64 y] 39))
      have NS := Lib.hid (HS.out.alloc (.cells #[.int .i64 x, .int .i64 y] 39))
      obtain ⟨lb0, lb1⟩ := loop_bound HP.out j (by omega)
      have EL : Hid (loopZ L j + termZ (x, y) (u, v) = loopZ L (j + 1)) := by
        show _ = loopZ L j + termZ (ptAt L j) (ptAt L ((j + 1) % L.length))
        rw [e1, hL, e2]
      have HX := Lib.hid hx'
      clear eA' hx hx' em1 e1 e2
      go_wp2_with fail
      refine name_world (f := fun w => (Code.region _ _ _).wp _ _ _ w) ?_
      intro W hW
      have KP : Blk W wr.heap.size 39 #[.int .i64 x, .int .i64 y] := by rw [hW]; exact Blk.new _ _ _
      have KZ : Blk W w.heap.size 29 #[.int .i64 k, .int .i64 s, .int .i64 e, .slice (some ⟨b, o, none⟩) n c] := by rw [hW]; exact NZ.out
      have KS : Blk W g 2 #[.int .i64 (loopZ L j)] := by rw [hW]; exact NS.out
      have HGW : w.grownBy W (some g) := by rw [hW]; exact GW
      have zW := HGW.size
      obtain ⟨q1, q2⟩ := (H.out.grown HGW (by omega) (fun g' e => by injection e with e; omega)).get hm HX.out
      have f1 := cell_regrown q1
      have f2 := cell_regrown q2
      have f3 := cell_regrown KP.two.1
      have f4 := cell_regrown KP.two.2
      have f5 := cell_regrown KZ.four.2.2.2
      clear hW KP q1 q2 GW NZ NS
      refine wp_region_below_tail 13 (by kernel_rfl) (by kernel_rfl) ?_
      simp only [List.take_succ_cons, List.take_zero, List.drop_succ_cons, List.drop_zero]
      repeat (first | go_big_quiet_step (fail) | quiet_step (fail))
      refine wpQuiet_nil ?_
      intro w2 hw2
      have hb2 := class_below hw2
      have KZ2 := Lib.hid (KZ.on hb2)
      have KS2 := Lib.hid (KS.on hb2)
      have G2 := Lib.hid (grown_trans HGW (grown_of_below hb2 (some g)))
      clear hw2 hb2 f1 f2 f3 f4 f5 KZ KS HGW
      go_wp2_with fail
      refine (areaSide_any _ _ _ _ _ _ _ _ KS2.out pp pq (by omega) (by omega)).mono ?_
      rintro e w3 ⟨rfl, KS3, hg3⟩
      have G3 := Lib.hid (grown_trans G2.out hg3)
      have KZ3 := Lib.hid (KZ2.out.grown hg3 (by intro e; injection e with e; omega))
      rw [EL.out] at KS3
      have KS3 := Lib.hid KS3
      clear hg3 G2 KZ2 KS2
      go_wp2
      exact ⟨⟨j + 1, by omega, by go_num, G3, KZ3, KS3⟩, by simp [intOf]; omega⟩
    · obtain rfl : j = n := by omega
      go_wp2
      go_ret
      exact ⟨rfl, HS.out, HG.out⟩
set_option maxHeartbeats 1000000 in
theorem specDoubleAreaOf_any (k s e : Int) (A : Option Addr) (n c : Nat) (L : List (Int × Int)) (w : World) (h : Steps w w.heap.size A n L) (hn : n ≤ maxLen) : Calls Try.prog 23 #[zoneV k s e A n c] w fun en w' => en = .returned (pairV (zoneB k s e L) (fanZ (ptAt L) (n - 1)) 1) ∧ Below w.heap.size w w' := by
  have B0 := below_alloc1 w (.cells #[.int .i64 k, .int .i64 s, .int .i64 e, .slice A n c] 29)
  have K0 := Lib.hid (Blk.new w 29 #[.int .i64 k, .int .i64 s, .int .i64 e, .slice A n c])
  have CC := l05Ok_any k s e A n c L w.heap.size _ K0.out (h.next B0) hn
  have H := Lib.hid h
  have B0 := Lib.hid B0
  clear h
  cases hz : zoneB k s e L
  · rw [pairV_false]
    rw [hz] at CC
    have HC := Lib.hid CC
    clear CC hz K0 H
    go_enter Try.func23, Try.ntmps23
    go_wp2_with fail
    refine HC.out.mono ?_
    rintro en w1 ⟨rfl, hb1⟩
    have B1 := B0.out.trans (hb1.mono B0.out.size)
    clear hb1 B0
    go_wp2
    go_ret2
    exact ⟨rfl, B1⟩
  · rw [pairV_true]
    have zo := zone_ok hz
    have hL := H.out.1
    have n3 : 3 ≤ n := by have := zo.low; omega
    have n12 : n ≤ 12 := by have := zo.few; omega
    have HP := Lib.hid zo.places
    rw [hz] at CC
    have HC := Lib.hid CC
    have HL := Lib.hid hL
    have F1 := Lib.hid (fan_one L)
    clear CC hz zo hL hn
    go_enter Try.func23, Try.ntmps23
    go_wp2_with fail
    refine HC.out.mono ?_
    rintro en w1 ⟨rfl, hb1⟩
    have B1 := B0.out.trans (hb1.mono B0.out.size)
    have K1 := Lib.hid (K0.out.on hb1)
    clear hb1 B0 K0
    go_wp2
    go_loopw [4, 5] (fun t i wr => ∃ j : Nat, 1 ≤ j ∧ j < n ∧ i = .int .i64 j ∧ t = .int .i64 (fanZ (ptAt L) j) ∧ Below w1.heap.size w1 wr) (fun _ i _ => n - (intOf i).toNat)
    case atStart => exact ⟨1, by omega, by omega, rfl, by rw [F1.out], Below.refl _ _⟩
    case round =>
      obtain ⟨j, hj1, hj, rfl, rfl, HB⟩ := hrel
      obtain ⟨c0, c1, c2, c3⟩ := (K1.out.on HB).four
      have i1 : (1 : Int) ≤ (j : Int) := by omega
      have i2 : (j : Int) < (n : Int) := by omega
      have v1 := IntWalk.i64_in ((j : Int) + 1) (by omega)
      by_cases hjn : j + 1 < n
      · have i3 : (j : Int) + 1 < (n : Int) := by omega
        have i4 : (0 : Int) < (n : Int) := by omega
        have SR := H.out.below (B1.trans (HB.mono B1.size))
        obtain ⟨b, o, x, y, eA, _, hx, hc1, hc2⟩ := SR.at_ (show 0 < n by omega)
        obtain ⟨b', o', u, v, eA', _, hx', hc1', hc2'⟩ := SR.at_ hj
        obtain ⟨b'', o'', p, q, eA'', _, hx'', hc1'', hc2''⟩ := SR.at_ hjn
        subst eA
        obtain ⟨rfl, rfl⟩ : b = b' ∧ o = o' := by simpa using eA'
        obtain ⟨rfl, rfl⟩ : b = b'' ∧ o = o'' := by simpa using eA''
        have p0 : placeB x y = true := places_at HP.out hx
        have p1 : placeB u v = true := places_at HP.out hx'
        have p2 : placeB p q = true := places_at HP.out hx''
        obtain ⟨fb0, fb1⟩ := fan_bound HP.out j (by rw [HL.out]; omega)
        obtain ⟨cb0, cb1⟩ := cross_bound2 p0 p1 p2
        have E : Hid (fanZ (ptAt L) j + crossV x y u v p q = fanZ (ptAt L) (j + 1)) := by
          show _ = fanZ (ptAt L) j + crossV (ptAt L 0).1 (ptAt L 0).2 (ptAt L j).1 (ptAt L j).2 (ptAt L (j + 1)).1 (ptAt L (j + 1)).2
          rw [ptAt_of hx, ptAt_of hx', ptAt_of hx'']
        have v2 := IntWalk.i64_in (fanZ (ptAt L) j + crossV x y u v p q) (by omega)
        simp only [Nat.zero_mul, Nat.add_zero] at hc1 hc2
        have f1 := cell_regrown hc1
        have f2 := cell_regrown hc2
        have f3 := cell_regrown hc1'
        have f4 := cell_regrown hc2'
        have f5 := cell_regrown hc1''
        have f6 := cell_regrown hc2''
        have f7 := cell_regrown c3
        clear eA' eA'' hx hx' hx'' hc1 hc2 hc1' hc2' hc1'' hc2''
        go_wp2_with fail
        refine wp_region_quiet_below (by kernel_rfl) (by kernel_rfl) ?_
        repeat (first | go_big_quiet_step (exact Calls.regrown_of (l05Cross_any _ _ _ _ _ _ _ p0 p1 p2)) | quiet_step (exact Calls.regrown_of (l05Cross_any _ _ _ _ _ _ _ p0 p1 p2)))
        refine wpQuiet_nil ?_
        intro w2 hw2
        have hb2 := class_below hw2
        have B2 := HB.trans (hb2.mono HB.size)
        clear f1 f2 f3 f4 f5 f6 f7 hw2 hb2 v2 c0 c1 c2 c3
        go_wp2
        exact ⟨⟨j + 1, by omega, by omega, by go_num, ret_val E.out, B2⟩, by simp [intOf]; omega⟩
      · obtain rfl : n = j + 1 := by omega
        have i3 : ¬ (j : Int) + 1 < ((j + 1 : Nat) : Int) := by omega
        go_wp2
        go_ret2
        exact ⟨rfl, B1.trans (HB.mono B1.size)⟩
theorem implDoubleAreaOf_any (k s e : Int) (A : Option Addr) (n c : Nat) (L : List (Int × Int)) (w : World) (h : Steps w w.heap.size A n L) (hn : n ≤ maxLen) : Calls Try.prog 24 #[zoneV k s e A n c] w fun en w' => en = .returned (pairV (zoneB k s e L) (fanZ (ptAt L) (n - 1)) 1) ∧ Below w.heap.size w w' := by
  have hmf : ∀ (fn : Fn) (first cap : Array Value) (w : World), (Instr.makeFunc fn first cap).run Try.prog w = .ok (.func fn first cap) w := fun _ _ _ _ => rfl
  have B0 := below_alloc1 w (.cells #[.int .i64 k, .int .i64 s, .int .i64 e, .slice A n c] 29)
  have K0 := Lib.hid (Blk.new w 29 #[.int .i64 k, .int .i64 s, .int .i64 e, .slice A n c])
  have CC := implValidZone_any k s e A n c L _ (h.next B0) hn
  have H := Lib.hid h
  have B0 := Lib.hid B0
  clear h hn
  cases hz : zoneB k s e L
  · rw [pairV_false]
    rw [hz] at CC
    have HC := Lib.hid CC
    clear CC hz K0 H
    go_enter Try.func24, Try.ntmps24
    go_wp2_with fail
    refine HC.out.mono ?_
    rintro en w1 ⟨rfl, hb1⟩
    have B1 := B0.out.trans (hb1.mono B0.out.size)
    clear hb1 B0
    go_wp2
    go_ret2
    exact ⟨rfl, B1⟩
  · rw [pairV_true]
    have zo := zone_ok hz
    have hL := H.out.1
    have n3 : 3 ≤ n := by have := zo.low; omega
    have n12 : n ≤ 12 := by have := zo.few; omega
    have HP := Lib.hid zo.places
    have EF : Hid (loopZ L n = fanZ (ptAt L) (n - 1)) := by
      show _ = _
      have := loop_fan (L := L) (m := n - 1) (by omega)
      rwa [show n - 1 + 1 = n by omega] at this
    rw [hz] at CC
    have HC := Lib.hid CC
    have HL := Lib.hid hL
    clear CC hz zo hL
    go_enter Try.func24, Try.ntmps24
    go_wp2_with fail
    refine HC.out.mono ?_
    rintro en w1 ⟨rfl, hb1⟩
    have B1 := B0.out.trans (hb1.mono B0.out.size)
    obtain ⟨c0, c1, c2, c3⟩ := (K0.out.on hb1).four
    have lz := (K0.out.on hb1).lt
    have KG := Lib.hid (Blk.new w1 2 #[.int .i64 0])
    have z1 := B1.size
    have S1 := Lib.hid ((H.out.below B1).below (below_alloc1 w1 (.cells #[.int .i64 0] 2) |>.mono z1))
    clear hb1 B0 K0
    go_wp2_with fail
    refine (sidesArea_any k s e A n c L w.heap.size _ _ z1 KG.out S1.out n12 HP.out HL.out).mono ?_
    rintro en w2 ⟨rfl, KS, hg⟩
    have B2 := (B1.alloc z1 (.cells #[.int .i64 0] 2)).grown hg (by simp; omega) (fun k' hk => by injection hk with hk; omega)
    rw [EF.out] at KS
    have cs := KS.one
    clear hg KS KG S1 B1 c0 c1 c2 c3
    go_wp2
    go_ret2
    exact ⟨rfl, B2⟩
set_option maxHeartbeats 2000000 in
theorem FnExactDoubleAreaOf_walk (w : World) (k : Int) (_wk : (Lit.int .i64 k).wf = true) (s : Int) (_ws : (Lit.int .i64 s).wf = true) (e : Int) (_we : (Lit.int .i64 e).wf = true) (A : Option Addr) (n c : Nat) (L : List (Int × Int)) (hn : n ≤ maxLen) (SA : Steps w w.heap.size A n L)  : Calls Try.prog 6 #[zoneV k s e A n c] w fun en w' => en = .returned (.bool true) ∧ Below w.heap.size w w' := by
  clear _wk _ws _we
  obtain ⟨x, y, F⟩ := pair2_form (zoneB k s e L) (fanZ (ptAt L) (n - 1)) 1
  have H1 : Hid (∀ A n' c w, n' = n → Steps w w.heap.size A n' L → n' ≤ maxLen → Calls Try.prog 23 #[zoneV k s e A n' c] w fun en w' => en = .returned (.tuple #[.int .i64 x, .int .i64 y]) ∧ Below w.heap.size w w') := fun A n' c w e h hn => by subst e; rw [← F]; exact specDoubleAreaOf_any k s e A n' c L w h hn
  have H2 : Hid (∀ A n' c w, n' = n → Steps w w.heap.size A n' L → n' ≤ maxLen → Calls Try.prog 24 #[zoneV k s e A n' c] w fun en w' => en = .returned (.tuple #[.int .i64 x, .int .i64 y]) ∧ Below w.heap.size w w') := fun A n' c w e h hn => by subst e; rw [← F]; exact implDoubleAreaOf_any k s e A n' c L w h hn
  clear F
  by_cases hs : (n : Int) ≤ 1048576
  · have B0 : Below w.heap.size w (w.alloc (.cells #[.int .i64 k, .int .i64 s, .int .i64 e, .slice A n c] 24)) := below_alloc1 _ _
    have KA0 : Blk (w.alloc (.cells #[.int .i64 k, .int .i64 s, .int .i64 e, .slice A n c] 24)) (w.heap.size) 24 #[.int .i64 k, .int .i64 s, .int .i64 e, .slice A n c] := Blk.new w _ _
    have SA0 := SA.next B0
    clear SA
    have KA0 := Lib.hid KA0
    have SA0 := Lib.hid SA0
    have B0 := Lib.hid B0
    go_enter Try.func6, Try.ntmps6
    obtain ⟨A_0, A_1, A_2, A_3⟩ := KA0.out.four
    go_wp2_with fail
    refine (szZone_in hs _ _ _ _ _ _ (by omega) (by omega) hn).mono ?_
    rintro en w1 ⟨rfl, hb1⟩
    clear A_0 A_1 A_2 A_3
    have KA1 := (KA0.out).on hb1
    have SA1 := (SA0.out).next hb1
    have B1 := B0.out.trans (hb1.mono B0.out.size)
    clear hb1 B0 KA0 SA0
    have KA1 := Lib.hid KA1
    have SA1 := Lib.hid SA1
    have B1 := Lib.hid B1
    clear hn
    obtain ⟨A_0, A_1, A_2, A_3⟩ := KA1.out.four
    go_wp2_with fail
    refine (toZone_any _ _ _ _ _ _ _ _ SA1.out (by omega)).mono ?_
    rintro en w2 ⟨AX, rfl, SX2, hb2⟩
    clear A_0 A_1 A_2 A_3
    have KA2 := (KA1.out).on hb2
    have SA2 := (SA1.out).next hb2
    have B2 := B1.out.trans (hb2.mono B1.out.size)
    clear hb2 B1 KA1 SA1
    have KA2 := Lib.hid KA2
    have SA2 := Lib.hid SA2
    have SX2 := Lib.hid SX2
    have B2 := Lib.hid B2
    obtain ⟨A_0, A_1, A_2, A_3⟩ := KA2.out.four
    go_wp2_with fail
    refine (H1.out _ _ _ _ rfl SX2.out (by unfold maxLen; omega)).mono ?_
    rintro en w3 ⟨rfl, hb3⟩
    clear A_0 A_1 A_2 A_3
    have KA3 := (KA2.out).on hb3
    have SA3 := (SA2.out).next hb3
    have B3 := B2.out.trans (hb3.mono B2.out.size)
    clear hb3 B2 KA2 SA2 SX2
    have KA3 := Lib.hid KA3
    have SA3 := Lib.hid SA3
    have B3 := Lib.hid B3
    obtain ⟨A_0, A_1, A_2, A_3⟩ := KA3.out.four
    go_wp2_with fail
    refine (toZone_any _ _ _ _ _ _ _ _ SA3.out (by omega)).mono ?_
    rintro en w4 ⟨AY, rfl, SY4, hb4⟩
    clear A_0 A_1 A_2 A_3
    have KA4 := (KA3.out).on hb4
    have SA4 := (SA3.out).next hb4
    have B4 := B3.out.trans (hb4.mono B3.out.size)
    clear hb4 B3 KA3 SA3
    have KA4 := Lib.hid KA4
    have SA4 := Lib.hid SA4
    have SY4 := Lib.hid SY4
    have B4 := Lib.hid B4
    have bx := below_alloc1 w4 (.cells #[.int .i64 k, .int .i64 s, .int .i64 e, .slice AY n n] 29)
    have KA4 := Lib.hid (KA4.out.alloc (.cells #[.int .i64 k, .int .i64 s, .int .i64 e, .slice AY n n] 29))
    have SA4 := Lib.hid (SA4.out.next bx)
    have SY4 := Lib.hid (SY4.out.next bx)
    have KY4 := Lib.hid (Blk.new w4 29 #[.int .i64 k, .int .i64 s, .int .i64 e, .slice AY n n])
    have B4 := Lib.hid (B4.out.trans (bx.mono B4.out.size))
    clear bx
    obtain ⟨A_0, A_1, A_2, A_3⟩ := KA4.out.four
    obtain ⟨Y_0, Y_1, Y_2, Y_3⟩ := KY4.out.four
    go_wp2_with fail
    refine (H2.out _ _ _ _ rfl SY4.out (by unfold maxLen; omega)).mono ?_
    rintro en w5 ⟨rfl, hb5⟩
    clear A_0 A_1 A_2 A_3 Y_0 Y_1 Y_2 Y_3
    have KA5 := (KA4.out).on hb5
    have KY5 := (KY4.out).on hb5
    have SA5 := (SA4.out).next hb5
    have SY5 := (SY4.out).next hb5
    have B5 := B4.out.trans (hb5.mono B4.out.size)
    clear hb5 B4 KA4 KY4 SA4 SY4
    have KA5 := Lib.hid KA5
    have KY5 := Lib.hid KY5
    have SA5 := Lib.hid SA5
    have SY5 := Lib.hid SY5
    have B5 := Lib.hid B5
    obtain ⟨A_0, A_1, A_2, A_3⟩ := KA5.out.four
    obtain ⟨Y_0, Y_1, Y_2, Y_3⟩ := KY5.out.four
    go_wp2_with fail
    go_region_held3 (fun w' => w'.cell? ⟨w.heap.size, 0, none⟩ = some (.int .i64 k) ∧ w'.cell? ⟨w.heap.size, 1, none⟩ = some (.int .i64 s) ∧ w'.cell? ⟨w.heap.size, 2, none⟩ = some (.int .i64 e) ∧ w'.cell? ⟨w.heap.size, 3, none⟩ = some (.slice A n c) ∧ w'.cell? ⟨w4.heap.size, 0, none⟩ = some (.int .i64 k) ∧ w'.cell? ⟨w4.heap.size, 1, none⟩ = some (.int .i64 s) ∧ w'.cell? ⟨w4.heap.size, 2, none⟩ = some (.int .i64 e) ∧ w'.cell? ⟨w4.heap.size, 3, none⟩ = some (.slice AY n n))
      (first | go_keep | (refine ⟨?_, ?_, ?_, ?_, ?_, ?_, ?_, ?_⟩ <;> assumption))
      (first
        | (go_at_call 16; refine (toZone_any _ _ _ _ _ _ _ _ (SA5.out.drewN 1) (by omega)).mono ?_; rintro en w6 ⟨AZ, rfl, SZ6, hb6⟩; clear A_0 A_1 A_2 A_3 Y_0 Y_1 Y_2 Y_3; have KA6 := (KA5.out.drewN 1).on hb6; have KY6 := (KY5.out.drewN 1).on hb6; have SA6 := (SA5.out.drewN 1).next hb6; have SY6 := (SY5.out.drewN 1).next hb6; have B6 := (below_drewN B5.out 1).trans (hb6.mono B5.out.size); clear hb6 B5 KA5 KY5 SA5 SY5; have KA6 := Lib.hid KA6; have KY6 := Lib.hid KY6; have SA6 := Lib.hid SA6; have SY6 := Lib.hid SY6; have SZ6 := Lib.hid SZ6; have B6 := Lib.hid B6; obtain ⟨A_0, A_1, A_2, A_3⟩ := KA6.out.four; obtain ⟨Y_0, Y_1, Y_2, Y_3⟩ := KY6.out.four)
        | (go_at_call 18; refine (eqZone_same _ _ _ _ _ _ _ _ _ _ SY6.out SZ6.out (by unfold maxLen; omega)).mono ?_; rintro en w7 ⟨rfl, hb7⟩; clear A_0 A_1 A_2 A_3 Y_0 Y_1 Y_2 Y_3; have KA7 := (KA6.out).on hb7; have KY7 := (KY6.out).on hb7; have SA7 := (SA6.out).next hb7; have SY7 := (SY6.out).next hb7; have SZ7 := (SZ6.out).next hb7; have B7 := B6.out.trans (hb7.mono B6.out.size); clear hb7 B6 KA6 KY6 SA6 SY6 SZ6; have KA7 := Lib.hid KA7; have KY7 := Lib.hid KY7; have SA7 := Lib.hid SA7; have SY7 := Lib.hid SY7; have SZ7 := Lib.hid SZ7; have B7 := Lib.hid B7; obtain ⟨A_0, A_1, A_2, A_3⟩ := KA7.out.four; obtain ⟨Y_0, Y_1, Y_2, Y_3⟩ := KY7.out.four))
    go_wp2
    go_ret
    exact ⟨rfl, B7.out⟩
  · have B0 : Below w.heap.size w (w.alloc (.cells #[.int .i64 k, .int .i64 s, .int .i64 e, .slice A n c] 24)) := below_alloc1 _ _
    have KA0 : Blk (w.alloc (.cells #[.int .i64 k, .int .i64 s, .int .i64 e, .slice A n c] 24)) (w.heap.size) 24 #[.int .i64 k, .int .i64 s, .int .i64 e, .slice A n c] := Blk.new w _ _
    have SA0 := SA.next B0
    clear SA
    have KA0 := Lib.hid KA0
    have SA0 := Lib.hid SA0
    have B0 := Lib.hid B0
    go_enter Try.func6, Try.ntmps6
    obtain ⟨A_0, A_1, A_2, A_3⟩ := KA0.out.four
    go_wp2_with fail
    refine (szZone_out (by omega) _ _ _ _ _ _ (by omega) (by omega) hn).mono ?_
    rintro en w1 ⟨rfl, hb1⟩
    clear A_0 A_1 A_2 A_3
    have KA1 := (KA0.out).on hb1
    have SA1 := (SA0.out).next hb1
    have B1 := B0.out.trans (hb1.mono B0.out.size)
    clear hb1 B0 KA0 SA0
    have KA1 := Lib.hid KA1
    have SA1 := Lib.hid SA1
    have B1 := Lib.hid B1
    go_wp2
    go_ret
    exact ⟨rfl, B1.out⟩
end Go.Proofs.Ytbdompadkeamdaa
