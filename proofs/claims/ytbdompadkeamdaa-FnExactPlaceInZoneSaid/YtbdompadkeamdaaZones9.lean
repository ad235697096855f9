/- Zones: where a point lies; the walks of both sides, and the law. -/
import Derived.Test.YtbdompadkeamdaaProg
import Derived.Test.YtbdompadkeamdaaKit
import Derived.Test.YtbdompadkeamdaaBasics
import Derived.Test.YtbdompadkeamdaaMem
import Derived.Test.YtbdompadkeamdaaCodeRes
import Derived.Test.YtbdompadkeamdaaLists
import Derived.Test.YtbdompadkeamdaaPts
import Derived.Test.YtbdompadkeamdaaZonePlain
import Derived.Test.YtbdompadkeamdaaZones
import Derived.Test.YtbdompadkeamdaaZones2
import Derived.Test.YtbdompadkeamdaaZones3
import Derived.Test.YtbdompadkeamdaaZones5
import Derived.Test.YtbdompadkeamdaaZones6
import Derived.Test.YtbdompadkeamdaaZones7
import Derived.Test.YtbdompadkeamdaaZonePlain2
import Derived.Test.YtbdompadkeamdaaTail
import Derived.Test.YtbdompadkeamdaaZones8
import Derived.Deep.RegionHeld3
namespace Go.Proofs.Ytbdompadkeamdaa
open Go.RowKit Go.WideShapes Go.ChangeShapes Go.Joins Go.Deep Go.Sort
set_option linter.unusedVariables false
set_option linter.unusedSimpArgs false
theorem placeSide_any (i px py qx qy v X Y : Int) (g gp : Nat) (w : World) (K : Blk w g 2 #[.int .i64 v]) (KP : Blk w gp 39 #[.int .i64 X, .int .i64 Y]) (hp : placeB px py = true) (hq : placeB qx qy = true) (hx : placeB X Y = true) (v0 : 0 ≤ v) (v1 : v ≤ 2) :
    Calls Try.prog 60 #[.int .i64 i, ptV px py, ptV qx qy, .pointer (some ⟨gp, 0, none⟩), .pointer (some ⟨g, 0, none⟩)] w fun en w' => en = .returned (.bool true) ∧ Blk w' g 2 #[.int .i64 (inStep v (crossV px py qx qy X Y))] ∧ w.grownBy w' (some g) := by
  have lt := K.lt
  have ltp := KP.lt
  obtain ⟨p0, p1⟩ := KP.two
  have HK := Lib.hid K
  clear K KP
  rcases Int.lt_trichotomy (crossV px py qx qy X Y) 0 with hc | hc | hc
  · have t1 : decide (crossV px py qx qy X Y < 0) = true := by simpa using hc
    have E := Lib.hid (show inStep v (crossV px py qx qy X Y) = 0 by unfold inStep; rw [if_pos hc])
    clear hc
    go_enter Try.func60, Try.ntmps60
    go_wp2_with fail
    refine (side_any _ _ _ _ _ _ _ hp hq hx).mono ?_
    rintro en w1 ⟨rfl, hb1⟩
    have K1 := (((HK.out.alloc (.cells #[.int .i64 px, .int .i64 py] 39)).alloc (.cells #[.int .i64 qx, .int .i64 qy] 39)).on hb1)
    have G1 := grown_trans (grown_alloc (World.grownBy_alloc _ _ _) _) (grown_of_below hb1 (some g))
    have c0 := K1.one
    have fz := K1.frozen 0
    have lt1 := K1.lt
    have K1 := Lib.hid K1
    clear hb1
    go_wp2
    go_ret
    exact ⟨rfl, by rw [E.out]; exact K1.out.set_ 0 _, grown_trans G1 (grown_set _ _ _ _)⟩
  · have t1 : decide (crossV px py qx qy X Y < 0) = false := by simp; omega
    have t2 : (crossV px py qx qy X Y == 0) = true := by simpa using hc
    obtain rfl | rfl | rfl : v = 0 ∨ v = 1 ∨ v = 2 := by omega
    · have E := Lib.hid (show inStep 0 (crossV px py qx qy X Y) = 0 by rw [hc]; rfl)
      clear hc
      go_enter Try.func60, Try.ntmps60
      go_wp2_with fail
      refine (side_any _ _ _ _ _ _ _ hp hq hx).mono ?_
      rintro en w1 ⟨rfl, hb1⟩
      have K1 := (((HK.out.alloc (.cells #[.int .i64 px, .int .i64 py] 39)).alloc (.cells #[.int .i64 qx, .int .i64 qy] 39)).on hb1)
      have G1 := grown_trans (grown_alloc (World.grownBy_alloc _ _ _) _) (grown_of_below hb1 (some g))
      have c0 := K1.one
      have fz := K1.frozen 0
      have lt1 := K1.lt
      have K1 := Lib.hid K1
      clear hb1
      go_wp2
      go_ret
      exact ⟨rfl, by rw [E.out]; exact K1.out.set_ 0 _, grown_trans G1 (grown_set _ _ _ _)⟩
    · have E := Lib.hid (show inStep 1 (crossV px py qx qy X Y) = 1 by rw [hc]; rfl)
      clear hc
      go_enter Try.func60, Try.ntmps60
      go_wp2_with fail
      refine (side_any _ _ _ _ _ _ _ hp hq hx).mono ?_
      rintro en w1 ⟨rfl, hb1⟩
      have K1 := (((HK.out.alloc (.cells #[.int .i64 px, .int .i64 py] 39)).alloc (.cells #[.int .i64 qx, .int .i64 qy] 39)).on hb1)
      have G1 := grown_trans (grown_alloc (World.grownBy_alloc _ _ _) _) (grown_of_below hb1 (some g))
      have c0 := K1.one
      have fz := K1.frozen 0
      have lt1 := K1.lt
      have K1 := Lib.hid K1
      clear hb1
      go_wp2
      go_ret
      exact ⟨rfl, by rw [E.out]; exact K1.out.set_ 0 _, grown_trans G1 (grown_set _ _ _ _)⟩
    · have E := Lib.hid (show inStep 2 (crossV px py qx qy X Y) = 1 by rw [hc]; rfl)
      clear hc
      go_enter Try.func60, Try.ntmps60
      go_wp2_with fail
      refine (side_any _ _ _ _ _ _ _ hp hq hx).mono ?_
      rintro en w1 ⟨rfl, hb1⟩
      have K1 := (((HK.out.alloc (.cells #[.int .i64 px, .int .i64 py] 39)).alloc (.cells #[.int .i64 qx, .int .i64 qy] 39)).on hb1)
      have G1 := grown_trans (grown_alloc (World.grownBy_alloc _ _ _) _) (grown_of_below hb1 (some g))
      have c0 := K1.one
      have fz := K1.frozen 0
      have lt1 := K1.lt
      have K1 := Lib.hid K1
      clear hb1
      go_wp2
      go_ret
      exact ⟨rfl, by rw [E.out]; exact K1.out.set_ 0 _, grown_trans G1 (grown_set _ _ _ _)⟩
  · have t1 : decide (crossV px py qx qy X Y < 0) = false := by simp; omega
    have t2 : (crossV px py qx qy X Y == 0) = false := beq_eq_false_iff_ne.2 (by omega)
    have E := Lib.hid (show inStep v (crossV px py qx qy X Y) = v by unfold inStep; rw [if_neg (by omega), if_neg (by omega)])
    clear hc
    go_enter Try.func60, Try.ntmps60
    go_wp2_with fail
    refine (side_any _ _ _ _ _ _ _ hp hq hx).mono ?_
    rintro en w1 ⟨rfl, hb1⟩
    have K1 := (((HK.out.alloc (.cells #[.int .i64 px, .int .i64 py] 39)).alloc (.cells #[.int .i64 qx, .int .i64 qy] 39)).on hb1)
    have G1 := grown_trans (grown_alloc (World.grownBy_alloc _ _ _) _) (grown_of_below hb1 (some g))
    have c0 := K1.one
    have fz := K1.frozen 0
    have lt1 := K1.lt
    have K1 := Lib.hid K1
    clear hb1
    go_wp2
    go_ret
    exact ⟨rfl, by rw [E.out]; exact K1.out, G1⟩
set_option maxHeartbeats 1000000 in
theorem sidesPlace_any (k s e : Int) (A : Option Addr) (n c : Nat) (L : List (Int × Int)) (gp : Nat) (X Y : Int) (B g : Nat) (w : World) (hB : B ≤ g) (K : Blk w g 2 #[.int .i64 (inState L X Y 0)]) (h : Steps w B A n L) (hn : n ≤ 12) (hp : placesB L = true) (hL : L.length = n) (KPT : Blk w gp 39 #[.int .i64 X, .int .i64 Y]) (hgp : gp ≠ g) (hpl : placeB X Y = true) :
    Calls Try.prog 55 #[zoneV k s e A n c, .func (.func 60) #[] #[.pointer (some ⟨gp, 0, none⟩), .pointer (some ⟨g, 0, none⟩)]] w fun en w' => en = .returned (.bool true) ∧ Blk w' g 2 #[.int .i64 (inState L X Y n)] ∧ w.grownBy w' (some g) := by
  have lt := K.lt
  have H := Lib.hid h
  have HP := Lib.hid hp
  have HK := Lib.hid K
  have HKP := Lib.hid KPT
  clear KPT
  clear h hp K
  go_enter Try.func55, Try.ntmps55
  go_wp2
  have G0 : w.grownBy (w.alloc (.cells #[.int .i64 k, .int .i64 s, .int .i64 e, .slice A n c] 29)) (some g) := World.grownBy_alloc _ _ _
  have KZ := Lib.hid (Blk.new w 29 #[.int .i64 k, .int .i64 s, .int .i64 e, .slice A n c])
  have KG := Lib.hid (HK.out.alloc (.cells #[.int .i64 k, .int .i64 s, .int .i64 e, .slice A n c] 29))
  go_loopw [5, 6, 10] (fun _ _ i wr => ∃ j : Nat, j ≤ n ∧ i = .int .i64 j ∧ Hid (w.grownBy wr (some g)) ∧ Hid (Blk wr w.heap.size 29 #[.int .i64 k, .int .i64 s, .int .i64 e, .slice A n c]) ∧ Hid (Blk wr g 2 #[.int .i64 (inState L X Y j)])) (fun _ _ i _ => n - (intOf i).toNat)
  case atStart => exact ⟨0, Nat.zero_le _, rfl, G0, KZ, KG⟩
  case round =>
    clear G0 KZ KG
    obtain ⟨j, hj, rfl, HG, HZ, HS⟩ := hrel
    have hz := HG.out.size
    by_cases hjn : j < n
    · obtain ⟨m, hm, em1, em2⟩ := mod_form hjn
      have SR := H.out.grown HG.out (by omega) (fun g' e => by injection e with e; omega)
      obtain ⟨b, o, x, y, eA, hbb, hx, hc1, hc2⟩ := SR.at_ hjn
      obtain ⟨b', o', u, v, eA', _, hx', _, _⟩ := SR.at_ hm
      have i1 : (0 : Int) ≤ (j : Int) := Int.natCast_nonneg _
      have i2 : (j : Int) < (n : Int) := by omega
      have i3 : (0 : Int) ≤ (m : Int) := Int.natCast_nonneg _
      have i4 : (m : Int) < (n : Int) := by omega
      have i5 : (1 : Int) ≤ (n : Int) := by omega
      have v1 := IntWalk.i64_in ((j : Int) + 1) (by omega)
      have hlw : b < wr.heap.size := by omega
      have hlb : b < w.heap.size := by omega
      have hbg : b ≠ g := by omega
      subst eA
      obtain ⟨rfl, rfl⟩ : b = b' ∧ o = o' := by simpa using eA'
      obtain ⟨c0, c1, c2, c3⟩ := HZ.out.four
      have lz := HZ.out.lt
      have e1 := ptAt_of hx
      have e2 : ptAt L ((j + 1) % n) = (u, v) := by rw [em1]; exact ptAt_of hx'
      have pp : placeB x y = true := places_at HP.out hx
      have pq : placeB u v = true := places_at HP.out hx'
      have GW := grown_alloc HG.out (.cells #[.int .i64 x, .int .i64 y] 39)
      have NZ := Lib.hid (HZ.out.alloc (.cells #[.int .i64 x, .int .i64 y] 39))
      have NS := Lib.hid (HS.out.alloc (.cells #[.int .i64 x, .int .i64 y] 39))
      have sr := inState_range L X Y j
      have EL : Hid (inStep (inState L X Y j) (crossV x y u v X Y) = inState L X Y (j + 1)) := (in_next (crossAt_eq hL e1 e2)).symm
      have HX := Lib.hid hx'
      clear eA' hx hx' em1 e1 e2
      go_wp2_with fail
      refine name_world (f := fun w => (Code.region _ _ _).wp _ _ _ w) ?_
      intro W hW
      have KP : Blk W wr.heap.size 39 #[.int .i64 x, .int .i64 y] := by rw [hW]; exact Blk.new _ _ _
      have KZ : Blk W w.heap.size 29 #[.int .i64 k, .int .i64 s, .int .i64 e, .slice (some ⟨b, o, none⟩) n c] := by rw [hW]; exact NZ.out
      have KS : Blk W g 2 #[.int .i64 (inState L X Y j)] := by rw [hW]; exact NS.out
      have HGW : w.grownBy W (some g) := by rw [hW]; exact GW
      have zW := HGW.size
      obtain ⟨q1, q2⟩ := (H.out.grown HGW (by omega) (fun g' e => by injection e with e; omega)).get hm HX.out
      have f1 := cell_regrown q1
      have f2 := cell_regrown q2
      have f3 := cell_regrown KP.two.1
      have f4 := cell_regrown KP.two.2
      have f5 := cell_regrown KZ.four.2.2.2
      clear hW KP q1 q2 GW NZ NS
      refine wp_region_below_tail 13 (by kernel_rfl) (by kernel_rfl) ?_
      simp only [List.take_succ_cons, List.take_zero, List.drop_succ_cons, List.drop_zero]
      repeat (first | go_big_quiet_step (fail) | quiet_step (fail))
      refine wpQuiet_nil ?_
      intro w2 hw2
      have hb2 := class_below hw2
      have KZ2 := Lib.hid (KZ.on hb2)
      have KS2 := Lib.hid (KS.on hb2)
      have G2 := Lib.hid (grown_trans HGW (grown_of_below hb2 (some g)))
      clear hw2 hb2 f1 f2 f3 f4 f5 KZ KS HGW
      go_wp2_with fail
      refine (placeSide_any _ _ _ _ _ _ _ _ _ _ _ KS2.out (HKP.out.grown G2.out (by intro e; injection e with e; omega)) pp pq hpl sr.1 sr.2).mono ?_
      rintro e w3 ⟨rfl, KS3, hg3⟩
      have G3 := Lib.hid (grown_trans G2.out hg3)
      have KZ3 := Lib.hid (KZ2.out.grown hg3 (by intro e; injection e with e; omega))
      rw [EL.out] at KS3
      have KS3 := Lib.hid KS3
      clear hg3 G2 KZ2 KS2
      go_wp2
      exact ⟨⟨j + 1, by omega, by go_num, G3, KZ3, KS3⟩, by simp [intOf]; omega⟩
    · obtain rfl : j = n := by omega
      go_wp2
      go_ret
      exact ⟨rfl, HS.out, HG.out⟩
set_option maxHeartbeats 1000000 in
theorem l05In_any (k s e : Int) (A : Option Addr) (n c : Nat) (L : List (Int × Int)) (X Y : Int) (g : Nat) (w : World) (K : Blk w g 29 #[.int .i64 k, .int .i64 s, .int .i64 e, .slice A n c]) (h : Steps w w.heap.size A n L) (hn : n ≤ 12) (hp : placesB L = true) (hx : placeB X Y = true) :
    Calls Try.prog 58 #[.pointer (some ⟨g, 0, none⟩), ptV X Y] w fun en w' => en = .returned (.int .i64 (inState L X Y n)) ∧ Below w.heap.size w w' := by
  have H := Lib.hid h
  have HP := Lib.hid hp
  have HK := Lib.hid K
  have lt := K.lt
  have hn' : n ≤ maxLen := by unfold maxLen; omega
  have HL := Lib.hid h.1
  have B0 := below_alloc1 w (.cells #[.int .i64 X, .int .i64 Y] 39)
  have KX := Lib.hid (Blk.new w 39 #[.int .i64 X, .int .i64 Y])
  clear h hp K
  go_enter Try.func58, Try.ntmps58
  go_wp2
  go_loopw [5, 6, 7] (fun t i _ wr => ∃ j : Nat, j ≤ n ∧ i = .int .i64 j ∧ t = .int .i64 (inState L X Y j) ∧ 1 ≤ inState L X Y j ∧ Below w.heap.size w wr ∧ Hid (Blk wr w.heap.size 39 #[.int .i64 X, .int .i64 Y])) (fun _ i _ _ => n - (intOf i).toNat)
  case atStart => exact ⟨0, Nat.zero_le _, rfl, rfl, by simp [inState], B0, KX⟩
  case round =>
    clear B0 KX
    obtain ⟨j, hj, rfl, rfl, hs, HB, HX⟩ := hrel
    obtain ⟨c0, c1, c2, c3⟩ := (HK.out.on HB).four
    by_cases hjn : j < n
    · have SR := H.out.below HB
      obtain ⟨m, hm, em1, em2⟩ := mod_form hjn
      obtain ⟨b, o, x, y, eA, _, hx1, hc1, hc2⟩ := SR.at_ hjn
      obtain ⟨b', o', u, v, eA', _, hx2, _, _⟩ := SR.at_ hm
      subst eA
      obtain ⟨rfl, rfl⟩ : b = b' ∧ o = o' := by simpa using eA'
      have p1 : placeB x y = true := places_at HP.out hx1
      have p2 : placeB u v = true := places_at HP.out hx2
      have e2 : ptAt L ((j + 1) % n) = (u, v) := by rw [em1]; exact ptAt_of hx2
      have EC := crossAt_eq (x := X) (y := Y) HL.out (ptAt_of hx1) e2
      have SW := SR.more HB.size
      have HN := Lib.hid (fun d os => l05Next_any (some ⟨b, o, none⟩) n c L j u v (grow (redrawn wr d) os) (SW.next (below_regrown wr d os)) hn' hjn e2)
      have i1 : (0 : Int) ≤ (j : Int) := Int.natCast_nonneg _
      have i2 : (j : Int) < (n : Int) := by omega
      obtain ⟨x0, x1⟩ := HX.out.two
      have f1 := cell_regrown hc1
      have f2 := cell_regrown hc2
      have f3 := cell_regrown x0
      have f4 := cell_regrown x1
      have f5 := cell_regrown c3
      clear eA' hx1 hx2 hc1 hc2 em1 em2 SR SW e2
      rcases Int.lt_trichotomy (crossV x y u v X Y) 0 with hc | hc | hc
      · have t1 : decide (crossV x y u v X Y < 0) = true := by simpa using hc
        have E := Lib.hid (in_negative hjn EC hc)
        clear EC hc
        go_wp2_with fail
        refine wp_region_quiet_below (by kernel_rfl) (by kernel_rfl) ?_
        repeat (first | go_big_quiet_step (first | exact Calls.regrown_of (HN.out _ _) | exact Calls.regrown_of (l05Cross_any _ _ _ _ _ _ _ p1 p2 hx)) | quiet_step (first | exact Calls.regrown_of (HN.out _ _) | exact Calls.regrown_of (l05Cross_any _ _ _ _ _ _ _ p1 p2 hx)))
        refine wpQuiet_nil ?_
        intro w1 hw1
        have hb1 := class_below hw1
        have B1 := HB.trans (hb1.mono HB.size)
        have X1 := Lib.hid (HX.out.on hb1)
        clear f1 f2 f3 f4 f5 hw1 hb1 x0 x1 c0 c1 c2 c3
        go_wp2
        go_ret
        exact ⟨ret_int E.out.symm, B1⟩
      · have t1 : decide (crossV x y u v X Y < 0) = false := by simp; omega
        have t2 : (crossV x y u v X Y == 0) = true := by simpa using hc
        have E := Lib.hid (in_zero EC hc hs)
        clear EC hc
        go_wp2_with fail
        refine wp_region_quiet_below (by kernel_rfl) (by kernel_rfl) ?_
        repeat (first | go_big_quiet_step (first | exact Calls.regrown_of (HN.out _ _) | exact Calls.regrown_of (l05Cross_any _ _ _ _ _ _ _ p1 p2 hx)) | quiet_step (first | exact Calls.regrown_of (HN.out _ _) | exact Calls.regrown_of (l05Cross_any _ _ _ _ _ _ _ p1 p2 hx)))
        refine wpQuiet_nil ?_
        intro w1 hw1
        have hb1 := class_below hw1
        have B1 := HB.trans (hb1.mono HB.size)
        have X1 := Lib.hid (HX.out.on hb1)
        clear f1 f2 f3 f4 f5 hw1 hb1 x0 x1 c0 c1 c2 c3
        go_wp2
        exact ⟨⟨j + 1, by omega, by go_num, ret_val E.out.symm, by rw [E.out]; omega, B1, X1⟩, by simp [intOf]; omega⟩
      · have t1 : decide (crossV x y u v X Y < 0) = false := by simp; omega
        have t2 : (crossV x y u v X Y == 0) = false := beq_eq_false_iff_ne.2 (by omega)
        have E := Lib.hid (in_plus EC hc)
        clear EC hc
        go_wp2_with fail
        refine wp_region_quiet_below (by kernel_rfl) (by kernel_rfl) ?_
        repeat (first | go_big_quiet_step (first | exact Calls.regrown_of (HN.out _ _) | exact Calls.regrown_of (l05Cross_any _ _ _ _ _ _ _ p1 p2 hx)) | quiet_step (first | exact Calls.regrown_of (HN.out _ _) | exact Calls.regrown_of (l05Cross_any _ _ _ _ _ _ _ p1 p2 hx)))
        refine wpQuiet_nil ?_
        intro w1 hw1
        have hb1 := class_below hw1
        have B1 := HB.trans (hb1.mono HB.size)
        have X1 := Lib.hid (HX.out.on hb1)
        clear f1 f2 f3 f4 f5 hw1 hb1 x0 x1 c0 c1 c2 c3
        go_wp2
        exact ⟨⟨j + 1, by omega, by go_num, ret_val E.out.symm, by rw [E.out]; exact hs, B1, X1⟩, by simp [intOf]; omega⟩
    · obtain rfl : j = n := by omega
      go_wp2
      go_ret
      exact ⟨rfl, HB⟩
theorem specPlaceInZone_any (k s e : Int) (A : Option Addr) (n c : Nat) (L : List (Int × Int)) (X Y : Int) (w : World) (h : Steps w w.heap.size A n L) (hn : n ≤ maxLen) : Calls Try.prog 25 #[zoneV k s e A n c, ptV X Y] w fun en w' => en = .returned (pairV (zoneB k s e L && placeB X Y) (inState L X Y n) 1) ∧ Below w.heap.size w w' := by
  have B0 := below_alloc2 w (.cells #[.int .i64 k, .int .i64 s, .int .i64 e, .slice A n c] 29) (.cells #[.int .i64 X, .int .i64 Y] 39)
  have K0 := Lib.hid ((Blk.new w 29 #[.int .i64 k, .int .i64 s, .int .i64 e, .slice A n c]).alloc (.cells #[.int .i64 X, .int .i64 Y] 39))
  have X0 := Lib.hid (Blk.new2 w (.cells #[.int .i64 k, .int .i64 s, .int .i64 e, .slice A n c] 29) 39 #[.int .i64 X, .int .i64 Y])
  have CC := l05Ok_any k s e A n c L w.heap.size _ K0.out (h.next B0) hn
  have H := Lib.hid h
  have B0 := Lib.hid B0
  clear h hn
  cases hz : zoneB k s e L
  · rw [Bool.false_and, pairV_false]
    rw [hz] at CC
    have HC := Lib.hid CC
    clear CC hz K0 X0 H
    go_enter Try.func25, Try.ntmps25
    go_wp2_with fail
    refine HC.out.mono ?_
    rintro en w1 ⟨rfl, hb1⟩
    have B1 := B0.out.trans (hb1.mono B0.out.size)
    clear hb1 B0
    go_wp2
    go_ret2
    exact ⟨rfl, B1⟩
  · have zo := zone_ok hz
    rw [hz] at CC
    have HC := Lib.hid CC
    rw [Bool.true_and]
    clear CC hz
    cases hp : placeB X Y
    · rw [pairV_false]
      have HV := Lib.hid (fun w => hp ▸ l02Ok_any X Y w)
      clear hp H zo
      go_enter Try.func25, Try.ntmps25
      go_wp2_with fail
      refine HC.out.mono ?_
      rintro en w1 ⟨rfl, hb1⟩
      have B1 := B0.out.trans (hb1.mono B0.out.size)
      obtain ⟨p0, p1⟩ := (X0.out.on hb1).two
      obtain ⟨c0, c1, c2, c3⟩ := (K0.out.on hb1).four
      clear hb1 B0 K0 X0
      go_wp2_with (go_at_call 57; refine (HV.out _).mono ?_; rintro en w2 ⟨rfl, hb2⟩)
      have B2 := B1.trans (hb2.mono B1.size)
      go_ret2
      exact ⟨rfl, B2⟩
    · rw [pairV_true]
      have HV := Lib.hid (fun w => hp ▸ l02Ok_any X Y w)
      have HX := Lib.hid hp
      have n12 : n ≤ 12 := by have := zo.few; have := H.out.1; omega
      have HP := Lib.hid zo.places
      have HL := Lib.hid H.out.1
      clear hp zo
      go_enter Try.func25, Try.ntmps25
      go_wp2_with fail
      refine HC.out.mono ?_
      rintro en w1 ⟨rfl, hb1⟩
      have B1 := B0.out.trans (hb1.mono B0.out.size)
      obtain ⟨p0, p1⟩ := (X0.out.on hb1).two
      obtain ⟨c0, c1, c2, c3⟩ := (K0.out.on hb1).four
      have K1 := Lib.hid (K0.out.on hb1)
      have X1 := Lib.hid (X0.out.on hb1)
      clear hb1 B0 K0 X0
      go_wp2_with fail
      refine (HV.out _).mono ?_
      rintro en w2 ⟨rfl, hb2⟩
      have B2 := B1.trans (hb2.mono B1.size)
      have K2 := K1.out.on hb2
      have X2 := X1.out.on hb2
      clear hb2 B1 K1 X1 p0 p1 c0 c1 c2 c3
      obtain ⟨p0, p1⟩ := X2.two
      obtain ⟨c0, c1, c2, c3⟩ := K2.four
      have S2 := Lib.hid (H.out.next B2)
      have K2 := Lib.hid K2
      clear X2
      go_wp2_with fail
      refine (l05In_any k s e A n c L X Y _ _ K2.out S2.out n12 HP.out HX.out).mono ?_
      rintro en w3 ⟨rfl, hb3⟩
      have B3 := B2.trans (hb3.mono B2.size)
      clear hb3 B2 K2 p0 p1 c0 c1 c2 c3
      go_wp2
      go_ret2
      exact ⟨rfl, B3⟩
theorem implPlaceInZone_any (k s e : Int) (A : Option Addr) (n c : Nat) (L : List (Int × Int)) (X Y : Int) (w : World) (h : Steps w w.heap.size A n L) (hn : n ≤ maxLen) : Calls Try.prog 27 #[zoneV k s e A n c, ptV X Y] w fun en w' => en = .returned (pairV (zoneB k s e L && placeB X Y) (inState L X Y n) 1) ∧ Below w.heap.size w w' := by
  have hmf : ∀ (fn : Fn) (first cap : Array Value) (w : World), (Instr.makeFunc fn first cap).run Try.prog w = .ok (.func fn first cap) w := fun _ _ _ _ => rfl
  have B0 := below_alloc2 w (.cells #[.int .i64 k, .int .i64 s, .int .i64 e, .slice A n c] 29) (.cells #[.int .i64 X, .int .i64 Y] 39)
  have K0 := Lib.hid ((Blk.new w 29 #[.int .i64 k, .int .i64 s, .int .i64 e, .slice A n c]).alloc (.cells #[.int .i64 X, .int .i64 Y] 39))
  have X0 := Lib.hid (Blk.new2 w (.cells #[.int .i64 k, .int .i64 s, .int .i64 e, .slice A n c] 29) 39 #[.int .i64 X, .int .i64 Y])
  have CC := implValidZone_any k s e A n c L _ (h.next B0) hn
  have H := Lib.hid h
  have B0 := Lib.hid B0
  clear h hn
  cases hz : zoneB k s e L
  · rw [Bool.false_and, pairV_false]
    rw [hz] at CC
    have HC := Lib.hid CC
    clear CC hz K0 X0 H
    go_enter Try.func27, Try.ntmps27
    go_wp2_with fail
    refine HC.out.mono ?_
    rintro en w1 ⟨rfl, hb1⟩
    have B1 := B0.out.trans (hb1.mono B0.out.size)
    clear hb1 B0
    go_wp2
    go_ret2
    exact ⟨rfl, B1⟩
  · have zo := zone_ok hz
    rw [hz] at CC
    have HC := Lib.hid CC
    rw [Bool.true_and]
    clear CC hz
    cases hp : placeB X Y
    · rw [pairV_false]
      have HV := Lib.hid (fun w => hp ▸ implValidPlace_any X Y w)
      clear hp H zo
      go_enter Try.func27, Try.ntmps27
      go_wp2_with fail
      refine HC.out.mono ?_
      rintro en w1 ⟨rfl, hb1⟩
      have B1 := B0.out.trans (hb1.mono B0.out.size)
      obtain ⟨p0, p1⟩ := (X0.out.on hb1).two
      obtain ⟨c0, c1, c2, c3⟩ := (K0.out.on hb1).four
      clear hb1 B0 K0 X0
      go_wp2_with (go_at_call 59; refine (HV.out _).mono ?_; rintro en w2 ⟨rfl, hb2⟩)
      have B2 := B1.trans (hb2.mono B1.size)
      go_ret2
      exact ⟨rfl, B2⟩
    · rw [pairV_true]
      have HV := Lib.hid (fun w => hp ▸ implValidPlace_any X Y w)
      have HX := Lib.hid hp
      have n12 : n ≤ 12 := by have := zo.few; have := H.out.1; omega
      have HP := Lib.hid zo.places
      have HL := Lib.hid H.out.1
      clear hp zo
      go_enter Try.func27, Try.ntmps27
      go_wp2_with fail
      refine HC.out.mono ?_
      rintro en w1 ⟨rfl, hb1⟩
      have B1 := B0.out.trans (hb1.mono B0.out.size)
      obtain ⟨p0, p1⟩ := (X0.out.on hb1).two
      obtain ⟨c0, c1, c2, c3⟩ := (K0.out.on hb1).four
      have K1 := Lib.hid (K0.out.on hb1)
      have X1 := Lib.hid (X0.out.on hb1)
      clear hb1 B0 K0 X0
      go_wp2_with fail
      refine (HV.out _).mono ?_
      rintro en w2 ⟨rfl, hb2⟩
      have B2 := B1.trans (hb2.mono B1.size)
      have K2 := K1.out.on hb2
      have X2 := X1.out.on hb2
      clear hb2 B1 K1 X1 p0 p1 c0 c1 c2 c3
      obtain ⟨p0, p1⟩ := X2.two
      obtain ⟨c0, c1, c2, c3⟩ := K2.four
      have lz := K2.lt
      have lx := X2.lt
      have KG := Lib.hid (Blk.new w2 2 #[.int .i64 2])
      have z2 := B2.size
      have S2 := Lib.hid ((H.out.below B2).below ((below_alloc1 w2 (.cells #[.int .i64 2] 2)).mono z2))
      have X2 := Lib.hid (X2.alloc (.cells #[.int .i64 2] 2))
      clear K2
      go_wp2_with fail
      refine (sidesPlace_any k s e A n c L _ X Y w.heap.size _ _ z2 KG.out S2.out n12 HP.out HL.out X2.out (by omega) HX.out).mono ?_
      rintro en w3 ⟨rfl, KS, hg⟩
      have B3 := (B2.alloc z2 (.cells #[.int .i64 2] 2)).grown hg (by simp; omega) (fun k' hk => by injection hk with hk; omega)
      have cs := KS.one
      clear hg KS KG S2 X2 B2 c0 c1 c2 c3 p0 p1
      go_wp2
      go_ret2
      exact ⟨rfl, B3⟩
set_option maxHeartbeats 2000000 in
theorem FnExactPlaceInZone_walk (w : World) (k : Int) (_wk : (Lit.int .i64 k).wf = true) (s : Int) (_ws : (Lit.int .i64 s).wf = true) (e : Int) (_we : (Lit.int .i64 e).wf = true) (A : Option Addr) (n c : Nat) (L : List (Int × Int)) (hn : n ≤ maxLen) (SA : Steps w w.heap.size A n L) (X : Int) (_wX : (Lit.int .i64 X).wf = true) (Y : Int) (_wY : (Lit.int .i64 Y).wf = true) : Calls Try.prog 7 #[zoneV k s e A n c, ptV X Y] w fun en w' => en = .returned (.bool true) ∧ Below w.heap.size w w' := by
  clear _wk _ws _we _wX _wY
  obtain ⟨x, y, F⟩ := pair2_form (zoneB k s e L && placeB X Y) (inState L X Y n) 1
  have H1 : Hid (∀ A n' c w, n' = n → Steps w w.heap.size A n' L → n' ≤ maxLen → Calls Try.prog 25 #[zoneV k s e A n' c, ptV X Y] w fun en w' => en = .returned (.tuple #[.int .i64 x, .int .i64 y]) ∧ Below w.heap.size w w') := fun A n' c w e' h hn => by subst e'; rw [← F]; exact specPlaceInZone_any k s e A n' c L X Y w h hn
  have H2 : Hid (∀ A n' c w, n' = n → Steps w w.heap.size A n' L → n' ≤ maxLen → Calls Try.prog 27 #[zoneV k s e A n' c, ptV X Y] w fun en w' => en = .returned (.tuple #[.int .i64 x, .int .i64 y]) ∧ Below w.heap.size w w') := fun A n' c w e' h hn => by subst e'; rw [← F]; exact implPlaceInZone_any k s e A n' c L X Y w h hn
  clear F
  by_cases hs : (n : Int) ≤ 1048576
  · have B0 : Below w.heap.size w ((w.alloc (.cells #[.int .i64 k, .int .i64 s, .int .i64 e, .slice A n c] 24)).alloc (.cells #[.int .i64 X, .int .i64 Y] 37)) := below_alloc2 _ _ _
    have KA0 : Blk ((w.alloc (.cells #[.int .i64 k, .int .i64 s, .int .i64 e, .slice A n c] 24)).alloc (.cells #[.int .i64 X, .int .i64 Y] 37)) (w.heap.size) 24 #[.int .i64 k, .int .i64 s, .int .i64 e, .slice A n c] := (Blk.new w _ _).alloc _
    have KP0 : Blk ((w.alloc (.cells #[.int .i64 k, .int .i64 s, .int .i64 e, .slice A n c] 24)).alloc (.cells #[.int .i64 X, .int .i64 Y] 37)) (w.heap.size + 1) 37 #[.int .i64 X, .int .i64 Y] := Blk.new2 w _ _ _
    have SA0 := SA.next B0
    clear SA
    have KA0 := Lib.hid KA0
    have KP0 := Lib.hid KP0
    have SA0 := Lib.hid SA0
    have B0 := Lib.hid B0
    go_enter Try.func7, Try.ntmps7
    obtain ⟨A_0, A_1, A_2, A_3⟩ := KA0.out.four
    obtain ⟨P_0, P_1⟩ := KP0.out.two
    go_wp2_with fail
    refine (szZone_in hs _ _ _ _ _ _ (by omega) (by omega) hn).mono ?_
    rintro en w1 ⟨rfl, hb1⟩
    clear A_0 A_1 A_2 A_3 P_0 P_1
    have KA1 := (KA0.out).on hb1
    have KP1 := (KP0.out).on hb1
    have SA1 := (SA0.out).next hb1
    have B1 := B0.out.trans (hb1.mono B0.out.size)
    clear hb1 B0 KA0 KP0 SA0
    have KA1 := Lib.hid KA1
    have KP1 := Lib.hid KP1
    have SA1 := Lib.hid SA1
    have B1 := Lib.hid B1
    clear hn
    obtain ⟨A_0, A_1, A_2, A_3⟩ := KA1.out.four
    obtain ⟨P_0, P_1⟩ := KP1.out.two
    go_wp2_with fail
    go_region_held3 (fun w' => w'.cell? ⟨w.heap.size, 0, none⟩ = some (.int .i64 k) ∧ w'.cell? ⟨w.heap.size, 1, none⟩ = some (.int .i64 s) ∧ w'.cell? ⟨w.heap.size, 2, none⟩ = some (.int .i64 e) ∧ w'.cell? ⟨w.heap.size, 3, none⟩ = some (.slice A n c) ∧ w'.cell? ⟨w.heap.size + 1, 0, none⟩ = some (.int .i64 X) ∧ w'.cell? ⟨w.heap.size + 1, 1, none⟩ = some (.int .i64 Y))
      (first | go_keep | (refine ⟨?_, ?_, ?_, ?_, ?_, ?_⟩ <;> assumption))
      (first
        | (go_at_call 16; refine (toZone_any _ _ _ _ _ _ _ _ (SA1.out.drewN 1) (by omega)).mono ?_; rintro en w2 ⟨AX, rfl, SX2, hb2⟩; clear A_0 A_1 A_2 A_3 P_0 P_1; have KA2 := (KA1.out.drewN 1).on hb2; have KP2 := (KP1.out.drewN 1).on hb2; have SA2 := (SA1.out.drewN 1).next hb2; have B2 := (below_drewN B1.out 1).trans (hb2.mono B1.out.size); clear hb2 B1 KA1 KP1 SA1; have KA2 := Lib.hid KA2; have KP2 := Lib.hid KP2; have SA2 := Lib.hid SA2; have SX2 := Lib.hid SX2; have B2 := Lib.hid B2; obtain ⟨A_0, A_1, A_2, A_3⟩ := KA2.out.four; obtain ⟨P_0, P_1⟩ := KP2.out.two)
        | (go_at_call 26; refine (toPoint_any _ _ _).mono ?_; rintro en w3 ⟨rfl, hb3⟩; clear A_0 A_1 A_2 A_3 P_0 P_1; have KA3 := (KA2.out).on hb3; have KP3 := (KP2.out).on hb3; have SA3 := (SA2.out).next hb3; have SX3 := (SX2.out).next hb3; have B3 := B2.out.trans (hb3.mono B2.out.size); clear hb3 B2 KA2 KP2 SA2 SX2; have KA3 := Lib.hid KA3; have KP3 := Lib.hid KP3; have SA3 := Lib.hid SA3; have SX3 := Lib.hid SX3; have B3 := Lib.hid B3; obtain ⟨A_0, A_1, A_2, A_3⟩ := KA3.out.four; obtain ⟨P_0, P_1⟩ := KP3.out.two)
        | (go_at_call 25; refine (H1.out _ _ _ _ rfl SX3.out (by unfold maxLen; omega)).mono ?_; rintro en w4 ⟨rfl, hb4⟩; clear A_0 A_1 A_2 A_3 P_0 P_1; have KA4 := (KA3.out).on hb4; have KP4 := (KP3.out).on hb4; have SA4 := (SA3.out).next hb4; have B4 := B3.out.trans (hb4.mono B3.out.size); clear hb4 B3 KA3 KP3 SA3 SX3; have KA4 := Lib.hid KA4; have KP4 := Lib.hid KP4; have SA4 := Lib.hid SA4; have B4 := Lib.hid B4; obtain ⟨A_0, A_1, A_2, A_3⟩ := KA4.out.four; obtain ⟨P_0, P_1⟩ := KP4.out.two))
    clear A_0 A_1 A_2 A_3 P_0 P_1
    obtain ⟨A_0, A_1, A_2, A_3⟩ := KA4.out.four
    obtain ⟨P_0, P_1⟩ := KP4.out.two
    go_wp2_with fail
    refine (toZone_any _ _ _ _ _ _ _ _ SA4.out (by omega)).mono ?_
    rintro en w5 ⟨AY, rfl, SY5, hb5⟩
    clear A_0 A_1 A_2 A_3 P_0 P_1
    have KA5 := (KA4.out).on hb5
    have KP5 := (KP4.out).on hb5
    have SA5 := (SA4.out).next hb5
    have B5 := B4.out.trans (hb5.mono B4.out.size)
    clear hb5 B4 KA4 KP4 SA4
    have KA5 := Lib.hid KA5
    have KP5 := Lib.hid KP5
    have SA5 := Lib.hid SA5
    have SY5 := Lib.hid SY5
    have B5 := Lib.hid B5
    have bx := below_alloc1 w5 (.cells #[.int .i64 k, .int .i64 s, .int .i64 e, .slice AY n n] 29)
    have KA5 := Lib.hid (KA5.out.alloc (.cells #[.int .i64 k, .int .i64 s, .int .i64 e, .slice AY n n] 29))
    have KP5 := Lib.hid (KP5.out.alloc (.cells #[.int .i64 k, .int .i64 s, .int .i64 e, .slice AY n n] 29))
    have SA5 := Lib.hid (SA5.out.next bx)
    have SY5 := Lib.hid (SY5.out.next bx)
    have KY5 := Lib.hid (Blk.new w5 29 #[.int .i64 k, .int .i64 s, .int .i64 e, .slice AY n n])
    have B5 := Lib.hid (B5.out.trans (bx.mono B5.out.size))
    clear bx
    obtain ⟨A_0, A_1, A_2, A_3⟩ := KA5.out.four
    obtain ⟨P_0, P_1⟩ := KP5.out.two
    obtain ⟨Y_0, Y_1, Y_2, Y_3⟩ := KY5.out.four
    go_wp2_with fail
    go_region_held3 (fun w' => w'.cell? ⟨w.heap.size, 0, none⟩ = some (.int .i64 k) ∧ w'.cell? ⟨w.heap.size, 1, none⟩ = some (.int .i64 s) ∧ w'.cell? ⟨w.heap.size, 2, none⟩ = some (.int .i64 e) ∧ w'.cell? ⟨w.heap.size, 3, none⟩ = some (.slice A n c) ∧ w'.cell? ⟨w.heap.size + 1, 0, none⟩ = some (.int .i64 X) ∧ w'.cell? ⟨w.heap.size + 1, 1, none⟩ = some (.int .i64 Y) ∧ w'.cell? ⟨w5.heap.size, 0, none⟩ = some (.int .i64 k) ∧ w'.cell? ⟨w5.heap.size, 1, none⟩ = some (.int .i64 s) ∧ w'.cell? ⟨w5.heap.size, 2, none⟩ = some (.int .i64 e) ∧ w'.cell? ⟨w5.heap.size, 3, none⟩ = some (.slice AY n n))
      (first | go_keep | (refine ⟨?_, ?_, ?_, ?_, ?_, ?_, ?_, ?_, ?_, ?_⟩ <;> assumption))
      (first
        | (go_at_call 26; refine (toPoint_any _ _ _).mono ?_; rintro en w6 ⟨rfl, hb6⟩; clear A_0 A_1 A_2 A_3 P_0 P_1 Y_0 Y_1 Y_2 Y_3; have KA6 := (KA5.out.drewN 1).on hb6; have KP6 := (KP5.out.drewN 1).on hb6; have KY6 := (KY5.out.drewN 1).on hb6; have SA6 := (SA5.out.drewN 1).next hb6; have SY6 := (SY5.out.drewN 1).next hb6; have B6 := (below_drewN B5.out 1).trans (hb6.mono B5.out.size); clear hb6 B5 KA5 KP5 KY5 SA5 SY5; have KA6 := Lib.hid KA6; have KP6 := Lib.hid KP6; have KY6 := Lib.hid KY6; have SA6 := Lib.hid SA6; have SY6 := Lib.hid SY6; have B6 := Lib.hid B6; obtain ⟨A_0, A_1, A_2, A_3⟩ := KA6.out.four; obtain ⟨P_0, P_1⟩ := KP6.out.two; obtain ⟨Y_0, Y_1, Y_2, Y_3⟩ := KY6.out.four)
        | (go_at_call 27; refine (H2.out _ _ _ _ rfl SY6.out (by unfold maxLen; omega)).mono ?_; rintro en w7 ⟨rfl, hb7⟩; clear A_0 A_1 A_2 A_3 P_0 P_1 Y_0 Y_1 Y_2 Y_3; have KA7 := (KA6.out).on hb7; have KP7 := (KP6.out).on hb7; have KY7 := (KY6.out).on hb7; have SA7 := (SA6.out).next hb7; have SY7 := (SY6.out).next hb7; have B7 := B6.out.trans (hb7.mono B6.out.size); clear hb7 B6 KA6 KP6 KY6 SA6 SY6; have KA7 := Lib.hid KA7; have KP7 := Lib.hid KP7; have KY7 := Lib.hid KY7; have SA7 := Lib.hid SA7; have SY7 := Lib.hid SY7; have B7 := Lib.hid B7; obtain ⟨A_0, A_1, A_2, A_3⟩ := KA7.out.four; obtain ⟨P_0, P_1⟩ := KP7.out.two; obtain ⟨Y_0, Y_1, Y_2, Y_3⟩ := KY7.out.four))
    clear A_0 A_1 A_2 A_3 P_0 P_1 Y_0 Y_1 Y_2 Y_3
    obtain ⟨A_0, A_1, A_2, A_3⟩ := KA7.out.four
    obtain ⟨P_0, P_1⟩ := KP7.out.two
    obtain ⟨Y_0, Y_1, Y_2, Y_3⟩ := KY7.out.four
    go_wp2_with fail
    go_region_held3 (fun w' => w'.cell? ⟨w.heap.size, 0, none⟩ = some (.int .i64 k) ∧ w'.cell? ⟨w.heap.size, 1, none⟩ = some (.int .i64 s) ∧ w'.cell? ⟨w.heap.size, 2, none⟩ = some (.int .i64 e) ∧ w'.cell? ⟨w.heap.size, 3, none⟩ = some (.slice A n c) ∧ w'.cell? ⟨w.heap.size + 1, 0, none⟩ = some (.int .i64 X) ∧ w'.cell? ⟨w.heap.size + 1, 1, none⟩ = some (.int .i64 Y) ∧ w'.cell? ⟨w5.heap.size, 0, none⟩ = some (.int .i64 k) ∧ w'.cell? ⟨w5.heap.size, 1, none⟩ = some (.int .i64 s) ∧ w'.cell? ⟨w5.heap.size, 2, none⟩ = some (.int .i64 e) ∧ w'.cell? ⟨w5.heap.size, 3, none⟩ = some (.slice AY n n))
      (first | go_keep | (refine ⟨?_, ?_, ?_, ?_, ?_, ?_, ?_, ?_, ?_, ?_⟩ <;> assumption))
      (first
        | (go_at_call 16; refine (toZone_any _ _ _ _ _ _ _ _ (SA7.out.drewN 1) (by omega)).mono ?_; rintro en w8 ⟨AZ, rfl, SZ8, hb8⟩; clear A_0 A_1 A_2 A_3 P_0 P_1 Y_0 Y_1 Y_2 Y_3; have KA8 := (KA7.out.drewN 1).on hb8; have KP8 := (KP7.out.drewN 1).on hb8; have KY8 := (KY7.out.drewN 1).on hb8; have SA8 := (SA7.out.drewN 1).next hb8; have SY8 := (SY7.out.drewN 1).next hb8; have B8 := (below_drewN B7.out 1).trans (hb8.mono B7.out.size); clear hb8 B7 KA7 KP7 KY7 SA7 SY7; have KA8 := Lib.hid KA8; have KP8 := Lib.hid KP8; have KY8 := Lib.hid KY8; have SA8 := Lib.hid SA8; have SY8 := Lib.hid SY8; have SZ8 := Lib.hid SZ8; have B8 := Lib.hid B8; obtain ⟨A_0, A_1, A_2, A_3⟩ := KA8.out.four; obtain ⟨P_0, P_1⟩ := KP8.out.two; obtain ⟨Y_0, Y_1, Y_2, Y_3⟩ := KY8.out.four)
        | (go_at_call 18; refine (eqZone_same _ _ _ _ _ _ _ _ _ _ SY8.out SZ8.out (by unfold maxLen; omega)).mono ?_; rintro en w9 ⟨rfl, hb9⟩; clear A_0 A_1 A_2 A_3 P_0 P_1 Y_0 Y_1 Y_2 Y_3; have KA9 := (KA8.out).on hb9; have KP9 := (KP8.out).on hb9; have KY9 := (KY8.out).on hb9; have SA9 := (SA8.out).next hb9; have SY9 := (SY8.out).next hb9; have SZ9 := (SZ8.out).next hb9; have B9 := B8.out.trans (hb9.mono B8.out.size); clear hb9 B8 KA8 KP8 KY8 SA8 SY8 SZ8; have KA9 := Lib.hid KA9; have KP9 := Lib.hid KP9; have KY9 := Lib.hid KY9; have SA9 := Lib.hid SA9; have SY9 := Lib.hid SY9; have SZ9 := Lib.hid SZ9; have B9 := Lib.hid B9; obtain ⟨A_0, A_1, A_2, A_3⟩ := KA9.out.four; obtain ⟨P_0, P_1⟩ := KP9.out.two; obtain ⟨Y_0, Y_1, Y_2, Y_3⟩ := KY9.out.four))
    go_wp2
    go_ret
    exact ⟨rfl, B9.out⟩
  · have B0 : Below w.heap.size w ((w.alloc (.cells #[.int .i64 k, .int .i64 s, .int .i64 e, .slice A n c] 24)).alloc (.cells #[.int .i64 X, .int .i64 Y] 37)) := below_alloc2 _ _ _
    have KA0 : Blk ((w.alloc (.cells #[.int .i64 k, .int .i64 s, .int .i64 e, .slice A n c] 24)).alloc (.cells #[.int .i64 X, .int .i64 Y] 37)) (w.heap.size) 24 #[.int .i64 k, .int .i64 s, .int .i64 e, .slice A n c] := (Blk.new w _ _).alloc _
    have KP0 : Blk ((w.alloc (.cells #[.int .i64 k, .int .i64 s, .int .i64 e, .slice A n c] 24)).alloc (.cells #[.int .i64 X, .int .i64 Y] 37)) (w.heap.size + 1) 37 #[.int .i64 X, .int .i64 Y] := Blk.new2 w _ _ _
    have SA0 := SA.next B0
    clear SA
    have KA0 := Lib.hid KA0
    have KP0 := Lib.hid KP0
    have SA0 := Lib.hid SA0
    have B0 := Lib.hid B0
    go_enter Try.func7, Try.ntmps7
    obtain ⟨A_0, A_1, A_2, A_3⟩ := KA0.out.four
    obtain ⟨P_0, P_1⟩ := KP0.out.two
    go_wp2_with fail
    refine (szZone_out (by omega) _ _ _ _ _ _ (by omega) (by omega) hn).mono ?_
    rintro en w1 ⟨rfl, hb1⟩
    clear A_0 A_1 A_2 A_3 P_0 P_1
    have KA1 := (KA0.out).on hb1
    have KP1 := (KP0.out).on hb1
    have SA1 := (SA0.out).next hb1
    have B1 := B0.out.trans (hb1.mono B0.out.size)
    clear hb1 B0 KA0 KP0 SA0
    have KA1 := Lib.hid KA1
    have KP1 := Lib.hid KP1
    have SA1 := Lib.hid SA1
    have B1 := Lib.hid B1
    go_wp2
    go_ret
    exact ⟨rfl, B1.out⟩
end Go.Proofs.Ytbdompadkeamdaa
