/- The walk of the law of turns. -/
import Derived.Test.YtofoihohendjgaaDoorProg
import Derived.Test.YtofoihohendjgaaDoorKit
import Derived.Test.YtofoihohendjgaaDoorBasics
import Derived.Test.YtofoihohendjgaaDoorMem
import Derived.Test.YtofoihohendjgaaDoorLists
import Derived.Test.YtofoihohendjgaaDoorDirs
import Derived.Test.YtofoihohendjgaaDoorCodeRes
import Derived.Test.YtofoihohendjgaaDoorWay
import Derived.Test.YtofoihohendjgaaDoorWay2
import Derived.Test.YtofoihohendjgaaDoorVec
import Derived.Test.YtofoihohendjgaaDoorVec2
import Derived.Test.YtofoihohendjgaaDoorVec3
import Derived.Test.YtofoihohendjgaaDoorVec4
import Derived.Test.YtofoihohendjgaaDoorVec5
import Derived.Test.YtofoihohendjgaaDoorSrc
import Derived.Test.YtofoihohendjgaaDoorSrc2
import Derived.Test.YtofoihohendjgaaDoorSrc3
import Derived.Test.YtofoihohendjgaaDoorTurns
import Derived.Deep.RegionWith
import Derived.Deep.Cut
import Derived.Deep.CutRange
namespace Go.Proofs.YtofoihohendjgaaDoor
open Go.RowKit Go.WideShapes Go.ChangeShapes Go.Joins Go.Deep Go.Sort
set_option linter.unusedVariables false
set_option linter.unusedSimpArgs false
theorem BytesAt.more {w : World} {B B' : Nat} {A : Option Addr} {n : Nat} (h : BytesAt w B A n) (hB : B ≤ B') : BytesAt w B' A n := fun hn => by
  obtain ⟨b, o, e, hb, hc⟩ := h hn
  exact ⟨b, o, e, by omega, hc⟩
theorem BytesAt.next {w w' : World} {A : Option Addr} {n : Nat} (h : BytesAt w w.heap.size A n) (hb : Below w.heap.size w w') : BytesAt w' w'.heap.size A n := (h.below hb).more hb.size
theorem ints_get {M : List Int} {k : Nat} {z : Int} (h : M[k]? = some z) : (ints M)[k]? = some (.int .i64 z) := by
  unfold ints; rw [List.getElem?_map, h]; rfl
theorem cell_of {w : World} {base g c q k : Nat} {M : List Int} {z : Int} (h : w.ownsRow base 2 1 (.slice (some ⟨g, 0, none⟩) q c) q (ints M)) (hk : k < q) (e : M[k]? = some z) : w.cell? ⟨g, k, none⟩ = some (.int .i64 z) := (h.cellAt k (by omega)).trans (ints_get e)
theorem two_set {w : World} {g : Nat} {t : TypeId} {a b u v : Value} (h : Blk w g t #[a, b]) : Blk ((w.setCell ⟨g, 0, none⟩ u).setCell ⟨g, 1, none⟩ v) g t #[u, v] := (h.set_ 0 u).set_ 1 v
def AtCut (w : World) (B gU : Nat) (ax ay d : Int) (p q : Value) (wr : World) : Prop := ∃ (g : Nat) (px py : Int), p = .pointer (some ⟨g, 0, none⟩) ∧ q = .int .i64 0 ∧ Below B w wr ∧ Blk wr gU 23 #[.int .i64 ax, .int .i64 ay] ∧ Blk wr g 23 #[.int .i64 px, .int .i64 py] ∧ placeB px py = true ∧ dirRes ax ay px py = .tuple #[.int .i64 d, .int .i64 0]
set_option maxRecDepth 100000 in
set_option maxHeartbeats 4000000 in
theorem FnTurns_walk (w : World) (SQ : QuarterAt w) (A : Option Addr) (n c : Nat) (hn : n ≤ maxLen) (hB : BytesAt w w.heap.size A n) : Calls Tryd.prog 6 #[.slice A n c] w fun en w' => en = .returned (.bool true) ∧ Below w.heap.size w w' := by
  have HL := Lib.hid (a2Long_nil A n c w hn)
  by_cases hh : 3000 < n
  · rw [show decide (3000 < n) = true by simpa using hh] at HL
    clear hB hh hn SQ
    go_enter Tryd.func6, Tryd.ntmps6
    go_wp2_with fail
    refine HL.out.mono ?_
    rintro en w1 ⟨rfl, rfl⟩
    go_wp2
    go_ret
    exact ⟨rfl, Below.refl _ _⟩
  · rw [show decide (3000 < n) = false by simpa using hh] at HL
    have hN : n ≤ 3000 := by omega
    have HB0 := Lib.hid hB
    have HQ0 := Lib.hid SQ
    have SQ0 := Lib.hid SQ
    clear hB hh SQ hn
    go_enter Tryd.func6, Tryd.ntmps6
    go_wp2_with fail
    refine HL.out.mono ?_
    rintro en w1 ⟨rfl, rfl⟩
    go_wp2_with fail
    refine (a2At_any A n c 0 24 w.heap.size w HB0.out hN (by omega) (by omega) (by omega) (by omega)).mono ?_
    rintro en w2 ⟨d', rfl, d0, d1, rfl⟩
    obtain ⟨d, rfl⟩ : ∃ d : Nat, d' = d := ⟨d'.toNat, by omega⟩
    have hd : d < 24 := by omega
    go_wp2_with fail
    refine (a2At_any A n c 1 24 w.heap.size w HB0.out hN (by omega) (by omega) (by omega) (by omega)).mono ?_
    rintro en w3 ⟨e, rfl, e0, e1, rfl⟩
    go_wp2_with fail
    refine (a2At_any A n c 2 120 w.heap.size w HB0.out hN (by omega) (by omega) (by omega) (by omega)).mono ?_
    rintro en w4 ⟨z, rfl, z0, z1, rfl⟩
    obtain ⟨b, hb⟩ : ∃ b : Int, b = z - 60 := ⟨_, rfl⟩
    have b0 : -60 ≤ b := by omega
    have b1 : b ≤ 59 := by omega
    obtain ⟨x, y, vx, vy, M, m, E1, E2, E3, E4, WI, E5, E6, E7, c0, c1, E8, E9, x0, x1, y0, y1, m60⟩ := turns_law hd e0 e1 b0 b1
    have C1 : Hid (∀ w, Calls Tryd.prog 17 #[.int .i64 (d : Int), .int .i64 b] w fun e w' => e = .returned (.tuple #[.int .i64 x, .int .i64 0]) ∧ w = w') := fun w => by rw [← E1]; exact implTurnBy_any d b w
    have C2 : Hid (∀ w, Calls Tryd.prog 18 #[.int .i64 (d : Int), .int .i64 e] w fun e w' => e = .returned (.tuple #[.int .i64 y, .int .i64 0]) ∧ w = w') := fun w => by rw [← E2]; exact implTurnBetween_any d e w
    obtain ⟨q, hq⟩ : ∃ q : Nat, q = m + 1 := ⟨_, rfl⟩
    have CW : Hid (∀ w, Calls Tryd.prog 19 #[.int .i64 (d : Int), .int .i64 b] w fun e w' => ∃ A c, e = .returned (.tuple #[.slice A q c, .int .i64 0]) ∧ w'.ownsRow w.heap.size 2 1 (.slice A q c) q (ints M) ∧ Below w.heap.size w w') := fun w => by
      have := implWayOf_any d b w
      rw [E3, E4] at this
      unfold RetInts at this
      rw [WI.len, ← hq] at this
      exact this
    have C3 : Hid (∀ w, QuarterAt w → Calls Tryd.prog 8 #[.int .i64 (d : Int)] w fun e w' => e = .returned (.tuple #[.agg #[.int .i64 vx, .int .i64 vy], .int .i64 0]) ∧ Below w.heap.size w w') := fun w hQ => by have := implVectorOf_any d w hQ; rw [E6] at this; exact this
    have C4 : Hid (∀ w, QuarterAt w → Calls Tryd.prog 8 #[.int .i64 (((d : Int) + 6) % 24)] w fun e w' => e = .returned (.tuple #[.agg #[.int .i64 (-vy), .int .i64 vx], .int .i64 0]) ∧ Below w.heap.size w w') := fun w hQ => by have := implVectorOf_any (((d : Int) + 6) % 24) w hQ; rw [E7] at this; exact this
    have C5 : Hid (∀ w, Calls Tryd.prog 17 #[.int .i64 x, .int .i64 (-b)] w fun e w' => e = .returned (.tuple #[.int .i64 (d : Int), .int .i64 0]) ∧ w = w') := fun w => by rw [← E8]; exact implTurnBy_any x (-b) w
    have C6 : Hid (∀ w, Calls Tryd.prog 17 #[.int .i64 (d : Int), .int .i64 y] w fun e' w' => e' = .returned (.tuple #[.int .i64 e, .int .i64 0]) ∧ w = w') := fun w => by rw [← E9]; exact implTurnBy_any d y w
    have HWI := Lib.hid WI
    have HM := Lib.hid E5
    have hq1 : 1 ≤ q := by omega
    have HI := Lib.hid (show q - 1 = m by omega)
    have q61 : q ≤ 61 := by omega
    clear hq m60
    clear E1 E2 E3 E4 WI E5 E6 E7 E8 E9
    go_wp2_with fail
    rw [← hb]
    clear hb
    with_reducible refine (C1.out _).mono ?_
    rintro en w' ⟨rfl, rfl⟩
    go_wp2_with fail
    with_reducible refine (C2.out _).mono ?_
    rintro en w' ⟨rfl, rfl⟩
    go_wp2_with fail
    with_reducible refine (CW.out _).mono ?_
    rintro en w5 ⟨A5, c5, rfl, O5, hb5⟩
    obtain ⟨g, cc, hv, _, _⟩ := O5.form (by omega)
    injection hv with hA _ hc
    subst hA; subst hc
    have HO5 := Lib.hid O5
    have HQ5 := Lib.hid (HQ0.out.next hb5)
    have HD5 := Lib.hid (HB0.out.next hb5)
    have B5 := Lib.hid hb5
    clear hb5 O5 HB0 HQ0 C1 C2 CW HL
    go_wp2_with fail
    with_reducible refine (C3.out _ HQ5.out).mono ?_
    rintro en w6 ⟨rfl, hb6⟩
    have a6 := below_alloc1 w6 (.cells #[.int .i64 vx, .int .i64 vy] 23)
    have h6 := hb6.trans (a6.mono hb6.size)
    have HO6 := Lib.hid (own_below HO5.out h6)
    have HQ6 := Lib.hid (HQ5.out.next h6)
    have HD6 := Lib.hid (HD5.out.next h6)
    have B6 := Lib.hid (B5.out.trans (h6.mono B5.out.size))
    have K6 := Lib.hid (Blk.new w6 23 #[.int .i64 vx, .int .i64 vy])
    clear hb6 a6 h6 HO5 HQ5 HD5 B5 C3
    go_wp2_with fail
    with_reducible refine (C4.out _ HQ6.out).mono ?_
    rintro en w7 ⟨rfl, hb7⟩
    have a7 := below_alloc1 w7 (.cells #[.int .i64 (-vy), .int .i64 vx] 23)
    have h7 := hb7.trans (a7.mono hb7.size)
    have HO7 := Lib.hid (own_below HO6.out h7)
    have HQ7 := Lib.hid (HQ6.out.next h7)
    have HD7 := Lib.hid (HD6.out.next h7)
    have B7 := Lib.hid (B6.out.trans (h7.mono B6.out.size))
    obtain ⟨u0, u1⟩ := (K6.out.on h7).two
    obtain ⟨v0, v1⟩ := (Blk.new w7 23 #[.int .i64 (-vy), .int .i64 vx]).two
    have k0 := cell_of HO7.out (by omega) HWI.out.at0
    have k1 := cell_of HO7.out (k := q - 1) (by omega) (by rw [HI.out]; exact HWI.out.atm)
    clear hb7 a7 h7 HO6 HQ6 HD6 B6 C4 K6
    obtain ⟨s, hs⟩ : ∃ s : Int, (if -b > b then -b else b) = s := ⟨_, rfl⟩
    have hs1 : s + 1 = (q : Int) := by have := HI.out; rw [← hs, ← HM.out]; omega
    have hmax : ∀ (ts : Array TypeId) (t : TypeId) (W : World), (Builtin.max_ ts t #[.int .i64 b, .int .i64 (-b)]).run Tryd.prog W = .ok (.int .i64 s) W := fun ts t W => by rw [run_max_int2, hs]
    have hs0 : 0 ≤ s := by omega
    have s61 : s ≤ 61 := by omega
    have dx0 : decide (x < 0) = false := by simpa using x0
    have dx1 : decide (23 < x) = false := by simpa using x1
    have dy0 : decide (y < -11) = false := by simpa using y0
    have dy1 : decide (12 < y) = false := by simpa using y1
    clear hs HM
    go_wp2_with fail
    with_reducible refine (C5.out _).mono ?_
    rintro en w' ⟨rfl, rfl⟩
    go_wp2_with fail
    with_reducible refine (C6.out _).mono ?_
    rintro en w' ⟨rfl, rfl⟩
    clear C5 C6
    go_wp2
    obtain ⟨W7, hW7⟩ : ∃ W7, W7 = w7.alloc (.cells #[.int .i64 (-vy), .int .i64 vx] 23) := ⟨_, rfl⟩
    rw [← hW7] at HO7 HQ7 HD7 B7 u0 u1 v0 v1 k0 k1 ⊢
    clear hW7 u0 u1 v0 v1 k0 k1 dx0 dx1 dy0 dy1 hmax
    go_loopw [21, 22, 23] (fun i _ _ wr => ∃ k : Nat, 1 ≤ k ∧ k ≤ q ∧ i = .int .i64 k ∧ Hid (∃ j, wr = W7.drewN j)) (fun i _ _ _ => q - (intOf i).toNat)
    case atStart => exact ⟨1, Nat.le_refl _, hq1, rfl, 0, rfl⟩
    case round =>
      obtain ⟨k, hk1, hk, rfl, HJ⟩ := hrel
      by_cases hlt : k < q
      · obtain ⟨k, rfl⟩ : ∃ k', k = k' + 1 := ⟨k - 1, by omega⟩
        obtain ⟨zp, ep, p0, p1⟩ := HWI.out.all k (by have := HI.out; omega)
        obtain ⟨zk, ek, r0, r1⟩ := HWI.out.all (k + 1) (by have := HI.out; omega)
        have ht := HWI.out.next k zp zk (by have := HI.out; omega) ep ek
        have cp : wr.cell? ⟨g, k, none⟩ = some (.int .i64 zp) := by obtain ⟨j, e⟩ := HJ.out; rw [e]; exact cell_of HO7.out (k := k) (by omega) ep
        have ck : wr.cell? ⟨g, k + 1, none⟩ = some (.int .i64 zk) := by obtain ⟨j, e⟩ := HJ.out; rw [e]; exact cell_of HO7.out (k := k + 1) hlt ek
        have i1 : (0 : Int) ≤ (k : Int) := Int.natCast_nonneg _
        have i2 : (k : Int) + 1 < (q : Int) := by omega
        have i3 : (k : Int) < (q : Int) := by omega
        have i4 := IntWalk.i64_in (k : Int) (by omega)
        have i5 : (0 : Int) ≤ (k : Int) + 1 := by omega
        have i6 : ((k : Int) + 1).toNat = k + 1 := by omega
        have CT : Hid (∀ w, Calls Tryd.prog 20 #[.int .i64 zp, .int .i64 zk] w fun e w' => e = .returned (.tuple #[.int .i64 (turnV zp zk), .int .i64 0]) ∧ w' = w) := fun w => by
          have := specTurnBetween_any zp zk w
          rw [inB_true p0 p1, inB_true r0 r1] at this
          exact this.mono fun _ _ ⟨h1, h2⟩ => ⟨h1, h2.symm⟩
        have dz0 : decide (zk < 0) = false := by simpa using r0
        have dz1 : decide (23 < zk) = false := by simpa using r1
        generalize turnV zp zk = t at CT ht
        clear ep ek
        rcases ht with rfl | rfl
        all_goals
          go_wp2
          go_quiet ((go_at_call 20; exact Calls.quiet_of_same (CT.out _)))
          go_wp2
          exact ⟨⟨k + 1 + 1, by omega, by omega, by go_num, HJ.out.elim fun j e => ⟨_, by rw [e, World.drewN_drewN]⟩⟩, by simp [intOf]; omega⟩
      · obtain ⟨j, rfl⟩ := HJ.out
        clear HJ
        obtain rfl : k = q := by omega
        have BW := below_drewN B7.out j
        have DW := Lib.hid (show BytesAt (W7.drewN j) (W7.drewN j).heap.size A n from HD7.out)
        have QW := Lib.hid (show QuarterAt (W7.drewN j) from HQ7.out)
        clear HO7 HQ7 HD7 B7 HI HWI hlt
        go_wp2_with fail
        refine (A2Places_any A n c _ DW.out hN).mono ?_
        rintro en w8 ⟨ax, ay, bx, cy, dx, dy, rfl, na, nb, nc, hb8⟩
        have al := below_alloc3 w8 (.cells #[.int .i64 ax, .int .i64 ay] 23) (.cells #[.int .i64 bx, .int .i64 cy] 23) (.cells #[.int .i64 dx, .int .i64 dy] 23)
        have h8 := hb8.trans (al.mono hb8.size)
        have LW := BW.trans (h8.mono BW.size)
        have DW := Lib.hid (DW.out.next h8)
        have QW := Lib.hid (QW.out.next h8)
        have KU := ((Blk.new w8 23 #[.int .i64 ax, .int .i64 ay]).alloc (.cells #[.int .i64 bx, .int .i64 cy] 23)).alloc (.cells #[.int .i64 dx, .int .i64 dy] 23)
        have CP : Hid (∀ (r : Int) (wr : World), 0 ≤ r → r < 256 → QuarterAt wr → Calls Tryd.prog 14 #[.agg #[.int .i64 ax, .int .i64 ay], .int .i64 (d : Int), .int .i64 (100 + r)] wr fun e w' => ∃ px py : Int, e = .returned (.tuple #[.agg #[.int .i64 px, .int .i64 py], .int .i64 0]) ∧ placeB px py = true ∧ dirRes ax ay px py = .tuple #[.int .i64 (d : Int), .int .i64 0] ∧ Below wr.heap.size wr w') := fun r wr r0 r1 hQ => by
          obtain ⟨px, py, e, hp, hd'⟩ := at_law na hd r0 r1
          have := implPlaceAt_any ax ay d (100 + r) wr hQ
          rw [e] at this
          exact this.mono fun _ _ ⟨h1, h2⟩ => ⟨px, py, h1, hp, hd', h2⟩
        clear hb8 al h8 BW na nb nc
        go_wp2
        obtain ⟨W8, hW8⟩ : ∃ W, W = ((w8.alloc (.cells #[.int .i64 ax, .int .i64 ay] 23)).alloc (.cells #[.int .i64 bx, .int .i64 cy] 23)).alloc (.cells #[.int .i64 dx, .int .i64 dy] 23) := ⟨_, rfl⟩
        rw [← hW8] at LW DW QW KU ⊢
        generalize w8.heap.size = gU at KU ⊢
        clear hW8
        have D1 := Lib.hid (show BytesAt W8.drew W8.heap.size A n from DW.out)
        have DA := Lib.hid (show ∀ o, BytesAt (W8.drew.alloc o) W8.heap.size A n from fun o => D1.out.grown (grown_of_below (below_alloc1 W8.drew o) none) (Nat.le_refl _) (fun g' e => by cases e))
        have Q1 := Lib.hid (show QuarterAt W8.drew from QW.out)
        have QA := Lib.hid (show ∀ o, QuarterAt (W8.drew.alloc o) from fun o => Q1.out.next (below_alloc1 W8.drew o))
        have UD := Lib.hid (show Blk W8.drew gU 23 #[.int .i64 ax, .int .i64 ay] from KU)
        have UA := Lib.hid (UD.out.alloc (.cells #[.int .i64 0, .int .i64 0] 23))
        have PA := Lib.hid (show Blk (W8.drew.alloc (.cells #[.int .i64 0, .int .i64 0] 23)) W8.heap.size 23 #[.int .i64 0, .int .i64 0] from Blk.new W8.drew 23 #[.int .i64 0, .int .i64 0])
        have LD := Lib.hid (show Below w.heap.size w W8.drew from below_drewN LW 1)
        have LA := Lib.hid (LD.out.alloc LD.out.size (.cells #[.int .i64 0, .int .i64 0] 23))
        have lu := KU.lt
        obtain ⟨u0, u1⟩ := KU.two
        clear KU LW DW QW
        go_cut [27, 28] from 223 (fun p q wr => AtCut w w.heap.size gU ax ay d p q wr)
        case first =>
          go_region_with
            (first
              | (go_at_call 16; (with_reducible refine (a2At_any A n c 3 256 W8.heap.size _ ?_ hN (by omega) (by omega) (by omega) (by omega)).mono ?_); (first | exact D1.out | exact DA.out _); rintro en w9 ⟨r, rfl, r0, r1, rfl⟩; have v9 := IntWalk.i64_in (100 + r) (by omega))
              | (go_at_call 14; (with_reducible refine (CP.out r _ r0 r1 ?_).mono ?_); (first | exact Q1.out | exact QA.out _); rintro en w10 ⟨px, py, rfl, hp, hdr, hb10⟩; first | (have U10 := Lib.hid (UA.out.on hb10); have P10 := PA.out.on hb10; have L10 := Lib.hid (LA.out.trans (hb10.mono LA.out.size)); obtain ⟨p0, p1⟩ := P10.two; have f0 := P10.frozen 0; have f1 := P10.frozen 1; have P10 := Lib.hid P10; clear hb10) | (have U10 := Lib.hid (UD.out.on hb10); have L10 := Lib.hid (LD.out.trans (hb10.mono LD.out.size)); have P10 := Blk.new w10 23 #[.int .i64 0, .int .i64 0]; obtain ⟨p0, p1⟩ := P10.two; have f0 := P10.frozen 0; have f1 := P10.frozen 1; have P10 := Lib.hid P10; clear hb10)))
          all_goals
            go_wp2
            go_meet
            first
              | exact ⟨_, px, py, rfl, rfl, L10.out.alloc L10.out.size _, U10.out.alloc _, Blk.new w10 _ _, hp, hdr⟩
              | exact ⟨_, px, py, rfl, rfl, (L10.out.setCell LD.out.size _).setCell LD.out.size _, (U10.out.far (Nat.ne_of_lt lu) _).far (Nat.ne_of_lt lu) _, two_set P10.out, hp, hdr⟩
        case rest =>
          obtain ⟨gP, px, py, rfl, rfl, LB, KU, KP, hp, hdr⟩ := hcut
          have CV : Hid (∀ w, Calls Tryd.prog 22 #[.agg #[.int .i64 px, .int .i64 py]] w fun e w' => e = .returned (.bool true) ∧ Below w.heap.size w w') := fun w => by have := specValidPlace_any px py w; rwa [hp] at this
          have CD : Hid (∀ w, QuarterAt w → Calls Tryd.prog 12 #[.agg #[.int .i64 ax, .int .i64 ay], .agg #[.int .i64 px, .int .i64 py]] w fun e w' => e = .returned (.tuple #[.int .i64 (d : Int), .int .i64 0]) ∧ Below w.heap.size w w') := fun w hQ => by have := implDirectionTo_any ax ay px py w hQ; rw [hdr] at this; exact this
          have HKU := Lib.hid KU
          have HKP := Lib.hid KP
          have LB := Lib.hid LB
          obtain ⟨u0, u1⟩ := KU.two
          obtain ⟨p0, p1⟩ := KP.two
          clear KU KP hp hdr D1 DA Q1 QA UD UA PA LD LA CP
          go_wp2_with fail
          with_reducible refine (CV.out _).mono ?_
          rintro en w11 ⟨rfl, hb11⟩
          obtain ⟨u0, u1⟩ := (HKU.out.on hb11).two
          obtain ⟨p0, p1⟩ := (HKP.out.on hb11).two
          have L11 := Lib.hid (LB.out.trans (hb11.mono LB.out.size))
          have Q11 := Lib.hid (SQ0.out.next L11.out)
          clear hb11 HKU HKP LB CV SQ0
          go_wp2_with fail
          with_reducible refine (CD.out _ Q11.out).mono ?_
          rintro en w12 ⟨rfl, hb12⟩
          have L12 := Lib.hid (L11.out.trans (hb12.mono L11.out.size))
          clear hb12 L11 Q11 CD
          go_wp2
          go_ret
          exact ⟨by simp, L12.out⟩
end Go.Proofs.YtofoihohendjgaaDoor
