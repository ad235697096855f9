/- Zones: the walks of the program's test of a zone. -/
import Derived.Test.YtbdompadkeamdaaProg
import Derived.Test.YtbdompadkeamdaaKit
import Derived.Test.YtbdompadkeamdaaBasics
import Derived.Test.YtbdompadkeamdaaMem
import Derived.Test.YtbdompadkeamdaaCodeRes
import Derived.Test.YtbdompadkeamdaaLists
import Derived.Test.YtbdompadkeamdaaPts
import Derived.Test.YtbdompadkeamdaaZonePlain
import Derived.Test.YtbdompadkeamdaaZones
import Derived.Test.YtbdompadkeamdaaZones2
import Derived.Test.YtbdompadkeamdaaZones3
import Derived.StillTailTactics
namespace Go.Proofs.Ytbdompadkeamdaa
open Go.RowKit Go.WideShapes Go.ChangeShapes Go.Joins Go.Deep Go.Sort
set_option linter.unusedVariables false
set_option linter.unusedSimpArgs false

theorem shapeOk1_any (x y : Int) (w : World) : Calls Try.prog 86 #[ptV x y] w fun en w' => en = .returned (.bool (!placeB x y)) ∧ Below w.heap.size w w' := by
  have HO := Lib.hid (fun w => implValidPlace_any x y w)
  generalize placeB x y = r at HO ⊢
  go_enter Try.func86, Try.ntmps86
  go_wp2_with (go_at_call 59; refine (HO.out _).mono ?_; rintro e w1 ⟨rfl, hb1⟩)
  go_ret
  exact ⟨rfl, (below_alloc1 w _).trans (hb1.mono (by simp))⟩
def BadIdx (w : World) (L : List (Int × Int)) (en : Ending) (w' : World) : Prop := ∃ r : Int, en = .returned (.int .i64 r) ∧ (if placesB L then r = -1 else 0 ≤ r) ∧ Below w.heap.size w w'
set_option maxHeartbeats 400000 in
theorem indexBad_any (A : Option Addr) (n c : Nat) (L : List (Int × Int)) (w : World) (h : Steps w w.heap.size A n L) (hn : n ≤ maxLen) :
    Calls Try.prog 103 #[.slice A n c, .func (.func 86) #[] #[]] w (BadIdx w L) := by
  unfold maxLen at hn
  have H := Lib.hid h
  clear h
  go_enter Try.func103, Try.ntmps103
  go_wp2
  go_loopw [5, 8] (fun _ i wr => ∃ j : Nat, j ≤ n ∧ i = .int .i64 j ∧ Below w.heap.size w wr ∧ Hid (∀ i, i < j → placeB (ptAt L i).1 (ptAt L i).2 = true)) (fun _ i _ => n - (intOf i).toNat)
  case atStart => exact ⟨0, Nat.zero_le _, rfl, Below.refl _ _, fun i hi => absurd hi (by omega)⟩
  case round =>
    obtain ⟨j, hj, rfl, HB, HJ⟩ := hrel
    by_cases hjn : j < n
    · obtain ⟨b, o, x, y, rfl, _, hx, hc1, hc2⟩ := (H.out.below HB).at_ hjn
      have i1 : (0 : Int) ≤ (j : Int) := Int.natCast_nonneg _
      have i2 : (j : Int) < (n : Int) := by omega
      have HO := fun w => shapeOk1_any x y w
      cases hp : placeB x y
      · have E := Lib.hid (place_here hx hp)
        rw [hp] at HO
        have HO := Lib.hid HO
        clear hx hp
        go_wp2_with fail
        refine (HO.out _).mono ?_
        rintro e w1 ⟨rfl, hb1⟩
        have B1 := HB.trans (hb1.mono HB.size)
        clear hb1
        go_wp2
        go_ret
        exact ⟨_, rfl, by rw [E.out]; simp, B1⟩
      · have E := Lib.hid (place_next HJ.out hx hp)
        rw [hp] at HO
        have HO := Lib.hid HO
        clear hx hp
        go_wp2_with fail
        refine (HO.out _).mono ?_
        rintro e w1 ⟨rfl, hb1⟩
        have B1 := HB.trans (hb1.mono HB.size)
        clear hb1
        go_wp2
        exact ⟨⟨j + 1, by omega, by go_num, B1, E⟩, by simp [intOf]; omega⟩
    · have E := Lib.hid (place_end H.out.1 HJ.out hjn)
      go_wp2
      go_ret
      exact ⟨_, rfl, by rw [E.out]; simp, HB⟩
theorem containsBad_any (A : Option Addr) (n c : Nat) (L : List (Int × Int)) (w : World) (h : Steps w w.heap.size A n L) (hn : n ≤ maxLen) :
    Calls Try.prog 85 #[.slice A n c, .func (.func 86) #[] #[]] w fun en w' => en = .returned (.bool (!placesB L)) ∧ Below w.heap.size w w' := by
  have H := indexBad_any A n c L w h hn
  unfold BadIdx at H
  clear h hn
  cases hp : placesB L
  · simp only [hp] at H
    have H := Lib.hid H
    clear hp
    go_enter Try.func85, Try.ntmps85
    go_wp2_with fail
    refine H.out.mono ?_
    rintro e w1 ⟨r, rfl, hr, hb1⟩
    have hr' : 0 ≤ r := by simpa using hr
    clear hr
    go_wp2
    go_ret
    exact ⟨rfl, hb1⟩
  · simp only [hp] at H
    have H := Lib.hid H
    clear hp
    go_enter Try.func85, Try.ntmps85
    go_wp2_with fail
    refine H.out.mono ?_
    rintro e w1 ⟨r, rfl, hr, hb1⟩
    obtain rfl : r = -1 := by simpa using hr
    clear hr
    go_wp2
    go_ret
    exact ⟨rfl, hb1⟩
theorem side_here {L : List (Int × Int)} {k j n : Nat} (hL : L.length = n) (hj : j < n) (h : leftB L k j = false) : sideB L k = false := by
  subst hL; exact allN_false hj h
theorem side_end {L : List (Int × Int)} {k j n : Nat} (hL : L.length = n) (h0 : ∀ i, i < j → leftB L k i = true) (h : ¬ j < n) : sideB L k = true := by
  subst hL; exact allN_true fun i hi => h0 i (by omega)
set_option maxHeartbeats 1000000 in
theorem shapeOk2_any (k s e : Int) (A : Option Addr) (n c : Nat) (L : List (Int × Int)) (i : Nat) (px py qx qy : Int) (g g2 : Nat) (w : World) (K : Blk w g 29 #[.int .i64 k, .int .i64 s, .int .i64 e, .slice A n c]) (K2 : Blk w g2 3 #[.int .i64 n]) (h : Steps w w.heap.size A n L) (hn : n ≤ maxLen) (hp : placesB L = true) (hi : i < n) (e1 : ptAt L i = (px, py)) (e2 : ptAt L ((i + 1) % n) = (qx, qy)) :
    Calls Try.prog 87 #[.int .i64 i, ptV px py, ptV qx qy, .pointer (some ⟨g, 0, none⟩), .pointer (some ⟨g2, 0, none⟩)] w fun en w' => en = .returned (.bool (sideB L i)) ∧ Below w.heap.size w w' := by
  unfold maxLen at hn
  obtain ⟨m, hm, em1, em2⟩ := mod_form hi
  have pp := places_get hp (show i < L.length by rw [h.1]; exact hi)
  have pq := places_get hp (show (i + 1) % n < L.length by rw [h.1, em1]; exact hm)
  rw [e1] at pp
  rw [e2] at pq
  have H := Lib.hid h
  have HP := Lib.hid hp
  have HK := Lib.hid K
  have HK2 := Lib.hid K2
  have E1 := Lib.hid e1
  have E2 := Lib.hid e2
  have EM := Lib.hid em1
  obtain ⟨c0, c1, c2, c3⟩ := K.four
  have d0 := K2.one
  have i3 : (0 : Int) ≤ (i : Int) := Int.natCast_nonneg _
  have i4 : (i : Int) < (n : Int) := by omega
  have i5 : (1 : Int) ≤ (n : Int) := by omega
  have v1 := IntWalk.i64_in ((i : Int) + 1) (by omega)
  have glt := K.lt
  have glt2 := K2.lt
  clear h hp K K2 e1 e2 em1
  go_enter Try.func87, Try.ntmps87
  go_wp2
  have B0 := below_alloc2 w (.cells #[.int .i64 px, .int .i64 py] 39) (.cells #[.int .i64 qx, .int .i64 qy] 39)
  have KA := Lib.hid ((Blk.new w 39 #[.int .i64 px, .int .i64 py]).alloc (.cells #[.int .i64 qx, .int .i64 qy] 39))
  have KB := Lib.hid (Blk.new2 w (.cells #[.int .i64 px, .int .i64 py] 39) 39 #[.int .i64 qx, .int .i64 qy])
  clear c0 c1 c2 c3 d0
  go_loopw [9, 10, 14] (fun _ _ i' wr => ∃ j : Nat, j ≤ n ∧ i' = .int .i64 j ∧ Below w.heap.size w wr ∧ Hid (Blk wr w.heap.size 39 #[.int .i64 px, .int .i64 py] ∧ Blk wr (w.heap.size + 1) 39 #[.int .i64 qx, .int .i64 qy]) ∧ Hid (∀ x, x < j → leftB L i x = true)) (fun _ _ i' _ => n - (intOf i').toNat)
  case atStart => exact ⟨0, Nat.zero_le _, rfl, B0, ⟨KA.out, KB.out⟩, fun x hx => absurd hx (by omega)⟩
  case round =>
    clear B0 KA KB
    obtain ⟨j, hj, rfl, HB, HAB, HJ⟩ := hrel
    by_cases hjn : j < n
    · obtain ⟨b, o, x, y, eA, hbb, hx, hc1, hc2⟩ := (H.out.below HB).at_ hjn
      have hz := HB.size
      have i1 : (0 : Int) ≤ (j : Int) := Int.natCast_nonneg _
      have i2 : (j : Int) < (n : Int) := by omega
      have hlw : b < wr.heap.size := by omega
      have pj := places_at HP.out hx
      have B1 := HB.alloc hz (.cells #[.int .i64 x, .int .i64 y] 39)
      have NAB := Lib.hid (show Blk _ w.heap.size 39 #[.int .i64 px, .int .i64 py] ∧ Blk _ (w.heap.size + 1) 39 #[.int .i64 qx, .int .i64 qy] from ⟨HAB.out.1.alloc (.cells #[.int .i64 x, .int .i64 y] 39), HAB.out.2.alloc (.cells #[.int .i64 x, .int .i64 y] 39)⟩)
      subst eA
      by_cases hjk : j = i
      · have t1 : ((j : Int) != (i : Int)) = false := by rw [bne_eq_false_iff_eq]; omega
        have E := Lib.hid (upto_next HJ.out (show leftB L i j = true by rw [hjk]; exact left_same))
        clear hjk hx
        go_wp2
        exact ⟨⟨j + 1, by omega, by go_num, B1, NAB, E⟩, by simp [intOf]; omega⟩
      · have t1 : ((j : Int) != (i : Int)) = true := by rw [bne_iff_ne]; omega
        have d0 := (HK2.out.on HB).one
        have gl2 := (HK2.out.on HB).lt
        by_cases hjm : j = m
        · have t2 : ((j : Int) != (m : Int)) = false := by rw [bne_eq_false_iff_eq]; omega
          have E := Lib.hid (upto_next HJ.out (show leftB L i j = true by exact left_next (by rw [H.out.1, EM.out]; exact hjm)))
          clear hjk hjm hx
          go_wp2
          exact ⟨⟨j + 1, by omega, by go_num, B1, NAB, E⟩, by simp [intOf]; omega⟩
        · have t2 : ((j : Int) != (m : Int)) = true := by rw [bne_iff_ne]; omega
          have LX := left_cross (L := L) (k := i) (i := j) (by omega) (by rw [H.out.1, EM.out]; exact hjm) E1.out (q := (qx, qy)) (by rw [H.out.1]; exact E2.out) (ptAt_of hx)
          obtain ⟨a0, a1⟩ := HAB.out.1.two
          obtain ⟨b0, b1⟩ := HAB.out.2.two
          have la := HAB.out.1.lt
          have lb := HAB.out.2.lt
          by_cases hcr : crossV px py qx qy x y ≤ 0
          · have t3 : decide (crossV px py qx qy x y ≤ 0) = true := by simpa using hcr
            have E := Lib.hid (side_here H.out.1 hjn (by rw [LX]; simp; omega))
            clear LX hx hjk hjm
            go_wp2_with (go_at_call 61; refine (side_any _ _ _ _ _ _ _ pp pq pj).mono ?_; rintro e w1 ⟨rfl, hb1⟩)
            go_ret
            exact ⟨ret_bool E.out.symm, B1.trans (hb1.mono B1.size)⟩
          · have t3 : decide (crossV px py qx qy x y ≤ 0) = false := by simpa using hcr
            have E := Lib.hid (upto_next HJ.out (show leftB L i j = true by rw [LX]; simp; omega))
            clear LX hx hjk hjm
            go_wp2_with (go_at_call 61; refine (side_any _ _ _ _ _ _ _ pp pq pj).mono ?_; rintro e w1 ⟨rfl, hb1⟩)
            exact ⟨⟨j + 1, by omega, by go_num, B1.trans (hb1.mono B1.size), ⟨NAB.out.1.on hb1, NAB.out.2.on hb1⟩, E⟩, by simp [intOf]; omega⟩
    · have E := Lib.hid (side_end H.out.1 HJ.out hjn)
      go_wp2
      go_ret
      exact ⟨ret_bool E.out.symm, HB⟩
end Go.Proofs.Ytbdompadkeamdaa
