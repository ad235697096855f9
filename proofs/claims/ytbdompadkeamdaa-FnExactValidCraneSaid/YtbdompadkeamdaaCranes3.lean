/- Cranes: the load at a place; the walks of both sides, and the laws on one crane. -/
import Derived.Test.YtbdompadkeamdaaProg
import Derived.Test.YtbdompadkeamdaaKit
import Derived.Test.YtbdompadkeamdaaBasics
import Derived.Test.YtbdompadkeamdaaMem
import Derived.Test.YtbdompadkeamdaaCodeRes
import Derived.Test.YtbdompadkeamdaaLists
import Derived.Test.YtbdompadkeamdaaSteps
import Derived.Test.YtbdompadkeamdaaCharts
import Derived.Test.YtbdompadkeamdaaChartLaws
import Derived.Test.YtbdompadkeamdaaNames
import Derived.Test.YtbdompadkeamdaaPts
import Derived.Test.YtbdompadkeamdaaZonePlain
import Derived.Test.YtbdompadkeamdaaZones
import Derived.Test.YtbdompadkeamdaaDirs
import Derived.Test.YtbdompadkeamdaaFinds
import Derived.Test.YtbdompadkeamdaaLoads2
import Derived.Test.YtbdompadkeamdaaLoads3
import Derived.Test.YtbdompadkeamdaaZones7
import Derived.Test.YtbdompadkeamdaaCranes
import Derived.Test.YtbdompadkeamdaaCranes2
import Derived.Deep.RegionHeld3
namespace Go.Proofs.Ytbdompadkeamdaa
open Go.RowKit Go.WideShapes Go.ChangeShapes Go.Joins Go.Deep Go.Sort
set_option linter.unusedVariables false
set_option linter.unusedSimpArgs false
theorem find_far {L : List (Int × Int)} {r : Int} (h : chartB L = true) (hr : 1000 < r) : findV L r = -1 := findV_none fun j s hs => by
  obtain ⟨a, b⟩ := s
  have := chart_at h hs
  show a < r
  omega
theorem load_far {L : List (Int × Int)} {r : Int} (h : chartB L = true) (hr : 1000 < r) : loadV L r = -1 := loadV_none (find_far h hr)
theorem load_sign {L : List (Int × Int)} (h : chartB L = true) (r : Int) : (findV L r < 0 ∧ loadV L r = -1) ∨ (¬ findV L r < 0 ∧ 0 ≤ loadV L r ∧ loadV L r ≤ 50000) := by
  rcases loadV_bounds h r with ⟨a, b⟩ | ⟨a, b, c⟩
  · exact .inl ⟨by omega, a⟩
  · exact .inr ⟨c, a, b⟩
def placeRes (ok : Bool) (L : List (Int × Int)) (r : Int) : Value := match ok with | false => .tuple #[.int .i64 0, .int .i64 1] | true => if loadV L r < 0 then .tuple #[.int .i64 0, .int .i64 3] else .tuple #[.int .i64 (loadV L r), .int .i64 0]
theorem placeRes_form (ok : Bool) (L : List (Int × Int)) (r : Int) : ∃ x y : Int, placeRes ok L r = .tuple #[.int .i64 x, .int .i64 y] := by
  unfold placeRes; split
  · exact ⟨_, _, rfl⟩
  · split <;> exact ⟨_, _, rfl⟩
def codeOf (ok : Bool) (L : List (Int × Int)) (r : Int) : Int := match ok with | false => 1 | true => if loadV L r < 0 then 3 else 0
theorem placeRes_code (ok : Bool) (L : List (Int × Int)) (r : Int) : ∃ x : Int, placeRes ok L r = .tuple #[.int .i64 x, .int .i64 (codeOf ok L r)] := by
  unfold placeRes codeOf; cases ok
  · exact ⟨_, rfl⟩
  · dsimp only; split <;> exact ⟨_, rfl⟩
def reachB (ok : Bool) (L : List (Int × Int)) (r : Int) : Bool := ok && decide (0 ≤ loadV L r)
theorem reach_code (ok : Bool) (L : List (Int × Int)) (r : Int) : (codeOf ok L r == 0) = reachB ok L r := by
  unfold codeOf reachB
  cases ok
  · rfl
  · dsimp only
    by_cases h : loadV L r < 0
    · rw [if_pos h]; simp; omega
    · rw [if_neg h]; simp; omega
set_option maxHeartbeats 1000000 in
theorem l04Load_any (nm : ByteArray) (x y ht jb bk : Int) (A : Option Addr) (n c : Nat) (L : List (Int × Int)) (X Y : Int) (g : Nat) (w : World) (K : Blk w g 52 #[.string nm, .int .i64 x, .int .i64 y, .int .i64 ht, .int .i64 jb, .int .i64 bk, .slice A n c]) (h : Steps w w.heap.size A n L) (hn : n ≤ maxLen) (hc : chartB L = true) (hp : placeB x y = true) (hx : placeB X Y = true) :
    Calls Try.prog 81 #[.pointer (some ⟨g, 0, none⟩), ptV X Y] w fun en w' => en = .returned (.int .i64 (loadV L (rootV (sqD x y X Y)))) ∧ Below w.heap.size w w' := by
  have sb := sqD_bound hp hx
  have rb := rootV_bound (n := sqD x y X Y) (by omega)
  rw [placeB_iff] at hp hx
  obtain ⟨⟨p1, p2⟩, p3, p4⟩ := hp
  obtain ⟨⟨p5, p6⟩, p7, p8⟩ := hx
  have lt := K.lt
  have HK := Lib.hid K
  have B0 := below_alloc1 w (.cells #[.int .i64 X, .int .i64 Y] 39)
  have HS := Lib.hid (fun W (hb : Below w.heap.size w W) (q : rootV (sqD x y X Y) ≤ 1000) => l03Load_any A n c L (rootV (sqD x y X Y)) W (h.next hb) hn hc rb.1 rb.2)
  have HF := Lib.hid (fun q : 1000 < rootV (sqD x y X Y) => load_far hc q)
  clear K h hc hn
  have HRT := Lib.hid (fun w => l02Root_any (sqD x y X Y) w sb.1 (by omega))
  generalize rootV (sqD x y X Y) = r at rb HS HF HRT ⊢
  go_enter Try.func81, Try.ntmps81
  go_wp2_with fail
  refine name_world (f := fun w => (Code.region _ _ _).wp _ _ _ w) ?_
  intro W hW
  have KX : Blk W w.heap.size 39 #[.int .i64 X, .int .i64 Y] := by rw [hW]; exact Blk.new _ _ _
  have KC : Blk W g 52 #[.string nm, .int .i64 x, .int .i64 y, .int .i64 ht, .int .i64 jb, .int .i64 bk, .slice A n c] := by rw [hW]; exact HK.out.alloc _
  have BW : Below w.heap.size w W := by rw [hW]; exact B0
  have f0 := cell_regrown KX.two.1
  have f1 := cell_regrown KX.two.2
  have f2 := cell_regrown KC.seven.2.1
  have f3 := cell_regrown KC.seven.2.2.1
  clear hW B0 KX
  refine wp_region_quiet_below (by kernel_rfl) (by kernel_rfl) ?_
  repeat (first | go_big_quiet_step (first | exact Calls.regrown_of (l02Square_any _ _ _ _ _ (by omega) (by omega) (by omega) (by omega) (by omega) (by omega) (by omega) (by omega)) | exact Calls.regrown_of (same_below (HRT.out _))) | quiet_step (first | exact Calls.regrown_of (l02Square_any _ _ _ _ _ (by omega) (by omega) (by omega) (by omega) (by omega) (by omega) (by omega) (by omega)) | exact Calls.regrown_of (same_below (HRT.out _))))
  refine wpQuiet_nil ?_
  intro w1 hw1
  have hb1 := class_below hw1
  have B1 := BW.trans (hb1.mono BW.size)
  obtain ⟨c0, c1, c2, c3, c4, c5, c6⟩ := (KC.on hb1).seven
  clear f0 f1 f2 f3 hw1 hb1 KC BW
  by_cases hr : 1000 < r
  · have E := Lib.hid (HF.out hr)
    go_wp2
    go_ret
    exact ⟨ret_int E.out.symm, B1⟩
  · go_wp2_with fail
    refine (HS.out _ B1 (by omega)).mono ?_
    rintro en w2 ⟨rfl, hb2⟩
    have B2 := B1.trans (hb2.mono B1.size)
    clear hb2 B1
    go_wp2
    go_ret
    exact ⟨rfl, B2⟩
set_option maxHeartbeats 1000000 in
theorem craneLoad_any (nm : ByteArray) (x y ht jb bk : Int) (A : Option Addr) (n c : Nat) (L : List (Int × Int)) (X Y : Int) (w : World) (h : Steps w w.heap.size A n L) (hn : n ≤ maxLen) (hc : chartB L = true) (hp : placeB x y = true) (hx : placeB X Y = true) :
    Calls Try.prog 82 #[craneV nm x y ht jb bk A n c, ptV X Y] w fun en w' => en = .returned (loadRes L (rootV (sqD x y X Y))) ∧ Below w.heap.size w w' := by
  have sb := sqD_bound hp hx
  have rb := rootV_bound (n := sqD x y X Y) (by omega)
  rw [placeB_iff] at hp hx
  obtain ⟨⟨p1, p2⟩, p3, p4⟩ := hp
  obtain ⟨⟨p5, p6⟩, p7, p8⟩ := hx
  have B0 := below_alloc2 w (.cells #[.string nm, .int .i64 x, .int .i64 y, .int .i64 ht, .int .i64 jb, .int .i64 bk, .slice A n c] 52) (.cells #[.int .i64 X, .int .i64 Y] 39)
  obtain ⟨u, v, F⟩ : ∃ (u : Int) (v : Bool), loadRes L (rootV (sqD x y X Y)) = .tuple #[.int .i64 u, .bool v] := by
    unfold loadRes; split <;> exact ⟨_, _, rfl⟩
  have HS := fun W (hb : Below w.heap.size w W) => loadAt_any A n c L (rootV (sqD x y X Y)) W (h.next hb) hn hc rb.1 rb.2
  rw [F] at HS ⊢
  have HS := Lib.hid HS
  clear F h hc hn
  go_enter Try.func82, Try.ntmps82
  go_wp2_with fail
  refine name_world (f := fun w => (Code.region _ _ _).wp _ _ _ w) ?_
  intro W hW
  have KX : Blk W (w.heap.size + 1) 39 #[.int .i64 X, .int .i64 Y] := by rw [hW]; exact Blk.new2 _ _ _ _
  have KC : Blk W w.heap.size 52 #[.string nm, .int .i64 x, .int .i64 y, .int .i64 ht, .int .i64 jb, .int .i64 bk, .slice A n c] := by rw [hW]; exact (Blk.new _ _ _).alloc _
  have BW : Below w.heap.size w W := by rw [hW]; exact B0
  have f0 := cell_regrown KX.two.1
  have f1 := cell_regrown KX.two.2
  have f2 := cell_regrown KC.seven.2.1
  have f3 := cell_regrown KC.seven.2.2.1
  have f4 := cell_regrown KC.seven.2.2.2.2.2.2
  have HR := Lib.hid (fun d os => HS.out (grow (redrawn W d) os) (BW.trans ((below_regrown W d os).mono BW.size)))
  clear hW B0 KX KC HS
  have HRT := Lib.hid (fun w => rootUp_any (sqD x y X Y) w sb.1 (by omega))
  generalize rootV (sqD x y X Y) = r at rb HR HRT ⊢
  refine wp_region_quiet_below (by kernel_rfl) (by kernel_rfl) ?_
  repeat (first | go_big_quiet_step (first | exact Calls.regrown_of (square_any _ _ _ _ _ (by omega) (by omega) (by omega) (by omega) (by omega) (by omega) (by omega) (by omega)) | exact Calls.regrown_of (HR.out _ _) | exact Calls.regrown_of (same_below (HRT.out _))) | quiet_step (first | exact Calls.regrown_of (square_any _ _ _ _ _ (by omega) (by omega) (by omega) (by omega) (by omega) (by omega) (by omega) (by omega)) | exact Calls.regrown_of (HR.out _ _) | exact Calls.regrown_of (same_below (HRT.out _))))
  refine wpQuiet_nil ?_
  intro w1 hw1
  have hb1 := class_below hw1
  have B1 := BW.trans (hb1.mono BW.size)
  clear f0 f1 f2 f3 f4 hw1 hb1 BW
  go_wp2
  go_ret2
  exact ⟨rfl, B1⟩
theorem crane_ok {nm : ByteArray} {x y ht jb bk : Int} {L : List (Int × Int)} (h : craneB nm x y ht jb bk L = true) : placeB x y = true ∧ chartB L = true := by
  simp only [craneB, Bool.and_eq_true] at h
  exact ⟨h.2.1, h.2.2.2.2.2.1⟩
set_option maxHeartbeats 1000000 in
theorem specLoadAtPlace_any (nm : ByteArray) (x y ht jb bk : Int) (A : Option Addr) (n c : Nat) (L : List (Int × Int)) (X Y : Int) (w : World) (hs : nm.size ≤ maxLen) (h : Steps w w.heap.size A n L) (hn : n ≤ maxLen) : Calls Try.prog 44 #[craneV nm x y ht jb bk A n c, ptV X Y] w fun en w' => en = .returned (placeRes (craneB nm x y ht jb bk L && placeB X Y) L (rootV (sqD x y X Y))) ∧ Below w.heap.size w w' := by
  have B0 := below_alloc2 w (.cells #[.string nm, .int .i64 x, .int .i64 y, .int .i64 ht, .int .i64 jb, .int .i64 bk, .slice A n c] 52) (.cells #[.int .i64 X, .int .i64 Y] 39)
  have K0 := Lib.hid ((Blk.new w 52 #[.string nm, .int .i64 x, .int .i64 y, .int .i64 ht, .int .i64 jb, .int .i64 bk, .slice A n c]).alloc (.cells #[.int .i64 X, .int .i64 Y] 39))
  have X0 := Lib.hid (Blk.new2 w (.cells #[.string nm, .int .i64 x, .int .i64 y, .int .i64 ht, .int .i64 jb, .int .i64 bk, .slice A n c] 52) 39 #[.int .i64 X, .int .i64 Y])
  have CV := l04Ok_any nm x y ht jb bk A n c L w.heap.size _ K0.out hs (h.next B0) hn
  have S0 := Lib.hid h
  have B0 := Lib.hid B0
  clear h
  cases hz : craneB nm x y ht jb bk L
  · rw [hz] at CV
    have HC := Lib.hid CV
    simp only [Bool.false_and]
    show Calls _ _ _ _ fun en w' => en = .returned (.tuple #[.int .i64 0, .int .i64 1]) ∧ _
    clear CV hz K0 X0 S0
    go_enter Try.func44, Try.ntmps44
    go_wp2_with fail
    refine HC.out.mono ?_
    rintro en w1 ⟨rfl, hb1⟩
    have B1 := B0.out.trans (hb1.mono B0.out.size)
    clear hb1 B0
    go_wp2
    go_ret2
    exact ⟨rfl, B1⟩
  · have ck := crane_ok hz
    rw [hz] at CV
    have HC := Lib.hid CV
    simp only [Bool.true_and]
    clear CV hz
    cases hp : placeB X Y
    · have HV := Lib.hid (fun w => hp ▸ l02Ok_any X Y w)
      show Calls _ _ _ _ fun en w' => en = .returned (.tuple #[.int .i64 0, .int .i64 1]) ∧ _
      clear hp S0 ck
      go_enter Try.func44, Try.ntmps44
      go_wp2_with fail
      refine HC.out.mono ?_
      rintro en w1 ⟨rfl, hb1⟩
      have B1 := B0.out.trans (hb1.mono B0.out.size)
      obtain ⟨p0, p1⟩ := (X0.out.on hb1).two
      obtain ⟨c0, c1, c2, c3, c4, c5, c6⟩ := (K0.out.on hb1).seven
      clear hb1 B0 K0 X0
      go_wp2_with (go_at_call 57; refine (HV.out _).mono ?_; rintro en w2 ⟨rfl, hb2⟩)
      have B2 := B1.trans (hb2.mono B1.size)
      go_ret2
      exact ⟨rfl, B2⟩
    · have HV := Lib.hid (fun w => hp ▸ l02Ok_any X Y w)
      have HX := Lib.hid hp
      have HP := Lib.hid ck.1
      have HCH := Lib.hid ck.2
      clear hp ck
      have sg := load_sign HCH.out (rootV (sqD x y X Y))
      unfold placeRes
      have HL := fun (g : Nat) (w : World) (K : Blk w g 52 #[.string nm, .int .i64 x, .int .i64 y, .int .i64 ht, .int .i64 jb, .int .i64 bk, .slice A n c]) (h : Steps w w.heap.size A n L) => l04Load_any nm x y ht jb bk A n c L X Y g w K h hn HCH.out HP.out HX.out
      rcases sg with ⟨hf, hl⟩ | ⟨hf, l0, l1⟩
      · simp only [hl] at HL ⊢
        have HL := Lib.hid HL
        clear hf hl
        show Calls _ _ _ _ fun en w' => en = .returned (.tuple #[.int .i64 0, .int .i64 3]) ∧ _
        go_enter Try.func44, Try.ntmps44
        go_wp2_with fail
        refine HC.out.mono ?_
        rintro en w1 ⟨rfl, hb1⟩
        have B1 := B0.out.trans (hb1.mono B0.out.size)
        obtain ⟨p0, p1⟩ := (X0.out.on hb1).two
        obtain ⟨c0, c1, c2, c3, c4, c5, c6⟩ := (K0.out.on hb1).seven
        have K1 := Lib.hid (K0.out.on hb1)
        have X1 := Lib.hid (X0.out.on hb1)
        clear hb1 B0 K0 X0
        go_wp2_with fail
        refine (HV.out _).mono ?_
        rintro en w2 ⟨rfl, hb2⟩
        have B2 := B1.trans (hb2.mono B1.size)
        have K2 := K1.out.on hb2
        have X2 := X1.out.on hb2
        clear hb2 B1 K1 X1 p0 p1 c0 c1 c2 c3 c4 c5 c6
        obtain ⟨p0, p1⟩ := X2.two
        obtain ⟨c0, c1, c2, c3, c4, c5, c6⟩ := K2.seven
        have S2 := Lib.hid (S0.out.next B2)
        have K2 := Lib.hid K2
        clear X2 S0
        go_wp2_with fail
        refine (HL.out _ _ K2.out S2.out).mono ?_
        rintro en w3 ⟨rfl, hb3⟩
        have B3 := B2.trans (hb3.mono B2.size)
        clear hb3 B2 K2 p0 p1 c0 c1 c2 c3 c4 c5 c6 S2
        go_wp2
        go_ret2
        exact ⟨rfl, B3⟩
      · simp only [if_neg (show ¬ loadV L (rootV (sqD x y X Y)) < 0 by omega)]
        generalize loadV L (rootV (sqD x y X Y)) = v at HL l0 l1 ⊢
        have HL := Lib.hid HL
        clear hf
        go_enter Try.func44, Try.ntmps44
        go_wp2_with fail
        refine HC.out.mono ?_
        rintro en w1 ⟨rfl, hb1⟩
        have B1 := B0.out.trans (hb1.mono B0.out.size)
        obtain ⟨p0, p1⟩ := (X0.out.on hb1).two
        obtain ⟨c0, c1, c2, c3, c4, c5, c6⟩ := (K0.out.on hb1).seven
        have K1 := Lib.hid (K0.out.on hb1)
        have X1 := Lib.hid (X0.out.on hb1)
        clear hb1 B0 K0 X0
        go_wp2_with fail
        refine (HV.out _).mono ?_
        rintro en w2 ⟨rfl, hb2⟩
        have B2 := B1.trans (hb2.mono B1.size)
        have K2 := K1.out.on hb2
        have X2 := X1.out.on hb2
        clear hb2 B1 K1 X1 p0 p1 c0 c1 c2 c3 c4 c5 c6
        obtain ⟨p0, p1⟩ := X2.two
        obtain ⟨c0, c1, c2, c3, c4, c5, c6⟩ := K2.seven
        have S2 := Lib.hid (S0.out.next B2)
        have K2 := Lib.hid K2
        clear X2 S0
        go_wp2_with fail
        refine (HL.out _ _ K2.out S2.out).mono ?_
        rintro en w3 ⟨rfl, hb3⟩
        have B3 := B2.trans (hb3.mono B2.size)
        clear hb3 B2 K2 p0 p1 c0 c1 c2 c3 c4 c5 c6 S2
        go_wp2
        go_ret2
        exact ⟨rfl, B3⟩
set_option maxHeartbeats 1000000 in
theorem implLoadAtPlace_any (nm : ByteArray) (x y ht jb bk : Int) (A : Option Addr) (n c : Nat) (L : List (Int × Int)) (X Y : Int) (w : World) (hs : nm.size ≤ maxLen) (h : Steps w w.heap.size A n L) (hn : n ≤ maxLen) : Calls Try.prog 45 #[craneV nm x y ht jb bk A n c, ptV X Y] w fun en w' => en = .returned (placeRes (craneB nm x y ht jb bk L && placeB X Y) L (rootV (sqD x y X Y))) ∧ Below w.heap.size w w' := by
  have B0 := below_alloc2 w (.cells #[.string nm, .int .i64 x, .int .i64 y, .int .i64 ht, .int .i64 jb, .int .i64 bk, .slice A n c] 52) (.cells #[.int .i64 X, .int .i64 Y] 39)
  have K0 := Lib.hid ((Blk.new w 52 #[.string nm, .int .i64 x, .int .i64 y, .int .i64 ht, .int .i64 jb, .int .i64 bk, .slice A n c]).alloc (.cells #[.int .i64 X, .int .i64 Y] 39))
  have X0 := Lib.hid (Blk.new2 w (.cells #[.string nm, .int .i64 x, .int .i64 y, .int .i64 ht, .int .i64 jb, .int .i64 bk, .slice A n c] 52) 39 #[.int .i64 X, .int .i64 Y])
  have CV := implValidCrane_any nm x y ht jb bk A n c L _ hs (h.next B0) hn
  have S0 := Lib.hid h
  have B0 := Lib.hid B0
  clear h
  cases hz : craneB nm x y ht jb bk L
  · rw [hz] at CV
    have HC := Lib.hid CV
    simp only [Bool.false_and]
    show Calls _ _ _ _ fun en w' => en = .returned (.tuple #[.int .i64 0, .int .i64 1]) ∧ _
    clear CV hz K0 X0 S0
    go_enter Try.func45, Try.ntmps45
    go_wp2_with fail
    refine HC.out.mono ?_
    rintro en w1 ⟨rfl, hb1⟩
    have B1 := B0.out.trans (hb1.mono B0.out.size)
    clear hb1 B0
    go_wp2
    go_ret2
    exact ⟨rfl, B1⟩
  · have ck := crane_ok hz
    rw [hz] at CV
    have HC := Lib.hid CV
    simp only [Bool.true_and]
    clear CV hz
    cases hp : placeB X Y
    · have HV := Lib.hid (fun w => hp ▸ implValidPlace_any X Y w)
      show Calls _ _ _ _ fun en w' => en = .returned (.tuple #[.int .i64 0, .int .i64 1]) ∧ _
      clear hp S0 ck
      go_enter Try.func45, Try.ntmps45
      go_wp2_with fail
      refine HC.out.mono ?_
      rintro en w1 ⟨rfl, hb1⟩
      have B1 := B0.out.trans (hb1.mono B0.out.size)
      obtain ⟨p0, p1⟩ := (X0.out.on hb1).two
      obtain ⟨c0, c1, c2, c3, c4, c5, c6⟩ := (K0.out.on hb1).seven
      clear hb1 B0 K0 X0
      go_wp2_with (go_at_call 59; refine (HV.out _).mono ?_; rintro en w2 ⟨rfl, hb2⟩)
      have B2 := B1.trans (hb2.mono B1.size)
      go_ret2
      exact ⟨rfl, B2⟩
    · have HV := Lib.hid (fun w => hp ▸ implValidPlace_any X Y w)
      have HX := Lib.hid hp
      have HP := Lib.hid ck.1
      have HCH := Lib.hid ck.2
      clear hp ck
      have sg := load_sign HCH.out (rootV (sqD x y X Y))
      unfold placeRes
      have HL := fun (w : World) (h : Steps w w.heap.size A n L) => craneLoad_any nm x y ht jb bk A n c L X Y w h hn HCH.out HP.out HX.out
      rcases sg with ⟨hf, hl⟩ | ⟨hf, l0, l1⟩
      · simp only [loadRes, hl, if_pos hf] at HL ⊢
        have HL := Lib.hid HL
        clear hf hl
        show Calls _ _ _ _ fun en w' => en = .returned (.tuple #[.int .i64 0, .int .i64 3]) ∧ _
        go_enter Try.func45, Try.ntmps45
        go_wp2_with fail
        refine HC.out.mono ?_
        rintro en w1 ⟨rfl, hb1⟩
        have B1 := B0.out.trans (hb1.mono B0.out.size)
        obtain ⟨p0, p1⟩ := (X0.out.on hb1).two
        obtain ⟨c0, c1, c2, c3, c4, c5, c6⟩ := (K0.out.on hb1).seven
        have K1 := Lib.hid (K0.out.on hb1)
        have X1 := Lib.hid (X0.out.on hb1)
        clear hb1 B0 K0 X0
        go_wp2_with fail
        refine (HV.out _).mono ?_
        rintro en w2 ⟨rfl, hb2⟩
        have B2 := B1.trans (hb2.mono B1.size)
        have K2 := K1.out.on hb2
        have X2 := X1.out.on hb2
        clear hb2 B1 K1 X1 p0 p1 c0 c1 c2 c3 c4 c5 c6
        obtain ⟨p0, p1⟩ := X2.two
        obtain ⟨c0, c1, c2, c3, c4, c5, c6⟩ := K2.seven
        have S2 := Lib.hid (S0.out.next B2)
        have K2 := Lib.hid K2
        clear X2 S0
        go_wp2_with fail
        refine (HL.out _ S2.out).mono ?_
        rintro en w3 ⟨rfl, hb3⟩
        have B3 := B2.trans (hb3.mono B2.size)
        clear hb3 B2 K2 p0 p1 c0 c1 c2 c3 c4 c5 c6 S2
        go_wp2
        go_ret2
        exact ⟨rfl, B3⟩
      · simp only [if_neg (show ¬ loadV L (rootV (sqD x y X Y)) < 0 by omega)]
        simp only [loadRes, if_neg hf] at HL
        generalize loadV L (rootV (sqD x y X Y)) = v at HL l0 l1 ⊢
        have HL := Lib.hid HL
        clear hf
        go_enter Try.func45, Try.ntmps45
        go_wp2_with fail
        refine HC.out.mono ?_
        rintro en w1 ⟨rfl, hb1⟩
        have B1 := B0.out.trans (hb1.mono B0.out.size)
        obtain ⟨p0, p1⟩ := (X0.out.on hb1).two
        obtain ⟨c0, c1, c2, c3, c4, c5, c6⟩ := (K0.out.on hb1).seven
        have K1 := Lib.hid (K0.out.on hb1)
        have X1 := Lib.hid (X0.out.on hb1)
        clear hb1 B0 K0 X0
        go_wp2_with fail
        refine (HV.out _).mono ?_
        rintro en w2 ⟨rfl, hb2⟩
        have B2 := B1.trans (hb2.mono B1.size)
        have K2 := K1.out.on hb2
        have X2 := X1.out.on hb2
        clear hb2 B1 K1 X1 p0 p1 c0 c1 c2 c3 c4 c5 c6
        obtain ⟨p0, p1⟩ := X2.two
        obtain ⟨c0, c1, c2, c3, c4, c5, c6⟩ := K2.seven
        have S2 := Lib.hid (S0.out.next B2)
        have K2 := Lib.hid K2
        clear X2 S0
        go_wp2_with fail
        refine (HL.out _ S2.out).mono ?_
        rintro en w3 ⟨rfl, hb3⟩
        have B3 := B2.trans (hb3.mono B2.size)
        clear hb3 B2 K2 p0 p1 c0 c1 c2 c3 c4 c5 c6 S2
        go_wp2
        go_ret2
        exact ⟨rfl, B3⟩
end Go.Proofs.Ytbdompadkeamdaa
