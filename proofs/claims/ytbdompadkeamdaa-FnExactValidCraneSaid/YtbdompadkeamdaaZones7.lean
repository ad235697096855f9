/- Zones: the height, and what a zone blocks; the walks of both sides, and the laws. -/
import Derived.Test.YtbdompadkeamdaaProg
import Derived.Test.YtbdompadkeamdaaKit
import Derived.Test.YtbdompadkeamdaaBasics
import Derived.Test.YtbdompadkeamdaaMem
import Derived.Test.YtbdompadkeamdaaCodeRes
import Derived.Test.YtbdompadkeamdaaLists
import Derived.Test.YtbdompadkeamdaaPts
import Derived.Test.YtbdompadkeamdaaZonePlain
import Derived.Test.YtbdompadkeamdaaZones
import Derived.Test.YtbdompadkeamdaaZones2
import Derived.Test.YtbdompadkeamdaaZones3
import Derived.Test.YtbdompadkeamdaaZones6
import Derived.Deep.RegionHeld3
namespace Go.Proofs.Ytbdompadkeamdaa
open Go.RowKit Go.WideShapes Go.ChangeShapes Go.Joins Go.Deep Go.Sort
set_option linter.unusedVariables false
set_option linter.unusedSimpArgs false
theorem pair2_form (b : Bool) (v c : Int) : ∃ x y : Int, pairV b v c = .tuple #[.int .i64 x, .int .i64 y] := pairV_form b v c
theorem implZoneHeight_any (k s e : Int) (A : Option Addr) (n c : Nat) (L : List (Int × Int)) (w : World) (h : Steps w w.heap.size A n L) (hn : n ≤ maxLen) : Calls Try.prog 22 #[zoneV k s e A n c] w fun en w' => en = .returned (pairV (zoneB k s e L) (s * e) 1) ∧ Below w.heap.size w w' := by
  have B0 := below_alloc1 w (.cells #[.int .i64 k, .int .i64 s, .int .i64 e, .slice A n c] 29)
  have K0 := Lib.hid (Blk.new w 29 #[.int .i64 k, .int .i64 s, .int .i64 e, .slice A n c])
  have CC := implValidZone_any k s e A n c L _ (h.next B0) hn
  have B0 := Lib.hid B0
  clear h hn
  cases hz : zoneB k s e L
  · rw [pairV_false]
    rw [hz] at CC
    have HC := Lib.hid CC
    clear CC hz K0
    go_enter Try.func22, Try.ntmps22
    go_wp2_with fail
    refine HC.out.mono ?_
    rintro en w1 ⟨rfl, hb1⟩
    have B1 := B0.out.trans (hb1.mono B0.out.size)
    clear hb1 B0
    go_wp2
    go_ret2
    exact ⟨rfl, B1⟩
  · rw [pairV_true]
    obtain ⟨m0, m1, ⟨m2, m3⟩, m4, m5⟩ := height_room (zone_ok hz).tall
    rw [hz] at CC
    have HC := Lib.hid CC
    clear CC hz
    go_enter Try.func22, Try.ntmps22
    go_wp2_with fail
    refine HC.out.mono ?_
    rintro en w1 ⟨rfl, hb1⟩
    obtain ⟨c0, c1, c2, c3⟩ := (K0.out.on hb1).four
    have B1 := B0.out.trans (hb1.mono B0.out.size)
    clear hb1 B0 K0
    go_wp2
    go_ret2
    exact ⟨rfl, B1⟩
theorem specZoneHeight_any (k s e : Int) (A : Option Addr) (n c : Nat) (L : List (Int × Int)) (w : World) (h : Steps w w.heap.size A n L) (hn : n ≤ maxLen) : Calls Try.prog 21 #[zoneV k s e A n c] w fun en w' => en = .returned (pairV (zoneB k s e L) (s * e) 1) ∧ Below w.heap.size w w' := by
  have B0 := below_alloc1 w (.cells #[.int .i64 k, .int .i64 s, .int .i64 e, .slice A n c] 29)
  have K0 := Lib.hid (Blk.new w 29 #[.int .i64 k, .int .i64 s, .int .i64 e, .slice A n c])
  have CC := l05Ok_any k s e A n c L w.heap.size _ K0.out (h.next B0) hn
  have B0 := Lib.hid B0
  clear h hn
  cases hz : zoneB k s e L
  · rw [pairV_false]
    rw [hz] at CC
    have HC := Lib.hid CC
    clear CC hz K0
    go_enter Try.func21, Try.ntmps21
    go_wp2_with fail
    refine HC.out.mono ?_
    rintro en w1 ⟨rfl, hb1⟩
    have B1 := B0.out.trans (hb1.mono B0.out.size)
    clear hb1 B0
    go_wp2
    go_ret2
    exact ⟨rfl, B1⟩
  · rw [pairV_true]
    obtain ⟨m0, m1, ⟨m2, m3⟩, m4, m5⟩ := height_room (zone_ok hz).tall
    rw [hz] at CC
    have HC := Lib.hid CC
    clear CC hz
    go_enter Try.func21, Try.ntmps21
    go_wp2_with fail
    refine HC.out.mono ?_
    rintro en w1 ⟨rfl, hb1⟩
    obtain ⟨c0, c1, c2, c3⟩ := (K0.out.on hb1).four
    have B1 := B0.out.trans (hb1.mono B0.out.size)
    clear hb1 B0 K0
    go_wp2
    go_ret2
    exact ⟨rfl, B1⟩
def airB (a k s e h : Int) : Bool := decide (k = a) || (decide (k = 1) && decide (h < s * e + 20))
def tallB (k s e h : Int) : Bool := decide (k = 1) && decide (h < s * e + 20)
/-- a code, or whether something is blocked -/
def blockV (valid rng b : Bool) : Value := codeRes valid rng (.tuple #[.bool b, .int .i64 0]) (.bool false)
theorem blockV_form (v r b : Bool) : ∃ (x : Bool) (y : Int), blockV v r b = .tuple #[.bool x, .int .i64 y] := by cases v <;> cases r <;> exact ⟨_, _, rfl⟩
theorem blocksJib_any (k s e : Int) (A : Option Addr) (n c : Nat) (h : Int) (w : World) (ht : heightB k s e = true) : Calls Try.prog 65 #[zoneV k s e A n c, .int .i64 h] w fun en w' => en = .returned (.bool (airB 3 k s e h)) ∧ Below w.heap.size w w' := by
  obtain ⟨m0, m1, ⟨m2, m3⟩, m4, m5⟩ := height_room ht
  clear ht
  by_cases hk : k = 3
  · have t1 : (k == 3) = true := by simpa using hk
    have E := Lib.hid (show airB 3 k s e h = true by simp [airB, hk])
    clear hk
    go_enter Try.func65, Try.ntmps65
    go_wp2
    go_ret
    exact ⟨ret_bool E.out.symm, below_alloc1 w _⟩
  · have t1 : (k == 3) = false := beq_eq_false_iff_ne.2 hk
    by_cases hk1 : k = 1
    · have t2 : (k == 1) = true := by simpa using hk1
      by_cases hh : h < s * e + 20
      · have t3 : decide (h < s * e + 20) = true := by simpa using hh
        have E := Lib.hid (show airB 3 k s e h = true by simp [airB, hk1, hh])
        clear hk hk1 hh
        go_enter Try.func65, Try.ntmps65
        go_wp2
        go_ret
        exact ⟨ret_bool E.out.symm, below_alloc1 w _⟩
      · have t3 : decide (h < s * e + 20) = false := by simpa using hh
        have E := Lib.hid (show airB 3 k s e h = false by unfold airB; rw [decide_eq_false hk, decide_eq_true hk1, t3]; rfl)
        clear hk hk1 hh
        go_enter Try.func65, Try.ntmps65
        go_wp2
        go_ret
        exact ⟨ret_bool E.out.symm, below_alloc1 w _⟩
    · have t2 : (k == 1) = false := beq_eq_false_iff_ne.2 hk1
      have E := Lib.hid (show airB 3 k s e h = false by simp [airB, hk, hk1])
      clear hk hk1
      go_enter Try.func65, Try.ntmps65
      go_wp2
      go_ret
      exact ⟨ret_bool E.out.symm, below_alloc1 w _⟩
theorem blocksLoad_any (k s e : Int) (A : Option Addr) (n c : Nat) (h : Int) (w : World) (ht : heightB k s e = true) : Calls Try.prog 67 #[zoneV k s e A n c, .int .i64 h] w fun en w' => en = .returned (.bool (airB 2 k s e h)) ∧ Below w.heap.size w w' := by
  obtain ⟨m0, m1, ⟨m2, m3⟩, m4, m5⟩ := height_room ht
  clear ht
  by_cases hk : k = 2
  · have t1 : (k == 2) = true := by simpa using hk
    have E := Lib.hid (show airB 2 k s e h = true by simp [airB, hk])
    clear hk
    go_enter Try.func67, Try.ntmps67
    go_wp2
    go_ret
    exact ⟨ret_bool E.out.symm, below_alloc1 w _⟩
  · have t1 : (k == 2) = false := beq_eq_false_iff_ne.2 hk
    by_cases hk1 : k = 1
    · have t2 : (k == 1) = true := by simpa using hk1
      by_cases hh : h < s * e + 20
      · have t3 : decide (h < s * e + 20) = true := by simpa using hh
        have E := Lib.hid (show airB 2 k s e h = true by simp [airB, hk1, hh])
        clear hk hk1 hh
        go_enter Try.func67, Try.ntmps67
        go_wp2
        go_ret
        exact ⟨ret_bool E.out.symm, below_alloc1 w _⟩
      · have t3 : decide (h < s * e + 20) = false := by simpa using hh
        have E := Lib.hid (show airB 2 k s e h = false by unfold airB; rw [decide_eq_false hk, decide_eq_true hk1, t3]; rfl)
        clear hk hk1 hh
        go_enter Try.func67, Try.ntmps67
        go_wp2
        go_ret
        exact ⟨ret_bool E.out.symm, below_alloc1 w _⟩
    · have t2 : (k == 1) = false := beq_eq_false_iff_ne.2 hk1
      have E := Lib.hid (show airB 2 k s e h = false by simp [airB, hk, hk1])
      clear hk hk1
      go_enter Try.func67, Try.ntmps67
      go_wp2
      go_ret
      exact ⟨ret_bool E.out.symm, below_alloc1 w _⟩
theorem l05Jib_any (k s e : Int) (A : Option Addr) (n c : Nat) (h : Int) (g : Nat) (w : World) (K : Blk w g 29 #[.int .i64 k, .int .i64 s, .int .i64 e, .slice A n c]) (ht : heightB k s e = true) : Calls Try.prog 63 #[.pointer (some ⟨g, 0, none⟩), .int .i64 h] w fun en w' => en = .returned (.bool (airB 3 k s e h)) ∧ Below w.heap.size w w' := by
  obtain ⟨m0, m1, ⟨m2, m3⟩, m4, m5⟩ := height_room ht
  obtain ⟨c0, c1, c2, c3⟩ := K.four
  clear ht K
  by_cases hk1 : k = 1
  · have t2 : (k == 1) = true := by simpa using hk1
    have v1 := IntWalk.i64_in (s * e) (by omega)
    have v2 := IntWalk.i64_in (s * e + 20) (by omega)
    by_cases hh : h < s * e + 20
    · have t3 : decide (h < s * e + 20) = true := by simpa using hh
      have E := Lib.hid (show airB 3 k s e h = true by simp [airB, hk1, hh])
      clear hk1 hh
      go_enter Try.func63, Try.ntmps63
      go_wp2
      go_quiet (fail)
      go_wp2
      go_ret
      exact ⟨ret_bool E.out.symm, below_drewN (Below.refl _ _) _⟩
    · have t3 : decide (h < s * e + 20) = false := by simpa using hh
      have E := Lib.hid (show airB 3 k s e h = false by unfold airB; rw [decide_eq_false (by omega : ¬ k = 3), decide_eq_true hk1, t3]; rfl)
      clear hk1 hh
      go_enter Try.func63, Try.ntmps63
      go_wp2
      go_quiet (fail)
      go_wp2
      go_ret
      exact ⟨ret_bool E.out.symm, below_drewN (Below.refl _ _) _⟩
  · have t2 : (k == 1) = false := beq_eq_false_iff_ne.2 hk1
    by_cases hk : k = 3
    · have t1 : (k == 3) = true := by simpa using hk
      have E := Lib.hid (show airB 3 k s e h = true by simp [airB, hk])
      clear hk hk1
      go_enter Try.func63, Try.ntmps63
      go_wp2
      go_ret
      exact ⟨ret_bool E.out.symm, Below.refl _ _⟩
    · have t1 : (k == 3) = false := beq_eq_false_iff_ne.2 hk
      have E := Lib.hid (show airB 3 k s e h = false by simp [airB, hk, hk1])
      clear hk hk1
      go_enter Try.func63, Try.ntmps63
      go_wp2
      go_ret
      exact ⟨ret_bool E.out.symm, Below.refl _ _⟩
theorem l05Load_any (k s e : Int) (A : Option Addr) (n c : Nat) (h : Int) (g : Nat) (w : World) (K : Blk w g 29 #[.int .i64 k, .int .i64 s, .int .i64 e, .slice A n c]) (ht : heightB k s e = true) : Calls Try.prog 66 #[.pointer (some ⟨g, 0, none⟩), .int .i64 h] w fun en w' => en = .returned (.bool (airB 2 k s e h)) ∧ Below w.heap.size w w' := by
  obtain ⟨m0, m1, ⟨m2, m3⟩, m4, m5⟩ := height_room ht
  obtain ⟨c0, c1, c2, c3⟩ := K.four
  clear ht K
  by_cases hk1 : k = 1
  · have t2 : (k == 1) = true := by simpa using hk1
    have v1 := IntWalk.i64_in (s * e) (by omega)
    have v2 := IntWalk.i64_in (s * e + 20) (by omega)
    by_cases hh : h < s * e + 20
    · have t3 : decide (h < s * e + 20) = true := by simpa using hh
      have E := Lib.hid (show airB 2 k s e h = true by simp [airB, hk1, hh])
      clear hk1 hh
      go_enter Try.func66, Try.ntmps66
      go_wp2
      go_quiet (fail)
      go_wp2
      go_ret
      exact ⟨ret_bool E.out.symm, below_drewN (Below.refl _ _) _⟩
    · have t3 : decide (h < s * e + 20) = false := by simpa using hh
      have E := Lib.hid (show airB 2 k s e h = false by unfold airB; rw [decide_eq_false (by omega : ¬ k = 2), decide_eq_true hk1, t3]; rfl)
      clear hk1 hh
      go_enter Try.func66, Try.ntmps66
      go_wp2
      go_quiet (fail)
      go_wp2
      go_ret
      exact ⟨ret_bool E.out.symm, below_drewN (Below.refl _ _) _⟩
  · have t2 : (k == 1) = false := beq_eq_false_iff_ne.2 hk1
    by_cases hk : k = 2
    · have t1 : (k == 2) = true := by simpa using hk
      have E := Lib.hid (show airB 2 k s e h = true by simp [airB, hk])
      clear hk hk1
      go_enter Try.func66, Try.ntmps66
      go_wp2
      go_ret
      exact ⟨ret_bool E.out.symm, Below.refl _ _⟩
    · have t1 : (k == 2) = false := beq_eq_false_iff_ne.2 hk
      have E := Lib.hid (show airB 2 k s e h = false by simp [airB, hk, hk1])
      clear hk hk1
      go_enter Try.func66, Try.ntmps66
      go_wp2
      go_ret
      exact ⟨ret_bool E.out.symm, Below.refl _ _⟩
theorem l05Height_any (h : Int) (w : World) : Calls Try.prog 89 #[.int .i64 h] w fun e w' => e = .returned (.bool (inB h 0 2000)) ∧ w = w' := by
  go_enter Try.func89, Try.ntmps89
  go_wp2_with (go_at_call 83; refine (l00In_any _ _ _ _).mono ?_; rintro e w' ⟨rfl, rfl⟩)
  go_ret
  exact ⟨rfl, rfl⟩
theorem l05Code_any (k s e : Int) (A : Option Addr) (n c : Nat) (L : List (Int × Int)) (h0 : Int) (g : Nat) (w : World) (K : Blk w g 29 #[.int .i64 k, .int .i64 s, .int .i64 e, .slice A n c]) (h : Steps w w.heap.size A n L) (hn : n ≤ maxLen) : Calls Try.prog 62 #[.pointer (some ⟨g, 0, none⟩), .int .i64 h0] w fun en w' => en = .returned (.int .i64 (codeV (zoneB k s e L) (inB h0 0 2000))) ∧ Below w.heap.size w w' := by
  have CC := l05Ok_any k s e A n c L g w K h hn
  clear K h hn
  cases hz : zoneB k s e L
  · rw [codeV_f]
    rw [hz] at CC
    have HC := Lib.hid CC
    clear CC hz
    go_enter Try.func62, Try.ntmps62
    go_wp2_with fail
    refine HC.out.mono ?_
    rintro en w1 ⟨rfl, hb1⟩
    go_wp2
    go_ret
    exact ⟨rfl, hb1⟩
  · rw [hz] at CC
    have HC := Lib.hid CC
    clear CC hz
    cases hr : inB h0 0 2000
    · rw [codeV_tf]
      have HR := Lib.hid (fun w => hr ▸ l05Height_any h0 w)
      clear hr
      go_enter Try.func62, Try.ntmps62
      go_wp2_with fail
      refine HC.out.mono ?_
      rintro en w1 ⟨rfl, hb1⟩
      go_wp2_with (go_at_call 89; refine (HR.out _).mono ?_; rintro e w' ⟨rfl, rfl⟩)
      go_ret
      exact ⟨rfl, hb1⟩
    · rw [codeV_tt]
      have HR := Lib.hid (fun w => hr ▸ l05Height_any h0 w)
      clear hr
      go_enter Try.func62, Try.ntmps62
      go_wp2_with fail
      refine HC.out.mono ?_
      rintro en w1 ⟨rfl, hb1⟩
      go_wp2_with (go_at_call 89; refine (HR.out _).mono ?_; rintro e w' ⟨rfl, rfl⟩)
      go_ret
      exact ⟨rfl, hb1⟩
theorem specBlocksJib_any (k s e : Int) (A : Option Addr) (n c : Nat) (L : List (Int × Int)) (h0 : Int) (w : World) (h : Steps w w.heap.size A n L) (hn : n ≤ maxLen) : Calls Try.prog 28 #[zoneV k s e A n c, .int .i64 h0] w fun en w' => en = .returned (blockV (zoneB k s e L) (inB h0 0 2000) (airB 3 k s e h0)) ∧ Below w.heap.size w w' := by
  have B0 := below_alloc1 w (.cells #[.int .i64 k, .int .i64 s, .int .i64 e, .slice A n c] 29)
  have K0 := Lib.hid (Blk.new w 29 #[.int .i64 k, .int .i64 s, .int .i64 e, .slice A n c])
  have CC := l05Code_any k s e A n c L h0 w.heap.size _ K0.out (h.next B0) hn
  have B0 := Lib.hid B0
  unfold blockV
  clear h hn
  cases hz : zoneB k s e L
  · rw [hz, codeV_f] at CC; rw [codeRes_f]; clear hz
    have HC := Lib.hid CC
    clear CC
    go_enter Try.func28, Try.ntmps28
    go_wp2_with fail
    refine HC.out.mono ?_
    rintro en w1 ⟨rfl, hb1⟩
    have B1 := B0.out.trans (hb1.mono B0.out.size)
    clear hb1 B0 K0
    go_wp2
    go_ret2
    exact ⟨rfl, B1⟩
  · cases hr : inB h0 0 2000
    · rw [hz, hr, codeV_tf] at CC; rw [codeRes_tf]; clear hz hr
      have HC := Lib.hid CC
      clear CC
      go_enter Try.func28, Try.ntmps28
      go_wp2_with fail
      refine HC.out.mono ?_
      rintro en w1 ⟨rfl, hb1⟩
      have B1 := B0.out.trans (hb1.mono B0.out.size)
      clear hb1 B0 K0
      go_wp2
      go_ret2
      exact ⟨rfl, B1⟩
    · rw [hz, hr, codeV_tt] at CC
      rw [codeRes_tt]
      have ht := (zone_ok hz).tall
      have HC := Lib.hid CC
      have HT := Lib.hid ht
      clear CC hz hr ht
      go_enter Try.func28, Try.ntmps28
      go_wp2_with fail
      refine HC.out.mono ?_
      rintro en w1 ⟨rfl, hb1⟩
      have B1 := B0.out.trans (hb1.mono B0.out.size)
      have K1 := Lib.hid (K0.out.on hb1)
      clear hb1 B0 K0
      go_wp2_with fail
      refine (l05Jib_any _ _ _ _ _ _ _ _ _ K1.out HT.out).mono ?_
      rintro en w2 ⟨rfl, hb2⟩
      have B2 := B1.trans (hb2.mono B1.size)
      clear hb2 B1 K1
      go_wp2
      go_ret2
      exact ⟨rfl, B2⟩
theorem specBlocksLoad_any (k s e : Int) (A : Option Addr) (n c : Nat) (L : List (Int × Int)) (h0 : Int) (w : World) (h : Steps w w.heap.size A n L) (hn : n ≤ maxLen) : Calls Try.prog 30 #[zoneV k s e A n c, .int .i64 h0] w fun en w' => en = .returned (blockV (zoneB k s e L) (inB h0 0 2000) (airB 2 k s e h0)) ∧ Below w.heap.size w w' := by
  have B0 := below_alloc1 w (.cells #[.int .i64 k, .int .i64 s, .int .i64 e, .slice A n c] 29)
  have K0 := Lib.hid (Blk.new w 29 #[.int .i64 k, .int .i64 s, .int .i64 e, .slice A n c])
  have CC := l05Code_any k s e A n c L h0 w.heap.size _ K0.out (h.next B0) hn
  have B0 := Lib.hid B0
  unfold blockV
  clear h hn
  cases hz : zoneB k s e L
  · rw [hz, codeV_f] at CC; rw [codeRes_f]; clear hz
    have HC := Lib.hid CC
    clear CC
    go_enter Try.func30, Try.ntmps30
    go_wp2_with fail
    refine HC.out.mono ?_
    rintro en w1 ⟨rfl, hb1⟩
    have B1 := B0.out.trans (hb1.mono B0.out.size)
    clear hb1 B0 K0
    go_wp2
    go_ret2
    exact ⟨rfl, B1⟩
  · cases hr : inB h0 0 2000
    · rw [hz, hr, codeV_tf] at CC; rw [codeRes_tf]; clear hz hr
      have HC := Lib.hid CC
      clear CC
      go_enter Try.func30, Try.ntmps30
      go_wp2_with fail
      refine HC.out.mono ?_
      rintro en w1 ⟨rfl, hb1⟩
      have B1 := B0.out.trans (hb1.mono B0.out.size)
      clear hb1 B0 K0
      go_wp2
      go_ret2
      exact ⟨rfl, B1⟩
    · rw [hz, hr, codeV_tt] at CC
      rw [codeRes_tt]
      have ht := (zone_ok hz).tall
      have HC := Lib.hid CC
      have HT := Lib.hid ht
      clear CC hz hr ht
      go_enter Try.func30, Try.ntmps30
      go_wp2_with fail
      refine HC.out.mono ?_
      rintro en w1 ⟨rfl, hb1⟩
      have B1 := B0.out.trans (hb1.mono B0.out.size)
      have K1 := Lib.hid (K0.out.on hb1)
      clear hb1 B0 K0
      go_wp2_with fail
      refine (l05Load_any _ _ _ _ _ _ _ _ _ K1.out HT.out).mono ?_
      rintro en w2 ⟨rfl, hb2⟩
      have B2 := B1.trans (hb2.mono B1.size)
      clear hb2 B1 K1
      go_wp2
      go_ret2
      exact ⟨rfl, B2⟩
theorem implBlocksJibBlocks_any (k s e : Int) (A : Option Addr) (n c : Nat) (L : List (Int × Int)) (h0 : Int) (w : World) (h : Steps w w.heap.size A n L) (hn : n ≤ maxLen) : Calls Try.prog 64 #[zoneV k s e A n c, .int .i64 h0, .func (.func 65) #[] #[]] w fun en w' => en = .returned (blockV (zoneB k s e L) (inB h0 0 2000) (airB 3 k s e h0)) ∧ Below w.heap.size w w' := by
  have B0 := below_alloc1 w (.cells #[.int .i64 k, .int .i64 s, .int .i64 e, .slice A n c] 29)
  have K0 := Lib.hid (Blk.new w 29 #[.int .i64 k, .int .i64 s, .int .i64 e, .slice A n c])
  have CC := implValidZone_any k s e A n c L _ (h.next B0) hn
  have B0 := Lib.hid B0
  unfold blockV
  clear h hn
  cases hz : zoneB k s e L
  · rw [hz] at CC; rw [codeRes_f]; clear hz
    have HC := Lib.hid CC
    clear CC K0
    go_enter Try.func64, Try.ntmps64
    go_wp2_with fail
    refine HC.out.mono ?_
    rintro en w1 ⟨rfl, hb1⟩
    have B1 := B0.out.trans (hb1.mono B0.out.size)
    clear hb1 B0
    go_wp2
    go_ret2
    exact ⟨rfl, B1⟩
  · cases hr : inB h0 0 2000
    · rw [hz] at CC; rw [codeRes_tf]; clear hz
      have HC := Lib.hid CC
      have HR := Lib.hid (fun w => hr ▸ within_any h0 0 2000 w)
      clear CC K0 hr
      go_enter Try.func64, Try.ntmps64
      go_wp2_with fail
      refine HC.out.mono ?_
      rintro en w1 ⟨rfl, hb1⟩
      have B1 := B0.out.trans (hb1.mono B0.out.size)
      clear hb1 B0
      go_wp2_with (go_at_call 52; refine (HR.out _).mono ?_; rintro e w' ⟨rfl, rfl⟩)
      go_ret2
      exact ⟨rfl, B1⟩
    · have ht := (zone_ok hz).tall
      rw [hz] at CC; rw [codeRes_tt]; clear hz
      have HC := Lib.hid CC
      have HT := Lib.hid ht
      have HR := Lib.hid (fun w => hr ▸ within_any h0 0 2000 w)
      clear CC hr ht
      go_enter Try.func64, Try.ntmps64
      go_wp2_with fail
      refine HC.out.mono ?_
      rintro en w1 ⟨rfl, hb1⟩
      have B1 := B0.out.trans (hb1.mono B0.out.size)
      obtain ⟨c0, c1, c2, c3⟩ := (K0.out.on hb1).four
      clear hb1 B0 K0
      go_wp2_with fail
      refine (HR.out _).mono ?_
      rintro en w' ⟨rfl, rfl⟩
      go_wp2_with fail
      refine (blocksJib_any _ _ _ _ _ _ _ _ HT.out).mono ?_
      rintro en w2 ⟨rfl, hb2⟩
      have B2 := B1.trans (hb2.mono B1.size)
      clear hb2 B1 c0 c1 c2 c3
      go_wp2
      go_ret2
      exact ⟨rfl, B2⟩
theorem implBlocksJib_any (k s e : Int) (A : Option Addr) (n c : Nat) (L : List (Int × Int)) (h0 : Int) (w : World) (h : Steps w w.heap.size A n L) (hn : n ≤ maxLen) : Calls Try.prog 29 #[zoneV k s e A n c, .int .i64 h0] w fun en w' => en = .returned (blockV (zoneB k s e L) (inB h0 0 2000) (airB 3 k s e h0)) ∧ Below w.heap.size w w' := by
  have B0 := below_alloc1 w (.cells #[.int .i64 k, .int .i64 s, .int .i64 e, .slice A n c] 29)
  have CC := implBlocksJibBlocks_any k s e A n c L h0 _ (h.next B0) hn
  have B0 := Lib.hid B0
  obtain ⟨x, y, F⟩ := blockV_form (zoneB k s e L) (inB h0 0 2000) (airB 3 k s e h0)
  rw [F] at CC ⊢
  have HC := Lib.hid CC
  clear h hn F CC
  go_enter Try.func29, Try.ntmps29
  go_wp2_with fail
  refine HC.out.mono ?_
  rintro en w1 ⟨rfl, hb1⟩
  have B1 := B0.out.trans (hb1.mono B0.out.size)
  clear hb1 B0
  go_wp2
  go_ret2
  exact ⟨rfl, B1⟩
theorem implBlocksLoadBlocks_any (k s e : Int) (A : Option Addr) (n c : Nat) (L : List (Int × Int)) (h0 : Int) (w : World) (h : Steps w w.heap.size A n L) (hn : n ≤ maxLen) : Calls Try.prog 64 #[zoneV k s e A n c, .int .i64 h0, .func (.func 67) #[] #[]] w fun en w' => en = .returned (blockV (zoneB k s e L) (inB h0 0 2000) (airB 2 k s e h0)) ∧ Below w.heap.size w w' := by
  have B0 := below_alloc1 w (.cells #[.int .i64 k, .int .i64 s, .int .i64 e, .slice A n c] 29)
  have K0 := Lib.hid (Blk.new w 29 #[.int .i64 k, .int .i64 s, .int .i64 e, .slice A n c])
  have CC := implValidZone_any k s e A n c L _ (h.next B0) hn
  have B0 := Lib.hid B0
  unfold blockV
  clear h hn
  cases hz : zoneB k s e L
  · rw [hz] at CC; rw [codeRes_f]; clear hz
    have HC := Lib.hid CC
    clear CC K0
    go_enter Try.func64, Try.ntmps64
    go_wp2_with fail
    refine HC.out.mono ?_
    rintro en w1 ⟨rfl, hb1⟩
    have B1 := B0.out.trans (hb1.mono B0.out.size)
    clear hb1 B0
    go_wp2
    go_ret2
    exact ⟨rfl, B1⟩
  · cases hr : inB h0 0 2000
    · rw [hz] at CC; rw [codeRes_tf]; clear hz
      have HC := Lib.hid CC
      have HR := Lib.hid (fun w => hr ▸ within_any h0 0 2000 w)
      clear CC K0 hr
      go_enter Try.func64, Try.ntmps64
      go_wp2_with fail
      refine HC.out.mono ?_
      rintro en w1 ⟨rfl, hb1⟩
      have B1 := B0.out.trans (hb1.mono B0.out.size)
      clear hb1 B0
      go_wp2_with (go_at_call 52; refine (HR.out _).mono ?_; rintro e w' ⟨rfl, rfl⟩)
      go_ret2
      exact ⟨rfl, B1⟩
    · have ht := (zone_ok hz).tall
      rw [hz] at CC; rw [codeRes_tt]; clear hz
      have HC := Lib.hid CC
      have HT := Lib.hid ht
      have HR := Lib.hid (fun w => hr ▸ within_any h0 0 2000 w)
      clear CC hr ht
      go_enter Try.func64, Try.ntmps64
      go_wp2_with fail
      refine HC.out.mono ?_
      rintro en w1 ⟨rfl, hb1⟩
      have B1 := B0.out.trans (hb1.mono B0.out.size)
      obtain ⟨c0, c1, c2, c3⟩ := (K0.out.on hb1).four
      clear hb1 B0 K0
      go_wp2_with fail
      refine (HR.out _).mono ?_
      rintro en w' ⟨rfl, rfl⟩
      go_wp2_with fail
      refine (blocksLoad_any _ _ _ _ _ _ _ _ HT.out).mono ?_
      rintro en w2 ⟨rfl, hb2⟩
      have B2 := B1.trans (hb2.mono B1.size)
      clear hb2 B1 c0 c1 c2 c3
      go_wp2
      go_ret2
      exact ⟨rfl, B2⟩
theorem implBlocksLoad_any (k s e : Int) (A : Option Addr) (n c : Nat) (L : List (Int × Int)) (h0 : Int) (w : World) (h : Steps w w.heap.size A n L) (hn : n ≤ maxLen) : Calls Try.prog 31 #[zoneV k s e A n c, .int .i64 h0] w fun en w' => en = .returned (blockV (zoneB k s e L) (inB h0 0 2000) (airB 2 k s e h0)) ∧ Below w.heap.size w w' := by
  have B0 := below_alloc1 w (.cells #[.int .i64 k, .int .i64 s, .int .i64 e, .slice A n c] 29)
  have CC := implBlocksLoadBlocks_any k s e A n c L h0 _ (h.next B0) hn
  have B0 := Lib.hid B0
  obtain ⟨x, y, F⟩ := blockV_form (zoneB k s e L) (inB h0 0 2000) (airB 2 k s e h0)
  rw [F] at CC ⊢
  have HC := Lib.hid CC
  clear h hn F CC
  go_enter Try.func31, Try.ntmps31
  go_wp2_with fail
  refine HC.out.mono ?_
  rintro en w1 ⟨rfl, hb1⟩
  have B1 := B0.out.trans (hb1.mono B0.out.size)
  clear hb1 B0
  go_wp2
  go_ret2
  exact ⟨rfl, B1⟩
set_option maxHeartbeats 2000000 in
theorem FnExactZoneHeight_walk (w : World) (k : Int) (_wk : (Lit.int .i64 k).wf = true) (s : Int) (_ws : (Lit.int .i64 s).wf = true) (e : Int) (_we : (Lit.int .i64 e).wf = true) (A : Option Addr) (n c : Nat) (L : List (Int × Int)) (hn : n ≤ maxLen) (SA : Steps w w.heap.size A n L)  : Calls Try.prog 5 #[zoneV k s e A n c] w fun en w' => en = .returned (.bool true) ∧ Below w.heap.size w w' := by
  clear _wk _ws _we
  obtain ⟨x, y, F⟩ := pair2_form (zoneB k s e L) (s * e) 1
  have H1 : Hid (∀ A n c w, Steps w w.heap.size A n L → n ≤ maxLen → Calls Try.prog 21 #[zoneV k s e A n c] w fun en w' => en = .returned (.tuple #[.int .i64 x, .int .i64 y]) ∧ Below w.heap.size w w') := fun A n c w h hn => by rw [← F]; exact specZoneHeight_any k s e A n c L w h hn
  have H2 : Hid (∀ A n c w, Steps w w.heap.size A n L → n ≤ maxLen → Calls Try.prog 22 #[zoneV k s e A n c] w fun en w' => en = .returned (.tuple #[.int .i64 x, .int .i64 y]) ∧ Below w.heap.size w w') := fun A n c w h hn => by rw [← F]; exact implZoneHeight_any k s e A n c L w h hn
  clear F
  by_cases hs : (n : Int) ≤ 1048576
  · have B0 : Below w.heap.size w (w.alloc (.cells #[.int .i64 k, .int .i64 s, .int .i64 e, .slice A n c] 24)) := below_alloc1 _ _
    have KA0 : Blk (w.alloc (.cells #[.int .i64 k, .int .i64 s, .int .i64 e, .slice A n c] 24)) (w.heap.size) 24 #[.int .i64 k, .int .i64 s, .int .i64 e, .slice A n c] := Blk.new w _ _
    have SA0 := SA.next B0
    clear SA
    have KA0 := Lib.hid KA0
    have SA0 := Lib.hid SA0
    have B0 := Lib.hid B0
    go_enter Try.func5, Try.ntmps5
    obtain ⟨A_0, A_1, A_2, A_3⟩ := KA0.out.four
    go_wp2_with fail
    refine (szZone_in hs _ _ _ _ _ _ (by omega) (by omega) hn).mono ?_
    rintro en w1 ⟨rfl, hb1⟩
    clear A_0 A_1 A_2 A_3
    have KA1 := (KA0.out).on hb1
    have SA1 := (SA0.out).next hb1
    have B1 := B0.out.trans (hb1.mono B0.out.size)
    clear hb1 B0 KA0 SA0
    have KA1 := Lib.hid KA1
    have SA1 := Lib.hid SA1
    have B1 := Lib.hid B1
    clear hn
    obtain ⟨A_0, A_1, A_2, A_3⟩ := KA1.out.four
    go_wp2_with fail
    refine (toZone_any _ _ _ _ _ _ _ _ SA1.out (by omega)).mono ?_
    rintro en w2 ⟨AX, rfl, SX2, hb2⟩
    clear A_0 A_1 A_2 A_3
    have KA2 := (KA1.out).on hb2
    have SA2 := (SA1.out).next hb2
    have B2 := B1.out.trans (hb2.mono B1.out.size)
    clear hb2 B1 KA1 SA1
    have KA2 := Lib.hid KA2
    have SA2 := Lib.hid SA2
    have SX2 := Lib.hid SX2
    have B2 := Lib.hid B2
    obtain ⟨A_0, A_1, A_2, A_3⟩ := KA2.out.four
    go_wp2_with fail
    refine (H1.out _ _ _ _ SX2.out (by unfold maxLen; omega)).mono ?_
    rintro en w3 ⟨rfl, hb3⟩
    clear A_0 A_1 A_2 A_3
    have KA3 := (KA2.out).on hb3
    have SA3 := (SA2.out).next hb3
    have B3 := B2.out.trans (hb3.mono B2.out.size)
    clear hb3 B2 KA2 SA2 SX2
    have KA3 := Lib.hid KA3
    have SA3 := Lib.hid SA3
    have B3 := Lib.hid B3
    obtain ⟨A_0, A_1, A_2, A_3⟩ := KA3.out.four
    go_wp2_with fail
    refine (toZone_any _ _ _ _ _ _ _ _ SA3.out (by omega)).mono ?_
    rintro en w4 ⟨AY, rfl, SY4, hb4⟩
    clear A_0 A_1 A_2 A_3
    have KA4 := (KA3.out).on hb4
    have SA4 := (SA3.out).next hb4
    have B4 := B3.out.trans (hb4.mono B3.out.size)
    clear hb4 B3 KA3 SA3
    have KA4 := Lib.hid KA4
    have SA4 := Lib.hid SA4
    have SY4 := Lib.hid SY4
    have B4 := Lib.hid B4
    have bx := below_alloc1 w4 (.cells #[.int .i64 k, .int .i64 s, .int .i64 e, .slice AY n n] 29)
    have KA4 := Lib.hid (KA4.out.alloc (.cells #[.int .i64 k, .int .i64 s, .int .i64 e, .slice AY n n] 29))
    have SA4 := Lib.hid (SA4.out.next bx)
    have SY4 := Lib.hid (SY4.out.next bx)
    have KY4 := Lib.hid (Blk.new w4 29 #[.int .i64 k, .int .i64 s, .int .i64 e, .slice AY n n])
    have B4 := Lib.hid (B4.out.trans (bx.mono B4.out.size))
    clear bx
    obtain ⟨A_0, A_1, A_2, A_3⟩ := KA4.out.four
    obtain ⟨Y_0, Y_1, Y_2, Y_3⟩ := KY4.out.four
    go_wp2_with fail
    refine (H2.out _ _ _ _ SY4.out (by unfold maxLen; omega)).mono ?_
    rintro en w5 ⟨rfl, hb5⟩
    clear A_0 A_1 A_2 A_3 Y_0 Y_1 Y_2 Y_3
    have KA5 := (KA4.out).on hb5
    have KY5 := (KY4.out).on hb5
    have SA5 := (SA4.out).next hb5
    have SY5 := (SY4.out).next hb5
    have B5 := B4.out.trans (hb5.mono B4.out.size)
    clear hb5 B4 KA4 KY4 SA4 SY4
    have KA5 := Lib.hid KA5
    have KY5 := Lib.hid KY5
    have SA5 := Lib.hid SA5
    have SY5 := Lib.hid SY5
    have B5 := Lib.hid B5
    obtain ⟨A_0, A_1, A_2, A_3⟩ := KA5.out.four
    obtain ⟨Y_0, Y_1, Y_2, Y_3⟩ := KY5.out.four
    go_wp2_with fail
    go_region_held3 (fun w' => w'.cell? ⟨w.heap.size, 0, none⟩ = some (.int .i64 k) ∧ w'.cell? ⟨w.heap.size, 1, none⟩ = some (.int .i64 s) ∧ w'.cell? ⟨w.heap.size, 2, none⟩ = some (.int .i64 e) ∧ w'.cell? ⟨w.heap.size, 3, none⟩ = some (.slice A n c) ∧ w'.cell? ⟨w4.heap.size, 0, none⟩ = some (.int .i64 k) ∧ w'.cell? ⟨w4.heap.size, 1, none⟩ = some (.int .i64 s) ∧ w'.cell? ⟨w4.heap.size, 2, none⟩ = some (.int .i64 e) ∧ w'.cell? ⟨w4.heap.size, 3, none⟩ = some (.slice AY n n))
      (first | go_keep | (refine ⟨?_, ?_, ?_, ?_, ?_, ?_, ?_, ?_⟩ <;> assumption))
      (first
        | (go_at_call 16; refine (toZone_any _ _ _ _ _ _ _ _ (SA5.out.drewN 1) (by omega)).mono ?_; rintro en w6 ⟨AZ, rfl, SZ6, hb6⟩; clear A_0 A_1 A_2 A_3 Y_0 Y_1 Y_2 Y_3; have KA6 := (KA5.out.drewN 1).on hb6; have KY6 := (KY5.out.drewN 1).on hb6; have SA6 := (SA5.out.drewN 1).next hb6; have SY6 := (SY5.out.drewN 1).next hb6; have B6 := (below_drewN B5.out 1).trans (hb6.mono B5.out.size); clear hb6 B5 KA5 KY5 SA5 SY5; have KA6 := Lib.hid KA6; have KY6 := Lib.hid KY6; have SA6 := Lib.hid SA6; have SY6 := Lib.hid SY6; have SZ6 := Lib.hid SZ6; have B6 := Lib.hid B6; obtain ⟨A_0, A_1, A_2, A_3⟩ := KA6.out.four; obtain ⟨Y_0, Y_1, Y_2, Y_3⟩ := KY6.out.four)
        | (go_at_call 18; refine (eqZone_same _ _ _ _ _ _ _ _ _ _ SY6.out SZ6.out (by unfold maxLen; omega)).mono ?_; rintro en w7 ⟨rfl, hb7⟩; clear A_0 A_1 A_2 A_3 Y_0 Y_1 Y_2 Y_3; have KA7 := (KA6.out).on hb7; have KY7 := (KY6.out).on hb7; have SA7 := (SA6.out).next hb7; have SY7 := (SY6.out).next hb7; have SZ7 := (SZ6.out).next hb7; have B7 := B6.out.trans (hb7.mono B6.out.size); clear hb7 B6 KA6 KY6 SA6 SY6 SZ6; have KA7 := Lib.hid KA7; have KY7 := Lib.hid KY7; have SA7 := Lib.hid SA7; have SY7 := Lib.hid SY7; have SZ7 := Lib.hid SZ7; have B7 := Lib.hid B7; obtain ⟨A_0, A_1, A_2, A_3⟩ := KA7.out.four; obtain ⟨Y_0, Y_1, Y_2, Y_3⟩ := KY7.out.four))
    go_wp2
    go_ret
    exact ⟨rfl, B7.out⟩
  · have B0 : Below w.heap.size w (w.alloc (.cells #[.int .i64 k, .int .i64 s, .int .i64 e, .slice A n c] 24)) := below_alloc1 _ _
    have KA0 : Blk (w.alloc (.cells #[.int .i64 k, .int .i64 s, .int .i64 e, .slice A n c] 24)) (w.heap.size) 24 #[.int .i64 k, .int .i64 s, .int .i64 e, .slice A n c] := Blk.new w _ _
    have SA0 := SA.next B0
    clear SA
    have KA0 := Lib.hid KA0
    have SA0 := Lib.hid SA0
    have B0 := Lib.hid B0
    go_enter Try.func5, Try.ntmps5
    obtain ⟨A_0, A_1, A_2, A_3⟩ := KA0.out.four
    go_wp2_with fail
    refine (szZone_out (by omega) _ _ _ _ _ _ (by omega) (by omega) hn).mono ?_
    rintro en w1 ⟨rfl, hb1⟩
    clear A_0 A_1 A_2 A_3
    have KA1 := (KA0.out).on hb1
    have SA1 := (SA0.out).next hb1
    have B1 := B0.out.trans (hb1.mono B0.out.size)
    clear hb1 B0 KA0 SA0
    have KA1 := Lib.hid KA1
    have SA1 := Lib.hid SA1
    have B1 := Lib.hid B1
    go_wp2
    go_ret
    exact ⟨rfl, B1.out⟩
set_option maxHeartbeats 2000000 in
theorem FnExactBlocksJib_walk (w : World) (k : Int) (_wk : (Lit.int .i64 k).wf = true) (s : Int) (_ws : (Lit.int .i64 s).wf = true) (e : Int) (_we : (Lit.int .i64 e).wf = true) (A : Option Addr) (n c : Nat) (L : List (Int × Int)) (hn : n ≤ maxLen) (SA : Steps w w.heap.size A n L) (h0 : Int) (_wh : (Lit.int .i64 h0).wf = true) : Calls Try.prog 8 #[zoneV k s e A n c, .int .i64 h0] w fun en w' => en = .returned (.bool true) ∧ Below w.heap.size w w' := by
  clear _wk _ws _we _wh
  obtain ⟨x, y, F⟩ := blockV_form (zoneB k s e L) (inB h0 0 2000) (airB 3 k s e h0)
  have H1 : Hid (∀ A n c w, Steps w w.heap.size A n L → n ≤ maxLen → Calls Try.prog 28 #[zoneV k s e A n c, .int .i64 h0] w fun en w' => en = .returned (.tuple #[.bool x, .int .i64 y]) ∧ Below w.heap.size w w') := fun A n c w h hn => by rw [← F]; exact specBlocksJib_any k s e A n c L h0 w h hn
  have H2 : Hid (∀ A n c w, Steps w w.heap.size A n L → n ≤ maxLen → Calls Try.prog 29 #[zoneV k s e A n c, .int .i64 h0] w fun en w' => en = .returned (.tuple #[.bool x, .int .i64 y]) ∧ Below w.heap.size w w') := fun A n c w h hn => by rw [← F]; exact implBlocksJib_any k s e A n c L h0 w h hn
  clear F
  by_cases hs : (n : Int) ≤ 1048576
  · have B0 : Below w.heap.size w (w.alloc (.cells #[.int .i64 k, .int .i64 s, .int .i64 e, .slice A n c] 24)) := below_alloc1 _ _
    have KA0 : Blk (w.alloc (.cells #[.int .i64 k, .int .i64 s, .int .i64 e, .slice A n c] 24)) (w.heap.size) 24 #[.int .i64 k, .int .i64 s, .int .i64 e, .slice A n c] := Blk.new w _ _
    have SA0 := SA.next B0
    clear SA
    have KA0 := Lib.hid KA0
    have SA0 := Lib.hid SA0
    have B0 := Lib.hid B0
    go_enter Try.func8, Try.ntmps8
    obtain ⟨A_0, A_1, A_2, A_3⟩ := KA0.out.four
    go_wp2_with fail
    refine (szZone_in hs _ _ _ _ _ _ (by omega) (by omega) hn).mono ?_
    rintro en w1 ⟨rfl, hb1⟩
    clear A_0 A_1 A_2 A_3
    have KA1 := (KA0.out).on hb1
    have SA1 := (SA0.out).next hb1
    have B1 := B0.out.trans (hb1.mono B0.out.size)
    clear hb1 B0 KA0 SA0
    have KA1 := Lib.hid KA1
    have SA1 := Lib.hid SA1
    have B1 := Lib.hid B1
    clear hn
    obtain ⟨A_0, A_1, A_2, A_3⟩ := KA1.out.four
    go_wp2_with fail
    refine (toZone_any _ _ _ _ _ _ _ _ SA1.out (by omega)).mono ?_
    rintro en w2 ⟨AX, rfl, SX2, hb2⟩
    clear A_0 A_1 A_2 A_3
    have KA2 := (KA1.out).on hb2
    have SA2 := (SA1.out).next hb2
    have B2 := B1.out.trans (hb2.mono B1.out.size)
    clear hb2 B1 KA1 SA1
    have KA2 := Lib.hid KA2
    have SA2 := Lib.hid SA2
    have SX2 := Lib.hid SX2
    have B2 := Lib.hid B2
    obtain ⟨A_0, A_1, A_2, A_3⟩ := KA2.out.four
    go_wp2_with fail
    refine (H1.out _ _ _ _ SX2.out (by unfold maxLen; omega)).mono ?_
    rintro en w3 ⟨rfl, hb3⟩
    clear A_0 A_1 A_2 A_3
    have KA3 := (KA2.out).on hb3
    have SA3 := (SA2.out).next hb3
    have B3 := B2.out.trans (hb3.mono B2.out.size)
    clear hb3 B2 KA2 SA2 SX2
    have KA3 := Lib.hid KA3
    have SA3 := Lib.hid SA3
    have B3 := Lib.hid B3
    obtain ⟨A_0, A_1, A_2, A_3⟩ := KA3.out.four
    go_wp2_with fail
    refine (toZone_any _ _ _ _ _ _ _ _ SA3.out (by omega)).mono ?_
    rintro en w4 ⟨AY, rfl, SY4, hb4⟩
    clear A_0 A_1 A_2 A_3
    have KA4 := (KA3.out).on hb4
    have SA4 := (SA3.out).next hb4
    have B4 := B3.out.trans (hb4.mono B3.out.size)
    clear hb4 B3 KA3 SA3
    have KA4 := Lib.hid KA4
    have SA4 := Lib.hid SA4
    have SY4 := Lib.hid SY4
    have B4 := Lib.hid B4
    have bx := below_alloc1 w4 (.cells #[.int .i64 k, .int .i64 s, .int .i64 e, .slice AY n n] 29)
    have KA4 := Lib.hid (KA4.out.alloc (.cells #[.int .i64 k, .int .i64 s, .int .i64 e, .slice AY n n] 29))
    have SA4 := Lib.hid (SA4.out.next bx)
    have SY4 := Lib.hid (SY4.out.next bx)
    have KY4 := Lib.hid (Blk.new w4 29 #[.int .i64 k, .int .i64 s, .int .i64 e, .slice AY n n])
    have B4 := Lib.hid (B4.out.trans (bx.mono B4.out.size))
    clear bx
    obtain ⟨A_0, A_1, A_2, A_3⟩ := KA4.out.four
    obtain ⟨Y_0, Y_1, Y_2, Y_3⟩ := KY4.out.four
    go_wp2_with fail
    refine (H2.out _ _ _ _ SY4.out (by unfold maxLen; omega)).mono ?_
    rintro en w5 ⟨rfl, hb5⟩
    clear A_0 A_1 A_2 A_3 Y_0 Y_1 Y_2 Y_3
    have KA5 := (KA4.out).on hb5
    have KY5 := (KY4.out).on hb5
    have SA5 := (SA4.out).next hb5
    have SY5 := (SY4.out).next hb5
    have B5 := B4.out.trans (hb5.mono B4.out.size)
    clear hb5 B4 KA4 KY4 SA4 SY4
    have KA5 := Lib.hid KA5
    have KY5 := Lib.hid KY5
    have SA5 := Lib.hid SA5
    have SY5 := Lib.hid SY5
    have B5 := Lib.hid B5
    obtain ⟨A_0, A_1, A_2, A_3⟩ := KA5.out.four
    obtain ⟨Y_0, Y_1, Y_2, Y_3⟩ := KY5.out.four
    go_wp2_with fail
    go_region_held3 (fun w' => w'.cell? ⟨w.heap.size, 0, none⟩ = some (.int .i64 k) ∧ w'.cell? ⟨w.heap.size, 1, none⟩ = some (.int .i64 s) ∧ w'.cell? ⟨w.heap.size, 2, none⟩ = some (.int .i64 e) ∧ w'.cell? ⟨w.heap.size, 3, none⟩ = some (.slice A n c) ∧ w'.cell? ⟨w4.heap.size, 0, none⟩ = some (.int .i64 k) ∧ w'.cell? ⟨w4.heap.size, 1, none⟩ = some (.int .i64 s) ∧ w'.cell? ⟨w4.heap.size, 2, none⟩ = some (.int .i64 e) ∧ w'.cell? ⟨w4.heap.size, 3, none⟩ = some (.slice AY n n))
      (first | go_keep | (refine ⟨?_, ?_, ?_, ?_, ?_, ?_, ?_, ?_⟩ <;> assumption))
      (first
        | (go_at_call 16; refine (toZone_any _ _ _ _ _ _ _ _ (SA5.out.drewN 1) (by omega)).mono ?_; rintro en w6 ⟨AZ, rfl, SZ6, hb6⟩; clear A_0 A_1 A_2 A_3 Y_0 Y_1 Y_2 Y_3; have KA6 := (KA5.out.drewN 1).on hb6; have KY6 := (KY5.out.drewN 1).on hb6; have SA6 := (SA5.out.drewN 1).next hb6; have SY6 := (SY5.out.drewN 1).next hb6; have B6 := (below_drewN B5.out 1).trans (hb6.mono B5.out.size); clear hb6 B5 KA5 KY5 SA5 SY5; have KA6 := Lib.hid KA6; have KY6 := Lib.hid KY6; have SA6 := Lib.hid SA6; have SY6 := Lib.hid SY6; have SZ6 := Lib.hid SZ6; have B6 := Lib.hid B6; obtain ⟨A_0, A_1, A_2, A_3⟩ := KA6.out.four; obtain ⟨Y_0, Y_1, Y_2, Y_3⟩ := KY6.out.four)
        | (go_at_call 18; refine (eqZone_same _ _ _ _ _ _ _ _ _ _ SY6.out SZ6.out (by unfold maxLen; omega)).mono ?_; rintro en w7 ⟨rfl, hb7⟩; clear A_0 A_1 A_2 A_3 Y_0 Y_1 Y_2 Y_3; have KA7 := (KA6.out).on hb7; have KY7 := (KY6.out).on hb7; have SA7 := (SA6.out).next hb7; have SY7 := (SY6.out).next hb7; have SZ7 := (SZ6.out).next hb7; have B7 := B6.out.trans (hb7.mono B6.out.size); clear hb7 B6 KA6 KY6 SA6 SY6 SZ6; have KA7 := Lib.hid KA7; have KY7 := Lib.hid KY7; have SA7 := Lib.hid SA7; have SY7 := Lib.hid SY7; have SZ7 := Lib.hid SZ7; have B7 := Lib.hid B7; obtain ⟨A_0, A_1, A_2, A_3⟩ := KA7.out.four; obtain ⟨Y_0, Y_1, Y_2, Y_3⟩ := KY7.out.four))
    go_wp2
    go_ret
    exact ⟨rfl, B7.out⟩
  · have B0 : Below w.heap.size w (w.alloc (.cells #[.int .i64 k, .int .i64 s, .int .i64 e, .slice A n c] 24)) := below_alloc1 _ _
    have KA0 : Blk (w.alloc (.cells #[.int .i64 k, .int .i64 s, .int .i64 e, .slice A n c] 24)) (w.heap.size) 24 #[.int .i64 k, .int .i64 s, .int .i64 e, .slice A n c] := Blk.new w _ _
    have SA0 := SA.next B0
    clear SA
    have KA0 := Lib.hid KA0
    have SA0 := Lib.hid SA0
    have B0 := Lib.hid B0
    go_enter Try.func8, Try.ntmps8
    obtain ⟨A_0, A_1, A_2, A_3⟩ := KA0.out.four
    go_wp2_with fail
    refine (szZone_out (by omega) _ _ _ _ _ _ (by omega) (by omega) hn).mono ?_
    rintro en w1 ⟨rfl, hb1⟩
    clear A_0 A_1 A_2 A_3
    have KA1 := (KA0.out).on hb1
    have SA1 := (SA0.out).next hb1
    have B1 := B0.out.trans (hb1.mono B0.out.size)
    clear hb1 B0 KA0 SA0
    have KA1 := Lib.hid KA1
    have SA1 := Lib.hid SA1
    have B1 := Lib.hid B1
    go_wp2
    go_ret
    exact ⟨rfl, B1.out⟩
set_option maxHeartbeats 2000000 in
theorem FnExactBlocksLoad_walk (w : World) (k : Int) (_wk : (Lit.int .i64 k).wf = true) (s : Int) (_ws : (Lit.int .i64 s).wf = true) (e : Int) (_we : (Lit.int .i64 e).wf = true) (A : Option Addr) (n c : Nat) (L : List (Int × Int)) (hn : n ≤ maxLen) (SA : Steps w w.heap.size A n L) (h0 : Int) (_wh : (Lit.int .i64 h0).wf = true) : Calls Try.prog 9 #[zoneV k s e A n c, .int .i64 h0] w fun en w' => en = .returned (.bool true) ∧ Below w.heap.size w w' := by
  clear _wk _ws _we _wh
  obtain ⟨x, y, F⟩ := blockV_form (zoneB k s e L) (inB h0 0 2000) (airB 2 k s e h0)
  have H1 : Hid (∀ A n c w, Steps w w.heap.size A n L → n ≤ maxLen → Calls Try.prog 30 #[zoneV k s e A n c, .int .i64 h0] w fun en w' => en = .returned (.tuple #[.bool x, .int .i64 y]) ∧ Below w.heap.size w w') := fun A n c w h hn => by rw [← F]; exact specBlocksLoad_any k s e A n c L h0 w h hn
  have H2 : Hid (∀ A n c w, Steps w w.heap.size A n L → n ≤ maxLen → Calls Try.prog 31 #[zoneV k s e A n c, .int .i64 h0] w fun en w' => en = .returned (.tuple #[.bool x, .int .i64 y]) ∧ Below w.heap.size w w') := fun A n c w h hn => by rw [← F]; exact implBlocksLoad_any k s e A n c L h0 w h hn
  clear F
  by_cases hs : (n : Int) ≤ 1048576
  · have B0 : Below w.heap.size w (w.alloc (.cells #[.int .i64 k, .int .i64 s, .int .i64 e, .slice A n c] 24)) := below_alloc1 _ _
    have KA0 : Blk (w.alloc (.cells #[.int .i64 k, .int .i64 s, .int .i64 e, .slice A n c] 24)) (w.heap.size) 24 #[.int .i64 k, .int .i64 s, .int .i64 e, .slice A n c] := Blk.new w _ _
    have SA0 := SA.next B0
    clear SA
    have KA0 := Lib.hid KA0
    have SA0 := Lib.hid SA0
    have B0 := Lib.hid B0
    go_enter Try.func9, Try.ntmps9
    obtain ⟨A_0, A_1, A_2, A_3⟩ := KA0.out.four
    go_wp2_with fail
    refine (szZone_in hs _ _ _ _ _ _ (by omega) (by omega) hn).mono ?_
    rintro en w1 ⟨rfl, hb1⟩
    clear A_0 A_1 A_2 A_3
    have KA1 := (KA0.out).on hb1
    have SA1 := (SA0.out).next hb1
    have B1 := B0.out.trans (hb1.mono B0.out.size)
    clear hb1 B0 KA0 SA0
    have KA1 := Lib.hid KA1
    have SA1 := Lib.hid SA1
    have B1 := Lib.hid B1
    clear hn
    obtain ⟨A_0, A_1, A_2, A_3⟩ := KA1.out.four
    go_wp2_with fail
    refine (toZone_any _ _ _ _ _ _ _ _ SA1.out (by omega)).mono ?_
    rintro en w2 ⟨AX, rfl, SX2, hb2⟩
    clear A_0 A_1 A_2 A_3
    have KA2 := (KA1.out).on hb2
    have SA2 := (SA1.out).next hb2
    have B2 := B1.out.trans (hb2.mono B1.out.size)
    clear hb2 B1 KA1 SA1
    have KA2 := Lib.hid KA2
    have SA2 := Lib.hid SA2
    have SX2 := Lib.hid SX2
    have B2 := Lib.hid B2
    obtain ⟨A_0, A_1, A_2, A_3⟩ := KA2.out.four
    go_wp2_with fail
    refine (H1.out _ _ _ _ SX2.out (by unfold maxLen; omega)).mono ?_
    rintro en w3 ⟨rfl, hb3⟩
    clear A_0 A_1 A_2 A_3
    have KA3 := (KA2.out).on hb3
    have SA3 := (SA2.out).next hb3
    have B3 := B2.out.trans (hb3.mono B2.out.size)
    clear hb3 B2 KA2 SA2 SX2
    have KA3 := Lib.hid KA3
    have SA3 := Lib.hid SA3
    have B3 := Lib.hid B3
    obtain ⟨A_0, A_1, A_2, A_3⟩ := KA3.out.four
    go_wp2_with fail
    refine (toZone_any _ _ _ _ _ _ _ _ SA3.out (by omega)).mono ?_
    rintro en w4 ⟨AY, rfl, SY4, hb4⟩
    clear A_0 A_1 A_2 A_3
    have KA4 := (KA3.out).on hb4
    have SA4 := (SA3.out).next hb4
    have B4 := B3.out.trans (hb4.mono B3.out.size)
    clear hb4 B3 KA3 SA3
    have KA4 := Lib.hid KA4
    have SA4 := Lib.hid SA4
    have SY4 := Lib.hid SY4
    have B4 := Lib.hid B4
    have bx := below_alloc1 w4 (.cells #[.int .i64 k, .int .i64 s, .int .i64 e, .slice AY n n] 29)
    have KA4 := Lib.hid (KA4.out.alloc (.cells #[.int .i64 k, .int .i64 s, .int .i64 e, .slice AY n n] 29))
    have SA4 := Lib.hid (SA4.out.next bx)
    have SY4 := Lib.hid (SY4.out.next bx)
    have KY4 := Lib.hid (Blk.new w4 29 #[.int .i64 k, .int .i64 s, .int .i64 e, .slice AY n n])
    have B4 := Lib.hid (B4.out.trans (bx.mono B4.out.size))
    clear bx
    obtain ⟨A_0, A_1, A_2, A_3⟩ := KA4.out.four
    obtain ⟨Y_0, Y_1, Y_2, Y_3⟩ := KY4.out.four
    go_wp2_with fail
    refine (H2.out _ _ _ _ SY4.out (by unfold maxLen; omega)).mono ?_
    rintro en w5 ⟨rfl, hb5⟩
    clear A_0 A_1 A_2 A_3 Y_0 Y_1 Y_2 Y_3
    have KA5 := (KA4.out).on hb5
    have KY5 := (KY4.out).on hb5
    have SA5 := (SA4.out).next hb5
    have SY5 := (SY4.out).next hb5
    have B5 := B4.out.trans (hb5.mono B4.out.size)
    clear hb5 B4 KA4 KY4 SA4 SY4
    have KA5 := Lib.hid KA5
    have KY5 := Lib.hid KY5
    have SA5 := Lib.hid SA5
    have SY5 := Lib.hid SY5
    have B5 := Lib.hid B5
    obtain ⟨A_0, A_1, A_2, A_3⟩ := KA5.out.four
    obtain ⟨Y_0, Y_1, Y_2, Y_3⟩ := KY5.out.four
    go_wp2_with fail
    go_region_held3 (fun w' => w'.cell? ⟨w.heap.size, 0, none⟩ = some (.int .i64 k) ∧ w'.cell? ⟨w.heap.size, 1, none⟩ = some (.int .i64 s) ∧ w'.cell? ⟨w.heap.size, 2, none⟩ = some (.int .i64 e) ∧ w'.cell? ⟨w.heap.size, 3, none⟩ = some (.slice A n c) ∧ w'.cell? ⟨w4.heap.size, 0, none⟩ = some (.int .i64 k) ∧ w'.cell? ⟨w4.heap.size, 1, none⟩ = some (.int .i64 s) ∧ w'.cell? ⟨w4.heap.size, 2, none⟩ = some (.int .i64 e) ∧ w'.cell? ⟨w4.heap.size, 3, none⟩ = some (.slice AY n n))
      (first | go_keep | (refine ⟨?_, ?_, ?_, ?_, ?_, ?_, ?_, ?_⟩ <;> assumption))
      (first
        | (go_at_call 16; refine (toZone_any _ _ _ _ _ _ _ _ (SA5.out.drewN 1) (by omega)).mono ?_; rintro en w6 ⟨AZ, rfl, SZ6, hb6⟩; clear A_0 A_1 A_2 A_3 Y_0 Y_1 Y_2 Y_3; have KA6 := (KA5.out.drewN 1).on hb6; have KY6 := (KY5.out.drewN 1).on hb6; have SA6 := (SA5.out.drewN 1).next hb6; have SY6 := (SY5.out.drewN 1).next hb6; have B6 := (below_drewN B5.out 1).trans (hb6.mono B5.out.size); clear hb6 B5 KA5 KY5 SA5 SY5; have KA6 := Lib.hid KA6; have KY6 := Lib.hid KY6; have SA6 := Lib.hid SA6; have SY6 := Lib.hid SY6; have SZ6 := Lib.hid SZ6; have B6 := Lib.hid B6; obtain ⟨A_0, A_1, A_2, A_3⟩ := KA6.out.four; obtain ⟨Y_0, Y_1, Y_2, Y_3⟩ := KY6.out.four)
        | (go_at_call 18; refine (eqZone_same _ _ _ _ _ _ _ _ _ _ SY6.out SZ6.out (by unfold maxLen; omega)).mono ?_; rintro en w7 ⟨rfl, hb7⟩; clear A_0 A_1 A_2 A_3 Y_0 Y_1 Y_2 Y_3; have KA7 := (KA6.out).on hb7; have KY7 := (KY6.out).on hb7; have SA7 := (SA6.out).next hb7; have SY7 := (SY6.out).next hb7; have SZ7 := (SZ6.out).next hb7; have B7 := B6.out.trans (hb7.mono B6.out.size); clear hb7 B6 KA6 KY6 SA6 SY6 SZ6; have KA7 := Lib.hid KA7; have KY7 := Lib.hid KY7; have SA7 := Lib.hid SA7; have SY7 := Lib.hid SY7; have SZ7 := Lib.hid SZ7; have B7 := Lib.hid B7; obtain ⟨A_0, A_1, A_2, A_3⟩ := KA7.out.four; obtain ⟨Y_0, Y_1, Y_2, Y_3⟩ := KY7.out.four))
    go_wp2
    go_ret
    exact ⟨rfl, B7.out⟩
  · have B0 : Below w.heap.size w (w.alloc (.cells #[.int .i64 k, .int .i64 s, .int .i64 e, .slice A n c] 24)) := below_alloc1 _ _
    have KA0 : Blk (w.alloc (.cells #[.int .i64 k, .int .i64 s, .int .i64 e, .slice A n c] 24)) (w.heap.size) 24 #[.int .i64 k, .int .i64 s, .int .i64 e, .slice A n c] := Blk.new w _ _
    have SA0 := SA.next B0
    clear SA
    have KA0 := Lib.hid KA0
    have SA0 := Lib.hid SA0
    have B0 := Lib.hid B0
    go_enter Try.func9, Try.ntmps9
    obtain ⟨A_0, A_1, A_2, A_3⟩ := KA0.out.four
    go_wp2_with fail
    refine (szZone_out (by omega) _ _ _ _ _ _ (by omega) (by omega) hn).mono ?_
    rintro en w1 ⟨rfl, hb1⟩
    clear A_0 A_1 A_2 A_3
    have KA1 := (KA0.out).on hb1
    have SA1 := (SA0.out).next hb1
    have B1 := B0.out.trans (hb1.mono B0.out.size)
    clear hb1 B0 KA0 SA0
    have KA1 := Lib.hid KA1
    have SA1 := Lib.hid SA1
    have B1 := Lib.hid B1
    go_wp2
    go_ret
    exact ⟨rfl, B1.out⟩
end Go.Proofs.Ytbdompadkeamdaa
