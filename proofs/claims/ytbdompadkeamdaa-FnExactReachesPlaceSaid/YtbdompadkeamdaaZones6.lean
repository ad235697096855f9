/- Zones: the walks of the program's test of a zone, third part. -/
import Derived.Test.YtbdompadkeamdaaProg
import Derived.Test.YtbdompadkeamdaaKit
import Derived.Test.YtbdompadkeamdaaBasics
import Derived.Test.YtbdompadkeamdaaMem
import Derived.Test.YtbdompadkeamdaaCodeRes
import Derived.Test.YtbdompadkeamdaaLists
import Derived.Test.YtbdompadkeamdaaPts
import Derived.Test.YtbdompadkeamdaaZonePlain
import Derived.Test.YtbdompadkeamdaaZones
import Derived.Test.YtbdompadkeamdaaZones2
import Derived.Test.YtbdompadkeamdaaZones3
import Derived.Test.YtbdompadkeamdaaZones4
import Derived.Test.YtbdompadkeamdaaZones5
namespace Go.Proofs.Ytbdompadkeamdaa
open Go.RowKit Go.WideShapes Go.ChangeShapes Go.Joins Go.Deep Go.Sort
set_option linter.unusedVariables false
set_option linter.unusedSimpArgs false

def shapeB (L : List (Int × Int)) : Bool := inB (L.length : Int) 3 12 && placesB L && turnsB L
theorem zoneB_shape {k s e : Int} {L : List (Int × Int)} (h1 : inB k 1 3 = true) (h2 : heightB k s e = true) : zoneB k s e L = shapeB L := by simp [zoneB, shapeB, h1, h2]
set_option maxHeartbeats 1000000 in
theorem shapeOk_any (k s e : Int) (A : Option Addr) (n c : Nat) (L : List (Int × Int)) (w : World) (h : Steps w w.heap.size A n L) (hn : n ≤ maxLen) :
    Calls Try.prog 53 #[zoneV k s e A n c] w fun en w' => en = .returned (.bool (shapeB L)) ∧ Below w.heap.size w w' := by
  have hmf : ∀ (fn : Fn) (first cap : Array Value) (w : World), (Instr.makeFunc fn first cap).run Try.prog w = .ok (.func fn first cap) w := fun _ _ _ _ => rfl
  have hn' := hn
  unfold maxLen at hn
  have H := Lib.hid h
  clear h
  have B0 := below_alloc2 w (.cells #[.int .i64 k, .int .i64 s, .int .i64 e, .slice A n c] 29) (.cells #[.int .i64 n] 3)
  by_cases h1 : n < 3
  · have E : Hid (shapeB L = false) := by show shapeB L = false; unfold shapeB; rw [inB_false (by rw [H.out.1]; omega)]; rfl
    have i1 : (n : Int) < 3 := by omega
    go_enter Try.func53, Try.ntmps53
    go_wp2
    go_ret
    exact ⟨ret_bool E.out.symm, B0⟩
  · by_cases h2 : 12 < n
    · have E : Hid (shapeB L = false) := by show shapeB L = false; unfold shapeB; rw [inB_false (by rw [H.out.1]; omega)]; rfl
      have i1 : ¬ (n : Int) < 3 := by omega
      have i2 : (12 : Int) < n := by omega
      go_enter Try.func53, Try.ntmps53
      go_wp2
      go_ret
      exact ⟨ret_bool E.out.symm, B0⟩
    · have hr : inB (L.length : Int) 3 12 = true := inB_true (by rw [H.out.1]; omega) (by rw [H.out.1]; omega)
      have i1 : ¬ (n : Int) < 3 := by omega
      have i2 : ¬ (12 : Int) < n := by omega
      have CC := fun w' (hb : Below w.heap.size w w') => containsBad_any A n c L w' (H.out.next hb) hn'
      cases hp : placesB L
      · have E : Hid (shapeB L = false) := by show shapeB L = false; unfold shapeB; rw [hr, hp]; rfl
        rw [hp] at CC
        have HC := Lib.hid CC
        have B0 := Lib.hid B0
        clear CC hp hr h1 h2
        go_enter Try.func53, Try.ntmps53
        go_wp2_with fail
        refine (HC.out _ B0.out).mono ?_
        rintro en w1 ⟨rfl, hb1⟩
        have B1 := B0.out.trans (hb1.mono B0.out.size)
        clear hb1 B0
        go_wp2
        go_ret
        exact ⟨ret_bool E.out.symm, B1⟩
      · have E : Hid (shapeB L = turnsB L) := by show shapeB L = turnsB L; unfold shapeB; rw [hr, hp]; rfl
        rw [hp] at CC
        have HC := Lib.hid CC
        have HP := Lib.hid hp
        have KZ := Lib.hid ((Blk.new w 29 #[.int .i64 k, .int .i64 s, .int .i64 e, .slice A n c]).alloc (.cells #[.int .i64 n] 3))
        have KN := Lib.hid (Blk.new2 w (.cells #[.int .i64 k, .int .i64 s, .int .i64 e, .slice A n c] 29) 3 #[.int .i64 n])
        have B0 := Lib.hid B0
        clear CC hp hr h1 h2
        go_enter Try.func53, Try.ntmps53
        go_wp2_with fail
        refine (HC.out _ B0.out).mono ?_
        rintro en w1 ⟨rfl, hb1⟩
        have B1 := B0.out.trans (hb1.mono B0.out.size)
        have KZ1 := KZ.out.on hb1
        have KN1 := Lib.hid (KN.out.on hb1)
        obtain ⟨c0, c1, c2, c3⟩ := KZ1.four
        have KZ1 := Lib.hid KZ1
        clear hb1 B0 KZ KN
        go_wp2_with fail
        refine (sidesTurn_any k s e A n c L _ _ _ KZ1.out KN1.out (H.out.next B1) hn' HP.out).mono ?_
        rintro en w2 ⟨rfl, hb2⟩
        have B2 := B1.trans (hb2.mono B1.size)
        clear hb2 B1 KZ1 KN1 c0 c1 c2 c3
        go_wp2
        go_ret
        exact ⟨ret_bool E.out.symm, B2⟩
set_option maxHeartbeats 2000000 in
theorem implValidZone_any (k s e : Int) (A : Option Addr) (n c : Nat) (L : List (Int × Int)) (w : World) (h : Steps w w.heap.size A n L) (hn : n ≤ maxLen) :
    Calls Try.prog 20 #[zoneV k s e A n c] w fun en w' => en = .returned (.bool (zoneB k s e L)) ∧ Below w.heap.size w w' := by
  have HS := Lib.hid (fun w' (hb : Below w.heap.size w w') => shapeOk_any k s e A n c L w' (h.next hb) hn)
  have B0 := below_alloc1 w (.cells #[.int .i64 k, .int .i64 s, .int .i64 e, .slice A n c] 29)
  clear h hn
  cases h1 : inB k 1 3
  · have b1 := inB_not h1
    have t1 : (k == 1) = false := beq_eq_false_iff_ne.2 (by omega)
    have t2 : (k == 2) = false := beq_eq_false_iff_ne.2 (by omega)
    have t3 : (k == 3) = false := beq_eq_false_iff_ne.2 (by omega)
    have E0 := zoneB_kind (s := s) (e := e) (L := L) h1
    clear b1 h1
    have E := Lib.hid (E0)
    go_enter Try.func20, Try.ntmps20
    go_wp2_with (first | (go_at_call 52; refine (within_any _ _ _ _).mono ?_; rintro e w' ⟨rfl, rfl⟩))
    go_ret
    exact ⟨ret_bool E.out.symm, B0⟩
  · have b1 := inB_of h1
    by_cases hk : k = 1
    · have t1 : (k == 1) = true := by simpa using hk
      cases h3 : inB s 1 60
      · have E0 := zoneB_height (L := L) (height_s (e := e) hk h3)
        clear hk
        have E := Lib.hid (E0)
        go_enter Try.func20, Try.ntmps20
        go_wp2_with (first | (go_at_call 52; refine (within_any _ _ _ _).mono ?_; rintro e w' ⟨rfl, rfl⟩))
        go_ret
        exact ⟨ret_bool E.out.symm, B0⟩
      · cases h4 : inB e 20 60
        · have E0 := zoneB_height (L := L) (height_e (s := s) hk h4)
          clear hk
          have E := Lib.hid (E0)
          go_enter Try.func20, Try.ntmps20
          go_wp2_with (first | (go_at_call 52; refine (within_any _ _ _ _).mono ?_; rintro e w' ⟨rfl, rfl⟩))
          go_ret
          exact ⟨ret_bool E.out.symm, B0⟩
        · have b3 := inB_of h3
          have b4 := inB_of h4
          obtain ⟨m0, m1⟩ := mul_bd (a := s) (b := e) (A := 60) (B := 60) (by omega) (by omega) (by omega) (by omega)
          by_cases hm : s * e ≤ 2000
          · have t5 : decide (2000 < s * e) = false := by simpa using hm
            have E0 := zoneB_shape (L := L) h1 (height_g hk h3 h4 hm)
            clear hk hm h1
            have E := Lib.hid (E0)
            go_enter Try.func20, Try.ntmps20
            go_wp2_with (first | (go_at_call 52; refine (within_any _ _ _ _).mono ?_; rintro e w' ⟨rfl, rfl⟩) | (go_at_call 53; refine (HS.out _ B0).mono ?_; rintro en w1 ⟨rfl, hb1⟩))
            go_ret
            exact ⟨ret_bool E.out.symm, B0.trans (hb1.mono B0.size)⟩
          · have t5 : decide (2000 < s * e) = true := by simpa using hm
            have E0 := zoneB_height (L := L) (height_m hk hm)
            clear hk hm h1
            have E := Lib.hid (E0)
            go_enter Try.func20, Try.ntmps20
            go_wp2_with (first | (go_at_call 52; refine (within_any _ _ _ _).mono ?_; rintro e w' ⟨rfl, rfl⟩))
            go_ret
            exact ⟨ret_bool E.out.symm, B0⟩
    · have t1 : (k == 1) = false := beq_eq_false_iff_ne.2 hk
      by_cases hk2 : k = 2
      · have t2 : (k == 2) = true := by simpa using hk2
        by_cases h3 : s = 0
        · have t5 : (s != 0) = false := by rw [bne_eq_false_iff_eq]; exact h3
          by_cases h4 : e = 0
          · have t6 : (e != 0) = false := by rw [bne_eq_false_iff_eq]; exact h4
            have E0 := zoneB_shape (L := L) h1 (height_g0 hk h3 h4)
            clear hk h1 h3 h4 hk2
            have E := Lib.hid (E0)
            go_enter Try.func20, Try.ntmps20
            go_wp2_with (first | (go_at_call 52; refine (within_any _ _ _ _).mono ?_; rintro e w' ⟨rfl, rfl⟩) | (go_at_call 53; refine (HS.out _ B0).mono ?_; rintro en w1 ⟨rfl, hb1⟩))
            go_ret
            exact ⟨ret_bool E.out.symm, B0.trans (hb1.mono B0.size)⟩
          · have t6 : (e != 0) = true := by rw [bne_iff_ne]; exact h4
            have E0 := zoneB_height (L := L) (height_e0 (s := s) hk h4)
            clear hk h1 h3 h4 hk2
            have E := Lib.hid (E0)
            go_enter Try.func20, Try.ntmps20
            go_wp2_with (first | (go_at_call 52; refine (within_any _ _ _ _).mono ?_; rintro e w' ⟨rfl, rfl⟩))
            go_ret
            exact ⟨ret_bool E.out.symm, B0⟩
        · have t5 : (s != 0) = true := by rw [bne_iff_ne]; exact h3
          have E0 := zoneB_height (L := L) (height_s0 (e := e) hk h3)
          clear hk h1 h3 hk2
          have E := Lib.hid (E0)
          go_enter Try.func20, Try.ntmps20
          go_wp2_with (first | (go_at_call 52; refine (within_any _ _ _ _).mono ?_; rintro e w' ⟨rfl, rfl⟩))
          go_ret
          exact ⟨ret_bool E.out.symm, B0⟩
      · have t2 : (k == 2) = false := beq_eq_false_iff_ne.2 hk2
        have t3 : (k == 3) = true := by simp; omega
        by_cases h3 : s = 0
        · have t5 : (s != 0) = false := by rw [bne_eq_false_iff_eq]; exact h3
          by_cases h4 : e = 0
          · have t6 : (e != 0) = false := by rw [bne_eq_false_iff_eq]; exact h4
            have E0 := zoneB_shape (L := L) h1 (height_g0 hk h3 h4)
            clear hk h1 h3 h4 hk2
            have E := Lib.hid (E0)
            go_enter Try.func20, Try.ntmps20
            go_wp2_with (first | (go_at_call 52; refine (within_any _ _ _ _).mono ?_; rintro e w' ⟨rfl, rfl⟩) | (go_at_call 53; refine (HS.out _ B0).mono ?_; rintro en w1 ⟨rfl, hb1⟩))
            go_ret
            exact ⟨ret_bool E.out.symm, B0.trans (hb1.mono B0.size)⟩
          · have t6 : (e != 0) = true := by rw [bne_iff_ne]; exact h4
            have E0 := zoneB_height (L := L) (height_e0 (s := s) hk h4)
            clear hk h1 h3 h4 hk2
            have E := Lib.hid (E0)
            go_enter Try.func20, Try.ntmps20
            go_wp2_with (first | (go_at_call 52; refine (within_any _ _ _ _).mono ?_; rintro e w' ⟨rfl, rfl⟩))
            go_ret
            exact ⟨ret_bool E.out.symm, B0⟩
        · have t5 : (s != 0) = true := by rw [bne_iff_ne]; exact h3
          have E0 := zoneB_height (L := L) (height_s0 (e := e) hk h3)
          clear hk h1 h3 hk2
          have E := Lib.hid (E0)
          go_enter Try.func20, Try.ntmps20
          go_wp2_with (first | (go_at_call 52; refine (within_any _ _ _ _).mono ?_; rintro e w' ⟨rfl, rfl⟩))
          go_ret
          exact ⟨ret_bool E.out.symm, B0⟩
theorem specValidZone_any (k s e : Int) (A : Option Addr) (n c : Nat) (L : List (Int × Int)) (w : World) (h : Steps w w.heap.size A n L) (hn : n ≤ maxLen) :
    Calls Try.prog 19 #[zoneV k s e A n c] w fun en w' => en = .returned (.bool (zoneB k s e L)) ∧ Below w.heap.size w w' := by
  have B0 := below_alloc1 w (.cells #[.int .i64 k, .int .i64 s, .int .i64 e, .slice A n c] 29)
  have H := Lib.hid (l05Ok_any k s e A n c L w.heap.size _ (Blk.new w 29 #[.int .i64 k, .int .i64 s, .int .i64 e, .slice A n c]) (h.next B0) hn)
  clear h hn
  go_enter Try.func19, Try.ntmps19
  go_wp2_with fail
  refine H.out.mono ?_
  rintro en w1 ⟨rfl, hb1⟩
  go_wp2
  go_ret
  exact ⟨rfl, B0.trans (hb1.mono B0.size)⟩
end Go.Proofs.Ytbdompadkeamdaa
