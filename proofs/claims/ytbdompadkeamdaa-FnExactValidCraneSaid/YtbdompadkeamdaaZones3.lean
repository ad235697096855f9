/- Zones: the walks of the test of a zone on both sides. -/
import Derived.Test.YtbdompadkeamdaaProg
import Derived.Test.YtbdompadkeamdaaKit
import Derived.Test.YtbdompadkeamdaaBasics
import Derived.Test.YtbdompadkeamdaaMem
import Derived.Test.YtbdompadkeamdaaCodeRes
import Derived.Test.YtbdompadkeamdaaLists
import Derived.Test.YtbdompadkeamdaaPts
import Derived.Test.YtbdompadkeamdaaZonePlain
import Derived.Test.YtbdompadkeamdaaZones
import Derived.Test.YtbdompadkeamdaaZones2
import Derived.StillTailTactics
namespace Go.Proofs.Ytbdompadkeamdaa
open Go.RowKit Go.WideShapes Go.ChangeShapes Go.Joins Go.Deep Go.Sort
set_option linter.unusedVariables false
set_option linter.unusedSimpArgs false

section
variable {k s e : Int} {L : List (Int × Int)}
theorem zoneB_kind (h : inB k 1 3 = false) : zoneB k s e L = false := by simp [zoneB, h]
theorem zoneB_len (h : inB (L.length : Int) 3 12 = false) : zoneB k s e L = false := by simp [zoneB, h]
theorem zoneB_places (h : placesB L = false) : zoneB k s e L = false := by simp [zoneB, h]
theorem zoneB_height (h : heightB k s e = false) : zoneB k s e L = false := by simp [zoneB, h]
theorem zoneB_good (h1 : inB k 1 3 = true) (h2 : inB (L.length : Int) 3 12 = true) (h3 : placesB L = true) (h4 : heightB k s e = true) : zoneB k s e L = turnsB L := by simp [zoneB, h1, h2, h3, h4]
theorem height_s (hk : k = 1) (h : inB s 1 60 = false) : heightB k s e = false := by simp [heightB, hk, h]
theorem height_e (hk : k = 1) (h : inB e 20 60 = false) : heightB k s e = false := by simp [heightB, hk, h]
theorem height_m (hk : k = 1) (h : ¬ s * e ≤ 2000) : heightB k s e = false := by simp [heightB, hk, h]
theorem height_g (hk : k = 1) (h1 : inB s 1 60 = true) (h2 : inB e 20 60 = true) (h : s * e ≤ 2000) : heightB k s e = true := by simp [heightB, hk, h1, h2, h]
theorem height_s0 (hk : ¬ k = 1) (h : ¬ s = 0) : heightB k s e = false := by simp [heightB, hk, h]
theorem height_e0 (hk : ¬ k = 1) (h : ¬ e = 0) : heightB k s e = false := by simp [heightB, hk, h]
theorem height_g0 (hk : ¬ k = 1) (h1 : s = 0) (h2 : e = 0) : heightB k s e = true := by simp [heightB, hk, h1, h2]
end
theorem place_here {L : List (Int × Int)} {j : Nat} {x y : Int} (hx : L[j]? = some (x, y)) (h : placeB x y = false) : placesB L = false :=
  allN_false (List.getElem?_eq_some_iff.1 hx).1 (by rw [ptAt_of hx]; exact h)
theorem place_next {L : List (Int × Int)} {j : Nat} {x y : Int} (h0 : ∀ i, i < j → placeB (ptAt L i).1 (ptAt L i).2 = true) (hx : L[j]? = some (x, y)) (h : placeB x y = true) : ∀ i, i < j + 1 → placeB (ptAt L i).1 (ptAt L i).2 = true :=
  upto_next (P := fun i => placeB (ptAt L i).1 (ptAt L i).2) h0 (by rw [ptAt_of hx]; exact h)
theorem place_end {L : List (Int × Int)} {j n : Nat} (hL : L.length = n) (h0 : ∀ i, i < j → placeB (ptAt L i).1 (ptAt L i).2 = true) (h : ¬ j < n) : placesB L = true :=
  allN_true fun i hi => h0 i (by omega)
set_option maxHeartbeats 4000000 in
theorem l05Ok_any (k s e : Int) (A : Option Addr) (n c : Nat) (L : List (Int × Int)) (g : Nat) (w : World) (K : Blk w g 29 #[.int .i64 k, .int .i64 s, .int .i64 e, .slice A n c]) (h : Steps w w.heap.size A n L) (hn : n ≤ maxLen) :
    Calls Try.prog 51 #[.pointer (some ⟨g, 0, none⟩)] w fun en w' => en = .returned (.bool (zoneB k s e L)) ∧ Below w.heap.size w w' := by
  have hn' := hn
  unfold maxLen at hn
  have H := Lib.hid h
  have HK := Lib.hid K
  clear h
  cases h1 : inB k 1 3
  · rw [zoneB_kind h1]
    obtain ⟨c0, c1, c2, c3⟩ := K.four
    clear K
    go_enter Try.func51, Try.ntmps51
    go_wp2_with (go_at_call 83; refine (l00In_any _ _ _ _).mono ?_; rintro e w' ⟨rfl, rfl⟩)
    go_ret
    exact ⟨rfl, Below.refl _ _⟩
  · cases h2 : inB (n : Int) 3 12
    · rw [zoneB_len (by rw [H.out.1]; exact h2)]
      obtain ⟨c0, c1, c2, c3⟩ := K.four
      clear K
      go_enter Try.func51, Try.ntmps51
      go_wp2_with (go_at_call 83; refine (l00In_any _ _ _ _).mono ?_; rintro e w' ⟨rfl, rfl⟩)
      go_ret
      exact ⟨rfl, Below.refl _ _⟩
    · obtain ⟨c0, c1, c2, c3⟩ := K.four
      clear K
      go_enter Try.func51, Try.ntmps51
      go_wp2_with (go_at_call 83; refine (l00In_any _ _ _ _).mono ?_; rintro e w' ⟨rfl, rfl⟩)
      clear c0 c1 c2 c3
      go_loopw [3] (fun i wr => ∃ j : Nat, j ≤ n ∧ i = .int .i64 j ∧ Below w.heap.size w wr ∧ Hid (∀ i, i < j → placeB (ptAt L i).1 (ptAt L i).2 = true)) (fun i _ => n - (intOf i).toNat)
      case atStart => exact ⟨0, Nat.zero_le _, rfl, Below.refl _ _, fun i hi => absurd hi (by omega)⟩
      case round =>
        obtain ⟨j, hj, rfl, HB, HJ⟩ := hrel
        obtain ⟨c0, c1, c2, c3⟩ := (HK.out.on HB).four
        by_cases hjn : j < n
        · obtain ⟨b, o, x, y, rfl, _, hx, hc1, hc2⟩ := (H.out.below HB).at_ hjn
          have i1 : (0 : Int) ≤ (j : Int) := Int.natCast_nonneg _
          have i2 : (j : Int) < (n : Int) := by omega
          cases hp : placeB x y
          · have E := Lib.hid (zoneB_places (k := k) (s := s) (e := e) (place_here hx hp))
            clear hx
            have HO := Lib.hid (fun w => l02Ok_any x y w)
            rw [hp] at HO
            clear hp
            go_wp2_with (go_at_call 57; refine (HO.out _).mono ?_; rintro e w1 ⟨rfl, hb1⟩)
            have B1 := HB.trans (hb1.mono HB.size)
            go_ret
            exact ⟨ret_bool E.out.symm, B1⟩
          · have E := Lib.hid (place_next HJ.out hx hp)
            clear hx
            have HO := Lib.hid (fun w => l02Ok_any x y w)
            rw [hp] at HO
            clear hp
            go_wp2_with (go_at_call 57; refine (HO.out _).mono ?_; rintro e w1 ⟨rfl, hb1⟩)
            have B1 := HB.trans (hb1.mono HB.size)
            exact ⟨⟨j + 1, by omega, by go_num, B1, E⟩, by simp [intOf]; omega⟩
        · have P := place_end H.out.1 HJ.out hjn
          have HT := Lib.hid (fun w h => l05Turns_any A n c L w h hn' P)
          have S1 := (H.out.below HB).more HB.size
          have GD := Lib.hid (zoneB_good (k := k) (s := s) (e := e) h1 (by rw [H.out.1]; exact h2) P)
          have HTR := Lib.hid (fun d os => l05Turns_any A n c L (grow (redrawn wr d) os) (S1.next (below_regrown wr d os)) hn' P)
          have S1 := Lib.hid S1
          clear P h2
          by_cases hk : k = 1
          · have t1 : (k != 1) = false := by rw [bne_eq_false_iff_eq]; exact hk
            cases h3 : inB s 1 60
            · have hh := height_s (e := e) hk h3
              clear hk
              have E := Lib.hid (zoneB_height (L := L) hh)
              have f0 := cell_regrown c0
              have f1 := cell_regrown c1
              have f2 := cell_regrown c2
              have f3 := cell_regrown c3
              go_wp2_with fail
              refine wp_region_quiet_below (by kernel_rfl) (by kernel_rfl) ?_
              repeat (first | go_big_quiet_step (first | exact Calls.regrown_of (same_below (l00In_any _ _ _ _)) | exact Calls.regrown_of (HTR.out _ _)) | quiet_step (first | exact Calls.regrown_of (same_below (l00In_any _ _ _ _)) | exact Calls.regrown_of (HTR.out _ _)))
              refine wpQuiet_nil ?_
              intro w1 hw1
              have hb1 := class_below hw1
              have B1 := HB.trans (hb1.mono HB.size)
              clear f0 f1 f2 f3 hw1 hb1
              go_wp2
              go_ret
              exact ⟨ret_bool E.out.symm, B1⟩
            · cases h4 : inB e 20 60
              · have hh := height_e (s := s) hk h4
                clear hk
                have E := Lib.hid (zoneB_height (L := L) hh)
                have f0 := cell_regrown c0
                have f1 := cell_regrown c1
                have f2 := cell_regrown c2
                have f3 := cell_regrown c3
                go_wp2_with fail
                refine wp_region_quiet_below (by kernel_rfl) (by kernel_rfl) ?_
                repeat (first | go_big_quiet_step (first | exact Calls.regrown_of (same_below (l00In_any _ _ _ _)) | exact Calls.regrown_of (HTR.out _ _)) | quiet_step (first | exact Calls.regrown_of (same_below (l00In_any _ _ _ _)) | exact Calls.regrown_of (HTR.out _ _)))
                refine wpQuiet_nil ?_
                intro w1 hw1
                have hb1 := class_below hw1
                have B1 := HB.trans (hb1.mono HB.size)
                clear f0 f1 f2 f3 hw1 hb1
                go_wp2
                go_ret
                exact ⟨ret_bool E.out.symm, B1⟩
              · have b3 := inB_of h3
                have b4 := inB_of h4
                obtain ⟨m0, m1⟩ := mul_bd (a := s) (b := e) (A := 60) (B := 60) (by omega) (by omega) (by omega) (by omega)
                have v1 := IntWalk.i64_in (s * e) (by omega)
                by_cases hm : s * e ≤ 2000
                · have t5 : decide (s * e ≤ 2000) = true := by simpa using hm
                  have hh := height_g hk h3 h4 hm
                  clear hk
                  have E := Lib.hid (GD.out hh)
                  have f0 := cell_regrown c0
                  have f1 := cell_regrown c1
                  have f2 := cell_regrown c2
                  have f3 := cell_regrown c3
                  go_wp2_with fail
                  refine wp_region_quiet_below (by kernel_rfl) (by kernel_rfl) ?_
                  repeat (first | go_big_quiet_step (first | exact Calls.regrown_of (same_below (l00In_any _ _ _ _)) | exact Calls.regrown_of (HTR.out _ _)) | quiet_step (first | exact Calls.regrown_of (same_below (l00In_any _ _ _ _)) | exact Calls.regrown_of (HTR.out _ _)))
                  refine wpQuiet_nil ?_
                  intro w1 hw1
                  have hb1 := class_below hw1
                  have B1 := HB.trans (hb1.mono HB.size)
                  clear f0 f1 f2 f3 hw1 hb1
                  go_wp2
                  go_ret
                  exact ⟨ret_bool E.out.symm, B1⟩
                · have t5 : decide (s * e ≤ 2000) = false := by simpa using hm
                  have hh := height_m hk hm
                  clear hk
                  have E := Lib.hid (zoneB_height (L := L) hh)
                  have f0 := cell_regrown c0
                  have f1 := cell_regrown c1
                  have f2 := cell_regrown c2
                  have f3 := cell_regrown c3
                  go_wp2_with fail
                  refine wp_region_quiet_below (by kernel_rfl) (by kernel_rfl) ?_
                  repeat (first | go_big_quiet_step (first | exact Calls.regrown_of (same_below (l00In_any _ _ _ _)) | exact Calls.regrown_of (HTR.out _ _)) | quiet_step (first | exact Calls.regrown_of (same_below (l00In_any _ _ _ _)) | exact Calls.regrown_of (HTR.out _ _)))
                  refine wpQuiet_nil ?_
                  intro w1 hw1
                  have hb1 := class_below hw1
                  have B1 := HB.trans (hb1.mono HB.size)
                  clear f0 f1 f2 f3 hw1 hb1
                  go_wp2
                  go_ret
                  exact ⟨ret_bool E.out.symm, B1⟩
          · have t1 : (k != 1) = true := by rw [bne_iff_ne]; exact hk
            by_cases h3 : s = 0
            · have t3 : (s == 0) = true := by simpa using h3
              by_cases h4 : e = 0
              · have t4 : (e == 0) = true := by simpa using h4
                have hh := height_g0 hk h3 h4
                clear hk h3 h4
                have E := Lib.hid (GD.out hh)
                go_wp2_with (go_at_call 84; refine (HT.out _ S1.out).mono ?_; rintro e w1 ⟨rfl, hb1⟩)
                go_ret
                exact ⟨ret_bool E.out.symm, HB.trans (hb1.mono HB.size)⟩
              · have t4 : (e == 0) = false := by simpa using h4
                have hh := height_e0 (s := s) hk h4
                clear hk h3 h4
                have E := Lib.hid (zoneB_height (L := L) hh)
                go_wp2
                go_ret
                exact ⟨ret_bool E.out.symm, HB⟩
            · have t3 : (s == 0) = false := by simpa using h3
              have hh := height_s0 (e := e) hk h3
              clear hk h3
              have E := Lib.hid (zoneB_height (L := L) hh)
              go_wp2
              go_ret
              exact ⟨ret_bool E.out.symm, HB⟩
end Go.Proofs.Ytbdompadkeamdaa
