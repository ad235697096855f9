/- Choices out of the source: numbers in a range, places; what the laws read of their bytes. -/
import Derived.Test.YtiaineljcmjfoaaProg
import Derived.Test.YtiaineljcmjfoaaKit
import Derived.Test.YtiaineljcmjfoaaMem
import Derived.Test.YtiaineljcmjfoaaCodeRes
import Derived.Test.YtiaineljcmjfoaaSrc
import Derived.Deep.RegionHeld3
namespace Go.Proofs.Ytiaineljcmjfoaa
open Go.RowKit Go.WideShapes Go.ChangeShapes Go.Joins Go.Deep Go.Sort
set_option linter.unusedVariables false
set_option linter.unusedSimpArgs false

theorem Src.lt {w : World} {g : Nat} {A : Option Addr} {n c : Nat} {t : Int} (h : Src w g A n c t) : g < w.heap.size := by
  obtain ⟨sd, K, _⟩ := h; exact K.lt
theorem Src.on {w w' : World} {g : Nat} {A : Option Addr} {n c : Nat} {t : Int} (h : Src w g A n c t) (hb : Below w.heap.size w w') : Src w' g A n c t := by
  obtain ⟨sd, K, U⟩ := h; exact ⟨sd, K.on hb, U⟩
theorem Src.far {w : World} {g : Nat} {A : Option Addr} {n c : Nat} {t : Int} (h : Src w g A n c t) {p : Addr} (hp : g ≠ p.block) (u : Value) : Src (w.setCell p u) g A n c t := by
  obtain ⟨sd, K, U⟩ := h; exact ⟨sd, K.far hp u, U⟩
theorem Src.drewN {w : World} {g : Nat} {A : Option Addr} {n c : Nat} {t : Int} (h : Src w g A n c t) (k : Nat) : Src (w.drewN k) g A n c t := by
  obtain ⟨sd, K, U⟩ := h; exact ⟨sd, K.drewN k, U⟩
theorem mod_range {x m : Int} (hm : 1 ≤ m) : 0 ≤ x % m ∧ x % m < m := ⟨Int.emod_nonneg _ (by omega), Int.emod_lt_of_pos _ (by omega)⟩

def PickOut (w : World) (g : Nat) (A : Option Addr) (n c : Nat) (t m : Int) (e : Ending) (w' : World) : Prop := ∃ r t' : Int, e = .returned (.int .i64 r) ∧ 0 ≤ r ∧ r < m ∧ t ≤ t' ∧ t' ≤ t + 2 ∧ Src w' g A n c t' ∧ w.grownBy w' (some g)
set_option maxHeartbeats 400000 in
theorem pick_any (A : Option Addr) (n c : Nat) (t m : Int) (B g : Nat) (w : World) (hS : Src w g A n c t) (hB : BytesAt w B A n) (hBg : B ≤ g) (hn : n ≤ 3000) (t0 : 0 ≤ t) (t1 : t ≤ 900000) (m0 : 1 ≤ m) (m1 : m ≤ 60000) :
    Calls Try.prog 71 #[.pointer (some ⟨g, 0, none⟩), .int .i64 m] w (PickOut w g A n c t m) := by
  have lt := hS.lt
  by_cases h1 : m ≤ 1
  · obtain rfl : m = 1 := by omega
    go_enter Try.func71, Try.ntmps71
    go_wp2
    go_ret
    exact ⟨0, t, rfl, by omega, by omega, by omega, by omega, hS, World.grownBy.refl _ _⟩
  · have HS := Lib.hid hS
    have HB := Lib.hid hB
    clear hS hB
    have HN := Lib.hid (next_any A n c t B g w HS.out HB.out hn t0 (by omega))
    by_cases h2 : 200 < m
    · have d2 : decide (200 < m) = true := by simpa using h2
      go_enter Try.func71, Try.ntmps71
      go_wp2_with fail
      refine HN.out.mono ?_
      rintro e w1 ⟨a, rfl, a0, a1, S1, G1⟩
      have HS1 := Lib.hid S1
      have HG1 := Lib.hid G1
      have HB1 := Lib.hid (HB.out.grown G1 (by omega) (fun g' e => by injection e with e; omega))
      clear S1 G1
      go_wp2_with fail
      refine (next_any A n c (t + 1) B g w1 HS1.out HB1.out hn (by omega) (by omega)).mono ?_
      rintro e w2 ⟨b, rfl, b0, b1, S2, G2⟩
      have HS2 := Lib.hid S2
      have HG2 := Lib.hid (grown_trans HG1.out G2)
      have M := Lib.hid (mod_range (x := a * 256 + b) m0)
      clear S2 G2
      go_wp2
      go_ret
      exact ⟨(a * 256 + b) % m, t + 1 + 1, rfl, M.out.1, M.out.2, by omega, by omega, HS2.out, HG2.out⟩
    · have d2 : decide (200 < m) = false := by simpa using h2
      go_enter Try.func71, Try.ntmps71
      go_wp2_with fail
      refine HN.out.mono ?_
      rintro e w1 ⟨a, rfl, a0, a1, S1, G1⟩
      have HS1 := Lib.hid S1
      have HG1 := Lib.hid G1
      have M := Lib.hid (mod_range (x := a) m0)
      clear S1 G1
      go_wp2
      go_ret
      exact ⟨a % m, t + 1, rfl, M.out.1, M.out.2, by omega, by omega, HS1.out, HG1.out⟩
theorem l00From_any (A : Option Addr) (n c : Nat) (w : World) : Calls Try.prog 62 #[.slice A n c] w fun e w' => e = .returned (.pointer (some ⟨w.heap.size, 0, none⟩)) ∧ Src w' w.heap.size A n c 0 ∧ Below w.heap.size w w' := by
  go_enter Try.func62, Try.ntmps62
  go_wp2
  go_ret
  exact ⟨rfl, ⟨0, Blk.new _ _ _, by unfold U64; omega⟩, below_alloc1 w _⟩
theorem a2Long_nil (A : Option Addr) (n c : Nat) (w : World) (hn : n ≤ maxLen) : Calls Try.prog 36 #[.slice A n c, .slice none 0 0] w fun e w' => e = .returned (.bool (decide (3000 < n))) ∧ w = w' := by
  unfold maxLen at hn
  by_cases h : 3000 < n
  · have d : decide (3000 < (n : Int)) = true := by simp; omega
    rw [show decide (3000 < n) = true by simpa using h]
    go_enter Try.func36, Try.ntmps36
    go_wp2
    go_ret
    exact ⟨rfl, rfl⟩
  · have d : decide (3000 < (n : Int)) = false := by simp; omega
    rw [show decide (3000 < n) = false by simpa using h]
    go_enter Try.func36, Try.ntmps36
    go_wp2
    go_ret
    exact ⟨rfl, rfl⟩
def AtOut (w : World) (m : Int) (e : Ending) (w' : World) : Prop := ∃ r : Int, e = .returned (.int .i64 r) ∧ 0 ≤ r ∧ r < m ∧ w = w'
theorem a2At_any (A : Option Addr) (n c : Nat) (i m : Int) (B : Nat) (w : World) (hB : BytesAt w B A n) (hn : n ≤ 3000) (i0 : 0 ≤ i) (i1 : i ≤ 1000) (m0 : 1 ≤ m) (m1 : m ≤ 60000) : Calls Try.prog 38 #[.slice A n c, .int .i64 i, .int .i64 m] w (AtOut w m) := by
  by_cases h : (n : Int) ≤ i
  · have d : decide ((n : Int) ≤ i) = true := by simpa using h
    go_enter Try.func38, Try.ntmps38
    go_wp2
    go_ret
    exact ⟨0, rfl, by omega, by omega, rfl⟩
  · have d : decide ((n : Int) ≤ i) = false := by simpa using h
    obtain ⟨j, rfl⟩ : ∃ j : Nat, i = j := ⟨i.toNat, by omega⟩
    obtain ⟨b, o, rfl, hb, hc⟩ := hB (by omega)
    obtain ⟨z, y0, y1, hz⟩ := hc j (by omega)
    have M := Lib.hid (mod_range (x := z) m0)
    clear hB hc
    go_enter Try.func38, Try.ntmps38
    go_wp2
    go_ret
    exact ⟨z % m, rfl, M.out.1, M.out.2, rfl⟩
end Go.Proofs.Ytiaineljcmjfoaa
