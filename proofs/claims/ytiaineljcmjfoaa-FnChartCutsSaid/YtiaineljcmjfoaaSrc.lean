/- The source of choices that the laws draw from: what it yields lies in its range, and only its own block turns. -/
import Derived.Test.YtiaineljcmjfoaaProg
import Derived.Test.YtiaineljcmjfoaaKit
import Derived.Test.YtiaineljcmjfoaaMem
import Derived.Test.YtiaineljcmjfoaaCodeRes
import Derived.Laws.BitsAllLaws
namespace Go.Proofs.Ytiaineljcmjfoaa
open Go.RowKit Go.WideShapes Go.ChangeShapes Go.Joins Go.Deep Go.Sort
set_option linter.unusedVariables false
set_option linter.unusedSimpArgs false

/-- a slice of bytes, below block B -/
def BytesAt (w : World) (B : Nat) (A : Option Addr) (n : Nat) : Prop := 0 < n → ∃ b o, A = some ⟨b, o, none⟩ ∧ b < B ∧ ∀ j, j < n → ∃ z : Int, 0 ≤ z ∧ z ≤ 255 ∧ w.cell? ⟨b, o + j, none⟩ = some (.int .u8 z)
section
variable {w w' : World} {B n : Nat} {A : Option Addr}
theorem BytesAt.keep (h : BytesAt w B A n) (hk : ∀ p : Addr, p.block < B → w'.cell? p = w.cell? p) : BytesAt w' B A n := fun hn => by
  obtain ⟨b, o, e, hb, hc⟩ := h hn
  exact ⟨b, o, e, hb, fun j hj => by
    obtain ⟨z, z0, z1, hz⟩ := hc j hj
    exact ⟨z, z0, z1, (hk ⟨b, _, none⟩ hb).trans hz⟩⟩
theorem BytesAt.below (h : BytesAt w B A n) (hb : Below B w w') : BytesAt w' B A n := h.keep fun _ hp => hb.cell hp
theorem BytesAt.grown (h : BytesAt w B A n) {row : Option Nat} (hg : w.grownBy w' row) (hB : B ≤ w.heap.size) (hr : ∀ g, row = some g → B ≤ g) : BytesAt w' B A n :=
  h.keep fun p hp => World.cell?_of_block (hg.block p.block (by omega) (fun e => by have := hr _ e.symm; omega))
end
def U64 (x : Int) : Prop := 0 ≤ x ∧ x < 18446744073709551616
theorem u64_wrap (x : Int) : U64 (IntKind.u64.wrap x) := by
  show 0 ≤ x % 18446744073709551616 ∧ x % 18446744073709551616 < 18446744073709551616
  omega
theorem seed_byte {x : Int} (h : U64 x) : 0 ≤ wrap64 (bits BinOp.and IntKind.u64 (x / 1099511627776) 255) ∧ wrap64 (bits BinOp.and IntKind.u64 (x / 1099511627776) 255) ≤ 255 := by
  obtain ⟨h0, h1⟩ := h
  rw [u64_and _ _ (by omega) (by omega) (by omega) (by omega)]
  have := Nat.and_le_right (n := (x / 1099511627776).toNat) (m := (255 : Int).toNat)
  have e : (255 : Int).toNat = 255 := rfl
  rw [e] at this ⊢
  rw [IntWalk.wrap64_in _ (by omega)]
  omega
/-- the source: its bytes, how many were taken, its seed -/
def Src (w : World) (g : Nat) (A : Option Addr) (n c : Nat) (t : Int) : Prop := ∃ sd : Int, Blk w g 76 #[.slice A n c, .int .i64 t, .int .u64 sd] ∧ U64 sd
theorem src_set (w : World) (g i : Nat) (v : Value) : w.grownBy (w.setCell ⟨g, i, none⟩ v) (some g) := ⟨rfl, rfl, rfl, by simp, fun k _ hne => Below.heap_setCell _ _ _ _ (by simpa using hne)⟩
theorem Blk.three {w : World} {g : Nat} {t : TypeId} {a b c : Value} (h : Blk w g t #[a, b, c]) : w.cell? ⟨g, 0, none⟩ = some a ∧ w.cell? ⟨g, 1, none⟩ = some b ∧ w.cell? ⟨g, 2, none⟩ = some c := ⟨h.cell 0, h.cell 1, h.cell 2⟩

def NextOut (w : World) (g : Nat) (A : Option Addr) (n c : Nat) (t : Int) (e : Ending) (w' : World) : Prop := ∃ b : Int, e = .returned (.int .i64 b) ∧ 0 ≤ b ∧ b ≤ 255 ∧ Src w' g A n c (t + 1) ∧ w.grownBy w' (some g)
set_option maxHeartbeats 1000000 in
theorem next_any (A : Option Addr) (n c : Nat) (t : Int) (B g : Nat) (w : World) (hS : Src w g A n c t) (hB : BytesAt w B A n) (hn : n ≤ 3000) (t0 : 0 ≤ t) (t1 : t ≤ 1000000) :
    Calls Try.prog 83 #[.pointer (some ⟨g, 0, none⟩)] w (NextOut w g A n c t) := by
  obtain ⟨sd, K, _⟩ := hS
  obtain ⟨c0, c1, c2⟩ := K.three
  have z1 := K.frozen 1
  have z2 := K.frozen 2
  have lt := K.lt
  have HK := Lib.hid K
  clear K
  by_cases h : t < (n : Int)
  · obtain ⟨j, rfl⟩ : ∃ j : Nat, t = j := ⟨t.toNat, by omega⟩
    obtain ⟨b, o, rfl, hb, hc⟩ := hB (by omega)
    obtain ⟨z, y0, y1, hz⟩ := hc j (by omega)
    clear hB hc
    have d1 : decide ((j : Int) < (n : Int)) = true := by simpa using h
    have d2 : decide ((j : Int) + 1 ≤ (n : Int)) = true := by simp; omega
    have v1 := IntWalk.i64_in ((j : Int) + 1) (by omega)
    go_enter Try.func83, Try.ntmps83
    go_wp2
    go_quiet (fail)
    go_wp2
    go_quiet (fail)
    go_wp2
    refine name_world (f := fun w => (Code.region _ _ _).wp _ _ _ w) ?_
    intro W hW
    obtain ⟨sd', K, hu⟩ : Src W g (some ⟨b, o, none⟩) n c ((j : Int) + 1) := ⟨_, by rw [hW]; exact ((HK.out.drewN _).set_ 1 _).set_ 2 _, u64_wrap _⟩
    have G : w.grownBy W (some g) := by rw [hW]; exact grown_trans (grown_trans (grown_drewN (World.grownBy.refl _ _) _) (src_set _ _ _ _)) (src_set _ _ _ _)
    clear hW c0 c1 c2 z1 z2 lt hz
    obtain ⟨c0, c1, c2⟩ := K.three
    have K := Lib.hid K
    have HU := Lib.hid hu
    clear hu
    go_quiet (fail)
    go_wp2
    go_ret
    exact ⟨z, rfl, y0, y1, ⟨sd', K.out.drewN _, HU.out⟩, grown_drewN G _⟩
  · have d1 : decide (t < (n : Int)) = false := by simpa using h
    have d2 : decide (t + 1 ≤ (n : Int)) = false := by simp; omega
    have v1 := IntWalk.i64_in (t + 1) (by omega)
    clear hB
    go_enter Try.func83, Try.ntmps83
    go_wp2
    go_quiet (fail)
    go_wp2
    refine name_world (f := fun w => (Code.region _ _ _).wp _ _ _ w) ?_
    intro W hW
    obtain ⟨sd', K, hu⟩ : Src W g A n c (t + 1) := ⟨_, by rw [hW]; exact ((HK.out.drewN _).set_ 1 _).set_ 2 _, u64_wrap _⟩
    have G : w.grownBy W (some g) := by rw [hW]; exact grown_trans (grown_trans (grown_drewN (World.grownBy.refl _ _) _) (src_set _ _ _ _)) (src_set _ _ _ _)
    clear hW c0 c1 c2 z1 z2 lt
    obtain ⟨c0, c1, c2⟩ := K.three
    have K := Lib.hid K
    have HU := Lib.hid hu
    clear hu
    go_quiet (fail)
    go_wp2
    go_ret
    exact ⟨_, rfl, (seed_byte HU.out).1, (seed_byte HU.out).2, ⟨sd', K.out.drewN _, HU.out⟩, grown_drewN G _⟩
end Go.Proofs.Ytiaineljcmjfoaa
