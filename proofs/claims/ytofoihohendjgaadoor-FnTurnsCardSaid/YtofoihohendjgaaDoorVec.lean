/- The vectors of the directions: the plain words, and the walks of both sides. -/
import Derived.Test.YtofoihohendjgaaDoorProg
import Derived.Test.YtofoihohendjgaaDoorKit
import Derived.Test.YtofoihohendjgaaDoorBasics
import Derived.Test.YtofoihohendjgaaDoorMem
import Derived.Test.YtofoihohendjgaaDoorLists
import Derived.Test.YtofoihohendjgaaDoorDirs
import Derived.Test.YtofoihohendjgaaDoorDoor
namespace Go.Proofs.YtofoihohendjgaaDoor
open Go.RowKit Go.WideShapes Go.ChangeShapes Go.Joins Go.Deep Go.Sort
set_option linter.unusedVariables false
set_option linter.unusedSimpArgs false

def spinV : Nat → Int × Int → Int × Int
  | 0, p => p
  | k + 1, p => spinV k (-p.2, p.1)
def vecV (d : Nat) : Int × Int := spinV (d / 6) (quarterL.getD (d % 6) (0, 0))
abbrev QuarterAt (w : World) : Prop := Steps w w.heap.size (some ⟨0, 0, none⟩) 6 quarterL
theorem vec_start {d : Nat} (hd : d < 24) : ∃ (k m : Nat) (x y : Int), d = 6 * k + m ∧ m < 6 ∧ k ≤ 3 ∧ d % 6 = m ∧ quarterL[m]? = some (x, y) ∧ spinV k (x, y) = vecV d ∧ -1000 ≤ x ∧ x ≤ 1000 ∧ -1000 ≤ y ∧ y ≤ 1000 := by
  have hm : d % 6 < 6 := Nat.mod_lt _ (by omega)
  obtain ⟨m, hm', e⟩ : ∃ m, m < 6 ∧ d % 6 = m := ⟨_, hm, rfl⟩
  have hl : m < quarterL.length := hm'
  refine ⟨d / 6, m, (quarterL[m]).1, (quarterL[m]).2, by omega, hm', by omega, e, List.getElem?_eq_getElem hl, ?_, ?_⟩
  · unfold vecV; rw [e, List.getD_eq_getElem?_getD, List.getElem?_eq_getElem hl]; rfl
  · obtain rfl | rfl | rfl | rfl | rfl | rfl : m = 0 ∨ m = 1 ∨ m = 2 ∨ m = 3 ∨ m = 4 ∨ m = 5 := by omega
    all_goals simp [quarterL]
theorem vec_all : (List.range 24).all (fun d => decide (-1000 ≤ (vecV d).1) && decide ((vecV d).1 ≤ 1000) && (decide (-1000 ≤ (vecV d).2) && decide ((vecV d).2 ≤ 1000))) = true := by decide
theorem vec_bound {d : Nat} (hd : d < 24) : (-1000 ≤ (vecV d).1 ∧ (vecV d).1 ≤ 1000) ∧ -1000 ≤ (vecV d).2 ∧ (vecV d).2 ≤ 1000 := by
  have := List.all_eq_true.1 vec_all d (List.mem_range.2 hd)
  simpa using this

set_option maxHeartbeats 1000000 in
theorem vector_any (d : Nat) (w : World) (hd : d < 24) (hQ : QuarterAt w) : Calls Tryd.prog 26 #[.int .i64 (d : Int)] w fun e w' => e = .returned (.agg #[.int .i64 (vecV d).1, .int .i64 (vecV d).2]) ∧ Below w.heap.size w w' := by
  obtain ⟨k, m, x, y, rfl, hm, hk, em, hx, es, x0, x1, y0, y1⟩ := vec_start hd
  obtain ⟨b, o, ex, hb, hc⟩ := hQ.2 (by omega)
  obtain ⟨rfl, rfl⟩ : b = 0 ∧ o = 0 := by simpa [eq_comm] using ex
  obtain ⟨q1, q2⟩ := hc m _ hx
  rw [Nat.zero_add] at q1 q2
  have em2 : ((6 * k + m : Nat) : Int) % 6 = (m : Int) := by omega
  have i1 : (0 : Int) ≤ (m : Int) := Int.natCast_nonneg _
  have i2 : (m : Int) < 6 := by omega
  have i3 : (0 : Int) ≤ ((6 * k + m : Nat) : Int) := Int.natCast_nonneg _
  have ES := Lib.hid es
  generalize hD : ((6 * k + m : Nat) : Int) = D at em2 i3 ⊢
  have HD := Lib.hid hD
  clear es em hD hx hQ ex hc
  go_enter Tryd.func26, Tryd.ntmps26
  go_wp2
  have B0 : Below w.heap.size w ((w.alloc (.cells #[.int .i64 0, .int .i64 0] 23)).alloc (.cells #[.int .i64 x, .int .i64 y] 23)) := below_alloc2 _ _ _
  have KP := Lib.hid (show Blk ((w.alloc (.cells #[.int .i64 0, .int .i64 0] 23)).alloc (.cells #[.int .i64 x, .int .i64 y] 23)) (w.heap.size + 1) 23 #[.int .i64 x, .int .i64 y] from Blk.new2 _ _ _ _)
  have KR := Lib.hid (show Blk ((w.alloc (.cells #[.int .i64 0, .int .i64 0] 23)).alloc (.cells #[.int .i64 x, .int .i64 y] 23)) w.heap.size 23 #[.int .i64 0, .int .i64 0] from (Blk.new _ _ _).alloc _)
  go_loopw [0] (fun dv wr => ∃ (j : Nat) (u v : Int), j ≤ 3 ∧ dv = .int .i64 ((6 * j + m : Nat) : Int) ∧ -1000 ≤ u ∧ u ≤ 1000 ∧ -1000 ≤ v ∧ v ≤ 1000 ∧ Hid (spinV j (u, v) = vecV (6 * k + m)) ∧ Hid (Blk wr (w.heap.size + 1) 23 #[.int .i64 u, .int .i64 v]) ∧ Hid (Blk wr w.heap.size 23 #[.int .i64 0, .int .i64 0]) ∧ Below w.heap.size w wr) (fun dv _ => (intOf dv).toNat)
  case atStart => exact ⟨k, x, y, hk, by rw [HD.out], x0, x1, y0, y1, ES, KP, KR, B0⟩
  case round =>
    clear B0 KP KR
    obtain ⟨j, u, v, hj, rfl, u0, u1, v0, v1, EJ, KJ, KRJ, HB⟩ := hrel
    obtain ⟨c0, c1⟩ := KJ.out.two
    have fz := KJ.out.frozen 0
    have fz1 := KJ.out.frozen 1
    have lt := KJ.out.lt
    rcases Nat.eq_zero_or_pos j with h0 | h0
    · subst h0
      have t1 : decide ((6 : Int) ≤ ((6 * 0 + m : Nat) : Int)) = false := by simp; omega
      obtain ⟨r0, r1⟩ := KRJ.out.two
      have rz := KRJ.out.frozen 0
      have rz1 := KRJ.out.frozen 1
      have EV : u = (vecV (6 * k + m)).1 ∧ v = (vecV (6 * k + m)).2 := by have := EJ.out; unfold spinV at this; rw [← this]; exact ⟨rfl, rfl⟩
      obtain ⟨eu, ev⟩ := EV
      have BZ := Lib.hid ((HB.setCell (p := ⟨w.heap.size, 0, none⟩) (Nat.le_refl _) (.int .i64 u)).setCell (p := ⟨w.heap.size, 1, none⟩) (Nat.le_refl _) (.int .i64 v))
      have EU := Lib.hid eu
      have EW := Lib.hid ev
      clear eu ev
      go_wp2
      refine bodyPost_ret (v := .agg #[.int .i64 u, .int .i64 v]) (by simp [results, Tryd.results26, go_sem, r0, r1]) rfl ⟨by rw [← EU.out, ← EW.out], BZ.out⟩
    · obtain ⟨i, rfl⟩ : ∃ i, j = i + 1 := ⟨j - 1, by omega⟩
      have t1 : decide ((6 : Int) ≤ ((6 * (i + 1) + m : Nat) : Int)) = true := by simp; omega
      have ED : ((6 * (i + 1) + m : Nat) : Int) - 6 = ((6 * i + m : Nat) : Int) := by omega
      have d0 : (0 : Int) ≤ ((6 * (i + 1) + m : Nat) : Int) := Int.natCast_nonneg _
      have d1 : ((6 * (i + 1) + m : Nat) : Int) ≤ 100 := by omega
      have d2 : (6 : Int) ≤ ((6 * (i + 1) + m : Nat) : Int) := by omega
      generalize ((6 * (i + 1) + m : Nat) : Int) = D' at ED d0 d1 d2 t1 ⊢
      have NK := Lib.hid ((KJ.out.set_ 0 (.int .i64 (-v))).set_ 1 (.int .i64 u))
      have NR := Lib.hid ((KRJ.out.far (p := ⟨w.heap.size + 1, 0, none⟩) (by show _ ; first | omega | (simp; try omega)) (.int .i64 (-v))).far (p := ⟨w.heap.size + 1, 1, none⟩) (by show _ ; first | omega | (simp; try omega)) (.int .i64 u))
      have BZ := Lib.hid ((HB.setCell (p := ⟨w.heap.size + 1, 0, none⟩) (by show _ ; first | omega | (simp; try omega)) (.int .i64 (-v))).setCell (p := ⟨w.heap.size + 1, 1, none⟩) (by show _ ; first | omega | (simp; try omega)) (.int .i64 u))
      have EI := Lib.hid (show spinV i (-v, u) = vecV (6 * k + m) from EJ.out)
      have HE := Lib.hid ED
      clear ED
      go_wp2
      exact ⟨⟨i, -v, u, by omega, ret_val HE.out, by omega, by omega, by omega, by omega, EI, NK, NR, BZ.out⟩, by simp [intOf]; omega⟩
set_option maxHeartbeats 1000000 in
theorem l02Vector_any (d : Nat) (w : World) (hd : d < 24) : Calls Tryd.prog 24 #[.int .i64 (d : Int)] w fun e w' => e = .returned (.agg #[.int .i64 (vecV d).1, .int .i64 (vecV d).2]) ∧ Below w.heap.size w w' := by
  obtain ⟨k, m, x, y, rfl, hm, hk, em, hx, es, x0, x1, y0, y1⟩ := vec_start hd
  have KL := Blk.new2 w (.cells #[.int .i64 0, .int .i64 0] 23) 23 #[.int .i64 1000, .int .i64 0, .int .i64 966, .int .i64 259, .int .i64 866, .int .i64 500, .int .i64 707, .int .i64 707, .int .i64 500, .int .i64 866, .int .i64 259, .int .i64 966]
  have q1 : ((w.alloc (.cells #[.int .i64 0, .int .i64 0] 23)).alloc (.cells #[.int .i64 1000, .int .i64 0, .int .i64 966, .int .i64 259, .int .i64 866, .int .i64 500, .int .i64 707, .int .i64 707, .int .i64 500, .int .i64 866, .int .i64 259, .int .i64 966] 23)).cell? ⟨w.heap.size + 1, m * 2, none⟩ = some (.int .i64 x) := (KL.cell (m * 2)).trans (by
    obtain rfl | rfl | rfl | rfl | rfl | rfl : m = 0 ∨ m = 1 ∨ m = 2 ∨ m = 3 ∨ m = 4 ∨ m = 5 := by omega
    all_goals (simp [quarterL] at hx; obtain ⟨rfl, rfl⟩ := hx; rfl))
  have q2 : ((w.alloc (.cells #[.int .i64 0, .int .i64 0] 23)).alloc (.cells #[.int .i64 1000, .int .i64 0, .int .i64 966, .int .i64 259, .int .i64 866, .int .i64 500, .int .i64 707, .int .i64 707, .int .i64 500, .int .i64 866, .int .i64 259, .int .i64 966] 23)).cell? ⟨w.heap.size + 1, m * 2 + 1, none⟩ = some (.int .i64 y) := (KL.cell (m * 2 + 1)).trans (by
    obtain rfl | rfl | rfl | rfl | rfl | rfl : m = 0 ∨ m = 1 ∨ m = 2 ∨ m = 3 ∨ m = 4 ∨ m = 5 := by omega
    all_goals (simp [quarterL] at hx; obtain ⟨rfl, rfl⟩ := hx; rfl))
  have em2 : ((6 * k + m : Nat) : Int) % 6 = (m : Int) := by omega
  have i1 : (0 : Int) ≤ (m : Int) := Int.natCast_nonneg _
  have i2 : (m : Int) < 6 := by omega
  have i3 : (0 : Int) ≤ ((6 * k + m : Nat) : Int) := Int.natCast_nonneg _
  have ES := Lib.hid es
  generalize hD : ((6 * k + m : Nat) : Int) = D at em2 i3 ⊢
  have HD := Lib.hid hD
  clear es em hD hx KL
  go_enter Tryd.func24, Tryd.ntmps24
  go_wp2
  have B0 : Below w.heap.size w (((w.alloc (.cells #[.int .i64 0, .int .i64 0] 23)).alloc (.cells #[.int .i64 1000, .int .i64 0, .int .i64 966, .int .i64 259, .int .i64 866, .int .i64 500, .int .i64 707, .int .i64 707, .int .i64 500, .int .i64 866, .int .i64 259, .int .i64 966] 23)).alloc (.cells #[.int .i64 x, .int .i64 y] 23)) := below_alloc3 _ _ _ _
  have KP := Lib.hid (show Blk (((w.alloc (.cells #[.int .i64 0, .int .i64 0] 23)).alloc (.cells #[.int .i64 1000, .int .i64 0, .int .i64 966, .int .i64 259, .int .i64 866, .int .i64 500, .int .i64 707, .int .i64 707, .int .i64 500, .int .i64 866, .int .i64 259, .int .i64 966] 23)).alloc (.cells #[.int .i64 x, .int .i64 y] 23)) (w.heap.size + 1 + 1) 23 #[.int .i64 x, .int .i64 y] from Blk.new3 _ _ _ _ _)
  have KR := Lib.hid (show Blk (((w.alloc (.cells #[.int .i64 0, .int .i64 0] 23)).alloc (.cells #[.int .i64 1000, .int .i64 0, .int .i64 966, .int .i64 259, .int .i64 866, .int .i64 500, .int .i64 707, .int .i64 707, .int .i64 500, .int .i64 866, .int .i64 259, .int .i64 966] 23)).alloc (.cells #[.int .i64 x, .int .i64 y] 23)) w.heap.size 23 #[.int .i64 0, .int .i64 0] from ((Blk.new _ _ _).alloc _).alloc _)
  go_loopw [0] (fun dv wr => ∃ (j : Nat) (u v : Int), j ≤ 3 ∧ dv = .int .i64 ((6 * j + m : Nat) : Int) ∧ -1000 ≤ u ∧ u ≤ 1000 ∧ -1000 ≤ v ∧ v ≤ 1000 ∧ Hid (spinV j (u, v) = vecV (6 * k + m)) ∧ Hid (Blk wr (w.heap.size + 1 + 1) 23 #[.int .i64 u, .int .i64 v]) ∧ Hid (Blk wr w.heap.size 23 #[.int .i64 0, .int .i64 0]) ∧ Below w.heap.size w wr) (fun dv _ => (intOf dv).toNat)
  case atStart => exact ⟨k, x, y, hk, by rw [HD.out], x0, x1, y0, y1, ES, KP, KR, B0⟩
  case round =>
    clear B0 KP KR
    obtain ⟨j, u, v, hj, rfl, u0, u1, v0, v1, EJ, KJ, KRJ, HB⟩ := hrel
    obtain ⟨c0, c1⟩ := KJ.out.two
    have fz := KJ.out.frozen 0
    have fz1 := KJ.out.frozen 1
    have lt := KJ.out.lt
    rcases Nat.eq_zero_or_pos j with h0 | h0
    · subst h0
      have t1 : decide ((6 : Int) ≤ ((6 * 0 + m : Nat) : Int)) = false := by simp; omega
      obtain ⟨r0, r1⟩ := KRJ.out.two
      have rz := KRJ.out.frozen 0
      have rz1 := KRJ.out.frozen 1
      have EV : u = (vecV (6 * k + m)).1 ∧ v = (vecV (6 * k + m)).2 := by have := EJ.out; unfold spinV at this; rw [← this]; exact ⟨rfl, rfl⟩
      obtain ⟨eu, ev⟩ := EV
      have BZ := Lib.hid ((HB.setCell (p := ⟨w.heap.size, 0, none⟩) (Nat.le_refl _) (.int .i64 u)).setCell (p := ⟨w.heap.size, 1, none⟩) (Nat.le_refl _) (.int .i64 v))
      have EU := Lib.hid eu
      have EW := Lib.hid ev
      clear eu ev
      go_wp2
      refine bodyPost_ret (v := .agg #[.int .i64 u, .int .i64 v]) (by simp [results, Tryd.results24, go_sem, r0, r1]) rfl ⟨by rw [← EU.out, ← EW.out], BZ.out⟩
    · obtain ⟨i, rfl⟩ : ∃ i, j = i + 1 := ⟨j - 1, by omega⟩
      have t1 : decide ((6 : Int) ≤ ((6 * (i + 1) + m : Nat) : Int)) = true := by simp; omega
      have ED : ((6 * (i + 1) + m : Nat) : Int) - 6 = ((6 * i + m : Nat) : Int) := by omega
      have d0 : (0 : Int) ≤ ((6 * (i + 1) + m : Nat) : Int) := Int.natCast_nonneg _
      have d1 : ((6 * (i + 1) + m : Nat) : Int) ≤ 100 := by omega
      have d2 : (6 : Int) ≤ ((6 * (i + 1) + m : Nat) : Int) := by omega
      generalize ((6 * (i + 1) + m : Nat) : Int) = D' at ED d0 d1 d2 t1 ⊢
      have NK := Lib.hid ((KJ.out.set_ 0 (.int .i64 (-v))).set_ 1 (.int .i64 u))
      have NR := Lib.hid ((KRJ.out.far (p := ⟨w.heap.size + 1 + 1, 0, none⟩) (by show _ ; first | omega | (simp; try omega)) (.int .i64 (-v))).far (p := ⟨w.heap.size + 1 + 1, 1, none⟩) (by show _ ; first | omega | (simp; try omega)) (.int .i64 u))
      have BZ := Lib.hid ((HB.setCell (p := ⟨w.heap.size + 1 + 1, 0, none⟩) (by show _ ; first | omega | (simp; try omega)) (.int .i64 (-v))).setCell (p := ⟨w.heap.size + 1 + 1, 1, none⟩) (by show _ ; first | omega | (simp; try omega)) (.int .i64 u))
      have EI := Lib.hid (show spinV i (-v, u) = vecV (6 * k + m) from EJ.out)
      have HE := Lib.hid ED
      clear ED
      go_wp2
      exact ⟨⟨i, -v, u, by omega, ret_val HE.out, by omega, by omega, by omega, by omega, EI, NK, NR, BZ.out⟩, by simp [intOf]; omega⟩
end Go.Proofs.YtofoihohendjgaaDoor
