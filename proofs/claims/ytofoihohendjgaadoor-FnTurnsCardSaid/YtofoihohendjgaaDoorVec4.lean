/- Directions: the direction to a place; the walks of both sides, and the law. -/
import Derived.Test.YtofoihohendjgaaDoorProg
import Derived.Test.YtofoihohendjgaaDoorKit
import Derived.Test.YtofoihohendjgaaDoorBasics
import Derived.Test.YtofoihohendjgaaDoorMem
import Derived.Test.YtofoihohendjgaaDoorCodeRes
import Derived.Test.YtofoihohendjgaaDoorLists
import Derived.Test.YtofoihohendjgaaDoorDirs
import Derived.Test.YtofoihohendjgaaDoorPts
import Derived.Test.YtofoihohendjgaaDoorZonePlain
import Derived.Test.YtofoihohendjgaaDoorZones
import Derived.Test.YtofoihohendjgaaDoorDoor
import Derived.Test.YtofoihohendjgaaDoorVec
import Derived.Test.YtofoihohendjgaaDoorVec2
import Derived.Laws.StructEq
import Derived.Deep.RegionHeld3
namespace Go.Proofs.YtofoihohendjgaaDoor
open Go.RowKit Go.WideShapes Go.ChangeShapes Go.Joins Go.Deep Go.Sort
set_option linter.unusedVariables false
set_option linter.unusedSimpArgs false
def dotV (dx dy : Int) (d : Nat) : Int := (vecV d).1 * dx + (vecV d).2 * dy
/-- the first of the first k directions whose product is greatest -/
def bestN (dx dy : Int) : Nat → Nat
  | 0 => 0
  | k + 1 => if dotV dx dy (bestN dx dy k) < dotV dx dy k then k else bestN dx dy k
theorem best_le (dx dy : Int) : ∀ k, bestN dx dy k ≤ k - 1
  | 0 => by simp [bestN]
  | k + 1 => by
    have := best_le dx dy k
    unfold bestN; split <;> omega
theorem best_up {dx dy : Int} {k : Nat} (h : dotV dx dy (bestN dx dy k) < dotV dx dy k) : bestN dx dy (k + 1) = k := by
  show (if dotV dx dy (bestN dx dy k) < dotV dx dy k then k else bestN dx dy k) = k
  rw [if_pos h]
theorem best_stay {dx dy : Int} {k : Nat} (h : ¬ dotV dx dy (bestN dx dy k) < dotV dx dy k) : bestN dx dy (k + 1) = bestN dx dy k := by
  show (if dotV dx dy (bestN dx dy k) < dotV dx dy k then k else bestN dx dy k) = _
  rw [if_neg h]
theorem mul_bd3 {v x : Int} (v0 : -1000 ≤ v) (v1 : v ≤ 1000) (x0 : -20000 ≤ x) (x1 : x ≤ 20000) : -20000000 ≤ v * x ∧ v * x ≤ 20000000 := by
  have := Int.mul_nonneg (show 0 ≤ 1000 - v by omega) (show 0 ≤ 20000 - x by omega)
  have := Int.mul_nonneg (show 0 ≤ 1000 + v by omega) (show 0 ≤ 20000 + x by omega)
  have := Int.mul_nonneg (show 0 ≤ 1000 - v by omega) (show 0 ≤ 20000 + x by omega)
  have := Int.mul_nonneg (show 0 ≤ 1000 + v by omega) (show 0 ≤ 20000 - x by omega)
  simp only [Int.sub_mul, Int.mul_sub, Int.add_mul, Int.mul_add] at *
  omega
theorem eqlPoint_run (x y x' y' : Int) (w : World) : (binOp .eql 23 (.agg #[.int .i64 x, .int .i64 y]) (.agg #[.int .i64 x', .int .i64 y'])).run Tryd.prog w = .ok (.bool (x == x' && y == y')) w := by
  have u3 := Tryd.underlying2
  have a3 := Tryd.isAgg2
  have z3 := Tryd.sizeOf2
  have hS : Tryd.prog.underlying 23 = some (.struct (Tryd.prog.fieldsOf 23)) := by kernel_rfl
  have hp : Tryd.prog.stoodInHeld 23 = false := by kernel_rfl
  rw [run_eql_struct, show (10000 : Nat) = 9999 + 1 from rfl, run_equalIn_agg w 9999 23 _ _ hS hp]
  simp only [Program.fieldsOf, Tryd.underlying23]
  go_simp
  by_cases h1 : x = x' <;> by_cases h2 : y = y' <;> simp [h1, h2]
set_option maxHeartbeats 400000 in
theorem dirProduct_any (k : Nat) (fx fy tx ty : Int) (gt gf : Nat) (w : World) (hk : k < 24) (hQ : QuarterAt w) (KT : Blk w gt 23 #[.int .i64 tx, .int .i64 ty]) (KF : Blk w gf 23 #[.int .i64 fx, .int .i64 fy]) (hf : placeB fx fy = true) (ht : placeB tx ty = true) :
    Calls Tryd.prog 30 #[.int .i64 (k : Int), .pointer (some ⟨gt, 0, none⟩), .pointer (some ⟨gf, 0, none⟩)] w fun e w' => e = .returned (.int .i64 (dotV (tx - fx) (ty - fy) k)) ∧ Below w.heap.size w w' := by
  have HV := Lib.hid (vector_any k w hk hQ)
  obtain ⟨⟨x0, x1⟩, y0, y1⟩ := vec_bound hk
  unfold dotV
  generalize vecV k = p at HV x0 x1 y0 y1 ⊢
  obtain ⟨vx, vy⟩ := p
  dsimp only at HV x0 x1 y0 y1 ⊢
  rw [placeB_iff] at hf ht
  obtain ⟨⟨f0, f1⟩, f2, f3⟩ := hf
  obtain ⟨⟨t0, t1⟩, t2, t3⟩ := ht
  obtain ⟨m0, m1⟩ := mul_bd3 (x := tx - fx) x0 x1 (by omega) (by omega)
  obtain ⟨m2, m3⟩ := mul_bd3 (x := ty - fy) y0 y1 (by omega) (by omega)
  have HT := Lib.hid KT
  have HF := Lib.hid KF
  clear KT KF hQ
  go_enter Tryd.func30, Tryd.ntmps30
  go_wp2_with fail
  refine HV.out.mono ?_
  rintro e w1 ⟨rfl, hb1⟩
  obtain ⟨a0, a1⟩ := (HT.out.on hb1).two
  obtain ⟨b0, b1⟩ := (HF.out.on hb1).two
  have l0 := (HT.out.on hb1).lt
  have l1 := (HF.out.on hb1).lt
  have B1 := hb1
  clear hb1
  go_wp2
  go_ret
  exact ⟨rfl, B1.alloc B1.size _⟩
set_option maxHeartbeats 1000000 in
theorem l02To_any (fx fy tx ty : Int) (w : World) (hf : placeB fx fy = true) (ht : placeB tx ty = true) :
    Calls Tryd.prog 28 #[ptV fx fy, ptV tx ty] w fun e w' => e = .returned (.int .i64 (bestN (tx - fx) (ty - fy) 24 : Nat)) ∧ Below w.heap.size w w' := by
  rw [placeB_iff] at hf ht
  obtain ⟨⟨f0, f1⟩, f2, f3⟩ := hf
  obtain ⟨⟨t0, t1⟩, t2, t3⟩ := ht
  have B0 := below_alloc2 w (.cells #[.int .i64 fx, .int .i64 fy] 23) (.cells #[.int .i64 tx, .int .i64 ty] 23)
  have KF := Lib.hid ((Blk.new w 23 #[.int .i64 fx, .int .i64 fy]).alloc (.cells #[.int .i64 tx, .int .i64 ty] 23))
  have KT := Lib.hid (Blk.new2 w (.cells #[.int .i64 fx, .int .i64 fy] 23) 23 #[.int .i64 tx, .int .i64 ty])
  go_enter Tryd.func28, Tryd.ntmps28
  go_wp2
  go_loopw [5, 6, 7, 8, 9] (fun b m d _ _ wr => ∃ k : Nat, k ≤ 24 ∧ d = .int .i64 (k : Int) ∧ b = .int .i64 (bestN (tx - fx) (ty - fy) k : Nat) ∧ (∃ mv : Int, m = .int .i64 mv ∧ (k = 0 ∨ mv = dotV (tx - fx) (ty - fy) (bestN (tx - fx) (ty - fy) k))) ∧ Below w.heap.size w wr ∧ Hid (Blk wr w.heap.size 23 #[.int .i64 fx, .int .i64 fy] ∧ Blk wr (w.heap.size + 1) 23 #[.int .i64 tx, .int .i64 ty])) (fun _ _ d _ _ _ => 24 - (intOf d).toNat)
  case atStart => exact ⟨0, by omega, rfl, rfl, ⟨0, rfl, .inl rfl⟩, B0, KF.out, KT.out⟩
  case round =>
    clear B0 KF KT
    obtain ⟨k, hk, rfl, rfl, ⟨mv, rfl, hmv⟩, HB, HP⟩ := hrel
    have i1 : (0 : Int) ≤ (k : Int) := Int.natCast_nonneg _
    by_cases hlt : k < 24
    · have i2 : (k : Int) < 24 := by omega
      have HV := Lib.hid (l02Vector_any k wr hlt)
      obtain ⟨⟨x0, x1⟩, y0, y1⟩ := vec_bound hlt
      obtain ⟨nv, en⟩ : ∃ nv, dotV (tx - fx) (ty - fy) k = nv := ⟨_, rfl⟩
      have en' := en
      unfold dotV at en'
      generalize vecV k = p at HV x0 x1 y0 y1 en'
      obtain ⟨vx, vy⟩ := p
      dsimp only at HV x0 x1 y0 y1 en'
      obtain ⟨m0, m1⟩ := mul_bd3 (x := tx - fx) x0 x1 (by omega) (by omega)
      obtain ⟨m2, m3⟩ := mul_bd3 (x := ty - fy) y0 y1 (by omega) (by omega)
      have EN := Lib.hid en'
      clear en'
      rcases Nat.eq_zero_or_pos k with h0 | h0
      · have t5 : ((k : Int) == 0) = true := by simp; omega
        have EB : Hid (bestN (tx - fx) (ty - fy) (k + 1) = k) := by
          show _ = _
          subst h0
          exact best_stay (by show ¬ dotV _ _ 0 < dotV _ _ 0; omega)
        have EM : Hid (nv = dotV (tx - fx) (ty - fy) k) := en.symm
        clear h0 hmv en
        go_wp2_with fail
        refine HV.out.mono ?_
        rintro e w1 ⟨rfl, hb1⟩
        have P1 := HP.out.1.on hb1
        have P2 := HP.out.2.on hb1
        obtain ⟨a0, a1⟩ := P1.two
        obtain ⟨b0, b1⟩ := P2.two
        have l0 := P1.lt
        have l1 := P2.lt
        have B1 := (HB.trans (hb1.mono HB.size))
        have B2 := Lib.hid (B1.alloc B1.size (.cells #[.int .i64 vx, .int .i64 vy] 23))
        have NP := Lib.hid (show Blk _ w.heap.size 23 #[.int .i64 fx, .int .i64 fy] ∧ Blk _ (w.heap.size + 1) 23 #[.int .i64 tx, .int .i64 ty] from ⟨P1.alloc (.cells #[.int .i64 vx, .int .i64 vy] 23), P2.alloc (.cells #[.int .i64 vx, .int .i64 vy] 23)⟩)
        clear hb1 P1 P2 B1
        go_wp2
        exact ⟨⟨k + 1, by omega, by go_num, by rw [EB.out], ⟨_, rfl, .inr (by rw [EB.out, ← EM.out, ← EN.out])⟩, B2.out, NP⟩, by simp [intOf]; omega⟩
      · have t5 : ((k : Int) == 0) = false := beq_eq_false_iff_ne.2 (by omega)
        have hmv' : mv = dotV (tx - fx) (ty - fy) (bestN (tx - fx) (ty - fy) k) := by rcases hmv with h | h; · omega
                                                                                      · exact h
        by_cases hc : mv < nv
        · have t6 : decide (mv < vx * (tx - fx) + vy * (ty - fy)) = true := by rw [EN.out]; simpa using hc
          have EB : Hid (bestN (tx - fx) (ty - fy) (k + 1) = k) := best_up (by rw [← hmv', en]; exact hc)
          have EM : Hid (nv = dotV (tx - fx) (ty - fy) k) := en.symm
          clear h0 hmv en hmv' hc
          go_wp2_with fail
          refine HV.out.mono ?_
          rintro e w1 ⟨rfl, hb1⟩
          have P1 := HP.out.1.on hb1
          have P2 := HP.out.2.on hb1
          obtain ⟨a0, a1⟩ := P1.two
          obtain ⟨b0, b1⟩ := P2.two
          have l0 := P1.lt
          have l1 := P2.lt
          have B1 := (HB.trans (hb1.mono HB.size))
          have B2 := Lib.hid (B1.alloc B1.size (.cells #[.int .i64 vx, .int .i64 vy] 23))
          have NP := Lib.hid (show Blk _ w.heap.size 23 #[.int .i64 fx, .int .i64 fy] ∧ Blk _ (w.heap.size + 1) 23 #[.int .i64 tx, .int .i64 ty] from ⟨P1.alloc (.cells #[.int .i64 vx, .int .i64 vy] 23), P2.alloc (.cells #[.int .i64 vx, .int .i64 vy] 23)⟩)
          clear hb1 P1 P2 B1
          go_wp2
          exact ⟨⟨k + 1, by omega, by go_num, by rw [EB.out], ⟨_, rfl, .inr (by rw [EB.out, ← EM.out, ← EN.out])⟩, B2.out, NP⟩, by simp [intOf]; omega⟩
        · have t6 : decide (mv < vx * (tx - fx) + vy * (ty - fy)) = false := by rw [EN.out]; simpa using hc
          have EB : Hid (bestN (tx - fx) (ty - fy) (k + 1) = bestN (tx - fx) (ty - fy) k) := best_stay (by rw [← hmv', en]; exact hc)
          have EM := Lib.hid hmv'
          clear h0 hmv en hmv' hc
          go_wp2_with fail
          refine HV.out.mono ?_
          rintro e w1 ⟨rfl, hb1⟩
          have P1 := HP.out.1.on hb1
          have P2 := HP.out.2.on hb1
          obtain ⟨a0, a1⟩ := P1.two
          obtain ⟨b0, b1⟩ := P2.two
          have l0 := P1.lt
          have l1 := P2.lt
          have B1 := (HB.trans (hb1.mono HB.size))
          have B2 := Lib.hid (B1.alloc B1.size (.cells #[.int .i64 vx, .int .i64 vy] 23))
          have NP := Lib.hid (show Blk _ w.heap.size 23 #[.int .i64 fx, .int .i64 fy] ∧ Blk _ (w.heap.size + 1) 23 #[.int .i64 tx, .int .i64 ty] from ⟨P1.alloc (.cells #[.int .i64 vx, .int .i64 vy] 23), P2.alloc (.cells #[.int .i64 vx, .int .i64 vy] 23)⟩)
          clear hb1 P1 P2 B1
          go_wp2
          exact ⟨⟨k + 1, by omega, by go_num, by rw [EB.out], ⟨_, rfl, .inr (by rw [EB.out]; exact EM.out)⟩, B2.out, NP⟩, by simp [intOf]; omega⟩
    · obtain rfl : k = 24 := by omega
      go_wp2
      go_ret
      exact ⟨rfl, HB⟩
end Go.Proofs.YtofoihohendjgaaDoor
