/- The library's sort and its compaction at whole numbers, laid, in words of rows of the call's own. -/
import Derived.Test.YtiaineljcmjfoaaProg
import Derived.Test.YtiaineljcmjfoaaKit
import Derived.Test.YtiaineljcmjfoaaMem
import Derived.Test.YtiaineljcmjfoaaLesser
import Derived.Test.YtiaineljcmjfoaaLays
import Derived.Lib.OwnBridge
namespace Go.Proofs.Ytiaineljcmjfoaa
open Go.RowKit Go.WideShapes Go.ChangeShapes Go.Joins Go.Deep Go.Sort Go.Shelf
set_option linter.unusedVariables false

theorem own_holds {w : World} {base : Nat} {e : TypeId} {A : Option Addr} {j c : Nat} {zs : List Int} (h : w.ownsRow base e 1 (.slice A j c) j (ints zs)) (j0 : 1 ≤ j) :
    ∃ g, A = some ⟨g, 0, none⟩ ∧ base ≤ g ∧ g < w.heap.size ∧ j ≤ c ∧ c ≤ maxLen ∧ zs.length = j ∧ Holds (Value.int .i64) w g 0 zs.toArray := by
  obtain ⟨g, cap, hv, hb, hg, hn, hm, hl, hH⟩ := Lib.holds_of_ownsRow (enc := Value.int .i64) h (by intro e; injection e; omega)
  injection hv with e1 e2 e3
  subst e3
  exact ⟨g, e1, hb, hg, hn, hm, hl, hH⟩
theorem below_grow_l {B : Nat} {w0 w : World} (h : Below B w0 w) (os : Array Obj) (hB : B ≤ w.heap.size) : Below B w0 (grow w os) :=
  ⟨h.os, h.tape, h.output, by show w0.heap.size ≤ (w.heap ++ os).size; rw [Array.size_append]; have := h.size; omega, fun k hk => (heap_grow_old w os (show k < w.heap.size by omega)).trans (h.block k hk)⟩
theorem size_put (enc : Int → Value) (w : World) (q g o : Nat) (d : Array Int) : (putRow enc (Sort.ahead w q) g o d).heap.size = w.heap.size := by simp [putRow, mapBlock, Sort.ahead]
set_option maxRecDepth 100000 in
theorem sort_own (A : Option Addr) (j c base : Nat) (zs : List Int) (w : World) (h : w.ownsRow base 2 1 (.slice A j c) j (ints zs)) (j0 : 1 ≤ j) (hbase : base ≤ w.heap.size) (hj : j ≤ 1000000) :
    Calls Try.prog 60 #[.slice A j c] w fun e w' => e = .returned (.tuple #[]) ∧ w'.ownsRow base 2 1 (.slice A j c) j (ints (sorted zs)) ∧ ∀ B w0, B ≤ base → Below B w0 w → Below B w0 w' := by
  obtain ⟨g, rfl, hb, hg, hn, hm, hl, hH⟩ := own_holds h j0
  have C := AnyG.slices_Sort_int Try.laysSort g 0 c zs w hH hg (by omega)
  rw [hl] at C
  refine C.mono ?_
  rintro e w' ⟨rfl, n, os, rfl⟩
  have hls : (zs.mergeSort fun x y => decide (x ≤ y)).length = j := by rw [List.length_mergeSort]; exact hl
  have O := Lib.ownsRow_putRow (q := n) (k := j) h hls (Nat.le_refl _)
  rw [List.take_of_length_le (by omega)] at O
  refine ⟨rfl, ?_, fun B w0 hB hbw => ?_⟩
  · exact own_below O (below_grow_l (Below.refl _ _) os (Nat.le_refl _))
  · refine below_grow_l (Lib.below_putRow hbw (by omega)) os (by rw [size_put]; omega)
theorem compact_own (A : Option Addr) (j c base : Nat) (zs : List Int) (w : World) (h : w.ownsRow base 2 1 (.slice A j c) j (ints zs)) (j0 : 1 ≤ j) (hbase : base ≤ w.heap.size) (hj : j ≤ 1000000) :
    Calls Try.prog 61 #[.slice A j c] w fun e w' => e = .returned (.slice A (Lib.compact zs).length c) ∧ w'.ownsRow base 2 1 (.slice A (Lib.compact zs).length c) (Lib.compact zs).length (ints (Lib.compact zs)) ∧ ∀ B w0, B ≤ base → Below B w0 w → Below B w0 w' := by
  obtain ⟨g, rfl, hb, hg, hn, hm, hl, hH⟩ := own_holds h j0
  have C := AnyG.slices_Compact_int Try.laysCompact g 0 c zs w hH (by omega) (by omega)
  rw [hl] at C
  refine C.mono ?_
  rintro e w' ⟨rfl, q, rfl⟩
  have hle := Lib.compact_length_le zs
  have O := Lib.ownsRow_putRow (q := q) (k := (Lib.compact zs).length) (ys := Lib.compact zs ++ List.replicate (j - (Lib.compact zs).length) 0) h (by simp; omega) (by omega)
  rw [List.take_left] at O
  exact ⟨rfl, O, fun B w0 hB hbw => Lib.below_putRow hbw (by omega)⟩
end Go.Proofs.Ytiaineljcmjfoaa
