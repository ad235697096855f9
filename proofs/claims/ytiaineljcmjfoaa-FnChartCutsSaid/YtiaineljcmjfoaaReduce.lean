/- Charts with other loads: the walks of both sides. -/
import Derived.Test.YtiaineljcmjfoaaProg
import Derived.Test.YtiaineljcmjfoaaKit
import Derived.Test.YtiaineljcmjfoaaBasics
import Derived.Test.YtiaineljcmjfoaaMem
import Derived.Test.YtiaineljcmjfoaaCodeRes
import Derived.Test.YtiaineljcmjfoaaLists
import Derived.Test.YtiaineljcmjfoaaSteps
import Derived.Test.YtiaineljcmjfoaaCharts
import Derived.Test.YtiaineljcmjfoaaChartLaws
import Derived.Test.YtiaineljcmjfoaaFinds
import Derived.Test.YtiaineljcmjfoaaLoads
import Derived.Test.YtiaineljcmjfoaaLoads2
import Derived.Test.YtiaineljcmjfoaaLoads3
import Derived.Deep.RegionHeld3
import Derived.Deep.AppendLies
namespace Go.Proofs.Ytiaineljcmjfoaa
open Go.RowKit Go.WideShapes Go.ChangeShapes Go.Joins Go.Deep Go.Sort
set_option linter.unusedVariables false
set_option linter.unusedSimpArgs false

def reduceL (p : Int) (L : List (Int × Int)) : List (Int × Int) := L.map fun s => (s.1, s.2 * p / 100)
def lessL (p : Int) (L : List (Int × Int)) : List (Int × Int) := L.map fun s => (s.1, maxZ 0 (s.2 - p))
theorem map_step {f : Int × Int → Int × Int} {L : List (Int × Int)} {k : Nat} {s : Int × Int} (h : L[k]? = some s) : pairs ((L.map f).take k) ++ [.int .i64 (f s).1, .int .i64 (f s).2] = pairs ((L.map f).take (k + 1)) := by
  rw [List.take_add_one, List.getElem?_map, h]
  show _ = pairs ((L.map f).take k ++ [f s])
  rw [pairs_append]
  rfl
theorem own_mono {w : World} {base base' : Nat} {e : TypeId} {size : Nat} {v : Value} {n : Nat} {xs : List Value} (h : w.ownsRow base e size v n xs) (hb : base' ≤ base) : w.ownsRow base' e size v n xs := by
  refine ⟨h.1, ?_⟩
  rcases h.2 with h2 | ⟨g, cap, cur, hv, hg, r⟩
  · exact .inl h2
  · exact .inr ⟨g, cap, cur, hv, by omega, r⟩
/-- what a chart with other loads is, or a code -/
def RetChart (w : World) (valid rng : Bool) (M : List (Int × Int)) (e : Ending) (w' : World) : Prop :=
  RetRow w 44 2 (if valid && rng then M.length else 0) (if valid && rng then pairs M else []) (codeV valid rng) e w'
theorem RetChart.bad {w w' : World} {valid rng : Bool} {M : List (Int × Int)} (h : (valid && rng) = false) (hb : Below w.heap.size w w') : RetChart w valid rng M (.returned (.tuple #[.slice none 0 0, .int .i64 (codeV valid rng)])) w' := by
  unfold RetChart
  rw [h]
  exact RetRow.none_ hb
theorem RetChart.good {w w' : World} {M : List (Int × Int)} {v : Value} {n : Nat} (hn : M.length = n) (ho : w'.ownsRow w.heap.size 44 2 v n (pairs M)) (hb : Below w.heap.size w w') : RetChart w true true M (.returned (.tuple #[v, .int .i64 0])) w' := by
  subst hn
  exact ⟨v, rfl, ho, hb⟩
set_option maxRecDepth 100000 in
set_option maxHeartbeats 4000000 in
theorem spec_reduce_loop (A : Option Addr) (n c : Nat) (L : List (Int × Int)) (p : Int) (w : World) (h : Steps w w.heap.size A n L) (hn : n ≤ maxLen) (hc : chartB L = true) (hp : inB p 1 100 = true) :
    Calls Try.prog 22 #[.slice A n c, .int .i64 p] w (RetChart w true true (reduceL p L)) := by
  obtain ⟨i0, hi0, hz0, hz1, hz2⟩ := info_parts infoStep
  have V := l03Ok_any A n c L w h hn
  rw [hc] at V
  have HV := Lib.hid V
  have hl := chart_len hc
  rw [h.1] at hl
  have H := Lib.hid h
  have HC := Lib.hid hc
  obtain ⟨p0, p1⟩ := inB_of hp
  clear V h hc hn
  go_enter Try.func22, Try.ntmps22
  go_wp2_with fail
  refine HV.out.mono ?_
  rintro e w1 ⟨rfl, hb1⟩
  have H1 := Lib.hid (H.out.next hb1)
  have z1 := hb1.size
  have HL := Lib.hid H.out.1
  clear H HV
  go_wp2_with (go_at_call 46; refine (l00In_any _ _ _ _).mono ?_; rintro e w' ⟨rfl, rfl⟩)
  go_loopw [6, 7] (fun v i wr => ∃ k : Nat, k ≤ n ∧ i = .int .i64 k ∧ Below w1.heap.size w1 wr ∧ Hid (wr.ownsRow w1.heap.size 44 2 v k (pairs ((reduceL p L).take k)))) (fun _ i _ => n - (intOf i).toNat)
  case atStart => exact ⟨0, Nat.zero_le _, rfl, below_alloc1 _ _, by show World.ownsRow _ _ _ _ _ _ _; simpa [pairs] using World.ownsRow_lit (base := w1.heap.size) (e := 44) (size := 2) w1 #[] 0 (Nat.le_refl _) (by unfold maxLen; omega) rfl⟩
  case round =>
    obtain ⟨k, hk, rfl, HB, HO⟩ := hrel
    by_cases hlt : k < n
    · obtain ⟨b, o, x, y, rfl, _, hx, hc1, hc2⟩ := (H1.out.below HB).at_ hlt
      have bk := chart_at HC.out hx
      obtain ⟨m1, m2⟩ := mul_bd (a := y) (b := p) (A := 50000) (B := 100) (by omega) (by omega) (by omega) (by omega)
      have E := Lib.hid (map_step (f := fun s => (s.1, s.2 * p / 100)) hx)
      clear hx
      have i1 : (0 : Int) ≤ (k : Int) := Int.natCast_nonneg _
      have i2 : (k : Int) < (n : Int) := by omega
      have ne : u6.ownBlock ≠ some b := fun e => by have := (HO.out.lt b e).1; omega
      have lb : b < wr.heap.size := by have := HB.size; omega
      have nb1 : (k + 1) * 16 ≤ 140737488355328 := by omega
      have nm : k + 1 ≤ maxLen := by unfold maxLen; omega
      have v1 := IntWalk.i64_in (y * p) (by omega)
      have v2 : (y * p).tdiv 100 = y * p / 100 := Int.tdiv_eq_ediv_of_nonneg (by omega)
      have v3 := IntWalk.i64_in (y * p / 100) (by omega)
      have hown := HO.out
      have z2 := HB.size
      go_wp2_with fail
      go_region_held3 (fun w' => w'.cell? ⟨b, o + k * 2, none⟩ = some (.int .i64 x) ∧ w'.cell? ⟨b, o + k * 2 + 1, none⟩ = some (.int .i64 y))
        (first
          | go_keep
          | (go_split_ands
             refine ⟨?_, ?_⟩
             · (rw [hgrow.cell_far _ (by simp; omega) (Ne.symm ne)]; assumption)
             · (rw [hgrow.cell_far _ (by simp; omega) (Ne.symm ne)]; assumption)))
        ((refine step_append_lies _ (by rfl) _ _ _ (by rfl) w1.heap.size 44 i0 _ 2 16 Try.underlying25 hi0 hz0 hz1 hz2 rfl (by omega) u6 k _ (by rfl) ((hown.alloc _).drew) ⟨wr.heap.size, 0, none⟩ 1 1 [.int .i64 x, .int .i64 (y * p / 100)] (by rfl) (by rfl) (World.news_of_block (cs := #[.int .i64 x, .int .i64 (y * p / 100)]) (t := 44) (fr := (0, 0)) (heap_alloc_new wr _)) (by simp [Value.oneCell']) (by omega) nm nb1 (by simp; omega) (wr.heap.size + 1) (by simp) ?_; intro gg cap w3 hown1 hgrow hat hlt3))
      have HB3 : Below w1.heap.size w1 w3 := ((HB.alloc z2 _).drew).grown hgrow (by simp; omega) (fun j hj => (HO.out.lt j hj).1)
      have HO3 : Hid (w3.ownsRow w1.heap.size 44 2 (.slice (some ⟨gg, 0, none⟩) (k + 1) cap) (k + 1) (pairs ((reduceL p L).take (k + 1)))) := by
        show World.ownsRow _ _ _ _ _ _ _
        have h3 := hown1
        unfold reduceL at h3 ⊢
        rw [E.out] at h3
        exact h3
      clear hown hown1 hgrow v1 v2 v3 hc1 hc2 ne lb hat
      go_wp2
      exact ⟨⟨k + 1, by omega, by go_num, HB3, HO3⟩, by simp [intOf]; omega⟩
    · obtain rfl : k = n := by omega
      have hln : (reduceL p L).length = k := by unfold reduceL; rw [List.length_map]; exact HL.out
      go_wp2
      go_ret2
      exact RetChart.good hln (own_mono (by have := HO.out; rwa [List.take_of_length_le (by omega)] at this) z1) (hb1.trans (HB.mono z1))
set_option maxHeartbeats 1000000 in
theorem spec_reduce_any (A : Option Addr) (n c : Nat) (L : List (Int × Int)) (p : Int) (w : World) (h : Steps w w.heap.size A n L) (hn : n ≤ maxLen) :
    Calls Try.prog 22 #[.slice A n c, .int .i64 p] w (RetChart w (chartB L) (inB p 1 100) (reduceL p L)) := by
  cases h0 : chartB L
  · have V := l03Ok_any A n c L w h hn
    rw [h0] at V
    have HV := Lib.hid V
    have HE := Lib.hid (fun w' hb => RetChart.bad (w := w) (w' := w') (valid := false) (rng := inB p 1 100) (M := reduceL p L) rfl hb)
    rw [codeV_f] at HE
    clear V h h0
    go_enter Try.func22, Try.ntmps22
    go_wp2_with fail
    refine HV.out.mono ?_
    rintro e w1 ⟨rfl, hb1⟩
    go_wp2
    go_ret2
    exact HE.out _ hb1
  · cases h1 : inB p 1 100
    · have V := l03Ok_any A n c L w h hn
      rw [h0] at V
      have HV := Lib.hid V
      have HE := Lib.hid (fun w' hb => RetChart.bad (w := w) (w' := w') (valid := true) (rng := false) (M := reduceL p L) rfl hb)
      rw [codeV_tf] at HE
      clear V h h0
      go_enter Try.func22, Try.ntmps22
      go_wp2_with fail
      refine HV.out.mono ?_
      rintro e w1 ⟨rfl, hb1⟩
      go_wp2_with (go_at_call 46; refine (l00In_any _ _ _ _).mono ?_; rintro e w' ⟨rfl, rfl⟩)
      go_ret2
      exact HE.out _ hb1
    · exact spec_reduce_loop A n c L p w h hn h0 h1
set_option maxRecDepth 100000 in
set_option maxHeartbeats 4000000 in
theorem spec_less_loop (A : Option Addr) (n c : Nat) (L : List (Int × Int)) (p : Int) (w : World) (h : Steps w w.heap.size A n L) (hn : n ≤ maxLen) (hc : chartB L = true) (hp : inB p 0 50000 = true) :
    Calls Try.prog 28 #[.slice A n c, .int .i64 p] w (RetChart w true true (lessL p L)) := by
  obtain ⟨i0, hi0, hz0, hz1, hz2⟩ := info_parts infoStep
  have V := l03Ok_any A n c L w h hn
  rw [hc] at V
  have HV := Lib.hid V
  have hl := chart_len hc
  rw [h.1] at hl
  have H := Lib.hid h
  have HC := Lib.hid hc
  obtain ⟨p0, p1⟩ := inB_of hp
  clear V h hc hn
  go_enter Try.func28, Try.ntmps28
  go_wp2_with fail
  refine HV.out.mono ?_
  rintro e w1 ⟨rfl, hb1⟩
  have H1 := Lib.hid (H.out.next hb1)
  have z1 := hb1.size
  have HL := Lib.hid H.out.1
  clear H HV
  go_wp2_with (go_at_call 46; refine (l00In_any _ _ _ _).mono ?_; rintro e w' ⟨rfl, rfl⟩)
  go_loopw [6, 7] (fun v i wr => ∃ k : Nat, k ≤ n ∧ i = .int .i64 k ∧ Below w1.heap.size w1 wr ∧ Hid (wr.ownsRow w1.heap.size 44 2 v k (pairs ((lessL p L).take k)))) (fun _ i _ => n - (intOf i).toNat)
  case atStart => exact ⟨0, Nat.zero_le _, rfl, below_alloc1 _ _, by show World.ownsRow _ _ _ _ _ _ _; simpa [pairs] using World.ownsRow_lit (base := w1.heap.size) (e := 44) (size := 2) w1 #[] 0 (Nat.le_refl _) (by unfold maxLen; omega) rfl⟩
  case round =>
    obtain ⟨k, hk, rfl, HB, HO⟩ := hrel
    by_cases hlt : k < n
    · obtain ⟨b, o, x, y, rfl, _, hx, hc1, hc2⟩ := (H1.out.below HB).at_ hlt
      have bk := chart_at HC.out hx
      have E := Lib.hid (map_step (f := fun s => (s.1, maxZ 0 (s.2 - p))) hx)
      clear hx
      have i1 : (0 : Int) ≤ (k : Int) := Int.natCast_nonneg _
      have i2 : (k : Int) < (n : Int) := by omega
      have ne : u6.ownBlock ≠ some b := fun e => by have := (HO.out.lt b e).1; omega
      have lb : b < wr.heap.size := by have := HB.size; omega
      have nb1 : (k + 1) * 16 ≤ 140737488355328 := by omega
      have nm : k + 1 ≤ maxLen := by unfold maxLen; omega
      have v1 := IntWalk.i64_in (y - p) (by omega)
      have hown := HO.out
      have z2 := HB.size
      go_wp2_with fail
      go_region_held3 (fun w' => w'.cell? ⟨b, o + k * 2, none⟩ = some (.int .i64 x) ∧ w'.cell? ⟨b, o + k * 2 + 1, none⟩ = some (.int .i64 y))
        (first
          | go_keep
          | (go_split_ands
             refine ⟨?_, ?_⟩
             · (rw [hgrow.cell_far _ (by simp; omega) (Ne.symm ne)]; assumption)
             · (rw [hgrow.cell_far _ (by simp; omega) (Ne.symm ne)]; assumption)))
        (first | (go_at_call 45; refine (l00Max_any _ _ _).mono ?_; rintro e w' ⟨rfl, rfl⟩) | (refine step_append_lies _ (by rfl) _ _ _ (by rfl) w1.heap.size 44 i0 _ 2 16 Try.underlying25 hi0 hz0 hz1 hz2 rfl (by omega) u6 k _ (by rfl) ((hown.alloc _).drew) ⟨wr.heap.size, 0, none⟩ 1 1 [.int .i64 x, .int .i64 (maxZ 0 (y - p))] (by rfl) (by rfl) (World.news_of_block (cs := #[.int .i64 x, .int .i64 (maxZ 0 (y - p))]) (t := 44) (fr := (0, 0)) (heap_alloc_new wr _)) (by simp [Value.oneCell']) (by omega) nm nb1 (by simp; omega) (wr.heap.size + 1) (by simp) ?_; intro gg cap w3 hown1 hgrow hat hlt3))
      have HB3 : Below w1.heap.size w1 w3 := ((HB.alloc z2 _).drew).grown hgrow (by simp; omega) (fun j hj => (HO.out.lt j hj).1)
      have HO3 : Hid (w3.ownsRow w1.heap.size 44 2 (.slice (some ⟨gg, 0, none⟩) (k + 1) cap) (k + 1) (pairs ((lessL p L).take (k + 1)))) := by
        show World.ownsRow _ _ _ _ _ _ _
        have h3 := hown1
        unfold lessL at h3 ⊢
        rw [E.out] at h3
        exact h3
      clear hown hown1 hgrow v1 hc1 hc2 ne lb hat
      go_wp2
      exact ⟨⟨k + 1, by omega, by go_num, HB3, HO3⟩, by simp [intOf]; omega⟩
    · obtain rfl : k = n := by omega
      have hln : (lessL p L).length = k := by unfold lessL; rw [List.length_map]; exact HL.out
      go_wp2
      go_ret2
      exact RetChart.good hln (own_mono (by have := HO.out; rwa [List.take_of_length_le (by omega)] at this) z1) (hb1.trans (HB.mono z1))
set_option maxHeartbeats 1000000 in
theorem spec_less_any (A : Option Addr) (n c : Nat) (L : List (Int × Int)) (p : Int) (w : World) (h : Steps w w.heap.size A n L) (hn : n ≤ maxLen) :
    Calls Try.prog 28 #[.slice A n c, .int .i64 p] w (RetChart w (chartB L) (inB p 0 50000) (lessL p L)) := by
  cases h0 : chartB L
  · have V := l03Ok_any A n c L w h hn
    rw [h0] at V
    have HV := Lib.hid V
    have HE := Lib.hid (fun w' hb => RetChart.bad (w := w) (w' := w') (valid := false) (rng := inB p 0 50000) (M := lessL p L) rfl hb)
    rw [codeV_f] at HE
    clear V h h0
    go_enter Try.func28, Try.ntmps28
    go_wp2_with fail
    refine HV.out.mono ?_
    rintro e w1 ⟨rfl, hb1⟩
    go_wp2
    go_ret2
    exact HE.out _ hb1
  · cases h1 : inB p 0 50000
    · have V := l03Ok_any A n c L w h hn
      rw [h0] at V
      have HV := Lib.hid V
      have HE := Lib.hid (fun w' hb => RetChart.bad (w := w) (w' := w') (valid := true) (rng := false) (M := lessL p L) rfl hb)
      rw [codeV_tf] at HE
      clear V h h0
      go_enter Try.func28, Try.ntmps28
      go_wp2_with fail
      refine HV.out.mono ?_
      rintro e w1 ⟨rfl, hb1⟩
      go_wp2_with (go_at_call 46; refine (l00In_any _ _ _ _).mono ?_; rintro e w' ⟨rfl, rfl⟩)
      go_ret2
      exact HE.out _ hb1
    · exact spec_less_loop A n c L p w h hn h0 h1
end Go.Proofs.Ytiaineljcmjfoaa
