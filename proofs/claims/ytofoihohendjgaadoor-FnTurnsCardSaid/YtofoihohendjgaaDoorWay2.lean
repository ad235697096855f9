/- The law of the ways of turning. -/
import Derived.Test.YtofoihohendjgaaDoorProg
import Derived.Test.YtofoihohendjgaaDoorKit
import Derived.Test.YtofoihohendjgaaDoorBasics
import Derived.Test.YtofoihohendjgaaDoorDirs
import Derived.Test.YtofoihohendjgaaDoorMem
import Derived.Test.YtofoihohendjgaaDoorInts
import Derived.Test.YtofoihohendjgaaDoorApart
import Derived.Test.YtofoihohendjgaaDoorCodeRes
import Derived.Test.YtofoihohendjgaaDoorWay
namespace Go.Proofs.YtofoihohendjgaaDoor
open Go.RowKit Go.WideShapes Go.ChangeShapes Go.Joins Go.Deep Go.Sort
set_option linter.unusedVariables false
set_option linter.unusedSimpArgs false

def wayM (f b : Int) : List Int := if inB f 0 23 && inB b (-1000) 1000 then (if 0 ≤ b then wayL f 1 b.toNat else wayL f (-1) (-b).toNat) else []
def wayC (f b : Int) : Int := if inB f 0 23 && inB b (-1000) 1000 then 0 else 2
theorem way_bad {f b : Int} (h : (inB f 0 23 && inB b (-1000) 1000) = false) : wayM f b = [] ∧ wayC f b = 2 := by unfold wayM wayC; rw [h]; exact ⟨rfl, rfl⟩
theorem way_pos {f b : Int} (h : inB f 0 23 = true) (h' : inB b (-1000) 1000 = true) (b0 : 0 ≤ b) : wayM f b = wayL f 1 b.toNat ∧ wayC f b = 0 := by
  unfold wayM wayC; rw [h, h', if_pos b0]; exact ⟨rfl, rfl⟩
theorem way_neg {f b : Int} (h : inB f 0 23 = true) (h' : inB b (-1000) 1000 = true) (b0 : b < 0) : wayM f b = wayL f (-1) (-b).toNat ∧ wayC f b = 0 := by
  unfold wayM wayC; rw [h, h', if_neg (show ¬ 0 ≤ b by omega)]; exact ⟨rfl, rfl⟩
theorem wayM_len (f b : Int) : (wayM f b).length ≤ 1001 := by
  cases h : (inB f 0 23 && inB b (-1000) 1000)
  · rw [(way_bad h).1]; exact Nat.zero_le _
  · simp only [Bool.and_eq_true] at h
    have hb := inB_of h.2
    by_cases b0 : 0 ≤ b
    · rw [(way_pos h.1 h.2 b0).1, wayL_length]; omega
    · rw [(way_neg h.1 h.2 (by omega)).1, wayL_length]; omega
set_option maxHeartbeats 1000000 in
theorem implWayOf_any (f b : Int) (w : World) : Calls Tryd.prog 19 #[.int .i64 f, .int .i64 b] w (RetInts w (wayM f b) (wayC f b)) := by
  cases h1 : inB f 0 23
  · obtain ⟨e1, e2⟩ := way_bad (f := f) (b := b) (by rw [h1]; rfl)
    rw [e1, e2]
    clear e1 e2
    go_enter Tryd.func19, Tryd.ntmps19
    go_wp2_with (first | (go_at_call 25; refine (isDirection_any _ _).mono ?_; rintro e w' ⟨rfl, rfl⟩) | (go_at_call 33; refine (within_any _ _ _ _).mono ?_; rintro e w' ⟨rfl, rfl⟩))
    go_ret2
    exact RetInts.none_ (Below.refl _ _)
  · cases h2 : inB b (-1000) 1000
    · obtain ⟨e1, e2⟩ := way_bad (f := f) (b := b) (by rw [h1, h2]; rfl)
      rw [e1, e2]
      clear e1 e2
      go_enter Tryd.func19, Tryd.ntmps19
      go_wp2_with (first | (go_at_call 25; refine (isDirection_any _ _).mono ?_; rintro e w' ⟨rfl, rfl⟩) | (go_at_call 33; refine (within_any _ _ _ _).mono ?_; rintro e w' ⟨rfl, rfl⟩))
      go_ret2
      exact RetInts.none_ (Below.refl _ _)
    · by_cases b0 : 0 ≤ b
      · obtain ⟨e1, e2⟩ := way_pos h1 h2 b0
        rw [e1, e2]
        exact implWay_pos f b b.toNat w h1 h2 b0 (by omega)
      · have b0' : b < 0 := by omega
        obtain ⟨e1, e2⟩ := way_neg h1 h2 b0'
        rw [e1, e2]
        exact implWay_neg f b (-b).toNat w h1 h2 b0' (by omega)
end Go.Proofs.YtofoihohendjgaaDoor
