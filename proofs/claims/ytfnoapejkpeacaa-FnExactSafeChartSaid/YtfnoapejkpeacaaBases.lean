/- Walks over bases: the test of a base, and the laws on bases. -/
import Derived.Test.YtfnoapejkpeacaaProg
import Derived.Test.YtfnoapejkpeacaaKit
import Derived.Test.YtfnoapejkpeacaaBasics
namespace Go.Proofs.Ytfnoapejkpeacaa
open Go.RowKit Go.WideShapes Go.ChangeShapes Go.Joins Go.Deep
set_option linter.unusedVariables false

def baseB (side mass ball jm ja ct ca : Int) : Bool := inB side 10 200 && inB mass 1 500000 && inB ball 0 500000 && inB jm 0 500000 && inB ja 0 1000 && inB ct 0 500000 && inB ca 0 1000
theorem baseB_side {side mass ball jm ja ct ca : Int} (h : inB side 10 200 = false) : baseB side mass ball jm ja ct ca = false := by simp [baseB, h]
theorem baseB_mass {side mass ball jm ja ct ca : Int} (h : inB mass 1 500000 = false) : baseB side mass ball jm ja ct ca = false := by simp [baseB, h]
theorem baseB_ball {side mass ball jm ja ct ca : Int} (h : inB ball 0 500000 = false) : baseB side mass ball jm ja ct ca = false := by simp [baseB, h]
theorem baseB_jm {side mass ball jm ja ct ca : Int} (h : inB jm 0 500000 = false) : baseB side mass ball jm ja ct ca = false := by simp [baseB, h]
theorem baseB_ja {side mass ball jm ja ct ca : Int} (h : inB ja 0 1000 = false) : baseB side mass ball jm ja ct ca = false := by simp [baseB, h]
theorem baseB_ct {side mass ball jm ja ct ca : Int} (h : inB ct 0 500000 = false) : baseB side mass ball jm ja ct ca = false := by simp [baseB, h]
theorem baseB_ca {side mass ball jm ja ct ca : Int} (h : inB ca 0 1000 = false) : baseB side mass ball jm ja ct ca = false := by simp [baseB, h]
theorem baseB_good {side mass ball jm ja ct ca : Int} (hside : inB side 10 200 = true) (hmass : inB mass 1 500000 = true) (hball : inB ball 0 500000 = true) (hjm : inB jm 0 500000 = true) (hja : inB ja 0 1000 = true) (hct : inB ct 0 500000 = true) (hca : inB ca 0 1000 = true) : baseB side mass ball jm ja ct ca = true := by simp [baseB, hside, hmass, hball, hjm, hja, hct, hca]
theorem baseB_of {side mass ball jm ja ct ca : Int} (h : baseB side mass ball jm ja ct ca = true) : 10 ≤ side ∧ side ≤ 200 ∧ 1 ≤ mass ∧ mass ≤ 500000 ∧ 0 ≤ ball ∧ ball ≤ 500000 ∧ 0 ≤ jm ∧ jm ≤ 500000 ∧ 0 ≤ ja ∧ ja ≤ 1000 ∧ 0 ≤ ct ∧ ct ≤ 500000 ∧ 0 ≤ ca ∧ ca ≤ 1000 := by
  simp only [baseB, Bool.and_eq_true, inB_iff] at h; omega
theorem l06Mass_any (n : Int) (w : World) : Calls Try.prog 65 #[.int .i64 n] w fun e w' => e = .returned (.bool (inB n 0 500000)) ∧ w = w' := by
  go_enter Try.func65, Try.ntmps65
  go_wp2_with (go_at_call 61; refine (l00In_any _ _ _ _).mono ?_; rintro e w' ⟨rfl, rfl⟩)
  go_ret
  exact ⟨rfl, rfl⟩
set_option maxHeartbeats 1000000 in
theorem l06Ok_any (side mass ball jm ja ct ca : Int) (g : Nat) (w : World) (c0 : w.cell? ⟨g, 0, none⟩ = some (.int .i64 side)) (c1 : w.cell? ⟨g, 1, none⟩ = some (.int .i64 mass)) (c2 : w.cell? ⟨g, 2, none⟩ = some (.int .i64 ball)) (c3 : w.cell? ⟨g, 3, none⟩ = some (.int .i64 jm)) (c4 : w.cell? ⟨g, 4, none⟩ = some (.int .i64 ja)) (c5 : w.cell? ⟨g, 5, none⟩ = some (.int .i64 ct)) (c6 : w.cell? ⟨g, 6, none⟩ = some (.int .i64 ca)) : Calls Try.prog 54 #[.pointer (some ⟨g, 0, none⟩)] w fun e w' => e = .returned (.bool (baseB side mass ball jm ja ct ca)) ∧ w = w' := by
  cases hside : inB side 10 200
  · rw [baseB_side hside]
    go_enter Try.func54, Try.ntmps54
    go_wp2_with (first | (go_at_call 65; refine (l06Mass_any _ _).mono ?_; rintro e w' ⟨rfl, rfl⟩) | (go_at_call 61; refine (l00In_any _ _ _ _).mono ?_; rintro e w' ⟨rfl, rfl⟩))
    go_ret
    exact ⟨rfl, rfl⟩
  · cases hmass : inB mass 1 500000
    · rw [baseB_mass hmass]
      go_enter Try.func54, Try.ntmps54
      go_wp2_with (first | (go_at_call 65; refine (l06Mass_any _ _).mono ?_; rintro e w' ⟨rfl, rfl⟩) | (go_at_call 61; refine (l00In_any _ _ _ _).mono ?_; rintro e w' ⟨rfl, rfl⟩))
      go_ret
      exact ⟨rfl, rfl⟩
    · cases hball : inB ball 0 500000
      · rw [baseB_ball hball]
        go_enter Try.func54, Try.ntmps54
        go_wp2_with (first | (go_at_call 65; refine (l06Mass_any _ _).mono ?_; rintro e w' ⟨rfl, rfl⟩) | (go_at_call 61; refine (l00In_any _ _ _ _).mono ?_; rintro e w' ⟨rfl, rfl⟩))
        go_ret
        exact ⟨rfl, rfl⟩
      · cases hjm : inB jm 0 500000
        · rw [baseB_jm hjm]
          go_enter Try.func54, Try.ntmps54
          go_wp2_with (first | (go_at_call 65; refine (l06Mass_any _ _).mono ?_; rintro e w' ⟨rfl, rfl⟩) | (go_at_call 61; refine (l00In_any _ _ _ _).mono ?_; rintro e w' ⟨rfl, rfl⟩))
          go_ret
          exact ⟨rfl, rfl⟩
        · cases hct : inB ct 0 500000
          · rw [baseB_ct hct]
            go_enter Try.func54, Try.ntmps54
            go_wp2_with (first | (go_at_call 65; refine (l06Mass_any _ _).mono ?_; rintro e w' ⟨rfl, rfl⟩) | (go_at_call 61; refine (l00In_any _ _ _ _).mono ?_; rintro e w' ⟨rfl, rfl⟩))
            go_ret
            exact ⟨rfl, rfl⟩
          · cases hja : inB ja 0 1000
            · rw [baseB_ja hja]
              go_enter Try.func54, Try.ntmps54
              go_wp2_with (first | (go_at_call 65; refine (l06Mass_any _ _).mono ?_; rintro e w' ⟨rfl, rfl⟩) | (go_at_call 61; refine (l00In_any _ _ _ _).mono ?_; rintro e w' ⟨rfl, rfl⟩))
              go_ret
              exact ⟨rfl, rfl⟩
            · cases hca : inB ca 0 1000
              · rw [baseB_ca hca]
                go_enter Try.func54, Try.ntmps54
                go_wp2_with (first | (go_at_call 65; refine (l06Mass_any _ _).mono ?_; rintro e w' ⟨rfl, rfl⟩) | (go_at_call 61; refine (l00In_any _ _ _ _).mono ?_; rintro e w' ⟨rfl, rfl⟩))
                go_ret
                exact ⟨rfl, rfl⟩
              · rw [baseB_good hside hmass hball hjm hja hct hca]
                go_enter Try.func54, Try.ntmps54
                go_wp2_with (first | (go_at_call 65; refine (l06Mass_any _ _).mono ?_; rintro e w' ⟨rfl, rfl⟩) | (go_at_call 61; refine (l00In_any _ _ _ _).mono ?_; rintro e w' ⟨rfl, rfl⟩))
                go_ret
                exact ⟨rfl, rfl⟩
set_option maxHeartbeats 2000000 in
theorem implValidBase_any (side mass ball jm ja ct ca : Int) (w : World) : Calls Try.prog 62 #[.agg #[.int .i64 side, .int .i64 mass, .int .i64 ball, .int .i64 jm, .int .i64 ja, .int .i64 ct, .int .i64 ca]] w fun e w' => e = .returned (.bool (baseB side mass ball jm ja ct ca)) ∧ Below w.heap.size w w' := by
  cases hball : inB ball 0 500000
  · rw [baseB_ball hball]
    go_enter Try.func62, Try.ntmps62
    go_wp2
    go_loop [4, 13] (fun _ i => ∃ k : Nat, k ≤ 0 ∧ i = .int .i64 k) (fun _ i => 4 - (intOf i).toNat)
    case atStart => exact ⟨0, by omega, rfl⟩
    case round =>
      obtain ⟨k, hk, rfl⟩ := hrel
      obtain rfl : k = 0 := by omega
      go_wp2_with (go_at_call 63; refine (within_any _ _ _ _).mono ?_; rintro e w' ⟨rfl, rfl⟩)
      go_ret
      exact ⟨rfl, below_alloc2 w _ _⟩
  · cases hjm : inB jm 0 500000
    · rw [baseB_jm hjm]
      go_enter Try.func62, Try.ntmps62
      go_wp2
      go_loop [4, 13] (fun _ i => ∃ k : Nat, k ≤ 1 ∧ i = .int .i64 k) (fun _ i => 4 - (intOf i).toNat)
      case atStart => exact ⟨0, by omega, rfl⟩
      case round =>
        obtain ⟨k, hk, rfl⟩ := hrel
        obtain rfl | rfl : k = 0 ∨ k = 1 := by omega
        · go_wp2_with (go_at_call 63; refine (within_any _ _ _ _).mono ?_; rintro e w' ⟨rfl, rfl⟩)
          exact ⟨⟨1, by omega, rfl⟩, by simp [intOf]⟩
        · go_wp2_with (go_at_call 63; refine (within_any _ _ _ _).mono ?_; rintro e w' ⟨rfl, rfl⟩)
          go_ret
          exact ⟨rfl, below_alloc2 w _ _⟩
    · cases hct : inB ct 0 500000
      · rw [baseB_ct hct]
        go_enter Try.func62, Try.ntmps62
        go_wp2
        go_loop [4, 13] (fun _ i => ∃ k : Nat, k ≤ 2 ∧ i = .int .i64 k) (fun _ i => 4 - (intOf i).toNat)
        case atStart => exact ⟨0, by omega, rfl⟩
        case round =>
          obtain ⟨k, hk, rfl⟩ := hrel
          obtain rfl | rfl | rfl : k = 0 ∨ k = 1 ∨ k = 2 := by omega
          · go_wp2_with (go_at_call 63; refine (within_any _ _ _ _).mono ?_; rintro e w' ⟨rfl, rfl⟩)
            exact ⟨⟨1, by omega, rfl⟩, by simp [intOf]⟩
          · go_wp2_with (go_at_call 63; refine (within_any _ _ _ _).mono ?_; rintro e w' ⟨rfl, rfl⟩)
            exact ⟨⟨2, by omega, rfl⟩, by simp [intOf]⟩
          · go_wp2_with (go_at_call 63; refine (within_any _ _ _ _).mono ?_; rintro e w' ⟨rfl, rfl⟩)
            go_ret
            exact ⟨rfl, below_alloc2 w _ _⟩
      · cases hside : inB side 10 200
        · rw [baseB_side hside]
          go_enter Try.func62, Try.ntmps62
          go_wp2
          go_loop [4, 13] (fun _ i => ∃ k : Nat, k ≤ 3 ∧ i = .int .i64 k) (fun _ i => 4 - (intOf i).toNat)
          case atStart => exact ⟨0, by omega, rfl⟩
          case round =>
            obtain ⟨k, hk, rfl⟩ := hrel
            obtain rfl | rfl | rfl | rfl : k = 0 ∨ k = 1 ∨ k = 2 ∨ k = 3 := by omega
            · go_wp2_with (go_at_call 63; refine (within_any _ _ _ _).mono ?_; rintro e w' ⟨rfl, rfl⟩)
              exact ⟨⟨1, by omega, rfl⟩, by simp [intOf]⟩
            · go_wp2_with (go_at_call 63; refine (within_any _ _ _ _).mono ?_; rintro e w' ⟨rfl, rfl⟩)
              exact ⟨⟨2, by omega, rfl⟩, by simp [intOf]⟩
            · go_wp2_with (go_at_call 63; refine (within_any _ _ _ _).mono ?_; rintro e w' ⟨rfl, rfl⟩)
              exact ⟨⟨3, by omega, rfl⟩, by simp [intOf]⟩
            · go_wp2_with (go_at_call 63; refine (within_any _ _ _ _).mono ?_; rintro e w' ⟨rfl, rfl⟩)
              go_ret
              exact ⟨rfl, below_alloc2 w _ _⟩
        · cases hmass : inB mass 1 500000
          · rw [baseB_mass hmass]
            go_enter Try.func62, Try.ntmps62
            go_wp2
            go_loop [4, 13] (fun _ i => ∃ k : Nat, k ≤ 3 ∧ i = .int .i64 k) (fun _ i => 4 - (intOf i).toNat)
            case atStart => exact ⟨0, by omega, rfl⟩
            case round =>
              obtain ⟨k, hk, rfl⟩ := hrel
              obtain rfl | rfl | rfl | rfl : k = 0 ∨ k = 1 ∨ k = 2 ∨ k = 3 := by omega
              · go_wp2_with (go_at_call 63; refine (within_any _ _ _ _).mono ?_; rintro e w' ⟨rfl, rfl⟩)
                exact ⟨⟨1, by omega, rfl⟩, by simp [intOf]⟩
              · go_wp2_with (go_at_call 63; refine (within_any _ _ _ _).mono ?_; rintro e w' ⟨rfl, rfl⟩)
                exact ⟨⟨2, by omega, rfl⟩, by simp [intOf]⟩
              · go_wp2_with (go_at_call 63; refine (within_any _ _ _ _).mono ?_; rintro e w' ⟨rfl, rfl⟩)
                exact ⟨⟨3, by omega, rfl⟩, by simp [intOf]⟩
              · go_wp2_with (go_at_call 63; refine (within_any _ _ _ _).mono ?_; rintro e w' ⟨rfl, rfl⟩)
                go_ret
                exact ⟨rfl, below_alloc2 w _ _⟩
          · cases hja : inB ja 0 1000
            · rw [baseB_ja hja]
              go_enter Try.func62, Try.ntmps62
              go_wp2
              go_loop [4, 13] (fun _ i => ∃ k : Nat, k ≤ 3 ∧ i = .int .i64 k) (fun _ i => 4 - (intOf i).toNat)
              case atStart => exact ⟨0, by omega, rfl⟩
              case round =>
                obtain ⟨k, hk, rfl⟩ := hrel
                obtain rfl | rfl | rfl | rfl : k = 0 ∨ k = 1 ∨ k = 2 ∨ k = 3 := by omega
                · go_wp2_with (go_at_call 63; refine (within_any _ _ _ _).mono ?_; rintro e w' ⟨rfl, rfl⟩)
                  exact ⟨⟨1, by omega, rfl⟩, by simp [intOf]⟩
                · go_wp2_with (go_at_call 63; refine (within_any _ _ _ _).mono ?_; rintro e w' ⟨rfl, rfl⟩)
                  exact ⟨⟨2, by omega, rfl⟩, by simp [intOf]⟩
                · go_wp2_with (go_at_call 63; refine (within_any _ _ _ _).mono ?_; rintro e w' ⟨rfl, rfl⟩)
                  exact ⟨⟨3, by omega, rfl⟩, by simp [intOf]⟩
                · go_wp2_with (go_at_call 63; refine (within_any _ _ _ _).mono ?_; rintro e w' ⟨rfl, rfl⟩)
                  go_ret
                  exact ⟨rfl, below_alloc2 w _ _⟩
            · cases hca : inB ca 0 1000
              · rw [baseB_ca hca]
                go_enter Try.func62, Try.ntmps62
                go_wp2
                go_loop [4, 13] (fun _ i => ∃ k : Nat, k ≤ 3 ∧ i = .int .i64 k) (fun _ i => 4 - (intOf i).toNat)
                case atStart => exact ⟨0, by omega, rfl⟩
                case round =>
                  obtain ⟨k, hk, rfl⟩ := hrel
                  obtain rfl | rfl | rfl | rfl : k = 0 ∨ k = 1 ∨ k = 2 ∨ k = 3 := by omega
                  · go_wp2_with (go_at_call 63; refine (within_any _ _ _ _).mono ?_; rintro e w' ⟨rfl, rfl⟩)
                    exact ⟨⟨1, by omega, rfl⟩, by simp [intOf]⟩
                  · go_wp2_with (go_at_call 63; refine (within_any _ _ _ _).mono ?_; rintro e w' ⟨rfl, rfl⟩)
                    exact ⟨⟨2, by omega, rfl⟩, by simp [intOf]⟩
                  · go_wp2_with (go_at_call 63; refine (within_any _ _ _ _).mono ?_; rintro e w' ⟨rfl, rfl⟩)
                    exact ⟨⟨3, by omega, rfl⟩, by simp [intOf]⟩
                  · go_wp2_with (go_at_call 63; refine (within_any _ _ _ _).mono ?_; rintro e w' ⟨rfl, rfl⟩)
                    go_ret
                    exact ⟨rfl, below_alloc2 w _ _⟩
              · rw [baseB_good hside hmass hball hjm hja hct hca]
                go_enter Try.func62, Try.ntmps62
                go_wp2
                go_loop [4, 13] (fun _ i => ∃ k : Nat, k ≤ 3 ∧ i = .int .i64 k) (fun _ i => 4 - (intOf i).toNat)
                case atStart => exact ⟨0, by omega, rfl⟩
                case round =>
                  obtain ⟨k, hk, rfl⟩ := hrel
                  obtain rfl | rfl | rfl | rfl : k = 0 ∨ k = 1 ∨ k = 2 ∨ k = 3 := by omega
                  · go_wp2_with (go_at_call 63; refine (within_any _ _ _ _).mono ?_; rintro e w' ⟨rfl, rfl⟩)
                    exact ⟨⟨1, by omega, rfl⟩, by simp [intOf]⟩
                  · go_wp2_with (go_at_call 63; refine (within_any _ _ _ _).mono ?_; rintro e w' ⟨rfl, rfl⟩)
                    exact ⟨⟨2, by omega, rfl⟩, by simp [intOf]⟩
                  · go_wp2_with (go_at_call 63; refine (within_any _ _ _ _).mono ?_; rintro e w' ⟨rfl, rfl⟩)
                    exact ⟨⟨3, by omega, rfl⟩, by simp [intOf]⟩
                  · go_wp2_with (go_at_call 63; refine (within_any _ _ _ _).mono ?_; rintro e w' ⟨rfl, rfl⟩)
                    go_ret
                    exact ⟨rfl, below_alloc2 w _ _⟩
end Go.Proofs.Ytfnoapejkpeacaa
