/- A code, or what was asked: plain words, of no program. -/
import Derived.Test.YtbdompadkeamdaaKit
namespace Go.Proofs.Ytbdompadkeamdaa
open Go.RowKit Go.WideShapes Go.ChangeShapes Go.Joins Go.Deep Go.Sort
set_option linter.unusedVariables false
theorem in_r0 : inB 0 0 1000 = true := rfl
theorem in_l0 : inB 0 0 50000 = true := rfl
theorem in_p100 : inB 100 100 1000 = true := rfl
theorem same_below {P : Program} {f : FuncId} {args : Array Value} {w : World} {v : Value} (h : Calls P f args w fun e w' => e = .returned v ∧ w = w') : Calls P f args w fun e w' => e = .returned v ∧ Below w.heap.size w w' :=
  h.mono fun e w' ⟨he, hw⟩ => ⟨he, hw ▸ Below.refl _ _⟩
theorem mul_bd {a b A B : Int} (a0 : 0 ≤ a) (a1 : a ≤ A) (b0 : 0 ≤ b) (b1 : b ≤ B) : 0 ≤ a * b ∧ a * b ≤ A * B :=
  ⟨Int.mul_nonneg a0 b0, Int.mul_le_mul a1 b1 b0 (Int.le_trans a0 a1)⟩
def maxZ (a b : Int) : Int := if b < a then a else b
/-- a code, or what is asked -/
def codeRes (valid rng : Bool) (good bad : Value) : Value := match valid, rng with | true, true => good | true, false => .tuple #[bad, .int .i64 2] | false, _ => .tuple #[bad, .int .i64 1]
theorem codeRes_tt (g b : Value) : codeRes true true g b = g := rfl
theorem codeRes_tf (g b : Value) : codeRes true false g b = .tuple #[b, .int .i64 2] := rfl
theorem codeRes_f (r : Bool) (g b : Value) : codeRes false r g b = .tuple #[b, .int .i64 1] := by cases r <;> rfl
def codeV (valid rng : Bool) : Int := match valid, rng with | true, true => 0 | true, false => 2 | false, _ => 1
theorem codeV_tt : codeV true true = 0 := rfl
theorem codeV_tf : codeV true false = 2 := rfl
theorem codeV_f (r : Bool) : codeV false r = 1 := by cases r <;> rfl
end Go.Proofs.Ytbdompadkeamdaa
