/- The order of a region's text is one of its orders: the check, in parts. -/
import Derived.Test.YtbdompadkeamdaaProg
import Derived.KernelRfl
import Derived.Still
namespace Go.Proofs.Ytbdompadkeamdaa
/-- the operations of a region, by its number -/
def opsIn : Code → Nat → Option (Array Oper)
  | .region id ops _, n => if id == n then some ops else none
  | .seq a b, n => match opsIn a n with | some x => some x | none => opsIn b n
  | .cond _ a b, n => match opsIn a n with | some x => some x | none => opsIn b n
  | .block _ b, n => opsIn b n
  | .loop b, n => opsIn b n
  | .scope b, n => opsIn b n
  | _, _ => none
def regionOps (f : Func) (n : Nat) : Array Oper := (opsIn (f.body.getD .skip) n).getD #[]
/-- some rounds of the check, and what is listed behind them -/
def lexHead (ops : Array Oper) : Nat → Nat → Array Bool → Bool
  | 0, _, _ => true
  | m + 1, k, listed => (Region.ready .any ops listed).contains k && Region.free .any ops listed k && lexHead ops m (k + 1) (listed.setIfInBounds k true)
def setMany : Nat → Nat → Array Bool → Array Bool
  | 0, _, listed => listed
  | m + 1, k, listed => setMany m (k + 1) (listed.setIfInBounds k true)
theorem lex_split (ops : Array Oper) (b : Nat) : ∀ (a k : Nat) (listed : Array Bool), lexHead ops a k listed = true → Region.lexFrom .any ops b (k + a) (setMany a k listed) = true → Region.lexFrom .any ops (a + b) k listed = true
  | 0, k, listed, _, h => by rw [Nat.zero_add]; simpa [setMany] using h
  | a + 1, k, listed, h1, h2 => by
    rw [show a + 1 + b = (a + b) + 1 by omega]
    simp only [lexHead, Bool.and_eq_true] at h1
    simp only [Region.lexFrom, Bool.and_eq_true]
    refine ⟨h1.1, lex_split ops b a (k + 1) _ h1.2 ?_⟩
    rw [show k + 1 + a = k + (a + 1) by omega]
    exact h2
theorem lex_parts {ops : Array Oper} {a b c : Nat} (hn : Region.noSelect ops = true) (hs : ops.size = a + (b + c)) (h1 : lexHead ops a 0 (Array.replicate (a + (b + c)) false) = true)
    (h2 : lexHead ops b a (setMany a 0 (Array.replicate (a + (b + c)) false)) = true) (h3 : Region.lexFrom .any ops c (a + b) (setMany b a (setMany a 0 (Array.replicate (a + (b + c)) false))) = true) : Region.lexB .any ops = true := by
  unfold Region.lexB
  rw [hn, Bool.true_and, hs]
  refine lex_split ops (b + c) a 0 _ h1 ?_
  rw [Nat.zero_add]
  exact lex_split ops c b a _ h2 h3
theorem lex_of {f : Func} {n : Nat} {l : List Oper} (h : Region.lexB .any (regionOps f n) = true) (e : regionOps f n = l.toArray) : Region.lexB .any l.toArray = true := by
  rw [e] at h
  exact h
theorem same_size : (regionOps Try.f95 1).size = 20 + (22 + 23) := by kernel_rfl
theorem same_sel : Region.noSelect (regionOps Try.f95 1) = true := by kernel_rfl
theorem same_1 : lexHead (regionOps Try.f95 1) 20 0 (Array.replicate (20 + (22 + 23)) false) = true := by kernel_rfl
theorem same_2 : lexHead (regionOps Try.f95 1) 22 20 (setMany 20 0 (Array.replicate (20 + (22 + 23)) false)) = true := by kernel_rfl
theorem same_3 : Region.lexFrom .any (regionOps Try.f95 1) 23 (20 + 22) (setMany 22 20 (setMany 20 0 (Array.replicate (20 + (22 + 23)) false))) = true := by kernel_rfl
theorem lex_same : Region.lexB .any (regionOps Try.f95 1) = true := lex_parts same_sel same_size same_1 same_2 same_3
end Go.Proofs.Ytbdompadkeamdaa
