/- Slices of cranes: how they read; of no program. -/
import Derived.Test.YtbdompadkeamdaaKit
import Derived.Test.YtbdompadkeamdaaMem
import Derived.Test.YtbdompadkeamdaaLists
namespace Go.Proofs.Ytbdompadkeamdaa
open Go.RowKit Go.WideShapes Go.ChangeShapes Go.Joins Go.Deep Go.Sort
set_option linter.unusedVariables false
/-- a crane -/
structure Crn where
  nm : ByteArray
  x : Int
  y : Int
  ht : Int
  jb : Int
  bk : Int
  L : List (Int × Int)
/-- the seven cells of a crane at a place, its chart below block B -/
def CrnAt (w : World) (B b o : Nat) (C : Crn) : Prop := ∃ (A : Option Addr) (m c : Nat), (w.cell? ⟨b, o, none⟩ = some (.string C.nm) ∧ w.cell? ⟨b, o + 1, none⟩ = some (.int .i64 C.x) ∧ w.cell? ⟨b, o + 2, none⟩ = some (.int .i64 C.y) ∧ w.cell? ⟨b, o + 3, none⟩ = some (.int .i64 C.ht) ∧ w.cell? ⟨b, o + 4, none⟩ = some (.int .i64 C.jb) ∧ w.cell? ⟨b, o + 5, none⟩ = some (.int .i64 C.bk) ∧ w.cell? ⟨b, o + 6, none⟩ = some (.slice A m c)) ∧ Steps w B A m C.L ∧ m ≤ maxLen ∧ C.nm.size ≤ maxLen
def Crns (w : World) (B : Nat) (A : Option Addr) (n : Nat) (Cs : List Crn) : Prop :=
  Cs.length = n ∧ (0 < n → ∃ b o, A = some ⟨b, o, none⟩ ∧ b < B ∧ ∀ j C, Cs[j]? = some C → CrnAt w B b (o + j * 7) C)
section
variable {w w' : World} {B B' b o n : Nat} {A : Option Addr} {C : Crn} {Cs : List Crn}
theorem CrnAt.keep (h : CrnAt w B b o C) (hb : b < B) (hk : ∀ p : Addr, p.block < B → w'.cell? p = w.cell? p) : CrnAt w' B b o C := by
  obtain ⟨A, m, c, ⟨c0, c1, c2, c3, c4, c5, c6⟩, S, h1, h2⟩ := h
  exact ⟨A, m, c, ⟨(hk ⟨b, o, none⟩ hb).trans c0, (hk ⟨b, o + 1, none⟩ hb).trans c1, (hk ⟨b, o + 2, none⟩ hb).trans c2, (hk ⟨b, o + 3, none⟩ hb).trans c3, (hk ⟨b, o + 4, none⟩ hb).trans c4, (hk ⟨b, o + 5, none⟩ hb).trans c5, (hk ⟨b, o + 6, none⟩ hb).trans c6⟩, S.keep hk, h1, h2⟩
theorem CrnAt.more (h : CrnAt w B b o C) (hB : B ≤ B') : CrnAt w B' b o C := by
  obtain ⟨A, m, c, hc, S, h1, h2⟩ := h
  exact ⟨A, m, c, hc, S.more hB, h1, h2⟩
theorem Crns.next (h : Crns w w.heap.size A n Cs) (hb : Below w.heap.size w w') : Crns w' w'.heap.size A n Cs :=
  ⟨h.1, fun hn => by
    obtain ⟨b, o, e, hbb, hc⟩ := h.2 hn
    exact ⟨b, o, e, Nat.lt_of_lt_of_le hbb hb.size, fun j C hj => ((hc j C hj).keep hbb (fun p hp => hb.cell hp)).more hb.size⟩⟩
theorem Crns.drewN (h : Crns w w.heap.size A n Cs) (k : Nat) : Crns (w.drewN k) (w.drewN k).heap.size A n Cs := h
theorem Crns.at_ {k : Nat} (h : Crns w w.heap.size A n Cs) (hk : k < n) : ∃ b o C, A = some ⟨b, o, none⟩ ∧ b < w.heap.size ∧ Cs[k]? = some C ∧ CrnAt w w.heap.size b (o + k * 7) C := by
  obtain ⟨b, o, e, hb, hc⟩ := h.2 (by omega)
  have hl : k < Cs.length := by have := h.1; omega
  exact ⟨b, o, _, e, hb, List.getElem?_eq_getElem hl, hc k _ (List.getElem?_eq_getElem hl)⟩
end

/-! ### a row that is filled crane by crane -/
def set7 (cs : Array Value) (k : Nat) (C : Crn) (A : Option Addr) (m c : Nat) : Array Value := ((((((cs.setIfInBounds (k * 7) (.string C.nm)).setIfInBounds (k * 7 + 1) (.int .i64 C.x)).setIfInBounds (k * 7 + 2) (.int .i64 C.y)).setIfInBounds (k * 7 + 3) (.int .i64 C.ht)).setIfInBounds (k * 7 + 4) (.int .i64 C.jb)).setIfInBounds (k * 7 + 5) (.int .i64 C.bk)).setIfInBounds (k * 7 + 6) (.slice A m c)
theorem set7_size (cs : Array Value) (k : Nat) (C : Crn) (A : Option Addr) (m c : Nat) : (set7 cs k C A m c).size = cs.size := by simp [set7]
theorem set7_old {cs : Array Value} {k i : Nat} (C : Crn) (A : Option Addr) (m c : Nat) (hi : i < k * 7) : (set7 cs k C A m c)[i]? = cs[i]? := by
  unfold set7
  simp only [Array.getElem?_setIfInBounds]
  repeat rw [if_neg (by omega)]
theorem set7_new {cs : Array Value} {k : Nat} (C : Crn) (A : Option Addr) (m c : Nat) (hs : k * 7 + 7 ≤ cs.size) : (set7 cs k C A m c)[k * 7]? = some (.string C.nm) ∧ (set7 cs k C A m c)[k * 7 + 1]? = some (.int .i64 C.x) ∧ (set7 cs k C A m c)[k * 7 + 2]? = some (.int .i64 C.y) ∧ (set7 cs k C A m c)[k * 7 + 3]? = some (.int .i64 C.ht) ∧ (set7 cs k C A m c)[k * 7 + 4]? = some (.int .i64 C.jb) ∧ (set7 cs k C A m c)[k * 7 + 5]? = some (.int .i64 C.bk) ∧ (set7 cs k C A m c)[k * 7 + 6]? = some (.slice A m c) := by
  refine ⟨?_, ?_, ?_, ?_, ?_, ?_, ?_⟩ <;> unfold set7 <;> simp only [Array.getElem?_setIfInBounds, Array.size_setIfInBounds]
  · rw [if_neg (by omega)]; rw [if_neg (by omega)]; rw [if_neg (by omega)]; rw [if_neg (by omega)]; rw [if_neg (by omega)]; rw [if_neg (by omega)]; rw [if_pos trivial, if_pos (by omega)]
  · rw [if_neg (by omega)]; rw [if_neg (by omega)]; rw [if_neg (by omega)]; rw [if_neg (by omega)]; rw [if_neg (by omega)]; rw [if_pos trivial, if_pos (by omega)]
  · rw [if_neg (by omega)]; rw [if_neg (by omega)]; rw [if_neg (by omega)]; rw [if_neg (by omega)]; rw [if_pos trivial, if_pos (by omega)]
  · rw [if_neg (by omega)]; rw [if_neg (by omega)]; rw [if_neg (by omega)]; rw [if_pos trivial, if_pos (by omega)]
  · rw [if_neg (by omega)]; rw [if_neg (by omega)]; rw [if_pos trivial, if_pos (by omega)]
  · rw [if_neg (by omega)]; rw [if_pos trivial, if_pos (by omega)]
  · rw [if_pos trivial, if_pos (by omega)]
/-- only block g has turned -/
def Only (g : Nat) (w w' : World) : Prop := w'.heap.size = w.heap.size ∧ ∀ b, b ≠ g → w'.heap[b]? = w.heap[b]?
theorem Only.set_ (g i : Nat) (w : World) (u : Value) : Only g w (w.setCell ⟨g, i, none⟩ u) := ⟨by simp, fun b hb => Below.heap_setCell _ _ _ _ (fun e => hb e)⟩
theorem Only.then {g : Nat} {w1 w2 w3 : World} (h : Only g w1 w2) (k : Only g w2 w3) : Only g w1 w3 := ⟨k.1.trans h.1, fun b hb => (k.2 b hb).trans (h.2 b hb)⟩
theorem Steps.only {g B n : Nat} {w w' : World} {A : Option Addr} {L : List (Int × Int)} (h : Steps w B A n L) (k : Only g w w') (hne : ∀ b o s, A = some ⟨b, o, s⟩ → g < b) : Steps w' B A n L :=
  ⟨h.1, fun hn => by
    obtain ⟨b, o, e, hb, hc⟩ := h.2 hn
    have hh := k.2 b (by have := hne b o none e; omega)
    exact ⟨b, o, e, hb, fun j s hj => ⟨(World.cell?_of_block (w := w) (a := ⟨b, _, none⟩) hh).trans (hc j s hj).1, (World.cell?_of_block (w := w) (a := ⟨b, _, none⟩) hh).trans (hc j s hj).2⟩⟩⟩
def Filled (w : World) (g k n : Nat) (cs : Array Value) (Cs : List Crn) : Prop := cs.size = n * 7 ∧ ∀ j C, j < k → Cs[j]? = some C → ∃ (A : Option Addr) (m c : Nat), (cs[j * 7]? = some (.string C.nm) ∧ cs[j * 7 + 1]? = some (.int .i64 C.x) ∧ cs[j * 7 + 2]? = some (.int .i64 C.y) ∧ cs[j * 7 + 3]? = some (.int .i64 C.ht) ∧ cs[j * 7 + 4]? = some (.int .i64 C.jb) ∧ cs[j * 7 + 5]? = some (.int .i64 C.bk) ∧ cs[j * 7 + 6]? = some (.slice A m c)) ∧ Steps w w.heap.size A m C.L ∧ (∀ b o s, A = some ⟨b, o, s⟩ → g < b) ∧ m ≤ maxLen ∧ C.nm.size ≤ maxLen
theorem Filled.none_ {w : World} {g n : Nat} {cs : Array Value} {Cs : List Crn} (h : cs.size = n * 7) : Filled w g 0 n cs Cs := ⟨h, fun j C hj => absurd hj (by omega)⟩
theorem Filled.on {w w' : World} {g k n : Nat} {cs : Array Value} {Cs : List Crn} (h : Filled w g k n cs Cs) (hb : Below w.heap.size w w') : Filled w' g k n cs Cs :=
  ⟨h.1, fun j C hj hC => by
    obtain ⟨A, m, c, ha, S, h1, h2, h3⟩ := h.2 j C hj hC
    exact ⟨A, m, c, ha, S.next hb, h1, h2, h3⟩⟩
theorem Filled.put {w w' : World} {g k n : Nat} {cs : Array Value} {Cs : List Crn} {C : Crn} {A : Option Addr} {m c : Nat} (h : Filled w g k n cs Cs) (hk : k < n) (hC : Cs[k]? = some C) (S : Steps w w.heap.size A m C.L) (hne : ∀ b o s, A = some ⟨b, o, s⟩ → g < b) (hm : m ≤ maxLen) (hz : C.nm.size ≤ maxLen) (ho : Only g w w') :
    Filled w' g (k + 1) n (set7 cs k C A m c) Cs := by
  refine ⟨by rw [set7_size]; exact h.1, fun j D hj hD => ?_⟩
  by_cases e : j = k
  · subst e
    rw [hC] at hD
    injection hD with hD
    subst hD
    exact ⟨A, m, c, set7_new C A m c (by rw [h.1]; omega), by rw [ho.1]; exact S.only ho hne, hne, hm, hz⟩
  · obtain ⟨A', m', c', ⟨a0, a1, a2, a3, a4, a5, a6⟩, S', h1, h2, h3⟩ := h.2 j D (by omega) hD
    refine ⟨A', m', c', ⟨?_, ?_, ?_, ?_, ?_, ?_, ?_⟩, by rw [ho.1]; exact S'.only ho h1, h1, h2, h3⟩
    · rw [set7_old C A m c (by omega)]; exact a0
    · rw [set7_old C A m c (by omega)]; exact a1
    · rw [set7_old C A m c (by omega)]; exact a2
    · rw [set7_old C A m c (by omega)]; exact a3
    · rw [set7_old C A m c (by omega)]; exact a4
    · rw [set7_old C A m c (by omega)]; exact a5
    · rw [set7_old C A m c (by omega)]; exact a6
theorem Steps.from_ {g n : Nat} {w w' : World} {A : Option Addr} {L : List (Int × Int)} (h : Steps w w.heap.size A n L) (hne : ∀ b o s, A = some ⟨b, o, s⟩ → g < b) (hz : w.heap.size ≤ w'.heap.size) (hk : ∀ b, g ≤ b → b < w.heap.size → w'.heap[b]? = w.heap[b]?) : Steps w' w'.heap.size A n L :=
  ⟨h.1, fun hn => by
    obtain ⟨b, o, e, hb, hc⟩ := h.2 hn
    have hh := hk b (by have := hne b o none e; omega) hb
    exact ⟨b, o, e, by omega, fun j s hj => ⟨(World.cell?_of_block (w := w) (a := ⟨b, _, none⟩) hh).trans (hc j s hj).1, (World.cell?_of_block (w := w) (a := ⟨b, _, none⟩) hh).trans (hc j s hj).2⟩⟩⟩
/-- the filled row reads in every later world that has left the row and what lies behind it alone -/
theorem Filled.all {w : World} {g n : Nat} {t : TypeId} {cs : Array Value} {Cs : List Crn} (h : Filled w g n n cs Cs) (hb : Blk w g t cs) (hl : Cs.length = n) :
    ∀ w' : World, w.heap.size ≤ w'.heap.size → (∀ b, g ≤ b → b < w.heap.size → w'.heap[b]? = w.heap[b]?) → Crns w' w'.heap.size (some ⟨g, 0, none⟩) n Cs := by
  intro w' hz hk
  have hb' : Blk w' g t cs := (hk g (Nat.le_refl _) hb.lt).trans hb
  refine ⟨hl, fun hn => ⟨g, 0, rfl, hb'.lt, fun j C hj => ?_⟩⟩
  have hjl : j < n := by have := (List.getElem?_eq_some_iff.1 hj).1; omega
  obtain ⟨A, m, c, ⟨a0, a1, a2, a3, a4, a5, a6⟩, S, h1, h2, h3⟩ := h.2 j C hjl hj
  rw [Nat.zero_add]
  exact ⟨A, m, c, ⟨(hb'.cell _).trans a0, (hb'.cell _).trans a1, (hb'.cell _).trans a2, (hb'.cell _).trans a3, (hb'.cell _).trans a4, (hb'.cell _).trans a5, (hb'.cell _).trans a6⟩, S.from_ h1 hz hk, h2, h3⟩
theorem row7 {w : World} {g k n : Nat} {t : TypeId} {cs : Array Value} (h : Blk w g t cs) (hs : cs.size = n * 7) (hk : k < n) : ∃ u0 u1 u2 u3 u4 u5 u6, w.cell? ⟨g, k * 7, none⟩ = some u0 ∧ w.cell? ⟨g, k * 7 + 1, none⟩ = some u1 ∧ w.cell? ⟨g, k * 7 + 2, none⟩ = some u2 ∧ w.cell? ⟨g, k * 7 + 3, none⟩ = some u3 ∧ w.cell? ⟨g, k * 7 + 4, none⟩ = some u4 ∧ w.cell? ⟨g, k * 7 + 5, none⟩ = some u5 ∧ w.cell? ⟨g, k * 7 + 6, none⟩ = some u6 :=
  ⟨_, _, _, _, _, _, _, (h.cell _).trans (Array.getElem?_eq_getElem (by omega)), (h.cell _).trans (Array.getElem?_eq_getElem (by omega)), (h.cell _).trans (Array.getElem?_eq_getElem (by omega)), (h.cell _).trans (Array.getElem?_eq_getElem (by omega)), (h.cell _).trans (Array.getElem?_eq_getElem (by omega)), (h.cell _).trans (Array.getElem?_eq_getElem (by omega)), (h.cell _).trans (Array.getElem?_eq_getElem (by omega))⟩

/-! ### cranes compared -/
def sameC (C D : Crn) : Bool := decide (C.nm = D.nm) && (decide (C.x = D.x ∧ C.y = D.y) && (decide (C.ht = D.ht) && (decide (C.jb = D.jb) && (decide (C.bk = D.bk) && decide (C.L = D.L)))))
def sameL : List Crn → List Crn → Bool
  | [], [] => true
  | C :: r, D :: s => sameC C D && sameL r s
  | _, _ => false
theorem sameL_len : ∀ {Cs Ds : List Crn}, Cs.length ≠ Ds.length → sameL Cs Ds = false
  | [], [], h => absurd rfl h
  | [], _ :: _, _ => rfl
  | _ :: _, [], _ => rfl
  | C :: r, D :: s, h => by
    rw [sameL, sameL_len (by simpa using h), Bool.and_false]
theorem sameL_at : ∀ {Cs Ds : List Crn} {k : Nat} {C D : Crn}, Cs[k]? = some C → Ds[k]? = some D → sameC C D = false → sameL Cs Ds = false
  | [], _, k, C, D, h, _, _ => by simp at h
  | _ :: _, [], k, C, D, _, h, _ => by simp at h
  | A :: r, B :: s, 0, C, D, h, h', e => by
    simp at h h'
    subst h h'
    rw [sameL, e, Bool.false_and]
  | A :: r, B :: s, k + 1, C, D, h, h', e => by
    rw [sameL, sameL_at (k := k) (by simpa using h) (by simpa using h') e, Bool.and_false]
theorem sameL_all : ∀ {Cs Ds : List Crn}, Cs.length = Ds.length → (∀ (k : Nat) (C D : Crn), Cs[k]? = some C → Ds[k]? = some D → sameC C D = true) → sameL Cs Ds = true
  | [], [], _, _ => rfl
  | [], _ :: _, h, _ => by simp at h
  | _ :: _, [], h, _ => by simp at h
  | A :: r, B :: s, h, hk => by
    rw [sameL, hk 0 A B rfl rfl, sameL_all (by simpa using h) (fun k C D hC hD => hk (k + 1) C D (by simpa using hC) (by simpa using hD))]
    rfl
end Go.Proofs.Ytbdompadkeamdaa
