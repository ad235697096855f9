/- A decimal form read: the program's side by the library's contracts, and the law. -/
import Derived.Test.YtihbomgbkpmojaaDoorProg
import Derived.Test.YtihbomgbkpmojaaDoorKit
import Derived.Test.YtihbomgbkpmojaaDoorMem
import Derived.Test.YtihbomgbkpmojaaDoorStrs
import Derived.Test.YtihbomgbkpmojaaDoorShelf
import Derived.Test.YtihbomgbkpmojaaDoorDec
import Derived.Test.YtihbomgbkpmojaaDoorDec2
import Derived.Test.YtihbomgbkpmojaaDoorDec3
import Derived.Test.YtihbomgbkpmojaaDoorLaid
import Derived.Test.YtihbomgbkpmojaaDoorNum
import Derived.Test.YtihbomgbkpmojaaDoorNum2
import Derived.Lib.AtoiErrMem
namespace Go.Proofs.YtihbomgbkpmojaaDoor
open Go.RowKit Go.WideShapes Go.ChangeShapes Go.Joins Go.Deep Go.Sort
set_option linter.unusedVariables false
set_option linter.unusedSimpArgs false
theorem parse_yes (s : ByteArray) (hlim : s.size ≤ 1048576) (v : Int) (h : Lib.parseIntB 64 s.data.toList = .ok v) (w : World) :
    Calls Tryd.prog 34 #[.string s, .int .i64 10, .int .i64 64] w fun e w' => e = .returned (.tuple #[.int .i64 v, .nilIface]) ∧ Below w.heap.size w w' :=
  (Tryd.strconv_ParseInt_10_at64_ok s (by omega) v h w).mono fun e w' ⟨he, hw⟩ => ⟨he, by
    rcases hw with rfl | ⟨t, rfl⟩
    · exact Below.refl _ _
    · exact Lib.bytesWorld_below _ _ _⟩
def ParseBad (w : World) (e : Ending) (w' : World) : Prop := ∃ (z : Int) (N : Nat), e = .returned (.tuple #[.int .i64 z, .iface 103 (.pointer (some ⟨N, 0, none⟩))]) ∧ Below w.heap.size w w'
theorem parse_bad (s : ByteArray) (hlim : s.size ≤ 1048576) (h : ∀ v, Lib.parseIntB 64 s.data.toList ≠ .ok v) (w : World) (E : ErrsAt w) :
    Calls Tryd.prog 34 #[.string s, .int .i64 10, .int .i64 64] w (ParseBad w) := by
  obtain ⟨⟨t1, p1, v1⟩, ⟨t2, p2, v2⟩⟩ := E
  cases hh : Lib.parseIntB 64 s.data.toList
  · exact absurd hh (h _)
  · exact (Any.strconv_ParseInt_10_at64_syntax_var Tryd.laysC174 s (by omega) hh t1 p1 w v1).mono fun e w' ⟨N, he, _, _, hb⟩ => ⟨_, N, he, hb⟩
  · exact (Any.strconv_ParseInt_10_at64_range_var Tryd.laysC174 s (by omega) hh t2 p2 w v2).mono fun e w' ⟨N, he, _, _, hb⟩ => ⟨_, N, he, hb⟩
theorem trim_any (s : ByteArray) (w : World) : ∃ m : ByteArray, m.size = (magL s.data.toList).length ∧ Calls Tryd.prog 33 #[.string s, .string ⟨#[45]⟩] w fun e w' => e = .returned (.string m) ∧ w = w' := by
  refine ⟨⟨(magL s.data.toList).toArray⟩, by simp [ByteArray.size], ?_⟩
  have := Tryd.strings_TrimPrefix s ⟨#[45]⟩ w
  rw [show (ByteArray.mk #[45]).data.toList = [45] from rfl, trim_mag] at this
  exact this.mono fun e w' ⟨he, hw⟩ => ⟨he, hw.symm⟩
theorem value_bd {v : Int} {l : List UInt8} (h : Lib.parseIntB 64 l = .ok v) : -9223372036854775808 ≤ v ∧ v ≤ 9223372036854775807 := by
  have p63 : (2 : Nat) ^ (64 - 1) = 9223372036854775808 := by decide
  unfold Lib.parseIntB at h
  cases l with
  | nil => cases h
  | cons c r =>
    simp only at h
    split at h
    · cases h
    · cases h
    · split at h
      · cases h
      · split at h
        · cases h
        · injection h with h
          rw [p63] at *
          split at h <;> omega
set_option maxRecDepth 100000 in
set_option maxHeartbeats 1000000 in
theorem implReadDecimal_any (s : ByteArray) (w : World) (hs : s.size ≤ 1048576) (T : TabAt w) (E : ErrsAt w) : Calls Tryd.prog 11 #[.string s] w fun e w' => e = .returned (rdV (rd s.data.toList)) ∧ Below w.heap.size w w' := by
  obtain ⟨m, hm, C1⟩ := trim_any s w
  have HC1 := Lib.hid C1
  clear C1
  by_cases h18 : m.size ≤ 18
  · have HM : Hid ((magL s.data.toList).length ≤ 18) := by show _ ≤ _; omega
    clear hm
    by_cases hp : ∃ v, Lib.parseIntB 64 s.data.toList = .ok v
    · obtain ⟨v, hv⟩ := hp
      obtain ⟨v0, v1⟩ := value_bd hv
      have HC2 := Lib.hid (parse_yes s hs v hv w)
      have HD : Hid (∀ w, TabAt w → Calls Tryd.prog 9 #[.int .i64 v] w fun e w' => e = .returned (.string (decS v)) ∧ Below w.heap.size w w') := fun w T => implDecimal_any v w T v0 v1
      have HT := Lib.hid T
      clear T E
      by_cases hs' : decS v = s
      · have R : Hid (rd s.data.toList = some v) := rd_parse_yes hv HM.out (dec_same.1 hs')
        rw [hs'] at HD
        clear hs' hv v0 v1
        go_enter Tryd.func11, Tryd.ntmps11
        go_wp2_with fail
        refine HC1.out.mono ?_
        rintro e w' ⟨rfl, rfl⟩
        go_wp2_with fail
        refine HC2.out.mono ?_
        rintro e w1 ⟨rfl, hb1⟩
        have HT1 := Lib.hid (HT.out.on hb1)
        go_wp2_with fail
        refine (HD.out _ HT1.out).mono ?_
        rintro e w2 ⟨rfl, hb2⟩
        have B2 := hb1.trans (hb2.mono hb1.size)
        clear hb1 hb2
        go_wp2
        go_ret2
        exact ⟨by rw [R.out]; rfl, B2⟩
      · have R : Hid (rd s.data.toList = none) := rd_parse_no hv (fun h => hs' (dec_same.2 h))
        generalize decS v = x at HD hs'
        obtain ⟨n1, n2⟩ := list_ne hs'
        clear hs' hv v0 v1
        go_enter Tryd.func11, Tryd.ntmps11
        go_wp2_with fail
        refine HC1.out.mono ?_
        rintro e w' ⟨rfl, rfl⟩
        go_wp2_with fail
        refine HC2.out.mono ?_
        rintro e w1 ⟨rfl, hb1⟩
        have HT1 := Lib.hid (HT.out.on hb1)
        go_wp2_with fail
        refine (HD.out _ HT1.out).mono ?_
        rintro e w2 ⟨rfl, hb2⟩
        have B2 := hb1.trans (hb2.mono hb1.size)
        clear hb1 hb2
        go_wp2
        go_ret2
        exact ⟨by rw [R.out]; rfl, B2⟩
    · have hb : ∀ v, Lib.parseIntB 64 s.data.toList ≠ .ok v := fun v hv => hp ⟨v, hv⟩
      have R := Lib.hid (rd_parse_bad hb)
      have HC2 := Lib.hid (parse_bad s hs hb w E)
      clear hp hb T E
      go_enter Tryd.func11, Tryd.ntmps11
      go_wp2_with fail
      refine HC1.out.mono ?_
      rintro e w' ⟨rfl, rfl⟩
      go_wp2_with fail
      refine HC2.out.mono ?_
      rintro e w1 ⟨z, N, rfl, hb1⟩
      go_wp2_with fail
      go_ret2
      exact ⟨by rw [R.out]; rfl, hb1⟩
  · have R : Hid (rd s.data.toList = none) := rd_long (by omega)
    clear hm T E
    go_enter Tryd.func11, Tryd.ntmps11
    go_wp2_with fail
    refine HC1.out.mono ?_
    rintro e w' ⟨rfl, rfl⟩
    go_wp2
    go_ret2
    exact ⟨by rw [R.out]; rfl, Below.refl _ _⟩
theorem specReadDecimal_any (s : ByteArray) (w : World) (hs : s.size ≤ 1048576) : Calls Tryd.prog 10 #[.string s] w fun e w' => e = .returned (rdV (rd s.data.toList)) ∧ Below w.heap.size w w' := by
  have C := l01Number_any s w hs
  cases h : rd s.data.toList with
  | none =>
    rw [h, rdV_none] at C
    have HC := Lib.hid C
    clear C h
    go_enter Tryd.func10, Tryd.ntmps10
    go_wp2_with fail
    refine HC.out.mono ?_
    rintro e w1 ⟨rfl, hb1⟩
    go_wp2
    go_ret2
    exact ⟨rfl, hb1⟩
  | some v =>
    rw [h, rdV_some] at C
    have HC := Lib.hid C
    clear C h
    go_enter Tryd.func10, Tryd.ntmps10
    go_wp2_with fail
    refine HC.out.mono ?_
    rintro e w1 ⟨rfl, hb1⟩
    go_wp2
    go_ret2
    exact ⟨rfl, hb1⟩
theorem rdV_form (o : Option Int) : ∃ (v : Int) (b : Bool), rdV o = .tuple #[.int .i64 v, .bool b] := by
  cases o with
  | none => exact ⟨_, _, rfl⟩
  | some v => exact ⟨_, _, rfl⟩
theorem FnExactReadDecimal_walk (w : World) (TE : TabAt w ∧ ErrsAt w) (s : ByteArray) (hs : s.size ≤ maxLen) : Calls Tryd.prog 4 #[.string s] w fun e w' => e = .returned (.bool true) ∧ Below w.heap.size w w' := by
  by_cases hl : s.size ≤ 1048576
  · have C := Lib.hid (specReadDecimal_any s w hl)
    have D : Hid (∀ w, TabAt w → ErrsAt w → Calls Tryd.prog 11 #[.string s] w fun e w' => e = .returned (rdV (rd s.data.toList)) ∧ Below w.heap.size w w') := fun w T E => implReadDecimal_any s w hl T E
    obtain ⟨v, b, hv⟩ := rdV_form (rd s.data.toList)
    rw [hv] at C D
    have HT := Lib.hid TE
    clear hs TE hv
    go_enter Tryd.func4, Tryd.ntmps4
    go_wp2_with fail
    refine C.out.mono ?_
    rintro e w1 ⟨rfl, B1⟩
    have T1 := Lib.hid (HT.out.1.on B1)
    have E1 := Lib.hid (HT.out.2.on B1)
    go_wp2_with fail
    refine (D.out _ T1.out E1.out).mono ?_
    rintro e w2 ⟨rfl, hb⟩
    have B2 := B1.trans (hb.mono B1.size)
    clear hb B1
    go_wp2
    go_ret
    exact ⟨rfl, B2⟩
  · unfold maxLen at hs
    clear TE
    go_enter Tryd.func4, Tryd.ntmps4
    go_wp2
    go_ret
    exact ⟨rfl, Below.refl _ _⟩
end Go.Proofs.YtihbomgbkpmojaaDoor
