/- What is said here: what the library's Count, Index, Cut, Split answer where they are asked for one byte. -/
import Derived.Test.YtilhpgjohpekkaaDoorProg
import Derived.Lib.Strings
import Derived.Lib.Slices
import Derived.Lib.Walk
import Derived.Lib.Bytealg
import Derived.Lib.Split
import Derived.Laws.Strings3
import Derived.Deep.OwnRows
import Derived.Deep.LoopGhost
import Derived.WalkKit
namespace Go.Proofs.YtilhpgjohpekkaaDoor.PLib
set_option linter.unusedVariables false
set_option linter.unusedSimpArgs false
open Go.RowKit Go.Lib

/-- A list, parted at each c. -/
def segs (c : UInt8) : List UInt8 → List (List UInt8)
  | [] => [[]]
  | x :: l => if x = c then [] :: segs c l else match segs c l with
    | [] => [[x]]
    | h :: t => (x :: h) :: t
theorem segs_ne (c : UInt8) (l : List UInt8) : segs c l ≠ [] := by
  cases l with
  | nil => simp [segs]
  | cons x l =>
    unfold segs
    split
    · simp
    · split <;> simp
theorem segs_len (c : UInt8) (l : List UInt8) : (segs c l).length = l.count c + 1 := by
  induction l with
  | nil => rfl
  | cons x l ih =>
    unfold segs
    by_cases h : x = c
    · rw [if_pos h, List.length_cons, ih, h, List.count_cons_self]
    · rw [if_neg h]
      have hne := segs_ne c l
      cases hs : segs c l with
      | nil => exact absurd hs hne
      | cons a t =>
        rw [hs] at ih
        show ((x :: a) :: t).length = _
        rw [List.count_cons_of_ne (Ne.symm (Ne.symm h)), ← ih]
        rfl
theorem index_nat (l : List UInt8) (c : UInt8) : (Lib.indexByte l c = -1 ∧ segs c l = [l]) ∨ ∃ i : Nat, Lib.indexByte l c = i ∧ i < l.length ∧ segs c l = l.take i :: segs c (l.drop (i + 1)) := by
  induction l with
  | nil => exact Or.inl ⟨rfl, rfl⟩
  | cons x l ih =>
    by_cases h : x = c
    · refine Or.inr ⟨0, ?_, by simp, ?_⟩
      · simp [Lib.indexByte, h]
      · rw [segs, if_pos h]; rfl
    · have hb : (x == c) = false := beq_eq_false_iff_ne.mpr h
      rcases ih with ⟨h1, h2⟩ | ⟨i, h1, h2, h3⟩
      · refine Or.inl ⟨?_, ?_⟩
        · rw [Lib.indexByte, hb, h1]; rfl
        · rw [segs, if_neg h, h2]
      · refine Or.inr ⟨i + 1, ?_, by simp; omega, ?_⟩
        · have hn : (Lib.indexByte l c == -1) = false := beq_eq_false_iff_ne.mpr (by omega)
          rw [Lib.indexByte, hb, hn, h1]
          simp
        · rw [segs, if_neg h, h3]
          rfl
theorem segs_hit (l : List UInt8) (c : UInt8) (i : Nat) (h : Lib.indexByte l c = i) : i < l.length ∧ segs c l = l.take i :: segs c (l.drop (i + 1)) := by
  rcases index_nat l c with ⟨h1, _⟩ | ⟨j, h1, h2, h3⟩
  · omega
  · obtain rfl : i = j := by omega
    exact ⟨h2, h3⟩
theorem segs_miss (l : List UInt8) (c : UInt8) (h : Lib.indexByte l c = -1) : segs c l = [l] := by
  rcases index_nat l c with ⟨_, h2⟩ | ⟨j, h1, _, _⟩
  · exact h2
  · omega

/-- As texts. -/
def txt (l : List UInt8) : ByteArray := ⟨l.toArray⟩
def pieces (c : UInt8) (s : ByteArray) : List ByteArray := (segs c s.data.toList).map txt

set_option maxHeartbeats 1000000 in
set_option maxRecDepth 100000 in
theorem count_one (s : ByteArray) (c : UInt8) (w : World) :
    Calls Tryd.prog 48 #[.string s, .string ⟨#[c]⟩] w fun e w' => e = .returned (.int .i64 (Lib.countByte s.data.toList c)) ∧ w' = w := by
  go_enter Tryd.func48, Tryd.ntmps48
  go_wp2
  rw [run_callFunc_extern Tryd.func67 (by kernel_rfl) (by kernel_rfl) (by kernel_rfl) (e := Extern.BytealgCount.count) (by kernel_rfl), Lib.run_countString]
  simp only [Result.andThen]
  rw [Oper.upon_value]
  go_wp2
  go_ret
  exact ⟨rfl, rfl⟩
set_option maxHeartbeats 1000000 in
set_option maxRecDepth 100000 in
theorem lite_IndexByte (s : ByteArray) (c : Int) (w : World) :
    Calls Tryd.prog 78 #[.string s, .int .u8 c] w fun e w' => e = .returned (.int .i64 (Lib.indexByte s.data.toList c.toNat.toUInt8)) ∧ w' = w := by
  go_enter Tryd.func78, Tryd.ntmps78
  go_wp2
  rw [run_callFunc_extern Tryd.func90 (by kernel_rfl) (by kernel_rfl) (by kernel_rfl) (e := Extern.BytealgIndexByte.indexByte) (by kernel_rfl), Lib.run_indexByteString]
  simp only [Result.andThen]
  rw [Oper.upon_value]
  go_wp2
  go_ret
  exact ⟨rfl, rfl⟩
set_option maxHeartbeats 2000000 in
set_option maxRecDepth 100000 in
theorem lite_Index (s : ByteArray) (c : UInt8) (w : World) :
    Calls Tryd.prog 70 #[.string s, .string ⟨#[c]⟩] w fun e w' => e = .returned (.int .i64 (Lib.indexByte s.data.toList c)) ∧ w' = w := by
  go_enter Tryd.func70, Tryd.ntmps70
  go_wp2_with (go_at_call 78; refine (lite_IndexByte _ _ _).mono ?_; rintro e w' ⟨rfl, rfl⟩)
  · have h : ([c] == s.toList) = true := by assumption
    go_ret
    refine ⟨?_, rfl⟩
    have e : s.data.toList = [c] := by rw [← Lib.toList_data]; exact (beq_iff_eq.1 h).symm
    rw [e]
    simp [Lib.indexByte]
  · go_ret
    exact ⟨rfl, rfl⟩
set_option maxHeartbeats 1000000 in
theorem index_one (s : ByteArray) (c : UInt8) (w : World) :
    Calls Tryd.prog 68 #[.string s, .string ⟨#[c]⟩] w fun e w' => e = .returned (.int .i64 (Lib.indexByte s.data.toList c)) ∧ w' = w := by
  go_enter Tryd.func68, Tryd.ntmps68
  go_wp2_with (go_at_call 70; refine (lite_Index _ _ _).mono ?_; rintro e w' ⟨rfl, rfl⟩)
  go_ret
  exact ⟨rfl, rfl⟩
end Go.Proofs.YtilhpgjohpekkaaDoor.PLib
