/- What is said here: what the library's Cut and Split answer at one byte. -/
import Derived.Test.YtilhpgjohpekkaaDoorPLib
import Derived.Test.YtilhpgjohpekkaaDoorWMore
import Derived.BigQuiet
import Derived.BigRegion
import Derived.Deep.QuietTactic
namespace Go.Proofs.YtilhpgjohpekkaaDoor.PLib
set_option linter.unusedVariables false
set_option linter.unusedSimpArgs false
open Go.RowKit Go.Lib Go.Proofs.YtilhpgjohpekkaaDoorW.PrintWords Go.Proofs.YtilhpgjohpekkaaDoorW.PrintLast Go.Proofs.YtilhpgjohpekkaaDoorW.PrintMore

/-- Ahead of the first c, and behind it. -/
def cutL (c : UInt8) : List UInt8 → List UInt8 × List UInt8 × Bool
  | [] => ([], [], false)
  | x :: l => if x = c then ([], l, true) else (x :: (cutL c l).1, (cutL c l).2.1, (cutL c l).2.2)
theorem cut_index (l : List UInt8) (c : UInt8) : (Lib.indexByte l c = -1 ∧ cutL c l = (l, [], false)) ∨ ∃ i : Nat, Lib.indexByte l c = i ∧ i < l.length ∧ cutL c l = (l.take i, l.drop (i + 1), true) := by
  induction l with
  | nil => exact Or.inl ⟨rfl, rfl⟩
  | cons x l ih =>
    by_cases h : x = c
    · refine Or.inr ⟨0, ?_, by simp, ?_⟩
      · simp [Lib.indexByte, h]
      · rw [cutL, if_pos h]; rfl
    · have hb : (x == c) = false := beq_eq_false_iff_ne.mpr h
      rcases ih with ⟨h1, h2⟩ | ⟨i, h1, h2, h3⟩
      · refine Or.inl ⟨?_, ?_⟩
        · rw [Lib.indexByte, hb, h1]; rfl
        · rw [cutL, if_neg h, h2]
      · refine Or.inr ⟨i + 1, ?_, by simp; omega, ?_⟩
        · have hn : (Lib.indexByte l c == -1) = false := beq_eq_false_iff_ne.mpr (by omega)
          rw [Lib.indexByte, hb, hn, h1]
          simp
        · rw [cutL, if_neg h, h3]
          rfl
theorem txt_data (s : ByteArray) : txt s.data.toList = s := by
  unfold txt
  exact ByteArray.ext (by simp)
theorem size_data (s : ByteArray) : s.size = s.data.toList.length := by rw [Array.length_toList]; rfl
theorem extract_txt (s : ByteArray) (a b : Nat) : s.extract a b = txt ((s.data.toList.take b).drop a) := by
  apply ByteArray.ext
  unfold txt
  apply Array.toList_inj.1
  rw [Lib.extract_data]
  simp [List.drop_take]
/-- strings.Cut. -/
def cutS (c : UInt8) (s : ByteArray) : ByteArray × ByteArray × Bool := (txt (cutL c s.data.toList).1, txt (cutL c s.data.toList).2.1, (cutL c s.data.toList).2.2)

set_option maxHeartbeats 2000000 in
set_option maxRecDepth 100000 in
theorem lite_Cut (s : ByteArray) (c : UInt8) (w : World) (hs : s.size ≤ 140737488351232) :
    Calls Tryd.prog 51 #[.string s, .string ⟨#[c]⟩] w fun e w' => e = .returned (.tuple #[.string (cutS c s).1, .string (cutS c s).2.1, .bool (cutS c s).2.2]) ∧ Drawn0 w w' := by
  have hsz := size_data s
  rcases cut_index s.data.toList c with ⟨h1, h2⟩ | ⟨i, h1, h2, h3⟩
  · have e : cutS c s = (s, ⟨#[]⟩, false) := by unfold cutS; rw [h2, txt_data]; rfl
    rw [e]
    clear e h2 hsz
    go_enter Tryd.func51, Tryd.ntmps51
    go_wp2_with (go_at_call 70; refine (lite_Index _ _ _).mono ?_; rintro e w' ⟨rfl, rfl⟩; rw [h1])
    go_ret3
    exact ⟨rfl, ⟨0, rfl⟩⟩
  · have e1 : s.extract 0 i = (cutS c s).1 := by unfold cutS; rw [h3, extract_txt]; rfl
    have e2 : s.extract (i + 1) s.size = (cutS c s).2.1 := by unfold cutS; rw [h3, extract_txt, hsz, List.take_length]
    have e3 : (cutS c s).2.2 = true := by unfold cutS; rw [h3]
    rw [← e1, ← e2, e3]
    have c1 : ¬ ((i : Int) < 0) := by omega
    have c0 : (0 : Int) ≤ (i : Int) := by omega
    have c2 : (i : Int) ≤ (s.size : Int) := by omega
    have c3 : (i : Int) + 1 ≤ (s.size : Int) := by omega
    have c4 : (0 : Int) ≤ (i : Int) + 1 := by omega
    have hw : IntKind.i64.wrap ((i : Int) + 1) = (i : Int) + 1 := IntWalk.i64_in _ (by omega)
    clear e1 e2 e3 h3 h2 hsz
    go_enter Tryd.func51, Tryd.ntmps51
    go_wp2_with (go_at_call 70; refine (lite_Index _ _ _).mono ?_; rintro e w' ⟨rfl, rfl⟩; rw [h1])

    go_region
    go_wp2
    go_ret3
    exact ⟨rfl, ⟨_, rfl⟩⟩
end Go.Proofs.YtilhpgjohpekkaaDoor.PLib
