/- What is said here: what strings.CutSuffix tells at one byte. -/
import Derived.Test.YtilhpgjohpekkaaDoorPathPure
namespace Go.Proofs.YtilhpgjohpekkaaDoor.PathPure
set_option linter.unusedVariables false
set_option linter.unusedSimpArgs false
open Go.RowKit Go.Proofs.YtilhpgjohpekkaaDoor.PC Go.Proofs.YtilhpgjohpekkaaDoorW.PrintWords Go.Proofs.YtilhpgjohpekkaaDoorW.PrintLast
open PLib PSplit

theorem toL (s : ByteArray) : s.toList = s.data.toList := ByteArray.toList_eq s
theorem ext_list (s : ByteArray) (a b : Nat) : (s.extract a b).toList = (s.data.toList.take b).drop a := by
  rw [toL, extract_txt, txt_list]
theorem list_inj {a b : ByteArray} (h : a.toList = b.toList) : a = b := by
  rw [toL, toL] at h
  exact ByteArray.ext (Array.toList_inj.1 h)
/-- CutSuffix at one byte. -/
theorem cutSuffix_f (s : ByteArray) (c : UInt8) (hN : s.size ≤ 1000000) : strings_CutSuffix.f s ⟨#[c]⟩ = some (if s.size ≠ 0 ∧ bt s ((s.size - 1 : Nat) : Int) = (c.toNat : Int) then (s.extract 0 (s.size - 1), true) else (s, false)) := by
  have hd := size_data s
  have h1 : (⟨#[c]⟩ : ByteArray).size = 1 := rfl
  unfold strings_CutSuffix.f stringslite_CutSuffix.f stringslite_HasSuffix.f
  rw [h1]
  by_cases h0 : s.size = 0
  · rw [if_neg (by omega), Option.bind_some, if_neg (by decide), Option.bind_some, if_neg (by omega)]
  · have hw : wrap64 ((s.size : Int) - ((1 : Nat) : Int)) = ((s.size - 1 : Nat) : Int) := by rw [IntWalk.wrap64_in _ (by omega)]; omega
    rw [hw, if_pos (by omega), if_pos (by omega), if_pos (by omega), Option.bind_some, Int.toNat_natCast]
    have hlast : ((s.extract (s.size - 1) s.size).toList == (⟨#[c]⟩ : ByteArray).toList) = decide (bt s ((s.size - 1 : Nat) : Int) = (c.toNat : Int)) := by
      have hb := bt_eq s (s.data.toList.length - 1) (by omega) c
      rw [ext_list, hd, List.take_length, show s.data.toList.drop (s.data.toList.length - 1) = [s.data.toList[s.data.toList.length - 1]'(by omega)] by
        rw [List.drop_eq_getElem_cons (by omega), List.drop_eq_nil_of_le (by omega)]]
      rw [Bool.eq_iff_iff, beq_iff_eq, decide_eq_true_eq, hb, show (⟨#[c]⟩ : ByteArray).toList = [c] by rw [toL], List.cons.injEq]
      simp only [and_true]
    rw [hlast]
    by_cases hc : bt s ((s.size - 1 : Nat) : Int) = (c.toNat : Int)
    · rw [decide_eq_true hc, if_pos rfl, if_pos (by omega), if_pos (by omega), Option.bind_some, if_pos ⟨h0, hc⟩]
    · rw [decide_eq_false hc, if_neg (by decide), Option.bind_some, if_neg (fun h => hc h.2)]
end Go.Proofs.YtilhpgjohpekkaaDoor.PathPure
