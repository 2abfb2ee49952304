/- What is said here: the library's Count, Cut, Split at one byte, and path.letters, in the form in which a print takes a function. -/
import Derived.Test.YtilhpgjohpekkaaDoorPLib3
namespace Go.Proofs.YtilhpgjohpekkaaDoor.PLib
set_option linter.unusedVariables false
open Go.RowKit Go.Lib Go.Proofs.YtilhpgjohpekkaaDoorW.PrintWords Go.Proofs.YtilhpgjohpekkaaDoorW.PrintLast Go.Proofs.YtilhpgjohpekkaaDoorW.PrintMore

def countF (a0 a1 : ByteArray) : Option Int := match a1.data.toList with
  | [c] => some ((a0.data.toList.count c : Nat) : Int)
  | _ => none
def cutF (a0 a1 : ByteArray) : Option (ByteArray × ByteArray × Bool) := match a1.data.toList with
  | [c] => if a0.size ≤ 1000000000 then some (cutS c a0) else none
  | _ => none
def splitF (a0 a1 : ByteArray) : Option (List ByteArray) := match a1.data.toList with
  | [c] => if a0.size ≤ 1000000000 then some (pieces c a0) else none
  | _ => none
def lettersF (a0 : ByteArray) : Option Bool := if a0.size ≤ 1000000000 then some (letS a0) else none
theorem one (a1 : ByteArray) (c : UInt8) (h : a1.data.toList = [c]) : a1 = ⟨#[c]⟩ := by
  have := txt_data a1
  rw [h] at this
  exact this.symm
theorem countF_calls (a0 a1 : ByteArray) (r : Int) (w : World) (h : countF a0 a1 = some r) :
    Calls Tryd.prog 48 #[.string a0, .string a1] w fun e w' => e = .returned (.int .i64 r) ∧ Drawn0 w w' := by
  unfold countF at h
  split at h
  · rename_i c hc
    obtain rfl := one a1 c hc
    injection h with h
    subst h
    exact (count_one a0 c w).mono fun e w' ⟨he, hw⟩ => ⟨he, by rw [hw]; exact Drawn0.refl _⟩
  · cases h
theorem cutF_calls (a0 a1 : ByteArray) (r1 : ByteArray) (r2 : ByteArray) (r3 : Bool) (w : World) (h : cutF a0 a1 = some (r1, r2, r3)) :
    Calls Tryd.prog 37 #[.string a0, .string a1] w fun e w' => e = .returned (.tuple #[.string r1, .string r2, .bool r3]) ∧ Drawn0 w w' := by
  unfold cutF at h
  split at h
  · rename_i c hc
    obtain rfl := one a1 c hc
    split at h
    · injection h with h
      refine (cut_one a0 c w (by omega)).mono fun e w' ⟨he, hw⟩ => ⟨?_, hw⟩
      rw [he, h]
    · cases h
  · cases h
theorem splitF_calls (a0 a1 : ByteArray) (r : List ByteArray) (w : World) (h : splitF a0 a1 = some r) :
    Calls Tryd.prog 33 #[.string a0, .string a1] w fun e w' => ∃ v0_ : Value, e = .returned (v0_) ∧ Kd.R Kd.string 9 w' w.heap.size (fun _ => True) v0_ r ∧ Below w.heap.size w w' := by
  unfold splitF at h
  split at h
  · rename_i c hc
    obtain rfl := one a1 c hc
    split at h
    · injection h with h
      subst h
      rename_i hs
      refine (split_one a0 c w (by omega)).mono fun e w' ⟨he, hw⟩ => ⟨_, he, ?_, ?_⟩
      · rw [hw]
        refine split_R w _ ?_
        have := count_le c a0
        unfold pieces
        rw [List.length_map, segs_len]
        omega
      · rw [hw]
        exact (Below.refl _ _).alloc (Nat.le_refl _) _
    · cases h
  · cases h
theorem lettersF_calls (a0 : ByteArray) (r : Bool) (w : World) (h : lettersF a0 = some r) :
    Calls Tryd.prog 50 #[.string a0] w fun e w' => e = .returned (.bool r) ∧ Below w.heap.size w w' := by
  unfold lettersF at h
  split at h
  · injection h with h
    subst h
    exact letters a0 w (by omega)
  · cases h
end Go.Proofs.YtilhpgjohpekkaaDoor.PLib
