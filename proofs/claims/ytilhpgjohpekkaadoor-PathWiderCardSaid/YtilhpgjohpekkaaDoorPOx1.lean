/- What is said here: what the Go functions named below answer, each as a plain function with the proof that its call comes to that answer; written by a program out of the translation. No condition. -/
import Derived.Test.YtilhpgjohpekkaaDoorPOx0
namespace Go.Proofs.YtilhpgjohpekkaaDoor.PO
open Go.RowKit Go.Proofs.YtilhpgjohpekkaaDoorW.PrintWords Go.Proofs.YtilhpgjohpekkaaDoorW.PrintLast Go.Proofs.YtilhpgjohpekkaaDoorW.PrintMore
attribute [local go_sem] max2_int min2_int max_two min_two max_three min_three max_four min_four   -- for this text's walks alone
set_option linter.unusedVariables false
set_option linter.unusedSimpArgs false

/-! ### strings_Count: function 48 -/
def strings_Count.f (a0 : ByteArray) (a1 : ByteArray) : Option (Int) := Go.Proofs.YtilhpgjohpekkaaDoor.PC.strings_Count.f a0 a1
theorem strings_Count.calls (a0 : ByteArray) (a1 : ByteArray) (r : Int) (w : World) (h : strings_Count.f a0 a1 = some r) :
    Calls Tryd.prog 48 #[.string a0, .string a1] w fun e w' => e = .returned (.int .i64 r) ∧ Drawn0 w w' := Go.Proofs.YtilhpgjohpekkaaDoor.PC.strings_Count.calls a0 a1 r w h


/-! ### path_long: function 32 -/
def path_long.f (a0 : ByteArray) : Option (Bool) := Go.Proofs.YtilhpgjohpekkaaDoor.PC.path_long.f a0
theorem path_long.calls (a0 : ByteArray) (r : Bool) (w : World) (h : path_long.f a0 = some r) :
    Calls Tryd.prog 32 #[.string a0] w fun e w' => e = .returned (.bool r) ∧ Drawn0 w w' := Go.Proofs.YtilhpgjohpekkaaDoor.PC.path_long.calls a0 r w h


/-! ### strings_Split: function 33 -/
def strings_Split.f (a0 : ByteArray) (a1 : ByteArray) : Option (List ByteArray) := Go.Proofs.YtilhpgjohpekkaaDoor.PC.strings_Split.f a0 a1
theorem strings_Split.calls (a0 : ByteArray) (a1 : ByteArray) (r : List ByteArray) (w : World) (h : strings_Split.f a0 a1 = some r) :
    Calls Tryd.prog 33 #[.string a0, .string a1] w fun e w' => ∃ v0_ : Value, e = .returned (v0_) ∧ Kd.R Kd.string 9 w' w.heap.size (fun _ => True) v0_ r ∧ Below w.heap.size w w' := Go.Proofs.YtilhpgjohpekkaaDoor.PC.strings_Split.calls a0 a1 r w h


/-! ### path_letters: function 50 -/
def path_letters.f (a0 : ByteArray) : Option (Bool) := Go.Proofs.YtilhpgjohpekkaaDoor.PC.path_letters.f a0
theorem path_letters.calls (a0 : ByteArray) (r : Bool) (w : World) (h : path_letters.f a0 = some r) :
    Calls Tryd.prog 50 #[.string a0] w fun e w' => e = .returned (.bool r) ∧ Below w.heap.size w w' := Go.Proofs.YtilhpgjohpekkaaDoor.PC.path_letters.calls a0 r w h


/-! ### path_segment: function 34 -/
def path_segment.f (a0 : ByteArray) : Option (Bool) := Go.Proofs.YtilhpgjohpekkaaDoor.PC.path_segment.f a0
theorem path_segment.calls (a0 : ByteArray) (r : Bool) (w : World) (h : path_segment.f a0 = some r) :
    Calls Tryd.prog 34 #[.string a0] w fun e w' => e = .returned (.bool r) ∧ Below w.heap.size w w' := Go.Proofs.YtilhpgjohpekkaaDoor.PC.path_segment.calls a0 r w h


/-! ### path_Split: function 16 -/
def path_Split.f (a0 : ByteArray) : Option (List ByteArray × Int) := Go.Proofs.YtilhpgjohpekkaaDoor.PC.path_Split.f a0
theorem path_Split.calls (a0 : ByteArray) (r1 : List ByteArray) (r2 : Int) (w : World) (h : path_Split.f a0 = some (r1, r2)) :
    Calls Tryd.prog 16 #[.string a0] w fun e w' => ∃ v0_ : Value, e = .returned (.tuple #[v0_, .int .i64 r2]) ∧ Kd.R Kd.string 9 w' w.heap.size (fun _ => True) v0_ r1 ∧ Below w.heap.size w w' := Go.Proofs.YtilhpgjohpekkaaDoor.PC.path_Split.calls a0 r1 r2 w h


/-! ### path_Check: function 12 -/
def path_Check.f (a0 : ByteArray) : Option (Int) := Go.Proofs.YtilhpgjohpekkaaDoor.PC.path_Check.f a0
theorem path_Check.calls (a0 : ByteArray) (r : Int) (w : World) (h : path_Check.f a0 = some r) :
    Calls Tryd.prog 12 #[.string a0] w fun e w' => e = .returned (.int .i64 r) ∧ Below w.heap.size w w' := Go.Proofs.YtilhpgjohpekkaaDoor.PC.path_Check.calls a0 r w h


/-! ### stringslite_HasSuffix: function 71 -/
def stringslite_HasSuffix.f (a0 : ByteArray) (a1 : ByteArray) : Option (Bool) := Go.Proofs.YtilhpgjohpekkaaDoor.PC.stringslite_HasSuffix.f a0 a1
theorem stringslite_HasSuffix.calls (a0 : ByteArray) (a1 : ByteArray) (r : Bool) (w : World) (h : stringslite_HasSuffix.f a0 a1 = some r) :
    Calls Tryd.prog 71 #[.string a0, .string a1] w fun e w' => e = .returned (.bool r) ∧ Drawn0 w w' := Go.Proofs.YtilhpgjohpekkaaDoor.PC.stringslite_HasSuffix.calls a0 a1 r w h


/-! ### stringslite_CutSuffix: function 53 -/
def stringslite_CutSuffix.f (a0 : ByteArray) (a1 : ByteArray) : Option (ByteArray × Bool) := Go.Proofs.YtilhpgjohpekkaaDoor.PC.stringslite_CutSuffix.f a0 a1
theorem stringslite_CutSuffix.calls (a0 : ByteArray) (a1 : ByteArray) (r1 : ByteArray) (r2 : Bool) (w : World) (h : stringslite_CutSuffix.f a0 a1 = some (r1, r2)) :
    Calls Tryd.prog 53 #[.string a0, .string a1] w fun e w' => e = .returned (.tuple #[.string r1, .bool r2]) ∧ Drawn0 w w' := Go.Proofs.YtilhpgjohpekkaaDoor.PC.stringslite_CutSuffix.calls a0 a1 r1 r2 w h


/-! ### strings_CutSuffix: function 39 -/
def strings_CutSuffix.f (a0 : ByteArray) (a1 : ByteArray) : Option (ByteArray × Bool) := Go.Proofs.YtilhpgjohpekkaaDoor.PC.strings_CutSuffix.f a0 a1
theorem strings_CutSuffix.calls (a0 : ByteArray) (a1 : ByteArray) (r1 : ByteArray) (r2 : Bool) (w : World) (h : strings_CutSuffix.f a0 a1 = some (r1, r2)) :
    Calls Tryd.prog 39 #[.string a0, .string a1] w fun e w' => e = .returned (.tuple #[.string r1, .bool r2]) ∧ Drawn0 w w' := Go.Proofs.YtilhpgjohpekkaaDoor.PC.strings_CutSuffix.calls a0 a1 r1 r2 w h


/-! ### path_head: function 35 -/
def path_head.f (a0 : ByteArray) : Option (ByteArray × Bool) := Go.Proofs.YtilhpgjohpekkaaDoor.PC.path_head.f a0
theorem path_head.calls (a0 : ByteArray) (r1 : ByteArray) (r2 : Bool) (w : World) (h : path_head.f a0 = some (r1, r2)) :
    Calls Tryd.prog 35 #[.string a0] w fun e w' => e = .returned (.tuple #[.string r1, .bool r2]) ∧ Below w.heap.size w w' := Go.Proofs.YtilhpgjohpekkaaDoor.PC.path_head.calls a0 r1 r2 w h


/-! ### path_CheckPattern: function 14 -/
def path_CheckPattern.f (k : Nat) (a0 : ByteArray) : Option (Int) := Go.Proofs.YtilhpgjohpekkaaDoor.PC.path_CheckPattern.f k a0
theorem path_CheckPattern.mono : ∀ a0 k, LeO (path_CheckPattern.f k a0) (path_CheckPattern.f (k + 1) a0) := Go.Proofs.YtilhpgjohpekkaaDoor.PC.path_CheckPattern.mono
theorem path_CheckPattern.calls (k : Nat) (a0 : ByteArray) (r : Int) (w : World) (h : path_CheckPattern.f k a0 = some r) :
    Calls Tryd.prog 14 #[.string a0] w fun e w' => e = .returned (.int .i64 r) ∧ Below w.heap.size w w' := Go.Proofs.YtilhpgjohpekkaaDoor.PC.path_CheckPattern.calls k a0 r w h


/-! ### strings_Cut: function 37 -/
def strings_Cut.f (a0 : ByteArray) (a1 : ByteArray) : Option (ByteArray × ByteArray × Bool) := Go.Proofs.YtilhpgjohpekkaaDoor.PC.strings_Cut.f a0 a1
theorem strings_Cut.calls (a0 : ByteArray) (a1 : ByteArray) (r1 : ByteArray) (r2 : ByteArray) (r3 : Bool) (w : World) (h : strings_Cut.f a0 a1 = some (r1, r2, r3)) :
    Calls Tryd.prog 37 #[.string a0, .string a1] w fun e w' => e = .returned (.tuple #[.string r1, .string r2, .bool r3]) ∧ Drawn0 w w' := Go.Proofs.YtilhpgjohpekkaaDoor.PC.strings_Cut.calls a0 a1 r1 r2 r3 w h


/-! ### stringslite_HasPrefix: function 52 -/
def stringslite_HasPrefix.f (a0 : ByteArray) (a1 : ByteArray) : Option (Bool) := Go.Proofs.YtilhpgjohpekkaaDoor.PC.stringslite_HasPrefix.f a0 a1
theorem stringslite_HasPrefix.calls (a0 : ByteArray) (a1 : ByteArray) (r : Bool) (w : World) (h : stringslite_HasPrefix.f a0 a1 = some r) :
    Calls Tryd.prog 52 #[.string a0, .string a1] w fun e w' => e = .returned (.bool r) ∧ Drawn0 w w' := Go.Proofs.YtilhpgjohpekkaaDoor.PC.stringslite_HasPrefix.calls a0 a1 r w h


/-! ### strings_HasPrefix: function 38 -/
def strings_HasPrefix.f (a0 : ByteArray) (a1 : ByteArray) : Option (Bool) := Go.Proofs.YtilhpgjohpekkaaDoor.PC.strings_HasPrefix.f a0 a1
theorem strings_HasPrefix.calls (a0 : ByteArray) (a1 : ByteArray) (r : Bool) (w : World) (h : strings_HasPrefix.f a0 a1 = some r) :
    Calls Tryd.prog 38 #[.string a0, .string a1] w fun e w' => e = .returned (.bool r) ∧ Drawn0 w w' := Go.Proofs.YtilhpgjohpekkaaDoor.PC.strings_HasPrefix.calls a0 a1 r w h


/-! ### path_Match: function 19 -/
def path_Match.f (k : Nat) (a0 : ByteArray) (a1 : ByteArray) : Option (Bool) := Go.Proofs.YtilhpgjohpekkaaDoor.PC.path_Match.f k a0 a1
theorem path_Match.mono : ∀ a0 a1 k, LeO (path_Match.f k a0 a1) (path_Match.f (k + 1) a0 a1) := Go.Proofs.YtilhpgjohpekkaaDoor.PC.path_Match.mono
theorem path_Match.calls (k : Nat) (a0 : ByteArray) (a1 : ByteArray) (r : Bool) (w : World) (h : path_Match.f k a0 a1 = some r) :
    Calls Tryd.prog 19 #[.string a0, .string a1] w fun e w' => e = .returned (.bool r) ∧ Below w.heap.size w w' := Go.Proofs.YtilhpgjohpekkaaDoor.PC.path_Match.calls k a0 a1 r w h


/-! ### ciboriumlaw15_works: function 11 -/
def ciboriumlaw15_works.f (k : Nat)  : Option (Bool) := Go.Proofs.YtilhpgjohpekkaaDoor.PC.ciboriumlaw15_works.f k
theorem ciboriumlaw15_works.mono : ∀ k, LeO (ciboriumlaw15_works.f k ) (ciboriumlaw15_works.f (k + 1) ) := Go.Proofs.YtilhpgjohpekkaaDoor.PC.ciboriumlaw15_works.mono
theorem ciboriumlaw15_works.calls (k : Nat)  (r : Bool) (w : World) (h : ciboriumlaw15_works.f k  = some r) :
    Calls Tryd.prog 11 #[] w fun e w' => e = .returned (.bool r) ∧ Below w.heap.size w w' := Go.Proofs.YtilhpgjohpekkaaDoor.PC.ciboriumlaw15_works.calls k r w h


/-! ### path_More: function 26 -/
def path_More.f (a0 : ByteArray) (a1 : ByteArray) : Option (Int) := if a0.size ≤ 1000000 ∧ a1.size ≤ 1000000 then some (Go.Proofs.YtilhpgjohpekkaaDoor.PMore.moreR a0 a1) else none
theorem path_More.calls (a0 : ByteArray) (a1 : ByteArray) (r : Int) (w : World) (h : path_More.f a0 a1 = some r) :
    Calls Tryd.prog 26 #[.string a0, .string a1] w fun e w' => e = .returned (.int .i64 r) ∧ Below w.heap.size w w' := by
  unfold path_More.f at h
  by_cases hs : a0.size ≤ 1000000 ∧ a1.size ≤ 1000000
  · rw [if_pos hs] at h
    obtain rfl := Option.some.inj h
    exact Go.Proofs.YtilhpgjohpekkaaDoor.PMore.more_calls a0 a1 w hs.1 hs.2
  · rw [if_neg hs] at h
    exact absurd h (by simp)


/-! ### ciboriumref15_parts: function 30 -/
def ciboriumref15_parts.f (k : Nat) (a0 : ByteArray) : Option (List ByteArray) := Go.Proofs.YtilhpgjohpekkaaDoor.PC.ciboriumref15_parts.f k a0
theorem ciboriumref15_parts.mono : ∀ a0 k, LeO (ciboriumref15_parts.f k a0) (ciboriumref15_parts.f (k + 1) a0) := Go.Proofs.YtilhpgjohpekkaaDoor.PC.ciboriumref15_parts.mono
theorem ciboriumref15_parts.calls (k : Nat) (a0 : ByteArray) (r : List ByteArray) (w : World) (h : ciboriumref15_parts.f k a0 = some r) :
    Calls Tryd.prog 30 #[.string a0] w fun e w' => ∃ v0_ : Value, e = .returned (v0_) ∧ Kd.R Kd.string 9 w' w.heap.size (fun _ => True) v0_ r ∧ Below w.heap.size w w' := Go.Proofs.YtilhpgjohpekkaaDoor.PC.ciboriumref15_parts.calls k a0 r w h


/-! ### ciboriumref15_long: function 29 -/
def ciboriumref15_long.f (k : Nat) (a0 : ByteArray) : Option (Bool) := Go.Proofs.YtilhpgjohpekkaaDoor.PC.ciboriumref15_long.f k a0
theorem ciboriumref15_long.mono : ∀ a0 k, LeO (ciboriumref15_long.f k a0) (ciboriumref15_long.f (k + 1) a0) := Go.Proofs.YtilhpgjohpekkaaDoor.PC.ciboriumref15_long.mono
theorem ciboriumref15_long.calls (k : Nat) (a0 : ByteArray) (r : Bool) (w : World) (h : ciboriumref15_long.f k a0 = some r) :
    Calls Tryd.prog 29 #[.string a0] w fun e w' => e = .returned (.bool r) ∧ Below w.heap.size w w' := Go.Proofs.YtilhpgjohpekkaaDoor.PC.ciboriumref15_long.calls k a0 r w h


/-! ### ciboriumref15_letter: function 65 -/
def ciboriumref15_letter.f (a0 : Int) : Option (Bool) := Go.Proofs.YtilhpgjohpekkaaDoor.PC.ciboriumref15_letter.f a0
theorem ciboriumref15_letter.calls (a0 : Int) (r : Bool) (w : World) (h : ciboriumref15_letter.f a0 = some r) :
    Calls Tryd.prog 65 #[.int .u8 a0] w fun e w' => e = .returned (.bool r) ∧ Drawn0 w w' := Go.Proofs.YtilhpgjohpekkaaDoor.PC.ciboriumref15_letter.calls a0 r w h


/-! ### ciboriumref15_letters: function 47 -/
def ciboriumref15_letters.f (k : Nat) (a0 : ByteArray) : Option (Bool) := Go.Proofs.YtilhpgjohpekkaaDoor.PC.ciboriumref15_letters.f k a0
theorem ciboriumref15_letters.mono : ∀ a0 k, LeO (ciboriumref15_letters.f k a0) (ciboriumref15_letters.f (k + 1) a0) := Go.Proofs.YtilhpgjohpekkaaDoor.PC.ciboriumref15_letters.mono
theorem ciboriumref15_letters.calls (k : Nat) (a0 : ByteArray) (r : Bool) (w : World) (h : ciboriumref15_letters.f k a0 = some r) :
    Calls Tryd.prog 47 #[.string a0] w fun e w' => e = .returned (.bool r) ∧ Drawn0 w w' := Go.Proofs.YtilhpgjohpekkaaDoor.PC.ciboriumref15_letters.calls k a0 r w h


/-! ### ciboriumref15_segment: function 31 -/
def ciboriumref15_segment.f (k : Nat) (a0 : ByteArray) : Option (Bool) := Go.Proofs.YtilhpgjohpekkaaDoor.PC.ciboriumref15_segment.f k a0
theorem ciboriumref15_segment.mono : ∀ a0 k, LeO (ciboriumref15_segment.f k a0) (ciboriumref15_segment.f (k + 1) a0) := Go.Proofs.YtilhpgjohpekkaaDoor.PC.ciboriumref15_segment.mono
theorem ciboriumref15_segment.calls (k : Nat) (a0 : ByteArray) (r : Bool) (w : World) (h : ciboriumref15_segment.f k a0 = some r) :
    Calls Tryd.prog 31 #[.string a0] w fun e w' => e = .returned (.bool r) ∧ Drawn0 w w' := Go.Proofs.YtilhpgjohpekkaaDoor.PC.ciboriumref15_segment.calls k a0 r w h


/-! ### ciboriumref15_Star: function 36 -/
def ciboriumref15_Star.f (k : Nat) (a0 : ByteArray) : Option (Bool) := Go.Proofs.YtilhpgjohpekkaaDoor.PC.ciboriumref15_Star.f k a0
theorem ciboriumref15_Star.mono : ∀ a0 k, LeO (ciboriumref15_Star.f k a0) (ciboriumref15_Star.f (k + 1) a0) := Go.Proofs.YtilhpgjohpekkaaDoor.PC.ciboriumref15_Star.mono
theorem ciboriumref15_Star.calls (k : Nat) (a0 : ByteArray) (r : Bool) (w : World) (h : ciboriumref15_Star.f k a0 = some r) :
    Calls Tryd.prog 36 #[.string a0] w fun e w' => e = .returned (.bool r) ∧ Drawn0 w w' := Go.Proofs.YtilhpgjohpekkaaDoor.PC.ciboriumref15_Star.calls k a0 r w h


/-! ### ciboriumref15_CheckPattern: function 15 -/
def ciboriumref15_CheckPattern.f (k : Nat) (a0 : ByteArray) : Option (Int) := Go.Proofs.YtilhpgjohpekkaaDoor.PC.ciboriumref15_CheckPattern.f k a0
theorem ciboriumref15_CheckPattern.mono : ∀ a0 k, LeO (ciboriumref15_CheckPattern.f k a0) (ciboriumref15_CheckPattern.f (k + 1) a0) := Go.Proofs.YtilhpgjohpekkaaDoor.PC.ciboriumref15_CheckPattern.mono
theorem ciboriumref15_CheckPattern.calls (k : Nat) (a0 : ByteArray) (r : Int) (w : World) (h : ciboriumref15_CheckPattern.f k a0 = some r) :
    Calls Tryd.prog 15 #[.string a0] w fun e w' => e = .returned (.int .i64 r) ∧ Below w.heap.size w w' := Go.Proofs.YtilhpgjohpekkaaDoor.PC.ciboriumref15_CheckPattern.calls k a0 r w h


/-! ### ciboriumref15_than: function 43 -/
def ciboriumref15_than.f (a0 : Int) (a1 : Int) : Option (Int) := if a0 > a1 then (some 1) else (if a0 < a1 then (some (-1)) else (some 0))
set_option maxHeartbeats 8000000 in
set_option maxRecDepth 100000 in
theorem ciboriumref15_than.calls (a0 : Int) (a1 : Int) (r : Int) (w : World) (h : ciboriumref15_than.f a0 a1 = some r) :
    Calls Tryd.prog 43 #[.int .i64 a0, .int .i64 a1] w fun e w' => e = .returned (.int .i64 r) ∧ Drawn0 w w' := by
  have H : (if a0 > a1 then (some 1) else (if a0 < a1 then (some (-1)) else (some 0))) = some r := h
  clear h
  by_cases c3 : a0 > a1
  · rw [if_pos c3] at H
    have c3b0 : decide (a1 < a0) = true := decide_eq_true c3
    clear c3
    obtain rfl := Option.some.inj H
    go_enter Tryd.func43, Tryd.ntmps43
    go_wp2
    go_ret
    exact ⟨by first | rfl | (simp; done) | (simp [*]; done), by repeat (first | exact Drawn0.refl _ | apply Drawn0.step)⟩
  · rw [if_neg c3] at H
    have c3b0 : decide (a1 < a0) = false := decide_eq_false c3
    clear c3
    by_cases c4 : a0 < a1
    · rw [if_pos c4] at H
      have c4b0 : decide (a0 < a1) = true := decide_eq_true c4
      clear c4
      obtain rfl := Option.some.inj H
      go_enter Tryd.func43, Tryd.ntmps43
      go_wp2
      go_ret
      exact ⟨by first | rfl | (simp; done) | (simp [*]; done), by repeat (first | exact Drawn0.refl _ | apply Drawn0.step)⟩
    · rw [if_neg c4] at H
      have c4b0 : decide (a0 < a1) = false := decide_eq_false c4
      clear c4
      obtain rfl := Option.some.inj H
      go_enter Tryd.func43, Tryd.ntmps43
      go_wp2
      go_ret
      exact ⟨by first | rfl | (simp; done) | (simp [*]; done), by repeat (first | exact Drawn0.refl _ | apply Drawn0.step)⟩

/-! ### ciboriumref15_number: function 44 -/
def ciboriumref15_number.f (a0 : Bool) : Option (Int) := if a0 = true then (some 1) else (some 0)
set_option maxHeartbeats 8000000 in
set_option maxRecDepth 100000 in
theorem ciboriumref15_number.calls (a0 : Bool) (r : Int) (w : World) (h : ciboriumref15_number.f a0 = some r) :
    Calls Tryd.prog 44 #[.bool a0] w fun e w' => e = .returned (.int .i64 r) ∧ Drawn0 w w' := by
  have H : (if a0 = true then (some 1) else (some 0)) = some r := h
  clear h
  by_cases c2 : a0 = true
  · subst c2
    have H1 : (some 1) = some r := by rw [if_pos rfl] at H; exact H
    clear H
    have H := H1
    clear H1
    obtain rfl := Option.some.inj H
    go_enter Tryd.func44, Tryd.ntmps44
    go_wp2
    go_ret
    exact ⟨by first | rfl | (simp; done) | (simp [*]; done), by repeat (first | exact Drawn0.refl _ | apply Drawn0.step)⟩
  · replace c2 := Bool.eq_false_iff.mpr c2
    subst c2
    have H1 : (some 0) = some r := by rw [if_neg (show ¬ (false = true) by decide)] at H; exact H
    clear H
    have H := H1
    clear H1
    obtain rfl := Option.some.inj H
    go_enter Tryd.func44, Tryd.ntmps44
    go_wp2
    go_ret
    exact ⟨by first | rfl | (simp; done) | (simp [*]; done), by repeat (first | exact Drawn0.refl _ | apply Drawn0.step)⟩

/-! ### ciboriumref15_first: function 45 -/
def ciboriumref15_first.l0 : Nat → ByteArray → Int → Option (Int)
  | 0, _, _ => none
  | k + 1, x0, x3 => if x3 < (x0.size : Int) then (if 0 ≤ x3 then (if (bt x0 x3) = 43 then (some x3) else (if (bt x0 x3) = 42 then (some x3) else (ciboriumref15_first.l0 k x0 (wrap64 (x3 + 1))))) else (none)) else (some 129)
def ciboriumref15_first.f (k : Nat) (a0 : ByteArray) : Option (Int) := ciboriumref15_first.l0 k a0 0
theorem ciboriumref15_first.mono_l : ∀ k, (∀ y0 y1, LeO (ciboriumref15_first.l0 k y0 y1) (ciboriumref15_first.l0 (k + 1) y0 y1))
  | 0 => fun _ _ r h => by simp [ciboriumref15_first.l0] at h
  | k + 1 => by
    have ih0 := ciboriumref15_first.mono_l k
    · intro y0 y1
      unfold ciboriumref15_first.l0
      repeat' first
      | (with_reducible exact ih0 _ _)
      | (with_reducible exact LeO.refl _)
      | (with_reducible exact LeO.none _)
      | (with_reducible refine LeO.ite ?_ ?_)
      | (with_reducible refine LeO.bind ?_ (fun _ => ?_))
      | exact ih0 _ _
      | exact LeO.none _
      | refine LeO.ite ?_ ?_
      | refine LeO.bind ?_ (fun _ => ?_)
theorem ciboriumref15_first.mono : ∀ a0 k, LeO (ciboriumref15_first.f k a0) (ciboriumref15_first.f (k + 1) a0) := by
  intro a0 k
  have ih0 := ciboriumref15_first.mono_l k
  unfold ciboriumref15_first.f
  repeat' first
      | (with_reducible exact ih0 _ _)
      | (with_reducible exact LeO.refl _)
      | (with_reducible exact LeO.none _)
      | (with_reducible refine LeO.ite ?_ ?_)
      | (with_reducible refine LeO.bind ?_ (fun _ => ?_))
      | exact ih0 _ _
      | exact LeO.none _
      | refine LeO.ite ?_ ?_
      | refine LeO.bind ?_ (fun _ => ?_)
set_option maxHeartbeats 8000000 in
set_option maxRecDepth 100000 in
theorem ciboriumref15_first.calls (k : Nat) (a0 : ByteArray) (r : Int) (w : World) (h : ciboriumref15_first.f k a0 = some r) :
    Calls Tryd.prog 45 #[.string a0] w fun e w' => e = .returned (.int .i64 r) ∧ Drawn0 w w' := by
  have H : (ciboriumref15_first.l0 k a0 0) = some r := h
  clear h
  have H' := Aside0.mk H
  clear H
  go_enter Tryd.func45, Tryd.ntmps45
  go_wp2
  go_loopg [3] k (fun kq v3 w' => ∃ (x3_1 : Int), v3 = .int .i64 x3_1 ∧ Aside0 (ciboriumref15_first.l0 kq a0 x3_1 = some r) ∧ Aside0 (kq ≤ k) ∧ Drawn0 w w')
  case atStart => exact ⟨(0), (by first | rfl | (simp; done) | (simp [*]; done)), H', ⟨Nat.le_refl _⟩, by repeat (first | exact Drawn0.refl _ | apply Drawn0.step)⟩
  case round =>
    clear H'
    obtain ⟨x3_1, rfl, HA, HK1, ⟨m1, rfl⟩⟩ := hrel
    cases gk with
    | zero => exact absurd HA.out (by simp [ciboriumref15_first.l0])
    | succ k1 =>
      have H := HA.out
      clear HA
      simp only [ciboriumref15_first.l0] at H
      by_cases c2 : x3_1 < (a0.size : Int)
      · rw [if_pos c2] at H
        have c2b0 : decide (x3_1 < (a0.size : Int)) = true := decide_eq_true c2
        clear c2
        by_cases c3 : 0 ≤ x3_1
        · rw [if_pos c3] at H
          have c3b0 : decide (0 ≤ x3_1) = true := decide_eq_true c3
          clear c3
          by_cases c5 : (bt a0 x3_1) = 43
          · rw [if_pos c5] at H
            have c5b0 : ((bt a0 x3_1) == 43) = true := beq_iff_eq.mpr c5
            have c5b1 : ((bt a0 x3_1) != 43) = false := bne_eq_false_iff_eq.mpr c5
            clear c5
            obtain rfl := Option.some.inj H
            have p4 : 0 ≤ (x3_1 : Int) := of_decide_eq_true (by first | (with_reducible assumption) | assumption)
            have q4 : x3_1 < (a0.size : Int) := of_decide_eq_true (by first | (with_reducible assumption) | assumption)
            have hx4 := bt_at a0 x3_1
            replace p4 := eq_true p4
            replace q4 := eq_true q4
            go_wp2
            go_ret
            exact ⟨by first | rfl | (simp; done) | (simp [*]; done), by repeat (first | exact Drawn0.refl _ | apply Drawn0.step)⟩
          · rw [if_neg c5] at H
            have c5b0 : ((bt a0 x3_1) == 43) = false := beq_eq_false_iff_ne.mpr c5
            have c5b1 : ((bt a0 x3_1) != 43) = true := bne_iff_ne.mpr c5
            by_cases c7 : (bt a0 x3_1) = 42
            · rw [if_pos c7] at H
              have c7b0 : ((bt a0 x3_1) == 42) = true := beq_iff_eq.mpr c7
              have c7b1 : ((bt a0 x3_1) != 42) = false := bne_eq_false_iff_eq.mpr c7
              clear c7
              obtain rfl := Option.some.inj H
              have p4 : 0 ≤ (x3_1 : Int) := of_decide_eq_true (by first | (with_reducible assumption) | assumption)
              have q4 : x3_1 < (a0.size : Int) := of_decide_eq_true (by first | (with_reducible assumption) | assumption)
              have hx4 := bt_at a0 x3_1
              replace p4 := eq_true p4
              replace q4 := eq_true q4
              have p6 : 0 ≤ (x3_1 : Int) := of_decide_eq_true (by first | (with_reducible assumption) | assumption)
              have q6 : x3_1 < (a0.size : Int) := of_decide_eq_true (by first | (with_reducible assumption) | assumption)
              have hx6 := bt_at a0 x3_1
              replace p6 := eq_true p6
              replace q6 := eq_true q6
              go_wp2
              go_ret
              exact ⟨by first | rfl | (simp; done) | (simp [*]; done), by repeat (first | exact Drawn0.refl _ | apply Drawn0.step)⟩
            · rw [if_neg c7] at H
              have c7b0 : ((bt a0 x3_1) == 42) = false := beq_eq_false_iff_ne.mpr c7
              have c7b1 : ((bt a0 x3_1) != 42) = true := bne_iff_ne.mpr c7
              have H' := Aside0.mk H
              clear H
              have p4 : 0 ≤ (x3_1 : Int) := of_decide_eq_true (by first | (with_reducible assumption) | assumption)
              have q4 : x3_1 < (a0.size : Int) := of_decide_eq_true (by first | (with_reducible assumption) | assumption)
              have hx4 := bt_at a0 x3_1
              replace p4 := eq_true p4
              replace q4 := eq_true q4
              have p6 : 0 ≤ (x3_1 : Int) := of_decide_eq_true (by first | (with_reducible assumption) | assumption)
              have q6 : x3_1 < (a0.size : Int) := of_decide_eq_true (by first | (with_reducible assumption) | assumption)
              have hx6 := bt_at a0 x3_1
              replace p6 := eq_true p6
              replace q6 := eq_true q6
              go_wp2
              go_roundg k1
              case measure => have := HK1.out; omega
              case rel => exact ⟨(wrap64 (x3_1 + 1)), (by first | rfl | (simp; done) | (simp [*]; done)), H', ⟨by have := HK1.out; omega⟩, by repeat (first | exact Drawn0.refl _ | apply Drawn0.step)⟩
        · rw [if_neg c3] at H
          exact absurd H (by simp)
      · rw [if_neg c2] at H
        have c2b0 : decide (x3_1 < (a0.size : Int)) = false := decide_eq_false c2
        clear c2
        obtain rfl := Option.some.inj H
        go_wp2
        go_ret
        exact ⟨by first | rfl | (simp; done) | (simp [*]; done), by repeat (first | exact Drawn0.refl _ | apply Drawn0.step)⟩

/-! ### ciboriumref15_pluses: function 46 -/
def ciboriumref15_pluses.l0 : Nat → ByteArray → Int → Int → Option (Int)
  | 0, _, _, _ => none
  | k + 1, x0, x3, x4 => if x4 < (x0.size : Int) then (if 0 ≤ x4 then (if (bt x0 x4) = 43 then (ciboriumref15_pluses.l0 k x0 (wrap64 (x3 + 1)) (wrap64 (x4 + 1))) else (ciboriumref15_pluses.l0 k x0 x3 (wrap64 (x4 + 1)))) else (none)) else (some x3)
def ciboriumref15_pluses.f (k : Nat) (a0 : ByteArray) : Option (Int) := ciboriumref15_pluses.l0 k a0 0 0
theorem ciboriumref15_pluses.mono_l : ∀ k, (∀ y0 y1 y2, LeO (ciboriumref15_pluses.l0 k y0 y1 y2) (ciboriumref15_pluses.l0 (k + 1) y0 y1 y2))
  | 0 => fun _ _ _ r h => by simp [ciboriumref15_pluses.l0] at h
  | k + 1 => by
    have ih0 := ciboriumref15_pluses.mono_l k
    · intro y0 y1 y2
      unfold ciboriumref15_pluses.l0
      repeat' first
      | (with_reducible exact ih0 _ _ _)
      | (with_reducible exact LeO.refl _)
      | (with_reducible exact LeO.none _)
      | (with_reducible refine LeO.ite ?_ ?_)
      | (with_reducible refine LeO.bind ?_ (fun _ => ?_))
      | exact ih0 _ _ _
      | exact LeO.none _
      | refine LeO.ite ?_ ?_
      | refine LeO.bind ?_ (fun _ => ?_)
theorem ciboriumref15_pluses.mono : ∀ a0 k, LeO (ciboriumref15_pluses.f k a0) (ciboriumref15_pluses.f (k + 1) a0) := by
  intro a0 k
  have ih0 := ciboriumref15_pluses.mono_l k
  unfold ciboriumref15_pluses.f
  repeat' first
      | (with_reducible exact ih0 _ _ _)
      | (with_reducible exact LeO.refl _)
      | (with_reducible exact LeO.none _)
      | (with_reducible refine LeO.ite ?_ ?_)
      | (with_reducible refine LeO.bind ?_ (fun _ => ?_))
      | exact ih0 _ _ _
      | exact LeO.none _
      | refine LeO.ite ?_ ?_
      | refine LeO.bind ?_ (fun _ => ?_)
set_option maxHeartbeats 8000000 in
set_option maxRecDepth 100000 in
theorem ciboriumref15_pluses.calls (k : Nat) (a0 : ByteArray) (r : Int) (w : World) (h : ciboriumref15_pluses.f k a0 = some r) :
    Calls Tryd.prog 46 #[.string a0] w fun e w' => e = .returned (.int .i64 r) ∧ Drawn0 w w' := by
  have H : (ciboriumref15_pluses.l0 k a0 0 0) = some r := h
  clear h
  have H' := Aside0.mk H
  clear H
  go_enter Tryd.func46, Tryd.ntmps46
  go_wp2
  go_loopg [3, 4] k (fun kq v3 v4 w' => ∃ (x3_1 : Int) (x4_1 : Int), v3 = .int .i64 x3_1 ∧ v4 = .int .i64 x4_1 ∧ Aside0 (ciboriumref15_pluses.l0 kq a0 x3_1 x4_1 = some r) ∧ Aside0 (kq ≤ k) ∧ Drawn0 w w')
  case atStart => exact ⟨(0), (0), (by first | rfl | (simp; done) | (simp [*]; done)), (by first | rfl | (simp; done) | (simp [*]; done)), H', ⟨Nat.le_refl _⟩, by repeat (first | exact Drawn0.refl _ | apply Drawn0.step)⟩
  case round =>
    clear H'
    obtain ⟨x3_1, x4_1, rfl, rfl, HA, HK1, ⟨m1, rfl⟩⟩ := hrel
    cases gk with
    | zero => exact absurd HA.out (by simp [ciboriumref15_pluses.l0])
    | succ k1 =>
      have H := HA.out
      clear HA
      simp only [ciboriumref15_pluses.l0] at H
      by_cases c2 : x4_1 < (a0.size : Int)
      · rw [if_pos c2] at H
        have c2b0 : decide (x4_1 < (a0.size : Int)) = true := decide_eq_true c2
        clear c2
        by_cases c3 : 0 ≤ x4_1
        · rw [if_pos c3] at H
          have c3b0 : decide (0 ≤ x4_1) = true := decide_eq_true c3
          clear c3
          by_cases c5 : (bt a0 x4_1) = 43
          · rw [if_pos c5] at H
            have c5b0 : ((bt a0 x4_1) == 43) = true := beq_iff_eq.mpr c5
            have c5b1 : ((bt a0 x4_1) != 43) = false := bne_eq_false_iff_eq.mpr c5
            clear c5
            have H' := Aside0.mk H
            clear H
            have p4 : 0 ≤ (x4_1 : Int) := of_decide_eq_true (by first | (with_reducible assumption) | assumption)
            have q4 : x4_1 < (a0.size : Int) := of_decide_eq_true (by first | (with_reducible assumption) | assumption)
            have hx4 := bt_at a0 x4_1
            replace p4 := eq_true p4
            replace q4 := eq_true q4
            go_wp2
            go_roundg k1
            case measure => have := HK1.out; omega
            case rel => exact ⟨(wrap64 (x3_1 + 1)), (wrap64 (x4_1 + 1)), (by first | rfl | (simp; done) | (simp [*]; done)), (by first | rfl | (simp; done) | (simp [*]; done)), H', ⟨by have := HK1.out; omega⟩, by repeat (first | exact Drawn0.refl _ | apply Drawn0.step)⟩
          · rw [if_neg c5] at H
            have c5b0 : ((bt a0 x4_1) == 43) = false := beq_eq_false_iff_ne.mpr c5
            have c5b1 : ((bt a0 x4_1) != 43) = true := bne_iff_ne.mpr c5
            have H' := Aside0.mk H
            clear H
            have p4 : 0 ≤ (x4_1 : Int) := of_decide_eq_true (by first | (with_reducible assumption) | assumption)
            have q4 : x4_1 < (a0.size : Int) := of_decide_eq_true (by first | (with_reducible assumption) | assumption)
            have hx4 := bt_at a0 x4_1
            replace p4 := eq_true p4
            replace q4 := eq_true q4
            go_wp2
            go_roundg k1
            case measure => have := HK1.out; omega
            case rel => exact ⟨(x3_1), (wrap64 (x4_1 + 1)), (by first | rfl | (simp; done) | (simp [*]; done)), (by first | rfl | (simp; done) | (simp [*]; done)), H', ⟨by have := HK1.out; omega⟩, by repeat (first | exact Drawn0.refl _ | apply Drawn0.step)⟩
        · rw [if_neg c3] at H
          exact absurd H (by simp)
      · rw [if_neg c2] at H
        have c2b0 : decide (x4_1 < (a0.size : Int)) = false := decide_eq_false c2
        clear c2
        obtain rfl := Option.some.inj H
        go_wp2
        go_ret
        exact ⟨by first | rfl | (simp; done) | (simp [*]; done), by repeat (first | exact Drawn0.refl _ | apply Drawn0.step)⟩

end Go.Proofs.YtilhpgjohpekkaaDoor.PO
