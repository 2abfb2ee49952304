/- What is said here: what the Go functions named below answer, each as a plain function with the proof that its call comes to that answer; written by a program out of the translation. No condition. -/
import Derived.Test.YtilhpgjohpekkaaDoorPMx0
namespace Go.Proofs.YtilhpgjohpekkaaDoor.PM
open Go.RowKit Go.Proofs.YtilhpgjohpekkaaDoorW.PrintWords Go.Proofs.YtilhpgjohpekkaaDoorW.PrintLast Go.Proofs.YtilhpgjohpekkaaDoorW.PrintMore
attribute [local go_sem] max2_int min2_int max_two min_two max_three min_three max_four min_four   -- for this text's walks alone
set_option linter.unusedVariables false
set_option linter.unusedSimpArgs false

/-! ### strings_Count: function 48 -/
def strings_Count.f (a0 : ByteArray) (a1 : ByteArray) : Option (Int) := Go.Proofs.YtilhpgjohpekkaaDoor.PC.strings_Count.f a0 a1
theorem strings_Count.calls (a0 : ByteArray) (a1 : ByteArray) (r : Int) (w : World) (h : strings_Count.f a0 a1 = some r) :
    Calls Tryd.prog 48 #[.string a0, .string a1] w fun e w' => e = .returned (.int .i64 r) ∧ Drawn0 w w' := Go.Proofs.YtilhpgjohpekkaaDoor.PC.strings_Count.calls a0 a1 r w h


/-! ### path_long: function 32 -/
def path_long.f (a0 : ByteArray) : Option (Bool) := Go.Proofs.YtilhpgjohpekkaaDoor.PC.path_long.f a0
theorem path_long.calls (a0 : ByteArray) (r : Bool) (w : World) (h : path_long.f a0 = some r) :
    Calls Tryd.prog 32 #[.string a0] w fun e w' => e = .returned (.bool r) ∧ Drawn0 w w' := Go.Proofs.YtilhpgjohpekkaaDoor.PC.path_long.calls a0 r w h


/-! ### strings_Split: function 33 -/
def strings_Split.f (a0 : ByteArray) (a1 : ByteArray) : Option (List ByteArray) := Go.Proofs.YtilhpgjohpekkaaDoor.PC.strings_Split.f a0 a1
theorem strings_Split.calls (a0 : ByteArray) (a1 : ByteArray) (r : List ByteArray) (w : World) (h : strings_Split.f a0 a1 = some r) :
    Calls Tryd.prog 33 #[.string a0, .string a1] w fun e w' => ∃ v0_ : Value, e = .returned (v0_) ∧ Kd.R Kd.string 9 w' w.heap.size (fun _ => True) v0_ r ∧ Below w.heap.size w w' := Go.Proofs.YtilhpgjohpekkaaDoor.PC.strings_Split.calls a0 a1 r w h


/-! ### path_letters: function 50 -/
def path_letters.f (a0 : ByteArray) : Option (Bool) := Go.Proofs.YtilhpgjohpekkaaDoor.PC.path_letters.f a0
theorem path_letters.calls (a0 : ByteArray) (r : Bool) (w : World) (h : path_letters.f a0 = some r) :
    Calls Tryd.prog 50 #[.string a0] w fun e w' => e = .returned (.bool r) ∧ Below w.heap.size w w' := Go.Proofs.YtilhpgjohpekkaaDoor.PC.path_letters.calls a0 r w h


/-! ### path_segment: function 34 -/
def path_segment.f (a0 : ByteArray) : Option (Bool) := Go.Proofs.YtilhpgjohpekkaaDoor.PC.path_segment.f a0
theorem path_segment.calls (a0 : ByteArray) (r : Bool) (w : World) (h : path_segment.f a0 = some r) :
    Calls Tryd.prog 34 #[.string a0] w fun e w' => e = .returned (.bool r) ∧ Below w.heap.size w w' := Go.Proofs.YtilhpgjohpekkaaDoor.PC.path_segment.calls a0 r w h


/-! ### path_Split: function 16 -/
def path_Split.f (a0 : ByteArray) : Option (List ByteArray × Int) := Go.Proofs.YtilhpgjohpekkaaDoor.PC.path_Split.f a0
theorem path_Split.calls (a0 : ByteArray) (r1 : List ByteArray) (r2 : Int) (w : World) (h : path_Split.f a0 = some (r1, r2)) :
    Calls Tryd.prog 16 #[.string a0] w fun e w' => ∃ v0_ : Value, e = .returned (.tuple #[v0_, .int .i64 r2]) ∧ Kd.R Kd.string 9 w' w.heap.size (fun _ => True) v0_ r1 ∧ Below w.heap.size w w' := Go.Proofs.YtilhpgjohpekkaaDoor.PC.path_Split.calls a0 r1 r2 w h


/-! ### path_Check: function 12 -/
def path_Check.f (a0 : ByteArray) : Option (Int) := Go.Proofs.YtilhpgjohpekkaaDoor.PC.path_Check.f a0
theorem path_Check.calls (a0 : ByteArray) (r : Int) (w : World) (h : path_Check.f a0 = some r) :
    Calls Tryd.prog 12 #[.string a0] w fun e w' => e = .returned (.int .i64 r) ∧ Below w.heap.size w w' := Go.Proofs.YtilhpgjohpekkaaDoor.PC.path_Check.calls a0 r w h


/-! ### stringslite_HasSuffix: function 71 -/
def stringslite_HasSuffix.f (a0 : ByteArray) (a1 : ByteArray) : Option (Bool) := Go.Proofs.YtilhpgjohpekkaaDoor.PC.stringslite_HasSuffix.f a0 a1
theorem stringslite_HasSuffix.calls (a0 : ByteArray) (a1 : ByteArray) (r : Bool) (w : World) (h : stringslite_HasSuffix.f a0 a1 = some r) :
    Calls Tryd.prog 71 #[.string a0, .string a1] w fun e w' => e = .returned (.bool r) ∧ Drawn0 w w' := Go.Proofs.YtilhpgjohpekkaaDoor.PC.stringslite_HasSuffix.calls a0 a1 r w h


/-! ### stringslite_CutSuffix: function 53 -/
def stringslite_CutSuffix.f (a0 : ByteArray) (a1 : ByteArray) : Option (ByteArray × Bool) := Go.Proofs.YtilhpgjohpekkaaDoor.PC.stringslite_CutSuffix.f a0 a1
theorem stringslite_CutSuffix.calls (a0 : ByteArray) (a1 : ByteArray) (r1 : ByteArray) (r2 : Bool) (w : World) (h : stringslite_CutSuffix.f a0 a1 = some (r1, r2)) :
    Calls Tryd.prog 53 #[.string a0, .string a1] w fun e w' => e = .returned (.tuple #[.string r1, .bool r2]) ∧ Drawn0 w w' := Go.Proofs.YtilhpgjohpekkaaDoor.PC.stringslite_CutSuffix.calls a0 a1 r1 r2 w h


/-! ### strings_CutSuffix: function 39 -/
def strings_CutSuffix.f (a0 : ByteArray) (a1 : ByteArray) : Option (ByteArray × Bool) := Go.Proofs.YtilhpgjohpekkaaDoor.PC.strings_CutSuffix.f a0 a1
theorem strings_CutSuffix.calls (a0 : ByteArray) (a1 : ByteArray) (r1 : ByteArray) (r2 : Bool) (w : World) (h : strings_CutSuffix.f a0 a1 = some (r1, r2)) :
    Calls Tryd.prog 39 #[.string a0, .string a1] w fun e w' => e = .returned (.tuple #[.string r1, .bool r2]) ∧ Drawn0 w w' := Go.Proofs.YtilhpgjohpekkaaDoor.PC.strings_CutSuffix.calls a0 a1 r1 r2 w h


/-! ### path_head: function 35 -/
def path_head.f (a0 : ByteArray) : Option (ByteArray × Bool) := Go.Proofs.YtilhpgjohpekkaaDoor.PC.path_head.f a0
theorem path_head.calls (a0 : ByteArray) (r1 : ByteArray) (r2 : Bool) (w : World) (h : path_head.f a0 = some (r1, r2)) :
    Calls Tryd.prog 35 #[.string a0] w fun e w' => e = .returned (.tuple #[.string r1, .bool r2]) ∧ Below w.heap.size w w' := Go.Proofs.YtilhpgjohpekkaaDoor.PC.path_head.calls a0 r1 r2 w h


/-! ### path_CheckPattern: function 14 -/
def path_CheckPattern.f (k : Nat) (a0 : ByteArray) : Option (Int) := Go.Proofs.YtilhpgjohpekkaaDoor.PC.path_CheckPattern.f k a0
theorem path_CheckPattern.mono : ∀ a0 k, LeO (path_CheckPattern.f k a0) (path_CheckPattern.f (k + 1) a0) := Go.Proofs.YtilhpgjohpekkaaDoor.PC.path_CheckPattern.mono
theorem path_CheckPattern.calls (k : Nat) (a0 : ByteArray) (r : Int) (w : World) (h : path_CheckPattern.f k a0 = some r) :
    Calls Tryd.prog 14 #[.string a0] w fun e w' => e = .returned (.int .i64 r) ∧ Below w.heap.size w w' := Go.Proofs.YtilhpgjohpekkaaDoor.PC.path_CheckPattern.calls k a0 r w h


/-! ### strings_Cut: function 37 -/
def strings_Cut.f (a0 : ByteArray) (a1 : ByteArray) : Option (ByteArray × ByteArray × Bool) := Go.Proofs.YtilhpgjohpekkaaDoor.PC.strings_Cut.f a0 a1
theorem strings_Cut.calls (a0 : ByteArray) (a1 : ByteArray) (r1 : ByteArray) (r2 : ByteArray) (r3 : Bool) (w : World) (h : strings_Cut.f a0 a1 = some (r1, r2, r3)) :
    Calls Tryd.prog 37 #[.string a0, .string a1] w fun e w' => e = .returned (.tuple #[.string r1, .string r2, .bool r3]) ∧ Drawn0 w w' := Go.Proofs.YtilhpgjohpekkaaDoor.PC.strings_Cut.calls a0 a1 r1 r2 r3 w h


/-! ### stringslite_HasPrefix: function 52 -/
def stringslite_HasPrefix.f (a0 : ByteArray) (a1 : ByteArray) : Option (Bool) := Go.Proofs.YtilhpgjohpekkaaDoor.PC.stringslite_HasPrefix.f a0 a1
theorem stringslite_HasPrefix.calls (a0 : ByteArray) (a1 : ByteArray) (r : Bool) (w : World) (h : stringslite_HasPrefix.f a0 a1 = some r) :
    Calls Tryd.prog 52 #[.string a0, .string a1] w fun e w' => e = .returned (.bool r) ∧ Drawn0 w w' := Go.Proofs.YtilhpgjohpekkaaDoor.PC.stringslite_HasPrefix.calls a0 a1 r w h


/-! ### strings_HasPrefix: function 38 -/
def strings_HasPrefix.f (a0 : ByteArray) (a1 : ByteArray) : Option (Bool) := Go.Proofs.YtilhpgjohpekkaaDoor.PC.strings_HasPrefix.f a0 a1
theorem strings_HasPrefix.calls (a0 : ByteArray) (a1 : ByteArray) (r : Bool) (w : World) (h : strings_HasPrefix.f a0 a1 = some r) :
    Calls Tryd.prog 38 #[.string a0, .string a1] w fun e w' => e = .returned (.bool r) ∧ Drawn0 w w' := Go.Proofs.YtilhpgjohpekkaaDoor.PC.strings_HasPrefix.calls a0 a1 r w h


/-! ### path_Match: function 19 -/
def path_Match.f (k : Nat) (a0 : ByteArray) (a1 : ByteArray) : Option (Bool) := Go.Proofs.YtilhpgjohpekkaaDoor.PC.path_Match.f k a0 a1
theorem path_Match.mono : ∀ a0 a1 k, LeO (path_Match.f k a0 a1) (path_Match.f (k + 1) a0 a1) := Go.Proofs.YtilhpgjohpekkaaDoor.PC.path_Match.mono
theorem path_Match.calls (k : Nat) (a0 : ByteArray) (a1 : ByteArray) (r : Bool) (w : World) (h : path_Match.f k a0 a1 = some r) :
    Calls Tryd.prog 19 #[.string a0, .string a1] w fun e w' => e = .returned (.bool r) ∧ Below w.heap.size w w' := Go.Proofs.YtilhpgjohpekkaaDoor.PC.path_Match.calls k a0 a1 r w h


/-! ### ciboriumlaw15_works: function 11 -/
def ciboriumlaw15_works.f (k : Nat)  : Option (Bool) := Go.Proofs.YtilhpgjohpekkaaDoor.PC.ciboriumlaw15_works.f k
theorem ciboriumlaw15_works.mono : ∀ k, LeO (ciboriumlaw15_works.f k ) (ciboriumlaw15_works.f (k + 1) ) := Go.Proofs.YtilhpgjohpekkaaDoor.PC.ciboriumlaw15_works.mono
theorem ciboriumlaw15_works.calls (k : Nat)  (r : Bool) (w : World) (h : ciboriumlaw15_works.f k  = some r) :
    Calls Tryd.prog 11 #[] w fun e w' => e = .returned (.bool r) ∧ Below w.heap.size w w' := Go.Proofs.YtilhpgjohpekkaaDoor.PC.ciboriumlaw15_works.calls k r w h


/-! ### ciboriumref15_parts: function 30 -/
def ciboriumref15_parts.f (k : Nat) (a0 : ByteArray) : Option (List ByteArray) := Go.Proofs.YtilhpgjohpekkaaDoor.PC.ciboriumref15_parts.f k a0
theorem ciboriumref15_parts.mono : ∀ a0 k, LeO (ciboriumref15_parts.f k a0) (ciboriumref15_parts.f (k + 1) a0) := Go.Proofs.YtilhpgjohpekkaaDoor.PC.ciboriumref15_parts.mono
theorem ciboriumref15_parts.calls (k : Nat) (a0 : ByteArray) (r : List ByteArray) (w : World) (h : ciboriumref15_parts.f k a0 = some r) :
    Calls Tryd.prog 30 #[.string a0] w fun e w' => ∃ v0_ : Value, e = .returned (v0_) ∧ Kd.R Kd.string 9 w' w.heap.size (fun _ => True) v0_ r ∧ Below w.heap.size w w' := Go.Proofs.YtilhpgjohpekkaaDoor.PC.ciboriumref15_parts.calls k a0 r w h


/-! ### ciboriumref15_long: function 29 -/
def ciboriumref15_long.f (k : Nat) (a0 : ByteArray) : Option (Bool) := Go.Proofs.YtilhpgjohpekkaaDoor.PC.ciboriumref15_long.f k a0
theorem ciboriumref15_long.mono : ∀ a0 k, LeO (ciboriumref15_long.f k a0) (ciboriumref15_long.f (k + 1) a0) := Go.Proofs.YtilhpgjohpekkaaDoor.PC.ciboriumref15_long.mono
theorem ciboriumref15_long.calls (k : Nat) (a0 : ByteArray) (r : Bool) (w : World) (h : ciboriumref15_long.f k a0 = some r) :
    Calls Tryd.prog 29 #[.string a0] w fun e w' => e = .returned (.bool r) ∧ Below w.heap.size w w' := Go.Proofs.YtilhpgjohpekkaaDoor.PC.ciboriumref15_long.calls k a0 r w h


/-! ### ciboriumref15_letter: function 65 -/
def ciboriumref15_letter.f (a0 : Int) : Option (Bool) := Go.Proofs.YtilhpgjohpekkaaDoor.PC.ciboriumref15_letter.f a0
theorem ciboriumref15_letter.calls (a0 : Int) (r : Bool) (w : World) (h : ciboriumref15_letter.f a0 = some r) :
    Calls Tryd.prog 65 #[.int .u8 a0] w fun e w' => e = .returned (.bool r) ∧ Drawn0 w w' := Go.Proofs.YtilhpgjohpekkaaDoor.PC.ciboriumref15_letter.calls a0 r w h


/-! ### ciboriumref15_letters: function 47 -/
def ciboriumref15_letters.f (k : Nat) (a0 : ByteArray) : Option (Bool) := Go.Proofs.YtilhpgjohpekkaaDoor.PC.ciboriumref15_letters.f k a0
theorem ciboriumref15_letters.mono : ∀ a0 k, LeO (ciboriumref15_letters.f k a0) (ciboriumref15_letters.f (k + 1) a0) := Go.Proofs.YtilhpgjohpekkaaDoor.PC.ciboriumref15_letters.mono
theorem ciboriumref15_letters.calls (k : Nat) (a0 : ByteArray) (r : Bool) (w : World) (h : ciboriumref15_letters.f k a0 = some r) :
    Calls Tryd.prog 47 #[.string a0] w fun e w' => e = .returned (.bool r) ∧ Drawn0 w w' := Go.Proofs.YtilhpgjohpekkaaDoor.PC.ciboriumref15_letters.calls k a0 r w h


/-! ### ciboriumref15_segment: function 31 -/
def ciboriumref15_segment.f (k : Nat) (a0 : ByteArray) : Option (Bool) := Go.Proofs.YtilhpgjohpekkaaDoor.PC.ciboriumref15_segment.f k a0
theorem ciboriumref15_segment.mono : ∀ a0 k, LeO (ciboriumref15_segment.f k a0) (ciboriumref15_segment.f (k + 1) a0) := Go.Proofs.YtilhpgjohpekkaaDoor.PC.ciboriumref15_segment.mono
theorem ciboriumref15_segment.calls (k : Nat) (a0 : ByteArray) (r : Bool) (w : World) (h : ciboriumref15_segment.f k a0 = some r) :
    Calls Tryd.prog 31 #[.string a0] w fun e w' => e = .returned (.bool r) ∧ Drawn0 w w' := Go.Proofs.YtilhpgjohpekkaaDoor.PC.ciboriumref15_segment.calls k a0 r w h


/-! ### ciboriumref15_Check: function 13 -/
def ciboriumref15_Check.f (k : Nat) (a0 : ByteArray) : Option (Int) := Go.Proofs.YtilhpgjohpekkaaDoor.PC.ciboriumref15_Check.f k a0
theorem ciboriumref15_Check.mono : ∀ a0 k, LeO (ciboriumref15_Check.f k a0) (ciboriumref15_Check.f (k + 1) a0) := Go.Proofs.YtilhpgjohpekkaaDoor.PC.ciboriumref15_Check.mono
theorem ciboriumref15_Check.calls (k : Nat) (a0 : ByteArray) (r : Int) (w : World) (h : ciboriumref15_Check.f k a0 = some r) :
    Calls Tryd.prog 13 #[.string a0] w fun e w' => e = .returned (.int .i64 r) ∧ Below w.heap.size w w' := Go.Proofs.YtilhpgjohpekkaaDoor.PC.ciboriumref15_Check.calls k a0 r w h


/-! ### ciboriumref15_Star: function 36 -/
def ciboriumref15_Star.f (k : Nat) (a0 : ByteArray) : Option (Bool) := Go.Proofs.YtilhpgjohpekkaaDoor.PC.ciboriumref15_Star.f k a0
theorem ciboriumref15_Star.mono : ∀ a0 k, LeO (ciboriumref15_Star.f k a0) (ciboriumref15_Star.f (k + 1) a0) := Go.Proofs.YtilhpgjohpekkaaDoor.PC.ciboriumref15_Star.mono
theorem ciboriumref15_Star.calls (k : Nat) (a0 : ByteArray) (r : Bool) (w : World) (h : ciboriumref15_Star.f k a0 = some r) :
    Calls Tryd.prog 36 #[.string a0] w fun e w' => e = .returned (.bool r) ∧ Drawn0 w w' := Go.Proofs.YtilhpgjohpekkaaDoor.PC.ciboriumref15_Star.calls k a0 r w h


/-! ### ciboriumref15_CheckPattern: function 15 -/
def ciboriumref15_CheckPattern.f (k : Nat) (a0 : ByteArray) : Option (Int) := Go.Proofs.YtilhpgjohpekkaaDoor.PC.ciboriumref15_CheckPattern.f k a0
theorem ciboriumref15_CheckPattern.mono : ∀ a0 k, LeO (ciboriumref15_CheckPattern.f k a0) (ciboriumref15_CheckPattern.f (k + 1) a0) := Go.Proofs.YtilhpgjohpekkaaDoor.PC.ciboriumref15_CheckPattern.mono
theorem ciboriumref15_CheckPattern.calls (k : Nat) (a0 : ByteArray) (r : Int) (w : World) (h : ciboriumref15_CheckPattern.f k a0 = some r) :
    Calls Tryd.prog 15 #[.string a0] w fun e w' => e = .returned (.int .i64 r) ∧ Below w.heap.size w w' := Go.Proofs.YtilhpgjohpekkaaDoor.PC.ciboriumref15_CheckPattern.calls k a0 r w h


end Go.Proofs.YtilhpgjohpekkaaDoor.PM
