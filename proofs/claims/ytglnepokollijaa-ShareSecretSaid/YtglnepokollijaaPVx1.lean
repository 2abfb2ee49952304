/- What is said here: what the Go functions named below answer, each as a plain function with the proof that its call comes to that answer; written by a program out of the translation. No condition. -/
import Derived.Test.YtglnepokollijaaPVx0
namespace Go.Proofs.Ytglnepokollijaa.PV
open Go.RowKit Go.Proofs.YtglnepokollijaaW.PrintWords Go.Proofs.YtglnepokollijaaW.PrintLast Go.Proofs.YtglnepokollijaaW.PrintMore
attribute [local go_sem] max2_int min2_int max_two min_two max_three min_three max_four min_four   -- for this text's walks alone
set_option linter.unusedVariables false
set_option linter.unusedSimpArgs false

/-! ### ciboriumref03_Mul: function 38 -/
def ciboriumref03_Mul.f (k : Nat) (a0 : Int) (a1 : Int) : Option (Int) := Go.Proofs.Ytglnepokollijaa.PA.ciboriumref03_Mul.f k a0 a1
theorem ciboriumref03_Mul.mono : ∀ a0 a1 k, LeO (ciboriumref03_Mul.f k a0 a1) (ciboriumref03_Mul.f (k + 1) a0 a1) := Go.Proofs.Ytglnepokollijaa.PA.ciboriumref03_Mul.mono
theorem ciboriumref03_Mul.calls (k : Nat) (a0 : Int) (a1 : Int) (r : Int) (w : World) (h : ciboriumref03_Mul.f k a0 a1 = some r) :
    Calls Try.prog 38 #[.int .u8 a0, .int .u8 a1] w fun e w' => e = .returned (.int .u8 r) ∧ Drawn0 w w' := Go.Proofs.Ytglnepokollijaa.PA.ciboriumref03_Mul.calls k a0 a1 r w h


/-! ### ciboriumref03_Inv: function 45 -/
def ciboriumref03_Inv.f (k : Nat) (a0 : Int) : Option (Int) := Go.Proofs.Ytglnepokollijaa.PA.ciboriumref03_Inv.f k a0
theorem ciboriumref03_Inv.mono : ∀ a0 k, LeO (ciboriumref03_Inv.f k a0) (ciboriumref03_Inv.f (k + 1) a0) := Go.Proofs.Ytglnepokollijaa.PA.ciboriumref03_Inv.mono
theorem ciboriumref03_Inv.calls (k : Nat) (a0 : Int) (r : Int) (w : World) (h : ciboriumref03_Inv.f k a0 = some r) :
    Calls Try.prog 45 #[.int .u8 a0] w fun e w' => e = .returned (.int .u8 r) ∧ Drawn0 w w' := Go.Proofs.Ytglnepokollijaa.PA.ciboriumref03_Inv.calls k a0 r w h


/-! ### ciboriumref03_Div: function 37 -/
def ciboriumref03_Div.f (k : Nat) (a0 : Int) (a1 : Int) : Option (Int × Int) := Go.Proofs.Ytglnepokollijaa.PA.ciboriumref03_Div.f k a0 a1
theorem ciboriumref03_Div.mono : ∀ a0 a1 k, LeO (ciboriumref03_Div.f k a0 a1) (ciboriumref03_Div.f (k + 1) a0 a1) := Go.Proofs.Ytglnepokollijaa.PA.ciboriumref03_Div.mono
theorem ciboriumref03_Div.calls (k : Nat) (a0 : Int) (a1 : Int) (r1 : Int) (r2 : Int) (w : World) (h : ciboriumref03_Div.f k a0 a1 = some (r1, r2)) :
    Calls Try.prog 37 #[.int .u8 a0, .int .u8 a1] w fun e w' => e = .returned (.tuple #[.int .u8 r1, .int .i64 r2]) ∧ Drawn0 w w' := Go.Proofs.Ytglnepokollijaa.PA.ciboriumref03_Div.calls k a0 a1 r1 r2 w h


end Go.Proofs.Ytglnepokollijaa.PV
