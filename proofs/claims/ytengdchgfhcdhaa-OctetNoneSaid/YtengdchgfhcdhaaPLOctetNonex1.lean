/- What is said here: what the Go functions named below answer, each as a plain function with the proof that its call comes to that answer; written by a program out of the translation. No condition. -/
import Derived.Test.YtengdchgfhcdhaaPLOctetNonex0
namespace Go.Proofs.Ytengdchgfhcdhaa.PLOctetNone
open Go.RowKit Go.Proofs.YtengdchgfhcdhaaW.PrintWords Go.Proofs.YtengdchgfhcdhaaW.PrintLast Go.Proofs.YtengdchgfhcdhaaW.PrintMore
attribute [local go_sem] max2_int min2_int max_two min_two max_three min_three max_four min_four   -- for this text's walks alone
set_option linter.unusedVariables false
set_option linter.unusedSimpArgs false

/-! ### ciboriumlaw01_OctetNone: function 5 -/
def ciboriumlaw01_OctetNone.Pure : Prop := True
theorem ciboriumlaw01_OctetNone.walk (P : ciboriumlaw01_OctetNone.Pure) (a0 : Int) (w : World) (w0 : (Lit.int .i64 a0).wf = true) :
    Calls Try.prog 5 #[.int .i64 a0] w fun e w' => e = .returned (.bool true) ∧ Below w.heap.size w w' := by
  exact HOctetNone.law a0 w w0

end Go.Proofs.Ytengdchgfhcdhaa.PLOctetNone
