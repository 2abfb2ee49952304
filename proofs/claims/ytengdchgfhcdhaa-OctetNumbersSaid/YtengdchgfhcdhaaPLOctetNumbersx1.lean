/- What is said here: what the Go functions named below answer, each as a plain function with the proof that its call comes to that answer; written by a program out of the translation. No condition. -/
import Derived.Test.YtengdchgfhcdhaaPLOctetNumbersx0
namespace Go.Proofs.Ytengdchgfhcdhaa.PLOctetNumbers
open Go.RowKit Go.Proofs.YtengdchgfhcdhaaW.PrintWords Go.Proofs.YtengdchgfhcdhaaW.PrintLast Go.Proofs.YtengdchgfhcdhaaW.PrintMore
attribute [local go_sem] max2_int min2_int max_two min_two max_three min_three max_four min_four   -- for this text's walks alone
set_option linter.unusedVariables false
set_option linter.unusedSimpArgs false

/-! ### ciboriumlaw01_OctetNumbers: function 7 -/
def ciboriumlaw01_OctetNumbers.Pure : Prop := True
theorem ciboriumlaw01_OctetNumbers.walk (P : ciboriumlaw01_OctetNumbers.Pure) (a0 : Int) (a1 : ByteArray) (w : World) (w0 : (Lit.int .u64 a0).wf = true) (w1 : a1.size ≤ 140737488351232) :
    Calls Try.prog 7 #[.int .u64 a0, .string a1] w fun e w' => e = .returned (.bool true) ∧ Below w.heap.size w w' := by
  exact HOctetNumbers.law a0 a1 w w0 w1

end Go.Proofs.Ytengdchgfhcdhaa.PLOctetNumbers
