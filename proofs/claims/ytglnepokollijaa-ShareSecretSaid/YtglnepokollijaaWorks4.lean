/- What is said here: the share's anchor answers true, and leaves what was there alone. -/
import Derived.Test.YtglnepokollijaaPTx2
namespace Go.Proofs.Ytglnepokollijaa.Works4
set_option linter.unusedVariables false
open Go.RowKit Go.Proofs.YtglnepokollijaaW.PrintWords Go.Proofs.YtglnepokollijaaW.PrintLast Go.Proofs.YtglnepokollijaaW.PrintMore
theorem works_0 : PT.ciboriumlaw04_works.f 3 = some true := by decide +kernel
theorem works (w : World) : Calls Try.prog 8 #[] w fun e w' => e = .returned (.bool true) ∧ Below w.heap.size w w' := PT.ciboriumlaw04_works.calls 3 true w works_0
end Go.Proofs.Ytglnepokollijaa.Works4
