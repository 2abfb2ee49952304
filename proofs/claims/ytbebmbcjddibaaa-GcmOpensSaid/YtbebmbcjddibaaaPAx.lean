/- What is said here: what the Go functions named below answer, each as a plain function with the proof that its call comes to that answer; written by a program out of the translation. No condition. -/
import Derived.Test.YtbebmbcjddibaaaPAx0
import Derived.Test.YtbebmbcjddibaaaPAx1
import Derived.Test.YtbebmbcjddibaaaPAx2
namespace Go.Proofs.Ytbebmbcjddibaaa.PA
open Go.RowKit Go.Proofs.YtbebmbcjddibaaaW.PrintWords Go.Proofs.YtbebmbcjddibaaaW.PrintLast Go.Proofs.YtbebmbcjddibaaaW.PrintMore
attribute [local go_sem] max2_int min2_int max_two min_two max_three min_three max_four min_four   -- for this text's walks alone
set_option linter.unusedVariables false
set_option linter.unusedSimpArgs false

end Go.Proofs.Ytbebmbcjddibaaa.PA
