/- What is said here: what the Go functions named below answer, each as a plain function with the proof that its call comes to that answer; written by a program out of the translation. No condition. -/
import Derived.Test.YtaadeokgcacibaaPAx0
import Derived.Test.YtaadeokgcacibaaPAx1
import Derived.Test.YtaadeokgcacibaaPAx2
import Derived.Test.YtaadeokgcacibaaPAx3
import Derived.Test.YtaadeokgcacibaaPAx4
namespace Go.Proofs.Ytaadeokgcacibaa.PA
open Go.RowKit Go.Proofs.YtaadeokgcacibaaW.PrintWords Go.Proofs.YtaadeokgcacibaaW.PrintLast Go.Proofs.YtaadeokgcacibaaW.PrintMore
attribute [local go_sem] max2_int min2_int max_two min_two max_three min_three max_four min_four   -- for this text's walks alone
set_option linter.unusedVariables false
set_option linter.unusedSimpArgs false

end Go.Proofs.Ytaadeokgcacibaa.PA
