/- What is said here: what the Go functions named below answer, each as a plain function with the proof that its call comes to that answer; written by a program out of the translation. No condition. -/
import Derived.Test.YtilhpgjohpekkaaDoorPCx0
import Derived.Test.YtilhpgjohpekkaaDoorPCx1
import Derived.Test.YtilhpgjohpekkaaDoorPCx2
import Derived.Test.YtilhpgjohpekkaaDoorPCx3
import Derived.Test.YtilhpgjohpekkaaDoorPCx4
import Derived.Test.YtilhpgjohpekkaaDoorPCx5
import Derived.Test.YtilhpgjohpekkaaDoorPCx6
import Derived.Test.YtilhpgjohpekkaaDoorPCx7
namespace Go.Proofs.YtilhpgjohpekkaaDoor.PC
open Go.RowKit Go.Proofs.YtilhpgjohpekkaaDoorW.PrintWords Go.Proofs.YtilhpgjohpekkaaDoorW.PrintLast Go.Proofs.YtilhpgjohpekkaaDoorW.PrintMore
attribute [local go_sem] max2_int min2_int max_two min_two max_three min_three max_four min_four   -- for this text's walks alone
set_option linter.unusedVariables false
set_option linter.unusedSimpArgs false

end Go.Proofs.YtilhpgjohpekkaaDoor.PC
