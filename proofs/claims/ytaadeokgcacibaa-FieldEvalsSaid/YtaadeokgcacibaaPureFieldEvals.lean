/- It is said here that nothing is left to say of the law FieldEvals: it was walked by hand. No condition. -/
import Derived.Test.YtaadeokgcacibaaPLFieldEvalsx1
namespace Go.Proofs.Ytaadeokgcacibaa.Pure
open Go.RowKit Go.Proofs.Ytaadeokgcacibaa.PLFieldEvals Go.Proofs.YtaadeokgcacibaaW.PrintWords Go.Proofs.YtaadeokgcacibaaW.PrintLast



theorem FieldEvals : ciboriumlaw03_FieldEvals.Pure := by
  exact trivial

end Go.Proofs.Ytaadeokgcacibaa.Pure
