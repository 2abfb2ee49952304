/- It is said here that nothing is left to say of the law FieldPoints: it was walked by hand. No condition. -/
import Derived.Test.YtaadeokgcacibaaPLFieldPointsx1
namespace Go.Proofs.Ytaadeokgcacibaa.Pure
open Go.RowKit Go.Proofs.Ytaadeokgcacibaa.PLFieldPoints Go.Proofs.YtaadeokgcacibaaW.PrintWords Go.Proofs.YtaadeokgcacibaaW.PrintLast



theorem FieldPoints : ciboriumlaw03_FieldPoints.Pure := by
  exact trivial

end Go.Proofs.Ytaadeokgcacibaa.Pure
