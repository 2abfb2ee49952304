/- It is said here that nothing is left to say of the law FieldThrough: it was walked by hand. No condition. -/
import Derived.Test.YtaadeokgcacibaaPLFieldThroughx1
namespace Go.Proofs.Ytaadeokgcacibaa.Pure
open Go.RowKit Go.Proofs.Ytaadeokgcacibaa.PLFieldThrough Go.Proofs.YtaadeokgcacibaaW.PrintWords Go.Proofs.YtaadeokgcacibaaW.PrintLast



theorem FieldThrough : ciboriumlaw03_FieldThrough.Pure := by
  exact trivial

end Go.Proofs.Ytaadeokgcacibaa.Pure
