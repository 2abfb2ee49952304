/- It is said here that nothing is left to say of the law OctetNone: it was walked by hand. No condition. -/
import Derived.Test.YtengdchgfhcdhaaPLOctetNonex1
namespace Go.Proofs.Ytengdchgfhcdhaa.Pure
open Go.RowKit Go.Proofs.Ytengdchgfhcdhaa.PLOctetNone Go.Proofs.YtengdchgfhcdhaaW.PrintWords Go.Proofs.YtengdchgfhcdhaaW.PrintLast



theorem OctetNone : ciboriumlaw01_OctetNone.Pure := by
  exact trivial

end Go.Proofs.Ytengdchgfhcdhaa.Pure
