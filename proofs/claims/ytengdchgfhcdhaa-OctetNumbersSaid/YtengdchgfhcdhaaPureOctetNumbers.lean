/- It is said here that nothing is left to say of the law OctetNumbers: it was walked by hand. No condition. -/
import Derived.Test.YtengdchgfhcdhaaPLOctetNumbersx1
namespace Go.Proofs.Ytengdchgfhcdhaa.Pure
open Go.RowKit Go.Proofs.Ytengdchgfhcdhaa.PLOctetNumbers Go.Proofs.YtengdchgfhcdhaaW.PrintWords Go.Proofs.YtengdchgfhcdhaaW.PrintLast



theorem OctetNumbers : ciboriumlaw01_OctetNumbers.Pure := by
  exact trivial

end Go.Proofs.Ytengdchgfhcdhaa.Pure
