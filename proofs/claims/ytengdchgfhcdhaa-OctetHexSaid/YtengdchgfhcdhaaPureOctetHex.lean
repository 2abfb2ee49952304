/- It is said here that nothing is left to say of the law OctetHex: it was walked by hand. No condition. -/
import Derived.Test.YtengdchgfhcdhaaPLOctetHexx1
namespace Go.Proofs.Ytengdchgfhcdhaa.Pure
open Go.RowKit Go.Proofs.Ytengdchgfhcdhaa.PLOctetHex Go.Proofs.YtengdchgfhcdhaaW.PrintWords Go.Proofs.YtengdchgfhcdhaaW.PrintLast



theorem OctetHex : ciboriumlaw01_OctetHex.Pure := by
  exact trivial

end Go.Proofs.Ytengdchgfhcdhaa.Pure
