/- It is said here that nothing is left to say of the law OctetWrites: it was walked by hand. No condition. -/
import Derived.Test.YtengdchgfhcdhaaPLOctetWritesx1
namespace Go.Proofs.Ytengdchgfhcdhaa.Pure
open Go.RowKit Go.Proofs.Ytengdchgfhcdhaa.PLOctetWrites Go.Proofs.YtengdchgfhcdhaaW.PrintWords Go.Proofs.YtengdchgfhcdhaaW.PrintLast



theorem OctetWrites : ciboriumlaw01_OctetWrites.Pure := by
  exact trivial

end Go.Proofs.Ytengdchgfhcdhaa.Pure
