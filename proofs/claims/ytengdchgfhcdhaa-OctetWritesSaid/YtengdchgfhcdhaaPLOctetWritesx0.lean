/- What is said here: what the Go functions named below answer, each as a plain function with the proof that its call comes to that answer; written by a program out of the translation. No condition. -/
import Derived.Test.YtengdchgfhcdhaaProg
import Derived.Below
import Derived.Deep.Draws
import Derived.Deep.AppendLies
import Derived.Maps.AppendAt
import Derived.OwnWalk
import Derived.Laws.BytesArg
import Derived.Laws.MakeOwn
import Derived.Laws.OwnMore
import Derived.Deep.OwnRows
import Derived.Tactics
import Derived.Lib.ConvBytes
import Derived.Laws.Slices
import Derived.WalkKit
import Derived.KernelRfl
import Derived.RowKit3
import Derived.Deep.LoopGhost
import Derived.Deep.QuietTactic
import Derived.BigQuiet
import Derived.WideLaws
import Derived.Deep.DeepCutAuto
import Derived.Deep.CutBlock
import Derived.Deep.RegionHeld3
import Derived.Laws.Rows
import Derived.Lib.AppendStr
import Derived.ArgAppend
import Derived.Laws.IdiomCopy
import Derived.OrdersHeld
import Derived.Laws.BitsLemmas
import Derived.RowKit
import Derived.Test.YtengdchgfhcdhaaWOctetWrites
import Derived.Test.YtengdchgfhcdhaaWWords
import Derived.Test.YtengdchgfhcdhaaWLast
import Derived.Test.YtengdchgfhcdhaaWTab
import Derived.Test.YtengdchgfhcdhaaWFour
import Derived.Test.YtengdchgfhcdhaaWQPut
import Derived.Test.YtengdchgfhcdhaaWApart
import Derived.Test.YtengdchgfhcdhaaWArr
import Derived.Test.YtengdchgfhcdhaaWZeros
import Derived.Test.YtengdchgfhcdhaaWFoot
import Derived.Test.YtengdchgfhcdhaaWKept
import Derived.Test.YtengdchgfhcdhaaWShare
import Derived.Test.YtengdchgfhcdhaaWN
import Derived.Test.YtengdchgfhcdhaaWFootNe
import Derived.Test.YtengdchgfhcdhaaWAt
import Derived.Test.YtengdchgfhcdhaaWEqStruct
import Derived.Test.YtengdchgfhcdhaaWRepsOne
import Derived.Test.YtengdchgfhcdhaaWInv
import Derived.Test.YtengdchgfhcdhaaWInvWords
import Derived.Test.YtengdchgfhcdhaaWGuard
import Derived.Test.YtengdchgfhcdhaaWNEv
import Derived.Test.YtengdchgfhcdhaaWMore
namespace Go.Proofs.Ytengdchgfhcdhaa.PLOctetWrites
open Go.RowKit Go.Proofs.YtengdchgfhcdhaaW.PrintWords Go.Proofs.YtengdchgfhcdhaaW.PrintLast Go.Proofs.YtengdchgfhcdhaaW.PrintMore
attribute [local go_sem] max2_int min2_int max_two min_two max_three min_three max_four min_four   -- for this text's walks alone
set_option linter.unusedVariables false
set_option linter.unusedSimpArgs false



def errW : Option Int → Value
  | none => .nilIface
  | some c => .iface 0 (.int .i64 c)
theorem errW_none : errW none = .nilIface := rfl
theorem errW_some (c : Int) : errW (some c) = .iface 0 (.int .i64 c) := rfl

-- the values' own types

end Go.Proofs.Ytengdchgfhcdhaa.PLOctetWrites
