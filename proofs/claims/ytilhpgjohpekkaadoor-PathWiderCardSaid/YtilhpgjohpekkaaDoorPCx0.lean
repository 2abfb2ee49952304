/- What is said here: what the Go functions named below answer, each as a plain function with the proof that its call comes to that answer; written by a program out of the translation. No condition. -/
import Derived.Test.YtilhpgjohpekkaaDoorProg
import Derived.Below
import Derived.Deep.Draws
import Derived.Deep.AppendLies
import Derived.Maps.AppendAt
import Derived.OwnWalk
import Derived.Laws.BytesArg
import Derived.Laws.MakeOwn
import Derived.Laws.OwnMore
import Derived.Deep.OwnRows
import Derived.Tactics
import Derived.Lib.ConvBytes
import Derived.Laws.Slices
import Derived.WalkKit
import Derived.KernelRfl
import Derived.RowKit3
import Derived.Deep.LoopGhost
import Derived.Deep.QuietTactic
import Derived.BigQuiet
import Derived.WideLaws
import Derived.Deep.DeepCutAuto
import Derived.Deep.CutBlock
import Derived.Deep.RegionHeld3
import Derived.Laws.Rows
import Derived.Lib.AppendStr
import Derived.ArgAppend
import Derived.Laws.IdiomCopy
import Derived.OrdersHeld
import Derived.Laws.BitsLemmas
import Derived.RowKit
import Derived.Test.YtilhpgjohpekkaaDoorPLib4
import Derived.Test.YtilhpgjohpekkaaDoorPSplit
import Derived.Test.YtilhpgjohpekkaaDoorWWords
import Derived.Test.YtilhpgjohpekkaaDoorWLast
import Derived.Test.YtilhpgjohpekkaaDoorWTab
import Derived.Test.YtilhpgjohpekkaaDoorWFour
import Derived.Test.YtilhpgjohpekkaaDoorWQPut
import Derived.Test.YtilhpgjohpekkaaDoorWApart
import Derived.Test.YtilhpgjohpekkaaDoorWArr
import Derived.Test.YtilhpgjohpekkaaDoorWZeros
import Derived.Test.YtilhpgjohpekkaaDoorWFoot
import Derived.Test.YtilhpgjohpekkaaDoorWKept
import Derived.Test.YtilhpgjohpekkaaDoorWShare
import Derived.Test.YtilhpgjohpekkaaDoorWN
import Derived.Test.YtilhpgjohpekkaaDoorWFootNe
import Derived.Test.YtilhpgjohpekkaaDoorWAt
import Derived.Test.YtilhpgjohpekkaaDoorWEqStruct
import Derived.Test.YtilhpgjohpekkaaDoorWRepsOne
import Derived.Test.YtilhpgjohpekkaaDoorWInv
import Derived.Test.YtilhpgjohpekkaaDoorWInvWords
import Derived.Test.YtilhpgjohpekkaaDoorWGuard
import Derived.Test.YtilhpgjohpekkaaDoorWNEv
import Derived.Test.YtilhpgjohpekkaaDoorWMore
namespace Go.Proofs.YtilhpgjohpekkaaDoor.PC
open Go.RowKit Go.Proofs.YtilhpgjohpekkaaDoorW.PrintWords Go.Proofs.YtilhpgjohpekkaaDoorW.PrintLast Go.Proofs.YtilhpgjohpekkaaDoorW.PrintMore
attribute [local go_sem] max2_int min2_int max_two min_two max_three min_three max_four min_four   -- for this text's walks alone
set_option linter.unusedVariables false
set_option linter.unusedSimpArgs false



def errW : Option Int → Value
  | none => .nilIface
  | some c => .iface 0 (.int .i64 c)
theorem errW_none : errW none = .nilIface := rfl
theorem errW_some (c : Int) : errW (some c) = .iface 0 (.int .i64 c) := rfl

theorem info9 : (Tryd.prog.info? 9).map (fun i => (i.zero, i.size, i.bytes)) = some (some (.string ⟨#[]⟩), 1, 16) := by kernel_rfl
-- the values' own types

end Go.Proofs.YtilhpgjohpekkaaDoor.PC
