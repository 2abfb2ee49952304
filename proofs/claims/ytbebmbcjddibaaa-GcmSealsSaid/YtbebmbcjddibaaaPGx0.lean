/- What is said here: what the Go functions named below answer, each as a plain function with the proof that its call comes to that answer; written by a program out of the translation. No condition. -/
import Derived.Test.YtbebmbcjddibaaaProg
import Derived.Below
import Derived.Deep.Draws
import Derived.Deep.AppendLies
import Derived.Maps.AppendAt
import Derived.OwnWalk
import Derived.Laws.BytesArg
import Derived.Laws.MakeOwn
import Derived.Laws.OwnMore
import Derived.Deep.OwnRows
import Derived.Tactics
import Derived.Lib.ConvBytes
import Derived.Laws.Slices
import Derived.WalkKit
import Derived.KernelRfl
import Derived.RowKit3
import Derived.Deep.LoopGhost
import Derived.Deep.QuietTactic
import Derived.BigQuiet
import Derived.WideLaws
import Derived.Deep.DeepCutAuto
import Derived.Deep.CutBlock
import Derived.Deep.RegionHeld3
import Derived.Laws.Rows
import Derived.Lib.AppendStr
import Derived.ArgAppend
import Derived.Laws.IdiomCopy
import Derived.OrdersHeld
import Derived.Laws.BitsLemmas
import Derived.RowKit
import Derived.Test.YtbebmbcjddibaaaWWords
import Derived.Test.YtbebmbcjddibaaaWLast
import Derived.Test.YtbebmbcjddibaaaWTab
import Derived.Test.YtbebmbcjddibaaaWFour
import Derived.Test.YtbebmbcjddibaaaWQPut
import Derived.Test.YtbebmbcjddibaaaWApart
import Derived.Test.YtbebmbcjddibaaaWArr
import Derived.Test.YtbebmbcjddibaaaWZeros
import Derived.Test.YtbebmbcjddibaaaWFoot
import Derived.Test.YtbebmbcjddibaaaWKept
import Derived.Test.YtbebmbcjddibaaaWShare
import Derived.Test.YtbebmbcjddibaaaWN
import Derived.Test.YtbebmbcjddibaaaWFootNe
import Derived.Test.YtbebmbcjddibaaaWAt
import Derived.Test.YtbebmbcjddibaaaWEqStruct
import Derived.Test.YtbebmbcjddibaaaWRepsOne
import Derived.Test.YtbebmbcjddibaaaWInv
import Derived.Test.YtbebmbcjddibaaaWInvWords
import Derived.Test.YtbebmbcjddibaaaWGuard
import Derived.Test.YtbebmbcjddibaaaWNEv
import Derived.Test.YtbebmbcjddibaaaWMore
namespace Go.Proofs.Ytbebmbcjddibaaa.PG
open Go.RowKit Go.Proofs.YtbebmbcjddibaaaW.PrintWords Go.Proofs.YtbebmbcjddibaaaW.PrintLast Go.Proofs.YtbebmbcjddibaaaW.PrintMore
attribute [local go_sem] max2_int min2_int max_two min_two max_three min_three max_four min_four   -- for this text's walks alone
set_option linter.unusedVariables false
set_option linter.unusedSimpArgs false



def errW : Option Int → Value
  | none => .nilIface
  | some c => .iface 0 (.int .i64 c)
theorem errW_none : errW none = .nilIface := rfl
theorem errW_some (c : Int) : errW (some c) = .iface 0 (.int .i64 c) := rfl

theorem info5 : (Try.prog.info? 5).map (fun i => (i.zero, i.size, i.bytes)) = some (some (.int .u8 0), 1, 1) := by kernel_rfl
-- the values' own types

end Go.Proofs.Ytbebmbcjddibaaa.PG
