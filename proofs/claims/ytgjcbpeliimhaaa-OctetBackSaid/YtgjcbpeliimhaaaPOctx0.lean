-- Written by a program for this seat's family Oct (wip/tools of this session's repo).
import Derived.Test.YtgjcbpeliimhaaaProg
import Derived.Below
import Derived.Deep.Draws
import Derived.Deep.AppendLies
import Derived.Maps.AppendAt
import Derived.OwnWalk
import Derived.Laws.BytesArg
import Derived.Laws.MakeOwn
import Derived.Laws.OwnMore
import Derived.Deep.OwnRows
import Derived.Tactics
import Derived.Lib.ConvBytes
import Derived.Laws.Slices
import Derived.WalkKit
import Derived.KernelRfl
import Derived.RowKit3
import Derived.Deep.LoopGhost
import Derived.Deep.QuietTactic
import Derived.BigQuiet
import Derived.WideLaws
import Derived.Deep.DeepCutAuto
import Derived.Deep.CutBlock
import Derived.Deep.RegionHeld3
import Derived.Laws.Rows
import Derived.Lib.AppendStr
import Derived.ArgAppend
import Derived.Laws.IdiomCopy
import Derived.OrdersHeld
import Derived.Laws.BitsLemmas
import Derived.RowKit
import Derived.Test.YtgjcbpeliimhaaaWWords
import Derived.Test.YtgjcbpeliimhaaaWLast
import Derived.Test.YtgjcbpeliimhaaaWTab
import Derived.Test.YtgjcbpeliimhaaaWFour
import Derived.Test.YtgjcbpeliimhaaaWQPut
import Derived.Test.YtgjcbpeliimhaaaWApart
import Derived.Test.YtgjcbpeliimhaaaWArr
import Derived.Test.YtgjcbpeliimhaaaWZeros
import Derived.Test.YtgjcbpeliimhaaaWFoot
import Derived.Test.YtgjcbpeliimhaaaWKept
import Derived.Test.YtgjcbpeliimhaaaWShare
import Derived.Test.YtgjcbpeliimhaaaWN
import Derived.Test.YtgjcbpeliimhaaaWFootNe
import Derived.Test.YtgjcbpeliimhaaaWAt
import Derived.Test.YtgjcbpeliimhaaaWEqStruct
import Derived.Test.YtgjcbpeliimhaaaWRepsOne
import Derived.Test.YtgjcbpeliimhaaaWInv
import Derived.Test.YtgjcbpeliimhaaaWInvWords
import Derived.Test.YtgjcbpeliimhaaaWGuard
import Derived.Test.YtgjcbpeliimhaaaWNEv
import Derived.Test.YtgjcbpeliimhaaaWMore
namespace Go.Proofs.Ytgjcbpeliimhaaa.POct
open Go.RowKit Go.Proofs.YtgjcbpeliimhaaaW.PrintWords Go.Proofs.YtgjcbpeliimhaaaW.PrintLast Go.Proofs.YtgjcbpeliimhaaaW.PrintMore
attribute [local go_sem] max2_int min2_int max_two min_two max_three min_three max_four min_four   -- for this text's walks alone
set_option linter.unusedVariables false
set_option linter.unusedSimpArgs false



def errW : Option Int → Value
  | none => .nilIface
  | some c => .iface 0 (.int .i64 c)
theorem errW_none : errW none = .nilIface := rfl
theorem errW_some (c : Int) : errW (some c) = .iface 0 (.int .i64 c) := rfl

theorem info5 : (Try.prog.info? 5).map (fun i => (i.zero, i.size, i.bytes)) = some (some (.int .u8 0), 1, 1) := by kernel_rfl
-- the values' own types

end Go.Proofs.Ytgjcbpeliimhaaa.POct
