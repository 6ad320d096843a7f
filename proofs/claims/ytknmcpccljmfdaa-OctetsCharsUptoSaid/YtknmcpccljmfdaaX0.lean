-- Written by wip/xprint.py for this seat
import Derived.Test.YtknmcpccljmfdaaProg
import Derived.Below
import Derived.Deep.Draws
import Derived.Deep.AppendLies
import Derived.Maps.AppendAt
import Derived.OwnWalk
import Derived.Laws.BytesArg
import Derived.Laws.MakeOwn
import Derived.Laws.OwnMore
import Derived.Deep.OwnRows
import Derived.Tactics
import Derived.Lib.ConvBytes
import Derived.Laws.Slices
import Derived.WalkKit
import Derived.KernelRfl
import Derived.RowKit3
import Derived.Deep.LoopGhost
import Derived.Deep.QuietTactic
import Derived.BigQuiet
import Derived.WideLaws
import Derived.Deep.DeepCutAuto
import Derived.Deep.CutBlock
import Derived.Deep.RegionHeld3
import Derived.Laws.Rows
import Derived.Lib.AppendStr
import Derived.ArgAppend
import Derived.Laws.IdiomCopy
import Derived.OrdersHeld
import Derived.Laws.BitsLemmas
import Derived.RowKit
import Derived.Test.YtknmcpccljmfdaaShelf
import Derived.Test.YtknmcpccljmfdaaXW
import Derived.Test.YtknmcpccljmfdaaWWords
import Derived.Test.YtknmcpccljmfdaaWLast
import Derived.Test.YtknmcpccljmfdaaWTab
import Derived.Test.YtknmcpccljmfdaaWFour
import Derived.Test.YtknmcpccljmfdaaWQPut
import Derived.Test.YtknmcpccljmfdaaWApart
import Derived.Test.YtknmcpccljmfdaaWArr
import Derived.Test.YtknmcpccljmfdaaWZeros
import Derived.Test.YtknmcpccljmfdaaWFoot
import Derived.Test.YtknmcpccljmfdaaWKept
import Derived.Test.YtknmcpccljmfdaaWShare
import Derived.Test.YtknmcpccljmfdaaWN
import Derived.Test.YtknmcpccljmfdaaWFootNe
import Derived.Test.YtknmcpccljmfdaaWAt
import Derived.Test.YtknmcpccljmfdaaWEqStruct
import Derived.Test.YtknmcpccljmfdaaWRepsOne
import Derived.Test.YtknmcpccljmfdaaWInv
import Derived.Test.YtknmcpccljmfdaaWInvWords
import Derived.Test.YtknmcpccljmfdaaWGuard
import Derived.Test.YtknmcpccljmfdaaWNEv
import Derived.Test.YtknmcpccljmfdaaWMore
namespace Go.Proofs.Ytknmcpccljmfdaa.X
open Go.RowKit Go.Proofs.YtknmcpccljmfdaaW.PrintWords Go.Proofs.YtknmcpccljmfdaaW.PrintLast Go.Proofs.YtknmcpccljmfdaaW.PrintMore
attribute [local go_sem] max2_int min2_int max_two min_two max_three min_three max_four min_four   -- for this text's walks alone
set_option linter.unusedVariables false
set_option linter.unusedSimpArgs false



def errW : Option Int → Value
  | none => .nilIface
  | some c => .iface 0 (.int .i64 c)
theorem errW_none : errW none = .nilIface := rfl
theorem errW_some (c : Int) : errW (some c) = .iface 0 (.int .i64 c) := rfl

theorem info5 : (Try.prog.info? 5).map (fun i => (i.zero, i.size, i.bytes)) = some (some (.int .u8 0), 1, 1) := by kernel_rfl
theorem info9 : (Try.prog.info? 9).map (fun i => (i.zero, i.size, i.bytes)) = some (some (.string ⟨#[]⟩), 1, 16) := by kernel_rfl
theorem info21 : (Try.prog.info? 21).map (fun i => (i.zero, i.size, i.bytes)) = some (some (.int .i32 0), 1, 4) := by kernel_rfl
theorem info22 : (Try.prog.info? 22).map (fun i => (i.zero, i.size, i.bytes)) = some (some (.slice none 0 0), 1, 24) := by kernel_rfl
-- the values' own types

end Go.Proofs.Ytknmcpccljmfdaa.X
