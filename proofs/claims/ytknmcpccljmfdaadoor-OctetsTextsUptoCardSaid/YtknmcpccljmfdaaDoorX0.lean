-- Written by wip/xprint.py for this seat
import Derived.Test.YtknmcpccljmfdaaDoorProg
import Derived.Below
import Derived.Deep.Draws
import Derived.Deep.AppendLies
import Derived.Maps.AppendAt
import Derived.OwnWalk
import Derived.Laws.BytesArg
import Derived.Laws.MakeOwn
import Derived.Laws.OwnMore
import Derived.Deep.OwnRows
import Derived.Tactics
import Derived.Lib.ConvBytes
import Derived.Laws.Slices
import Derived.WalkKit
import Derived.KernelRfl
import Derived.RowKit3
import Derived.Deep.LoopGhost
import Derived.Deep.QuietTactic
import Derived.BigQuiet
import Derived.WideLaws
import Derived.Deep.DeepCutAuto
import Derived.Deep.CutBlock
import Derived.Deep.RegionHeld3
import Derived.Laws.Rows
import Derived.Lib.AppendStr
import Derived.ArgAppend
import Derived.Laws.IdiomCopy
import Derived.OrdersHeld
import Derived.Laws.BitsLemmas
import Derived.RowKit
import Derived.Test.YtknmcpccljmfdaaDoorShelf
import Derived.Test.YtknmcpccljmfdaaDoorXW
import Derived.Test.YtknmcpccljmfdaaDoorWWords
import Derived.Test.YtknmcpccljmfdaaDoorWLast
import Derived.Test.YtknmcpccljmfdaaDoorWTab
import Derived.Test.YtknmcpccljmfdaaDoorWFour
import Derived.Test.YtknmcpccljmfdaaDoorWQPut
import Derived.Test.YtknmcpccljmfdaaDoorWApart
import Derived.Test.YtknmcpccljmfdaaDoorWArr
import Derived.Test.YtknmcpccljmfdaaDoorWZeros
import Derived.Test.YtknmcpccljmfdaaDoorWFoot
import Derived.Test.YtknmcpccljmfdaaDoorWKept
import Derived.Test.YtknmcpccljmfdaaDoorWShare
import Derived.Test.YtknmcpccljmfdaaDoorWN
import Derived.Test.YtknmcpccljmfdaaDoorWFootNe
import Derived.Test.YtknmcpccljmfdaaDoorWAt
import Derived.Test.YtknmcpccljmfdaaDoorWEqStruct
import Derived.Test.YtknmcpccljmfdaaDoorWRepsOne
import Derived.Test.YtknmcpccljmfdaaDoorWInv
import Derived.Test.YtknmcpccljmfdaaDoorWInvWords
import Derived.Test.YtknmcpccljmfdaaDoorWGuard
import Derived.Test.YtknmcpccljmfdaaDoorWNEv
import Derived.Test.YtknmcpccljmfdaaDoorWMore
namespace Go.Proofs.YtknmcpccljmfdaaDoor.X
open Go.RowKit Go.Proofs.YtknmcpccljmfdaaDoorW.PrintWords Go.Proofs.YtknmcpccljmfdaaDoorW.PrintLast Go.Proofs.YtknmcpccljmfdaaDoorW.PrintMore
attribute [local go_sem] max2_int min2_int max_two min_two max_three min_three max_four min_four   -- for this text's walks alone
set_option linter.unusedVariables false
set_option linter.unusedSimpArgs false



def errW : Option Int → Value
  | none => .nilIface
  | some c => .iface 0 (.int .i64 c)
theorem errW_none : errW none = .nilIface := rfl
theorem errW_some (c : Int) : errW (some c) = .iface 0 (.int .i64 c) := rfl

theorem info5 : (Tryd.prog.info? 5).map (fun i => (i.zero, i.size, i.bytes)) = some (some (.int .u8 0), 1, 1) := by kernel_rfl
theorem info9 : (Tryd.prog.info? 9).map (fun i => (i.zero, i.size, i.bytes)) = some (some (.string ⟨#[]⟩), 1, 16) := by kernel_rfl
-- the values' own types

end Go.Proofs.YtknmcpccljmfdaaDoor.X
