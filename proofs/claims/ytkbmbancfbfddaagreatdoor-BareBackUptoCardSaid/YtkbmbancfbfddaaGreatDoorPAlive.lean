/- The page's examples of layer 9. -/
import Derived.Test.YtkbmbancfbfddaaGreatDoorX6
import Derived.Test.YtkbmbancfbfddaaGreatDoorPBase
namespace Go.Proofs.YtkbmbancfbfddaaGreatDoor.Pure
open Go.RowKit Go.Proofs.YtkbmbancfbfddaaGreatDoor.X Go.Proofs.YtkbmbancfbfddaaGreatDoorW.PrintWords Go.Proofs.YtkbmbancfbfddaaGreatDoorW.PrintLast Go.Proofs.YtkbmbancfbfddaaGreatDoorW.PrintMore

set_option maxRecDepth 100000 in
theorem alive_20 : pergolalaw09_alive.f 20 = some true := by decide +kernel
end Go.Proofs.YtkbmbancfbfddaaGreatDoor.Pure
