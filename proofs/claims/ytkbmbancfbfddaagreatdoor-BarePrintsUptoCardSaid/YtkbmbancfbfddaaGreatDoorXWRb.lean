/- Layer 9's reader: its bytes, by hand, over what strings.IndexByte and octets.Unbase64 do. -/
import Derived.Test.YtkbmbancfbfddaaGreatDoorXWRs
import Derived.Deep.RegionHeld3
namespace Go.Proofs.YtkbmbancfbfddaaGreatDoorW.PrintWords
open Go.RowKit

end Go.Proofs.YtkbmbancfbfddaaGreatDoorW.PrintWords
