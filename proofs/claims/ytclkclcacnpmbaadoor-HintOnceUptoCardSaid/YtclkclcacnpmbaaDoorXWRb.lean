/- Layer 9's reader: its bytes, by hand, over what strings.IndexByte and octets.Unbase64 do. -/
import Derived.Test.YtclkclcacnpmbaaDoorXWRs
import Derived.Deep.RegionHeld3
namespace Go.Proofs.YtclkclcacnpmbaaDoorW.PrintWords
open Go.RowKit

end Go.Proofs.YtclkclcacnpmbaaDoorW.PrintWords
