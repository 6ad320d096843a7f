/- A part of a text. (Carved out of XPWords.) -/
import Derived.Test.YtjadlnmphcoioaaGreatDoorPBase
namespace Go.Proofs.YtjadlnmphcoioaaGreatDoor.Pure
open Go.RowKit Go.Proofs.YtjadlnmphcoioaaGreatDoorW.PrintWords Go.Proofs.YtjadlnmphcoioaaGreatDoorW.PrintLast Go.Proofs.YtjadlnmphcoioaaGreatDoorW.PrintMore

end Go.Proofs.YtjadlnmphcoioaaGreatDoor.Pure
