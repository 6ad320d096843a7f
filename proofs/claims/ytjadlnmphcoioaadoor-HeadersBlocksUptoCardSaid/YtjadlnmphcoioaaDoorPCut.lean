/- A part of a text. (Carved out of XPWords.) -/
import Derived.Test.YtjadlnmphcoioaaDoorPBase
namespace Go.Proofs.YtjadlnmphcoioaaDoor.Pure
open Go.RowKit Go.Proofs.YtjadlnmphcoioaaDoorW.PrintWords Go.Proofs.YtjadlnmphcoioaaDoorW.PrintLast Go.Proofs.YtjadlnmphcoioaaDoorW.PrintMore

theorem row_cut (t : ByteArray) (a b : Nat) : (t.extract a b).data.toList = (t.data.toList.drop a).take (b - a) := by
 have := congrArg (fun x : ByteArray => x.data.toList) (Lib.extract_mk t.data.toList a b)
 rw [Lib.mk_data] at this
 simp only [] at this
 exact this
def cut (s : ByteArray) (a b : Nat) : List Int := ((bytesOf s).drop a).take (b - a)
theorem bytesOf_extract (s : ByteArray) (a b : Nat) : bytesOf (s.extract a b) = cut s a b := by
 unfold cut bytesOf
 rw [row_cut, List.map_take, List.map_drop]
end Go.Proofs.YtjadlnmphcoioaaDoor.Pure
