/- A part of a text. (Carved out of XPWords.) -/
import Derived.Test.YtjadlnmphcoioaaDoorPBase
namespace Go.Proofs.YtjadlnmphcoioaaDoor.Pure
open Go.RowKit Go.Proofs.YtjadlnmphcoioaaDoorW.PrintWords Go.Proofs.YtjadlnmphcoioaaDoorW.PrintLast Go.Proofs.YtjadlnmphcoioaaDoorW.PrintMore

theorem row_cut (t : ByteArray) (a b : Nat) : (t.extract a b).data.toList = (t.data.toList.drop a).take (b - a) := by
  have := congrArg (fun x : ByteArray => x.data.toList) (Lib.extract_mk t.data.toList a b)
  rw [Lib.mk_data] at this
  simp only [] at this
  exact this
def cut (s : ByteArray) (a b : Nat) : List Int := ((bytesOf s).drop a).take (b - a)
theorem bytesOf_extract (s : ByteArray) (a b : Nat) : bytesOf (s.extract a b) = cut s a b := by
  unfold cut bytesOf
  rw [row_cut, List.map_take, List.map_drop]
theorem extract_cut (s : ByteArray) (a b : Nat) : s.extract a b = strOfNums (cut s a b) := by rw [← bytesOf_extract, str_bytesOf]
theorem cut_succ (s : ByteArray) (a b : Nat) (h : a ≤ b) (hb : b < s.size) : cut s a (b + 1) = cut s a b ++ [(bytesOf s).getD b 0] := by
  have hl := bytesOf_length s
  unfold cut
  rw [show b + 1 - a = (b - a) + 1 by omega, List.take_succ_eq_append_getElem (by rw [List.length_drop]; omega), List.getElem_drop, List.getD_eq_getElem?_getD, List.getElem?_eq_getElem (by omega)]
  congr 2
  simp only [Option.getD_some]
  congr 1
  omega
theorem cut_self (s : ByteArray) (a : Nat) : cut s a a = [] := by unfold cut; rw [Nat.sub_self, List.take_zero]
theorem cut_length (s : ByteArray) (a b : Nat) (h : a ≤ b) (hb : b ≤ s.size) : (cut s a b).length = b - a := by
  have hl := bytesOf_length s
  unfold cut
  rw [List.length_take, List.length_drop]
  omega
theorem cut_bytes (s : ByteArray) (a b : Nat) : Bytes (cut s a b) := ((Bytes.of s).drop a).take (b - a)
end Go.Proofs.YtjadlnmphcoioaaDoor.Pure
