/- Words of this session's own, beside the printed ones: a make with a capacity of its own. -/
import Derived.Lib.SlBytesConst
import Derived.Lib.AppendStr
import Derived.Laws.CopyOwn
import Derived.Laws.BitsAllLaws
import Derived.Lib.OthersKept
import Derived.Laws.Cover4
import Derived.Lib.SlTrimSet
import Derived.Deep.WholeRow
import Derived.Lib.AsciiSet
import Derived.Lib.IndexBytes
import Derived.Test.YtclkclcacnpmbaaDoorWWords
namespace Go.Proofs.YtclkclcacnpmbaaDoorW.PrintWords
open Go.RowKit
namespace Kd
section
variable {P : Program} {ops : Array Oper} {rest : List Oper} {o : Oper} {a : Act} {Q : Exit → Act → World → Prop}
variable {α : Type}
end
end Kd
end Go.Proofs.YtclkclcacnpmbaaDoorW.PrintWords

namespace Go.Proofs.YtclkclcacnpmbaaDoorW.PrintWords
open Go.RowKit
namespace Kd
section
variable {P : Program} {ops : Array Oper} {rest : List Oper} {o : Oper} {a : Act} {Q : Exit → Act → World → Prop}
end
end Kd
end Go.Proofs.YtclkclcacnpmbaaDoorW.PrintWords

namespace Go.Proofs.YtclkclcacnpmbaaDoorW.PrintWords
open Go.RowKit
def Marked (W : World) (e g : Nat) (xs : List Int) : Prop := ∃ (cur : Array Value) (m : Nat), W.heap[g]? = some (.cells cur e (m, m + 1)) ∧ xs.length ≤ m ∧ cur.size = m ∧ cur.toList.take xs.length = nums .u8 xs
namespace Marked
variable {W : World} {e g : Nat} {xs : List Int}
theorem new (W : World) (e : Nat) (s : ByteArray) : Marked (Lib.bytesWorld W e s) e W.heap.size (bytesOf s) := by
 refine ⟨_, _, Lib.bytesWorld_at_new W e s, ?_, rfl, ?_⟩
 ·rw [bytesOf_length]
  simp [Lib.bytesCells]
 ·rw [bytesOf_length]
  apply List.ext_getElem
  ·simp [Lib.bytesCells, nums, bytesOf]
  ·intro i h1 h2
   simp [Lib.bytesCells, nums, bytesOf]
theorem get (h : Marked W e g xs) (i : Nat) (hi : i < xs.length) : W.cell? ⟨g, i, none⟩ = some (.int .u8 (xs.getD i 0)) ∧ W.frozen? ⟨g, i, none⟩ = false := by
 obtain ⟨cur, m, hh, hm, hc, ht⟩ := h
 constructor
 ·rw [cell_of_row W g i cur e (m, m + 1) hh]
  have h1 := congrArg (fun l => l[i]?) ht
  simp only [List.getElem?_take, hi, if_true] at h1
  rw [Array.getElem?_toList] at h1
  rw [h1]
  simp [nums, List.getElem?_eq_getElem hi, List.getD_eq_getElem?_getD]
 ·simp [World.frozen?, hh]
  omega
theorem set (h : Marked W e g xs) (i : Nat) (v : Int) : Marked (W.setCell ⟨g, i, none⟩ (.int .u8 v)) e g (xs.set i v) := by
 obtain ⟨cur, m, hh, hm, hc, ht⟩ := h
 have hlt := blk_lt hh
 refine ⟨cur.setIfInBounds i (.int .u8 v), m, ?_, by rw [List.length_set]; exact hm, by rw [Array.size_setIfInBounds]; exact hc, ?_⟩
 ·have h2 := (Array.getElem?_eq_some_iff.1 hh).2
  simp only [World.setCell, Array.getElem?_modify, if_true, hh, Option.map_some]
  rfl
 ·rw [List.length_set, Array.toList_setIfInBounds, List.take_set, ht]
  simp [nums, List.map_set]
theorem string {P : Program} {src dst : TypeId} (h : Marked W e g xs) (hs : P.underlying src = some (.slice e)) (he : P.underlying e = some (.int .u8)) (hd : P.underlying dst = some .string) (n cap : Nat) (hn : xs.length = n) :
  (convert src dst (.slice (some ⟨g, 0, none⟩) n cap)).run P W = .ok (.string (strOfNums xs)) W := by
 refine run_convert_bytes_arg W src e hs he g 0 n cap xs hn (fun i hi => ?_) dst hd
 rw [Nat.zero_add]
 exact (h.get i (by omega)).1
theorem write {w : World} (hb : Below w.heap.size w W) (hg : w.heap.size ≤ g) (i : Nat) (v : Value) : Below w.heap.size w (W.setCell ⟨g, i, none⟩ v) := hb.setCell hg v
end Marked
end Go.Proofs.YtclkclcacnpmbaaDoorW.PrintWords

namespace Go.Proofs.YtclkclcacnpmbaaDoorW.PrintWords
open Go.RowKit
end Go.Proofs.YtclkclcacnpmbaaDoorW.PrintWords

namespace Go.Proofs.YtclkclcacnpmbaaDoorW.PrintWords
open Go.RowKit
def GivIs (w : World) (g : Nat) : Prop :=
 ∃ (A1 A2 : Option Addr) (c1 c2 : Nat) (xss : List (List Int)), w.cell? ⟨g, 0, none⟩ = some (.slice A1 xss.length c1) ∧ w.cell? ⟨g, 1, none⟩ = some (.slice A2 xss.length c2) ∧
  Kd.C (Kd.slice 5 (Kd.int .u8)) w A1 xss.length xss ∧ Kd.C (Kd.slice 5 (Kd.int .u8)) w A2 xss.length xss ∧
  (∀ xs ∈ xss, xs.length ≤ 140737488355328) ∧ xss.length ≤ 140737488355328 ∧ ∀ j, 2 ≤ j → j < 32 → w.cell? ⟨g, j, none⟩ = some (.slice none 0 0)
theorem GivIs.below {w w1 : World} {g : Nat} (h : GivIs w g) (hb : Below w.heap.size w w1) : GivIs w1 g := by
 obtain ⟨A1, A2, c1, c2, xss, h1, h2, h3, h4, h5, h6, h7⟩ := h
 exact ⟨A1, A2, c1, c2, xss, pw_cell_below hb h1, pw_cell_below hb h2, Kd.C_below h3 hb, Kd.C_below h4 hb, h5, h6, fun j hj hk => pw_cell_below hb (h7 j hj hk)⟩
theorem GivIs.alloc {w : World} {g : Nat} (h : GivIs w g) (o : Obj) : GivIs (w.alloc o) g := h.below (below_alloc (Below.refl _ _) _)
theorem GivIs.drewN {w : World} {g : Nat} (h : GivIs w g) (n : Nat) : GivIs (w.drewN n) g := h.below (pw_below_drewN (Below.refl _ _) _)
theorem GivIs.drew {w : World} {g : Nat} (h : GivIs w g) : GivIs w.drew g := h.below (below_drew1 (Below.refl _ _))
section
open Go.RowKit Go.Lib
end
end Go.Proofs.YtclkclcacnpmbaaDoorW.PrintWords
