/- Words of this session's own, beside the printed ones: a make with a capacity of its own. -/
import Derived.Lib.SlBytesConst
import Derived.Lib.AppendStr
import Derived.Laws.CopyOwn
import Derived.Laws.BitsAllLaws
import Derived.Lib.OthersKept
import Derived.Laws.Cover4
import Derived.Lib.SlTrimSet
import Derived.Deep.WholeRow
import Derived.Lib.AsciiSet
import Derived.Lib.IndexBytes
import Derived.Test.YtkbmbancfbfddaaGreatDoorWWords
namespace Go.Proofs.YtkbmbancfbfddaaGreatDoorW.PrintWords
open Go.RowKit
namespace Kd
section
variable {P : Program} {ops : Array Oper} {rest : List Oper} {o : Oper} {a : Act} {Q : Exit → Act → World → Prop}
variable {α : Type}
theorem R_make0 (d : Kd α) {w0 W : World} (base e : Nat) (hgd : o.guard = none) {N : Tmp} (_hd : o.dst = some N) (t : TypeId) (x y : Operand) (ho : o.op = .makeSlice t x y) (n : Int) (hx : a.eval x = .int .i64 0) (hy : a.eval y = .int .i64 n)
  (ht : P.underlying t = some (.slice e)) (z : Value) (bytes : Nat) (hinfo : (P.info? e).map (fun i => (i.zero, i.size, i.bytes)) = some (some z, d.sz, bytes)) (_hz : z.cells.size = d.sz) (_hs0 : 0 < d.sz) (hb0 : 0 < bytes)
  (z0 : α) {ok okp : Nat → Prop} (_hzero : d.M W base okp z0 z.cells.toList) (_hok : ∀ k, okp k → ok k) (hfresh : ok W.heap.size) (h0 : 0 ≤ n) (hl : n.toNat * bytes ≤ 281474976710656) (HB : Below base w0 W) (hbase : base ≤ W.heap.size)
  (h : ∀ v1 w1, d.R e w1 base ok v1 [] → Below base w0 w1 → W.grownBy w1 none → (∃ b, v1.ownBlock = some b ∧ W.heap.size ≤ b) → wpList P ops Q rest (a.put o.dst v1) w1) : wpList P ops Q (o :: rest) a W := by
 obtain ⟨m, rfl⟩ := Int.eq_ofNat_of_zero_le h0
 simp only [Int.toNat_natCast] at hl
 obtain ⟨i0, hi, hzz⟩ := Option.map_eq_some_iff.1 hinfo
 simp only [Prod.mk.injEq] at hzz
 obtain ⟨hz0, hz1, hz2⟩ := hzz
 have hm : m ≤ 281474976710656 := Nat.le_trans (Nat.le_mul_of_pos_right _ hb0) hl
 have hr := run_make (P := P) W t e i0 z ht hi hz0 .i64 .i64 0 (m : Int) (by omega) (by omega)
  (by
   have h3 : ((i0.bytes * m : Nat) : Int) ≤ 281474976710656 := by rw [hz2, Nat.mul_comm]; omega
   rwa [Int.natCast_mul] at h3) (by omega)
 simp only [Int.toNat_natCast, Int.toNat_zero] at hr
 rw [hz1] at hr
 refine event_run hgd (v := .slice (some ⟨W.heap.size, 0, none⟩) 0 m) (w1 := W.alloc (.cells (madeCells z.cells (m * d.sz)) e)) (by simp [execOp, ho, hx, hy, hr]) (h _ _ ⟨fun k hk => ?_, [], ?_, Reps.none _ _⟩ (HB.alloc hbase _) (World.grownBy_alloc W _ none) ⟨W.heap.size, by simp [Value.ownBlock], Nat.le_refl _⟩)
 ·have : W.heap.size = k := by simpa [Value.ownBlock] using hk
  subst this
  exact hfresh
 ·simpa using World.ownsRow_made (base := base) (e := e) (size := d.sz) W (madeCells z.cells (m * d.sz)) m hbase (by simp only [maxLen]; omega) (size_madeCells _ _)
end
end Kd
end Go.Proofs.YtkbmbancfbfddaaGreatDoorW.PrintWords

namespace Go.Proofs.YtkbmbancfbfddaaGreatDoorW.PrintWords
open Go.RowKit
namespace Kd
section
variable {P : Program} {ops : Array Oper} {rest : List Oper} {o : Oper} {a : Act} {Q : Exit → Act → World → Prop}
theorem F_block {w1 : World} {xs : List Int} {g : Nat} {ok : Nat → Prop} (hok : ok g) (hg : g < w1.heap.size) (hm : xs.length ≤ 9223372036854775807) (hc : ∀ j, j < xs.length → w1.cell? ⟨g, j, none⟩ = some (.int .u8 (xs.getD j 0))) :
  F (Kd.int .u8) w1 ok (some ⟨g, 0, none⟩) xs.length xs := by
 intro W' hW
 refine C_of_reads (enc := Value.int .u8) (d := (0 : Int)) ⟨rfl, hm, fun _ => ⟨_, rfl, fun j hj => ?_⟩⟩
 rw [add_plain, ← hc j hj]
 exact World.cell?_of_block (hW g hok hg)
theorem V_bytes {w0 W : World} (base e : Nat) (hgd : o.guard = none) {N : Tmp} (_hd : o.dst = some N) (src dst : TypeId) (x : Operand) (ho : o.op = .convert src dst x) (s : ByteArray) (hx : a.eval x = .string s)
  {u : TypeDesc} (hs : P.underlying src = some u) (hdst : P.underlying dst = some (.slice e)) (he : P.underlying e = some (.int .u8)) {ok : Nat → Prop} (hfresh : ok W.heap.size) (hm : s.size ≤ 9223372036854775807) (HB : Below base w0 W) (hbase : base ≤ W.heap.size)
  (h : ∀ v1 w1, V (Kd.int .u8) e w1 base ok v1 (bytesOf s) → Below base w0 w1 → W.grownBy w1 none → (∃ b, v1.ownBlock = some b ∧ W.heap.size ≤ b) → wpList P ops Q rest (a.put o.dst v1) w1) : wpList P ops Q (o :: rest) a W := by
 have hr := print_bytes (P := P) src dst e hs hdst he s W
 have hcap : s.size ≤ grownCap W s.size 0 e := by
  unfold grownCap Question.cut
  dsimp only
  omega
 refine event_run hgd (v := .slice (some ⟨W.heap.size, 0, none⟩) s.size (grownCap W s.size 0 e)) (w1 := Lib.bytesWorld W e s) (by simp [execOp, ho, hx, hr]) (h _ _ ?_ (bytes_below HB hbase e s) ?_ ⟨W.heap.size, by simp [Value.ownBlock], Nat.le_refl _⟩)
 ·have hl := bytesOf_length s
  rw [← hl]
  rw [← hl] at hcap
  refine V_mk hcap (F_block hfresh (by rw [Lib.bytesWorld_size]; omega) (by rw [hl]; exact hm) fun j hj => ?_)
  rw [hl] at hj
  rw [Lib.bytesWorld_cell W e s j hj]
  have h' : j < s.data.toList.length := by rw [data_length]; exact hj
  simp [bytesOf, List.getD_eq_getElem?_getD, List.getElem?_eq_getElem h']
 ·exact ⟨rfl, rfl, rfl, by rw [Lib.bytesWorld_size]; omega, fun i hi _ => Lib.bytesWorld_at_old W e s i hi⟩
end
end Kd
end Go.Proofs.YtkbmbancfbfddaaGreatDoorW.PrintWords

namespace Go.Proofs.YtkbmbancfbfddaaGreatDoorW.PrintWords
open Go.RowKit
def Marked (W : World) (e g : Nat) (xs : List Int) : Prop := ∃ (cur : Array Value) (m : Nat), W.heap[g]? = some (.cells cur e (m, m + 1)) ∧ xs.length ≤ m ∧ cur.size = m ∧ cur.toList.take xs.length = nums .u8 xs
namespace Marked
variable {W : World} {e g : Nat} {xs : List Int}
theorem new (W : World) (e : Nat) (s : ByteArray) : Marked (Lib.bytesWorld W e s) e W.heap.size (bytesOf s) := by
 refine ⟨_, _, Lib.bytesWorld_at_new W e s, ?_, rfl, ?_⟩
 ·rw [bytesOf_length]
  simp [Lib.bytesCells]
 ·rw [bytesOf_length]
  apply List.ext_getElem
  ·simp [Lib.bytesCells, nums, bytesOf]
  ·intro i h1 h2
   simp [Lib.bytesCells, nums, bytesOf]
theorem get (h : Marked W e g xs) (i : Nat) (hi : i < xs.length) : W.cell? ⟨g, i, none⟩ = some (.int .u8 (xs.getD i 0)) ∧ W.frozen? ⟨g, i, none⟩ = false := by
 obtain ⟨cur, m, hh, hm, hc, ht⟩ := h
 constructor
 ·rw [cell_of_row W g i cur e (m, m + 1) hh]
  have h1 := congrArg (fun l => l[i]?) ht
  simp only [List.getElem?_take, hi, if_true] at h1
  rw [Array.getElem?_toList] at h1
  rw [h1]
  simp [nums, List.getElem?_eq_getElem hi, List.getD_eq_getElem?_getD]
 ·simp [World.frozen?, hh]
  omega
theorem set (h : Marked W e g xs) (i : Nat) (v : Int) : Marked (W.setCell ⟨g, i, none⟩ (.int .u8 v)) e g (xs.set i v) := by
 obtain ⟨cur, m, hh, hm, hc, ht⟩ := h
 have hlt := blk_lt hh
 refine ⟨cur.setIfInBounds i (.int .u8 v), m, ?_, by rw [List.length_set]; exact hm, by rw [Array.size_setIfInBounds]; exact hc, ?_⟩
 ·have h2 := (Array.getElem?_eq_some_iff.1 hh).2
  simp only [World.setCell, Array.getElem?_modify, if_true, hh, Option.map_some]
  rfl
 ·rw [List.length_set, Array.toList_setIfInBounds, List.take_set, ht]
  simp [nums, List.map_set]
theorem move {W1 : World} (h : Marked W e g xs) (hm : W1.heap[g]? = W.heap[g]?) : Marked W1 e g xs := by
 obtain ⟨cur, m, hh, r⟩ := h
 exact ⟨cur, m, hm.trans hh, r⟩
theorem string {P : Program} {src dst : TypeId} (h : Marked W e g xs) (hs : P.underlying src = some (.slice e)) (he : P.underlying e = some (.int .u8)) (hd : P.underlying dst = some .string) (n cap : Nat) (hn : xs.length = n) :
  (convert src dst (.slice (some ⟨g, 0, none⟩) n cap)).run P W = .ok (.string (strOfNums xs)) W := by
 refine run_convert_bytes_arg W src e hs he g 0 n cap xs hn (fun i hi => ?_) dst hd
 rw [Nat.zero_add]
 exact (h.get i (by omega)).1
end Marked
end Go.Proofs.YtkbmbancfbfddaaGreatDoorW.PrintWords

namespace Go.Proofs.YtkbmbancfbfddaaGreatDoorW.PrintWords
open Go.RowKit
end Go.Proofs.YtkbmbancfbfddaaGreatDoorW.PrintWords

namespace Go.Proofs.YtkbmbancfbfddaaGreatDoorW.PrintWords
open Go.RowKit
def GivIs (w : World) (g : Nat) : Prop :=
 ∃ (A1 A2 : Option Addr) (c1 c2 : Nat) (xss : List (List Int)), w.cell? ⟨g, 0, none⟩ = some (.slice A1 xss.length c1) ∧ w.cell? ⟨g, 1, none⟩ = some (.slice A2 xss.length c2) ∧
  Kd.C (Kd.slice 5 (Kd.int .u8)) w A1 xss.length xss ∧ Kd.C (Kd.slice 5 (Kd.int .u8)) w A2 xss.length xss ∧
  (∀ xs ∈ xss, xs.length ≤ 140737488355328) ∧ xss.length ≤ 140737488355328 ∧ ∀ j, 2 ≤ j → j < 32 → w.cell? ⟨g, j, none⟩ = some (.slice none 0 0)
theorem GivIs.below {w w1 : World} {g : Nat} (h : GivIs w g) (hb : Below w.heap.size w w1) : GivIs w1 g := by
 obtain ⟨A1, A2, c1, c2, xss, h1, h2, h3, h4, h5, h6, h7⟩ := h
 exact ⟨A1, A2, c1, c2, xss, pw_cell_below hb h1, pw_cell_below hb h2, Kd.C_below h3 hb, Kd.C_below h4 hb, h5, h6, fun j hj hk => pw_cell_below hb (h7 j hj hk)⟩
theorem GivIs.alloc {w : World} {g : Nat} (h : GivIs w g) (o : Obj) : GivIs (w.alloc o) g := h.below (below_alloc (Below.refl _ _) _)
theorem GivIs.drewN {w : World} {g : Nat} (h : GivIs w g) (n : Nat) : GivIs (w.drewN n) g := h.below (pw_below_drewN (Below.refl _ _) _)
theorem GivIs.drew {w : World} {g : Nat} (h : GivIs w g) : GivIs w.drew g := h.below (below_drew1 (Below.refl _ _))
section
open Go.RowKit Go.Lib
end
end Go.Proofs.YtkbmbancfbfddaaGreatDoorW.PrintWords
