/- Layer 10's reader (fields): bare, by hand, over what bare.Read does. -/
import Derived.Test.YtclkclcacnpmbaaDoorXWFd
namespace Go.Proofs.YtclkclcacnpmbaaDoorW.PrintWords
open Go.RowKit

abbrev FR (α : Type) := (Int × Int) ⊕ (α × Int)
abbrev BareT := Int × Int × ByteArray
def fdBare (BR : ByteArray → Int → Option (BareT × Int × Int)) (s : ByteArray) (a : Int) : Option (FR BareT) := (BR s a).bind fun A => some (if A.2.2 = 0 then .inr (A.1, A.2.1) else .inl (A.2.2, A.2.1))
def GivesB (x : Ending) (w w' : World) (g : Nat) (s : ByteArray) : FR BareT → Prop
 | .inl f => x = .panicked (wrongF f.1 f.2) ∧ Went w w' g
 | .inr (b, a) => x = .returned (bareV b) ∧ FdAt w' g s a ∧ Went w w' g
theorem below_thn {B : Nat} {w w1 w2 : World} (h : Below B w w1) (hB : B ≤ w1.heap.size) (k : Below w1.heap.size w1 w2) : Below B w w2 := h.trans ⟨k.os, k.tape, k.output, k.size, fun i hi => k.block i (Nat.lt_of_lt_of_le hi hB)⟩
theorem FdAt.far3 {w : World} {g gb : Nat} {s : ByteArray} {at_ : Int} (h : FdAt w g s at_) (hg : gb ≠ g) (u0 u1 u2 : Value) : FdAt (((w.setCell ⟨gb, 0, none⟩ u0).setCell ⟨gb, 1, none⟩ u1).setCell ⟨gb, 2, none⟩ u2) g s at_ :=
 blk_far (blk_far (blk_far h (p := ⟨gb, 0, none⟩) (Ne.symm hg) u0) (p := ⟨gb, 1, none⟩) (Ne.symm hg) u1) (p := ⟨gb, 2, none⟩) (Ne.symm hg) u2
set_option linter.unusedVariables false
set_option maxHeartbeats 4000000 in
set_option maxRecDepth 100000 in
theorem fbare_calls (w0 : World) (BR : ByteArray → Int → Option (BareT × Int × Int))
  (HB : ∀ (s : ByteArray) (a : Int) (A : BareT × Int × Int) (w' : World), Below w0.heap.size w0 w' → BR s a = some A → Calls Tryd.prog 74 #[.string s, .int .i64 a] w' fun x w'' => x = .returned (.tuple #[bareV A.1, .int .i64 A.2.1, .int .i64 A.2.2]) ∧ Below w'.heap.size w' w'')
  (g : Nat) (s : ByteArray) (a : Int) (w : World) (hr : FdAt w g s a) (hw : Below w0.heap.size w0 w) (hg0 : w0.heap.size ≤ g) (R : FR BareT) (hR : fdBare BR s a = some R) :
  Calls Tryd.prog 69 #[.pointer (some ⟨g, 0, none⟩)] w fun x w' => GivesB x w w' g s R := by
 unfold fdBare at hR
 obtain ⟨⟨⟨b0, b1, b2⟩, tq, e⟩, hA, hR⟩ := Option.bind_eq_some_iff.mp hR
 have HC : Aside0 (∀ w', Below w0.heap.size w0 w' → Calls Tryd.prog 74 #[.string s, .int .i64 a] w' fun x w'' => x = .returned (.tuple #[.agg #[.int .i64 b0, .int .i64 b1, .string b2], .int .i64 tq, .int .i64 e]) ∧ Below w'.heap.size w' w'') := ⟨fun w' hb => HB s a _ w' hb hA⟩
 have HW0 := Aside0.mk hw
 have HR0 := Aside0.mk hr
 have W0 := Aside0.mk (Went.refl w g)
 simp only at hR
 have hR' := Option.some.inj hR
 clear hR hA HB hw
 have HE := Aside0.mk hR'
 clear hR'
 go_enter Tryd.func69, Tryd.ntmps69
 go_upto_region 1 with (fail)
 obtain ⟨hx1, hb1⟩ := alloc1 w (.cells #[.int .i64 0, .int .i64 0, .string ⟨#[]⟩] 50)
 have hr1 := hr.more hb1
 have q0 := hr1.c0
 have q1 := hr1.c1
 have HR1 := Aside0.mk hr1
 have W1 := Aside0.mk (W0.out.more hb1)
 have HX1 := Aside0.mk hx1
 have HW1 := Aside0.mk (below_thn HW0.out HW0.out.size hb1)
 have HG := Aside0.mk (show w.heap.size ≠ g from fun e => by have := hr.lt; omega)
 clear hx1 hb1 hr1 hr
 generalize w.alloc (Obj.cells #[.int .i64 0, .int .i64 0, .string ⟨#[]⟩] 50) = w1 at *
 have q0d : w1.drew.cell? ⟨g, 0, none⟩ = some (.string s) := q0
 have q1d : w1.drew.cell? ⟨g, 1, none⟩ = some (.int .i64 a) := q1
 have p0 : (w1.alloc (Obj.cells #[.int .i64 0, .int .i64 0, .string ⟨#[]⟩] 50)).drew.cell? ⟨g, 0, none⟩ = some (.string s) := cell_more (drew_below (below_alloc (Below.refl _ _) _)) q0
 have p1 : (w1.alloc (Obj.cells #[.int .i64 0, .int .i64 0, .string ⟨#[]⟩] 50)).drew.cell? ⟨g, 1, none⟩ = some (.int .i64 a) := cell_more (drew_below (below_alloc (Below.refl _ _) _)) q1
 have HN1 := Aside0.mk (show w.heap.size ≠ w1.heap.size from fun e => by have := blk_lt HX1.out; omega)
 have HG1 := Aside0.mk (show w1.heap.size ≠ g from fun e => by have := HR1.out.lt; omega)
 go_region_held3 (fun w' => w'.cell? ⟨g, 0, none⟩ = some (.string s) ∧ w'.cell? ⟨g, 1, none⟩ = some (.int .i64 a)) (refine ⟨?_, ?_⟩ <;> with_reducible assumption)
  (first
   | (go_at_call 74; refine (HC.out w1.drew (drew_below HW1.out)).mono ?_; rintro e w2 ⟨rfl, hb2⟩; have HR2 := Aside0.mk (HR1.out.drew.more hb2); have r0 := HR2.out.c0; have r1 := HR2.out.c1; have A1 := (alloc1 w2 (Obj.cells #[.int .i64 0, .int .i64 0, .string ⟨#[]⟩] 50)).1; have z0 : (w2.alloc (Obj.cells #[.int .i64 0, .int .i64 0, .string ⟨#[]⟩] 50)).cell? ⟨w2.heap.size, 0, none⟩ = some (.int .i64 0) := (blk_cell A1 0).trans rfl; have z1 : (w2.alloc (Obj.cells #[.int .i64 0, .int .i64 0, .string ⟨#[]⟩] 50)).cell? ⟨w2.heap.size, 1, none⟩ = some (.int .i64 0) := (blk_cell A1 1).trans rfl; have z2 : (w2.alloc (Obj.cells #[.int .i64 0, .int .i64 0, .string ⟨#[]⟩] 50)).cell? ⟨w2.heap.size, 2, none⟩ = some (.string ⟨#[]⟩) := (blk_cell A1 2).trans rfl; have f0 := blk_frozen A1 0; have f1 := blk_frozen A1 1; have f2 := blk_frozen A1 2; have s0 := (HR2.out.more (below_alloc (Below.refl _ _) (Obj.cells #[.int .i64 0, .int .i64 0, .string ⟨#[]⟩] 50))).c0; have s1 := (HR2.out.more (below_alloc (Below.refl _ _) (Obj.cells #[.int .i64 0, .int .i64 0, .string ⟨#[]⟩] 50))).c1; obtain ⟨gq, HGQ⟩ : ∃ n, Aside0 (n = w2.heap.size) := ⟨_, ⟨rfl⟩⟩; obtain ⟨wf, HWF⟩ : ∃ x, Aside0 (x = w2.alloc (Obj.cells #[.int .i64 b0, .int .i64 b1, .string b2] 50)) := ⟨_, ⟨rfl⟩⟩; have HBF := below_alloc (Below.refl w2.heap.size w2) (Obj.cells #[.int .i64 b0, .int .i64 b1, .string b2] 50); have HF0 := HR2.out.more HBF; have HF : Aside0 (FdAt wf g s a) := ⟨by rw [HWF.out]; exact HF0⟩; have t0 := HF0.c0; have t1 := HF0.c1; have WF : Aside0 (Went w wf g) := ⟨by rw [HWF.out]; exact (W1.out.drew.more hb2).more HBF⟩; have XF : Aside0 (wf.heap[w.heap.size]? = some (.cells #[.int .i64 0, .int .i64 0, .string ⟨#[]⟩] 50 (0, 0))) := ⟨by rw [HWF.out]; exact blk_below (blk_below (drew_blk HX1.out) hb2) HBF⟩; have YF : Aside0 (wf.heap[gq]? = some (.cells #[.int .i64 b0, .int .i64 b1, .string b2] 50 (0, 0))) := ⟨by rw [HWF.out, HGQ.out]; exact (alloc1 w2 (Obj.cells #[.int .i64 b0, .int .i64 b1, .string b2] 50)).1⟩; have HGE : Aside0 (w.heap.size ≤ gq) := ⟨by rw [HGQ.out]; exact (W1.out.drew.more hb2).keep.1⟩; have HGN : Aside0 (gq ≠ g) := ⟨by rw [HGQ.out]; intro e; have := HR2.out.lt; omega⟩; clear HF0 A1 hb2 HBF)
   | (go_at_call 74; refine (HC.out (w1.alloc (Obj.cells #[.int .i64 0, .int .i64 0, .string ⟨#[]⟩] 50)).drew (drew_below (below_thn HW1.out HW1.out.size (below_alloc (Below.refl _ _) _)))).mono ?_; rintro e w2 ⟨rfl, hb2⟩; have A1 := blk_below (drew_blk (alloc1 w1 (Obj.cells #[.int .i64 0, .int .i64 0, .string ⟨#[]⟩] 50)).1) hb2; have HR2 := Aside0.mk ((HR1.out.more (drew_below (below_alloc (Below.refl _ _) (Obj.cells #[.int .i64 0, .int .i64 0, .string ⟨#[]⟩] 50)))).more hb2); have r0 := HR2.out.c0; have r1 := HR2.out.c1; have z0 : w2.cell? ⟨w1.heap.size, 0, none⟩ = some (.int .i64 0) := (blk_cell A1 0).trans rfl; have z1 : w2.cell? ⟨w1.heap.size, 1, none⟩ = some (.int .i64 0) := (blk_cell A1 1).trans rfl; have z2 : w2.cell? ⟨w1.heap.size, 2, none⟩ = some (.string ⟨#[]⟩) := (blk_cell A1 2).trans rfl; have f0 := blk_frozen A1 0; have f1 := blk_frozen A1 1; have f2 := blk_frozen A1 2; obtain ⟨gq, HGQ⟩ : ∃ n, Aside0 (n = w1.heap.size) := ⟨_, ⟨rfl⟩⟩; obtain ⟨wf, HWF⟩ : ∃ x, Aside0 (x = ((w2.setCell ⟨w1.heap.size, 0, none⟩ (.int .i64 b0)).setCell ⟨w1.heap.size, 1, none⟩ (.int .i64 b1)).setCell ⟨w1.heap.size, 2, none⟩ (.string b2)) := ⟨_, ⟨rfl⟩⟩; have HF0 := HR2.out.far3 HG1.out (.int .i64 b0) (.int .i64 b1) (.string b2); have HF : Aside0 (FdAt wf g s a) := ⟨by rw [HWF.out]; exact HF0⟩; have t0 := HF0.c0; have t1 := HF0.c1; have HGE0 : w.heap.size ≤ w1.heap.size := W1.out.keep.1; have WF : Aside0 (Went w wf g) := ⟨by rw [HWF.out]; exact ((W1.out.more (drew_below (below_alloc (Below.refl _ _) (Obj.cells #[.int .i64 0, .int .i64 0, .string ⟨#[]⟩] 50)))).more hb2).far3 HGE0 (.int .i64 b0) (.int .i64 b1) (.string b2)⟩; have XF : Aside0 (wf.heap[w.heap.size]? = some (.cells #[.int .i64 0, .int .i64 0, .string ⟨#[]⟩] 50 (0, 0))) := ⟨by rw [HWF.out]; exact blk_far (blk_far (blk_far (blk_below (blk_below HX1.out (drew_below (below_alloc (Below.refl _ _) (Obj.cells #[.int .i64 0, .int .i64 0, .string ⟨#[]⟩] 50)))) hb2) (p := ⟨w1.heap.size, 0, none⟩) HN1.out (.int .i64 b0)) (p := ⟨w1.heap.size, 1, none⟩) HN1.out (.int .i64 b1)) (p := ⟨w1.heap.size, 2, none⟩) HN1.out (.string b2)⟩; have YF : Aside0 (wf.heap[gq]? = some (.cells #[.int .i64 b0, .int .i64 b1, .string b2] 50 (0, 0))) := ⟨by rw [HWF.out, HGQ.out]; exact blk_set (blk_set (blk_set A1 0 (.int .i64 b0)) 1 (.int .i64 b1)) 2 (.string b2)⟩; have HGE : Aside0 (w.heap.size ≤ gq) := ⟨by rw [HGQ.out]; exact HGE0⟩; have HGN : Aside0 (gq ≠ g) := ⟨by rw [HGQ.out]; exact HG1.out⟩; clear HF0 HGE0 A1 hb2))
 all_goals (
  rw [← HWF.out, ← HGQ.out]
  clear HWF HGQ z0 z1 z2 f0 f1 f2 r0 r1 t0 t1 p0 p1 q0 q1 q0d q1d
  have hq1 := HF.out.c1
  have hqf := HF.out.f1
  by_cases he : e = 0
  ·have hR' := HE.out
   rw [if_pos he] at hR'
   subst hR'
   subst he
   go_upto_region 5 with (fail)
   have HF5 := Aside0.mk (HF.out.set tq)
   have WF5 := Aside0.mk (WF.out.set 1 (.int .i64 tq))
   have X5 := Aside0.mk (blk_far (p := ⟨g, 1, none⟩) XF.out HG.out (.int .i64 tq))
   have Y5 := Aside0.mk (blk_far (p := ⟨g, 1, none⟩) YF.out HGN.out (.int .i64 tq))
   clear hq1 hqf HF WF XF YF HR2
   generalize wf.setCell ⟨g, 1, none⟩ (.int .i64 tq) = w5 at *
   have y0 : w5.cell? ⟨gq, 0, none⟩ = some (.int .i64 b0) := (blk_cell Y5.out 0).trans rfl
   have y1 : w5.cell? ⟨gq, 1, none⟩ = some (.int .i64 b1) := (blk_cell Y5.out 1).trans rfl
   have y2 : w5.cell? ⟨gq, 2, none⟩ = some (.string b2) := (blk_cell Y5.out 2).trans rfl
   have x0 : w5.cell? ⟨w.heap.size, 0, none⟩ = some (.int .i64 0) := (blk_cell X5.out 0).trans rfl
   have x1 : w5.cell? ⟨w.heap.size, 1, none⟩ = some (.int .i64 0) := (blk_cell X5.out 1).trans rfl
   have x2 : w5.cell? ⟨w.heap.size, 2, none⟩ = some (.string ⟨#[]⟩) := (blk_cell X5.out 2).trans rfl
   have xf0 := blk_frozen X5.out 0
   have xf1 := blk_frozen X5.out 1
   have xf2 := blk_frozen X5.out 2
   go_wp2
   (try simp only [Exit.inBlock, Exit.then])
   refine bodyPost_ret (v := bareV (b0, b1, b2)) (by simp [results, Tryd.results69, go_sem, bareV, x0, x1, x2]; try rfl) rfl ?_
   exact ⟨rfl, HF5.out.far3 HG.out _ _ _, WF5.out.far3 (Nat.le_refl _) _ _ _⟩
  ·have hR' := HE.out
   rw [if_neg he] at hR'
   subst hR'
   have heb : (e != 0) = true := by simp [he]
   go_wp2_with (first | (go_at_call 32; refine (fail_calls _ _ _ _).mono ?_; rintro x w6 ⟨rfl, rfl⟩))
   exact ⟨rfl, rfl, WF.out⟩)
end Go.Proofs.YtclkclcacnpmbaaDoorW.PrintWords
