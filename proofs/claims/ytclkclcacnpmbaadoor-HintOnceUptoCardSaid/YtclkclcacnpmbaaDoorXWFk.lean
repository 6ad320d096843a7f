/- Layer 10's reader (fields): item, by hand. -/
import Derived.Test.YtclkclcacnpmbaaDoorXWFj
import Derived.RegionDies
namespace Go.Proofs.YtclkclcacnpmbaaDoorW.PrintWords
open Go.RowKit

abbrev ItemT := BareT × List ParT
def fdItem (BR : ByteArray → Int → Option (BareT × Int × Int)) (KR : ByteArray → Int → Option (ByteArray × Int × Int)) (IX : ByteArray → Int → Int) (s : ByteArray) (n : Nat) (a : Int) : Option (FR ItemT) :=
 (fdBare BR s a).bind fun B => match B with
  | .inl f => some (.inl f)
  | .inr (b, c) => (fdParams BR KR IX s n c []).bind fun P => match P with
   | .inl f => some (.inl f)
   | .inr (ps, d) => some (.inr ((b, ps), d))
def GivesI (x : Ending) (w w' : World) (g : Nat) (s : ByteArray) : FR ItemT → Prop
 | .inl f => x = .panicked (wrongF f.1 f.2) ∧ Went w w' g
 | .inr (i, a) => ∃ v, x = .returned (.agg #[.int .i64 i.1.1, .int .i64 i.1.2.1, .string i.1.2.2, v]) ∧ Pars w' w.heap.size v i.2 ∧ FdAt w' g s a ∧ Went w w' g
theorem FdAt.far {w : World} {g : Nat} {s : ByteArray} {a : Int} (h : FdAt w g s a) {p : Addr} (hp : p.block ≠ g) (u : Value) : FdAt (w.setCell p u) g s a := blk_far h (Ne.symm hp) u
set_option linter.unusedVariables false
set_option maxHeartbeats 4000000 in
set_option maxRecDepth 100000 in
theorem item_calls {w0 : World} {BR : ByteArray → Int → Option (BareT × Int × Int)} {KR : ByteArray → Int → Option (ByteArray × Int × Int)} {IX : ByteArray → Int → Int} (H : FdHyp w0 BR KR IX)
  (g : Nat) (s : ByteArray) (a : Int) (w : World) (hr : FdAt w g s a) (hw : Below w0.heap.size w0 w) (hg : w0.heap.size ≤ g) (h0 : 0 ≤ a) (h1 : a ≤ (s.size : Int)) (hs : s.size ≤ 281474976710656) (n : Nat) (R : FR ItemT) (hR : fdItem BR KR IX s n a = some R) :
  Calls Tryd.prog 56 #[.pointer (some ⟨g, 0, none⟩)] w fun x w' => GivesI x w w' g s R := by
 unfold fdItem at hR
 obtain ⟨B, hB, hR⟩ := Option.bind_eq_some_iff.mp hR
 have HH := Aside0.mk H
 have W0 := Aside0.mk (Went.refl w g)
 have HW0 := Aside0.mk hw
 have HG0 := Aside0.mk hg
 have HR0 := Aside0.mk hr
 have HGL := Aside0.mk hr.lt
 have HE := Aside0.mk hR
 clear H hw hg hR hr
 go_enter Tryd.func56, Tryd.ntmps56
 go_upto_region 1 with (fail)
 obtain ⟨hx1, hb1⟩ := alloc1 w (.cells #[.int .i64 0, .int .i64 0, .string ⟨#[]⟩, .slice none 0 0] 103)
 have HR1 := Aside0.mk (HR0.out.more hb1)
 have W1 := Aside0.mk (W0.out.more hb1)
 have HX1 := Aside0.mk hx1
 have HXg := Aside0.mk (show w.heap.size ≠ g from fun e => by have := HGL.out; omega)
 clear hx1 hb1 HR0 W0
 generalize w.alloc (Obj.cells #[.int .i64 0, .int .i64 0, .string ⟨#[]⟩, .slice none 0 0] 103) = w1 at *
 have HBC := Aside0.mk (fbare_calls w0 BR HH.out.hB g s a w1 HR1.out (W1.out.from0 HW0.out HG0.out) HG0.out B hB)
 rcases B with f | ⟨B, c⟩
 ·have hE := Option.some.inj HE.out
  subst hE
  go_wp2_with (go_at_call 69; refine HBC.out.mono ?_; rintro x w6 ⟨rfl, hw6⟩; have W6 := Aside0.mk (W1.out.trans hw6); clear hw6)
  exact ⟨rfl, rfl, W6.out⟩
 ·have hd1 := HH.out.bare_in h0 h1 hB
  have HBC2 : Aside0 (Calls Tryd.prog 69 #[.pointer (some ⟨g, 0, none⟩)] w1 fun x w' => x = .returned (.agg #[.int .i64 B.1, .int .i64 B.2.1, .string B.2.2]) ∧ FdAt w' g s c ∧ Went w1 w' g) := ⟨HBC.out⟩
  clear HBC
  obtain ⟨P, hP, hE⟩ := Option.bind_eq_some_iff.mp HE.out
  have HE2 := Aside0.mk hE
  clear hE HE
  go_upto_region 2 with (go_at_call 69; refine HBC2.out.mono ?_; rintro x w2 ⟨rfl, hr2, hw2⟩; have HR2 := Aside0.mk hr2; have W2 := Aside0.mk (W1.out.trans hw2); have hx2 := hw2.keep.blk HX1.out HXg.out (by simp); have HX2 := Aside0.mk hx2; clear hw2 hr2 hx2)
  obtain ⟨hx3, hb3⟩ := alloc1 w2 (.cells #[.int .i64 B.1, .int .i64 B.2.1, .string B.2.2] 50)
  have HR3 := Aside0.mk (HR2.out.more hb3)
  have W3 := Aside0.mk (W2.out.more hb3)
  have HX3 := Aside0.mk (blk_below HX2.out hb3)
  have HY3 := Aside0.mk hx3
  have HYg := Aside0.mk (show w2.heap.size ≠ g from fun e => by have := HR2.out.lt; omega)
  have HBn := Aside0.mk (show w2.heap.size ≠ w.heap.size from fun e => by have := blk_lt HX2.out; omega)
  clear hx3 hb3 HR2 W2 HX2 HBC2 HX1 HR1 W1
  generalize w2.alloc (Obj.cells #[.int .i64 B.1, .int .i64 B.2.1, .string B.2.2] 50) = w3 at *
  generalize w2.heap.size = gb at *
  have HPC := Aside0.mk (params_calls HH.out g s c w3.drew (HR3.out.drew) (drew_below (W3.out.from0 HW0.out HG0.out)) HG0.out (by omega) hd1.2 hs n P hP)
  have y0 : w3.cell? ⟨gb, 0, none⟩ = some (.int .i64 B.1) := (blk_cell HY3.out 0).trans rfl
  have y1 : w3.cell? ⟨gb, 1, none⟩ = some (.int .i64 B.2.1) := (blk_cell HY3.out 1).trans rfl
  have y2 : w3.cell? ⟨gb, 2, none⟩ = some (.string B.2.2) := (blk_cell HY3.out 2).trans rfl
  rcases P with f | ⟨ps, d⟩
  ·have hE := Option.some.inj HE2.out
   subst hE
   have HPC2 : Aside0 (Calls Tryd.prog 55 #[.pointer (some ⟨g, 0, none⟩)] w3.drew fun x w' => x = .panicked (wrongF f.1 f.2) ∧ Went w3.drew w' g) := ⟨HPC.out⟩
   clear HPC
   go_region_dies
   all_goals (go_at_call 55; refine HPC2.out.mono ?_; rintro x w4 ⟨rfl, hw4⟩; exact ⟨rfl, rfl, W3.out.drew.trans hw4⟩)
  ·have hE := Option.some.inj HE2.out
   subst hE
   have HPC2 : Aside0 (Calls Tryd.prog 55 #[.pointer (some ⟨g, 0, none⟩)] w3.drew fun x w' => ∃ v, x = .returned v ∧ Pars w' w3.drew.heap.size v ps ∧ FdAt w' g s d ∧ Went w3.drew w' g) := ⟨HPC.out⟩
   clear HPC
   go_region_held3 (fun w' => w'.cell? ⟨gb, 0, none⟩ = some (.int .i64 B.1) ∧ w'.cell? ⟨gb, 1, none⟩ = some (.int .i64 B.2.1) ∧ w'.cell? ⟨gb, 2, none⟩ = some (.string B.2.2)) (first | exact ⟨y0, y1, y2⟩ | exact ⟨z0, z1, z2⟩ | exact ⟨t0, t1, t2⟩)
    (first | (go_at_call 55; refine HPC2.out.mono ?_; rintro x w4 ⟨v4, rfl, hp4, hr4, hw4⟩; obtain ⟨A4, c4, rfl, hc4⟩ := hp4.len; have HNX := Aside0.mk (hp4.ne (g := w.heap.size) (show w.heap.size < w3.drew.heap.size from blk_lt HX3.out)); have W4 := Aside0.mk (W3.out.drew.trans hw4); have HR4 := Aside0.mk hr4; have hy4 := hw4.keep.blk (drew_blk HY3.out) HYg.out (by simp); have z0 : w4.cell? ⟨gb, 0, none⟩ = some (.int .i64 B.1) := (blk_cell hy4 0).trans rfl; have z1 : w4.cell? ⟨gb, 1, none⟩ = some (.int .i64 B.2.1) := (blk_cell hy4 1).trans rfl; have z2 : w4.cell? ⟨gb, 2, none⟩ = some (.string B.2.2) := (blk_cell hy4 2).trans rfl; have hx4 := hw4.keep.blk (drew_blk HX3.out) HXg.out (by simp); have hy5 := blk_far (blk_far (blk_far (blk_far hy4 (p := ⟨w.heap.size, 0, none⟩) HBn.out (.int .i64 B.1)) (p := ⟨w.heap.size, 1, none⟩) HBn.out (.int .i64 B.2.1)) (p := ⟨w.heap.size, 2, none⟩) HBn.out (.string B.2.2)) (p := ⟨w.heap.size, 3, none⟩) HBn.out (.slice A4 ps.length c4); have t0 := (blk_cell hy5 0).trans rfl; have t1 := (blk_cell hy5 1).trans rfl; have t2 := (blk_cell hy5 2).trans rfl; clear hy5; have HX4 := Aside0.mk hx4; have x0 : w4.cell? ⟨w.heap.size, 0, none⟩ = some (.int .i64 0) := (blk_cell hx4 0).trans rfl; have x1 : w4.cell? ⟨w.heap.size, 1, none⟩ = some (.int .i64 0) := (blk_cell hx4 1).trans rfl; have x2 : w4.cell? ⟨w.heap.size, 2, none⟩ = some (.string ⟨#[]⟩) := (blk_cell hx4 2).trans rfl; have x3 : w4.cell? ⟨w.heap.size, 3, none⟩ = some (.slice none 0 0) := (blk_cell hx4 3).trans rfl; have xf0 := blk_frozen hx4 0; have xf1 := blk_frozen hx4 1; have xf2 := blk_frozen hx4 2; have xf3 := blk_frozen hx4 3; have HP4 := Aside0.mk hp4; clear hw4 hr4 hy4 hx4 hp4))
   all_goals (
    clear y0 y1 y2 z0 z1 z2 t0 t1 t2 x0 x1 x2 x3 xf0 xf1 xf2 xf3
    have HP5 : Aside0 (Pars ((((w4.setCell ⟨w.heap.size, 0, none⟩ (.int .i64 B.1)).setCell ⟨w.heap.size, 1, none⟩ (.int .i64 B.2.1)).setCell ⟨w.heap.size, 2, none⟩ (.string B.2.2)).setCell ⟨w.heap.size, 3, none⟩ (.slice A4 ps.length c4)) w.heap.size (.slice A4 ps.length c4) ps) := ⟨own_less ((((HP4.out.far (p := ⟨w.heap.size, 0, none⟩) HNX.out _).far (p := ⟨w.heap.size, 1, none⟩) HNX.out _).far (p := ⟨w.heap.size, 2, none⟩) HNX.out _).far (p := ⟨w.heap.size, 3, none⟩) HNX.out _) W3.out.drew.keep.1⟩
    have HR5 := Aside0.mk ((HR4.out.far3 HXg.out (.int .i64 B.1) (.int .i64 B.2.1) (.string B.2.2)).far (p := ⟨w.heap.size, 3, none⟩) HXg.out (.slice A4 ps.length c4))
    have W5 := Aside0.mk ((W4.out.far3 (Nat.le_refl _) (.int .i64 B.1) (.int .i64 B.2.1) (.string B.2.2)).far (Nat.le_refl _) 3 (.slice A4 ps.length c4))
    have hx5 := blk_set (blk_set (blk_set (blk_set HX4.out 0 (.int .i64 B.1)) 1 (.int .i64 B.2.1)) 2 (.string B.2.2)) 3 (.slice A4 ps.length c4)
    have HX5 := Aside0.mk hx5
    clear HP4 HR4 W4 HX4 hx5
    generalize (((w4.setCell ⟨w.heap.size, 0, none⟩ (.int .i64 B.1)).setCell ⟨w.heap.size, 1, none⟩ (.int .i64 B.2.1)).setCell ⟨w.heap.size, 2, none⟩ (.string B.2.2)).setCell ⟨w.heap.size, 3, none⟩ (.slice A4 ps.length c4) = w5 at *
    have x0 : w5.cell? ⟨w.heap.size, 0, none⟩ = some (.int .i64 B.1) := (blk_cell HX5.out 0).trans rfl
    have x1 : w5.cell? ⟨w.heap.size, 1, none⟩ = some (.int .i64 B.2.1) := (blk_cell HX5.out 1).trans rfl
    have x2 : w5.cell? ⟨w.heap.size, 2, none⟩ = some (.string B.2.2) := (blk_cell HX5.out 2).trans rfl
    have x3 : w5.cell? ⟨w.heap.size, 3, none⟩ = some (.slice A4 ps.length c4) := (blk_cell HX5.out 3).trans rfl
    go_wp2
    (try simp only [Exit.inBlock, Exit.then])
    refine bodyPost_ret (v := .agg #[.int .i64 B.1, .int .i64 B.2.1, .string B.2.2, .slice A4 ps.length c4]) (by simp [results, Tryd.results56, go_sem, x0, x1, x2, x3]; try rfl) rfl ?_
    exact ⟨_, rfl, HP5.out, HR5.out, W5.out⟩)
end Go.Proofs.YtclkclcacnpmbaaDoorW.PrintWords
