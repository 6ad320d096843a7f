/- Layer 10's reader (fields): value, the walk. -/
import Derived.Test.YtclkclcacnpmbaaDoorXWFo
namespace Go.Proofs.YtclkclcacnpmbaaDoorW.PrintWords
open Go.RowKit

theorem FdHyp.inner_in {w0 : World} {BR : ByteArray → Int → Option (BareT × Int × Int)} {KR : ByteArray → Int → Option (ByteArray × Int × Int)} {IX : ByteArray → Int → Int} (H : FdHyp w0 BR KR IX) {s : ByteArray} {m : Nat} : ∀ (n : Nat) (a d : Int) (xs ys : List ItemT), 0 ≤ a → a ≤ (s.size : Int) → fdInner BR KR IX s m n a xs = some (.inr (ys, d)) → a ≤ d ∧ d ≤ (s.size : Int)
 | 0, _, _, _, _, _, _, h => by simp [fdInner] at h
 | n + 1, a, d, xs, ys, h0, h1, h => by
  have hb := tokE_in (inSet IX ⟨#[32]⟩) s h1
  unfold fdInner at h
  split at h
  ·rename_i hc
   have hlt := isB_lt hc
   have h := Option.some.inj h
   injection h with h
   injection h with _ h
   omega
  ·split at h
   ·cases Option.some.inj h
   ·split at h
    ·cases Option.some.inj h
    ·obtain ⟨I, hI, h⟩ := Option.bind_eq_some_iff.mp h
     rcases I with f | ⟨i, c⟩
     ·cases Option.some.inj h
     ·have hi := H.item_in (by omega) hb.2 hI
      simp only at h
      split at h
      ·cases Option.some.inj h
      ·split at h
       ·cases Option.some.inj h
       ·have := inner_in H n c d _ ys (by omega) hi.2 h
        omega
set_option linter.unusedVariables false
set_option maxHeartbeats 4000000 in
set_option maxRecDepth 100000 in
theorem value_calls {w0 : World} {BR : ByteArray → Int → Option (BareT × Int × Int)} {KR : ByteArray → Int → Option (ByteArray × Int × Int)} {IX : ByteArray → Int → Int} (H : FdHyp w0 BR KR IX)
  (g : Nat) (s : ByteArray) (a : Int) (w : World) (hr : FdAt w g s a) (hw : Below w0.heap.size w0 w) (hg : w0.heap.size ≤ g) (h0 : 0 ≤ a) (h1 : a ≤ (s.size : Int)) (hs : s.size ≤ 281474976710656) (m n : Nat) (R : FR MemT) (hR : fdValue BR KR IX s m n a = some R) :
  Calls Tryd.prog 33 #[.pointer (some ⟨g, 0, none⟩)] w fun x w' => GivesV x w w' g s R := by
 unfold fdValue at hR
 have HH := Aside0.mk H
 have W0 := Aside0.mk (Went.refl w g)
 have HW0 := Aside0.mk hw
 have HG0 := Aside0.mk hg
 have HR0 := Aside0.mk hr
 have HGL := Aside0.mk hr.lt
 clear H hw hg hr
 go_enter Tryd.func33, Tryd.ntmps33
 go_upto_region 1 with (fail)
 obtain ⟨hx1, hb1⟩ := alloc1 w (.cells #[.string ⟨#[]⟩, .bool false, .int .i64 0, .int .i64 0, .string ⟨#[]⟩, .slice none 0 0, .slice none 0 0] 54)
 have HR1 := Aside0.mk (HR0.out.more hb1)
 have W1 := Aside0.mk (W0.out.more hb1)
 have HX1 := Aside0.mk hx1
 have HXg := Aside0.mk (show w.heap.size ≠ g from fun e => by have := HGL.out; omega)
 clear hx1 hb1 HR0 W0
 generalize w.alloc (Obj.cells #[.string ⟨#[]⟩, .bool false, .int .i64 0, .int .i64 0, .string ⟨#[]⟩, .slice none 0 0, .slice none 0 0] 54) = w1 at *
 by_cases hc : isB s a 40 = true
 ·rw [if_pos hc] at hR
  have HS := Aside0.mk (is_at HR1.out h0 h1 true hc)
  have hlt := isB_lt hc
  go_upto_region 3 with (go_at_call 53; refine HS.out.mono ?_; rintro x w2 ⟨rfl, hd⟩; have HR2 := Aside0.mk (HR1.out.drawn hd); have W2 := Aside0.mk (W1.out.drawn hd); have HX2 := Aside0.mk (blk_below HX1.out hd.below); have q1 := HR2.out.c1; have f1 := HR2.out.f1; clear hd)
  have HR3 := Aside0.mk (HR2.out.set (a + 1))
  have W3 := Aside0.mk (W2.out.set 1 (.int .i64 (a + 1)))
  have HX3 := Aside0.mk (blk_far (p := ⟨g, 1, none⟩) HX2.out HXg.out (.int .i64 (a + 1)))
  clear q1 f1 HR2 W2 HX2 HS HR1 W1 HX1
  generalize w2.setCell ⟨g, 1, none⟩ (.int .i64 (a + 1)) = w3 at *
  obtain ⟨X, hX, hR⟩ := Option.bind_eq_some_iff.mp hR
  have HIC := Aside0.mk (inner_calls HH.out g s (a + 1) w3 HR3.out (W3.out.from0 HW0.out HG0.out) HG0.out (by omega) (by omega) hs m n X hX)
  rcases X with f | ⟨xs, c⟩
  ·have hE := Option.some.inj hR
   subst hE
   have HIC2 : Aside0 (Calls Tryd.prog 54 #[.pointer (some ⟨g, 0, none⟩)] w3 fun x w' => x = .panicked (wrongF f.1 f.2) ∧ Went w3 w' g) := ⟨HIC.out⟩
   go_wp2_with (go_at_call 54; refine HIC2.out.mono ?_; rintro x w5 ⟨rfl, hw5⟩; have W5 := Aside0.mk (W3.out.trans hw5); clear hw5)
   exact ⟨rfl, rfl, W5.out⟩
  ·have hc1 := HH.out.inner_in n (a + 1) c [] xs (by omega) (by omega) hX
   have HIC2 : Aside0 (Calls Tryd.prog 54 #[.pointer (some ⟨g, 0, none⟩)] w3 fun x w' => ∃ v, x = .returned v ∧ Items w' w3.heap.size v xs ∧ FdAt w' g s c ∧ Went w3 w' g) := ⟨HIC.out⟩
   obtain ⟨P, hP, hR⟩ := Option.bind_eq_some_iff.mp hR
   clear HIC
   go_upto_region 4 with (go_at_call 54; refine HIC2.out.mono ?_; rintro x w4 ⟨v4, rfl, hi4, hr4, hw4⟩; obtain ⟨A4, c4, rfl⟩ := hi4.len; have HR4 := Aside0.mk hr4; have W4 := Aside0.mk (W3.out.trans hw4); have HX4 := Aside0.mk (hw4.keep.blk HX3.out HXg.out (by simp)); have HI4 := Aside0.mk hi4; have HL3 := Aside0.mk (show w.heap.size < w3.heap.size from blk_lt HX3.out); have HL4 := Aside0.mk (show w.heap.size < w4.heap.size from blk_lt HX4.out); have HG3 := Aside0.mk (show g < w3.heap.size from HR3.out.lt); clear hi4 hr4 hw4)
   have HPC := Aside0.mk (params_calls HH.out g s c w4 HR4.out (W4.out.from0 HW0.out HG0.out) HG0.out (by omega) hc1.2 hs m P hP)
   rcases P with f | ⟨ps, d⟩
   ·have hE := Option.some.inj hR
    subst hE
    have HPC2 : Aside0 (Calls Tryd.prog 55 #[.pointer (some ⟨g, 0, none⟩)] w4 fun x w' => x = .panicked (wrongF f.1 f.2) ∧ Went w4 w' g) := ⟨HPC.out⟩
    go_wp2_with (go_at_call 55; refine HPC2.out.mono ?_; rintro x w5 ⟨rfl, hw5⟩; have W5 := Aside0.mk (W4.out.trans hw5); clear hw5)
    exact ⟨rfl, rfl, W5.out⟩
   ·have hE := Option.some.inj hR
    subst hE
    have HPC2 : Aside0 (Calls Tryd.prog 55 #[.pointer (some ⟨g, 0, none⟩)] w4 fun x w' => ∃ v, x = .returned v ∧ Pars w' w4.heap.size v ps ∧ FdAt w' g s d ∧ Went w4 w' g) := ⟨HPC.out⟩
    clear HPC
    go_wp2_with (go_at_call 55; refine HPC2.out.mono ?_; rintro x w5 ⟨v5, rfl, hp5, hr5, hw5⟩; obtain ⟨A5, c5, rfl, hc5⟩ := hp5.len; have HR5 := Aside0.mk hr5; have W5 := Aside0.mk (W4.out.trans hw5); have hx5 := hw5.keep.blk HX4.out HXg.out (by simp); have HX5 := Aside0.mk hx5; have HI5 := Aside0.mk (HI4.out.went hw5 HG3.out); have HP5 := Aside0.mk hp5; have HN5 := Aside0.mk (hp5.ne HL4.out); have x0 : w5.cell? ⟨w.heap.size, 0, none⟩ = some (.string ⟨#[]⟩) := (blk_cell hx5 0).trans rfl; have xf0 := blk_frozen hx5 0; have x1 : w5.cell? ⟨w.heap.size, 1, none⟩ = some (.bool false) := (blk_cell hx5 1).trans rfl; have xf1 := blk_frozen hx5 1; have x2 : w5.cell? ⟨w.heap.size, 2, none⟩ = some (.int .i64 0) := (blk_cell hx5 2).trans rfl; have xf2 := blk_frozen hx5 2; have x3 : w5.cell? ⟨w.heap.size, 3, none⟩ = some (.int .i64 0) := (blk_cell hx5 3).trans rfl; have xf3 := blk_frozen hx5 3; have x4 : w5.cell? ⟨w.heap.size, 4, none⟩ = some (.string ⟨#[]⟩) := (blk_cell hx5 4).trans rfl; have xf4 := blk_frozen hx5 4; have x5 : w5.cell? ⟨w.heap.size, 5, none⟩ = some (.slice none 0 0) := (blk_cell hx5 5).trans rfl; have xf5 := blk_frozen hx5 5; have x6 : w5.cell? ⟨w.heap.size, 6, none⟩ = some (.slice none 0 0) := (blk_cell hx5 6).trans rfl; have xf6 := blk_frozen hx5 6; clear hp5 hr5 hw5 hx5)
    clear x0 xf0 x1 xf1 x2 xf2 x3 xf3 x4 xf4 x5 xf5 x6 xf6
    have HX6 := Aside0.mk ((blk_set (blk_set (blk_set (blk_set (blk_set (blk_set (blk_set HX5.out 0 (.string ⟨#[]⟩)) 1 (.bool true)) 2 (.int .i64 0)) 3 (.int .i64 0)) 4 (.string ⟨#[]⟩)) 5 (.slice A4 xs.length c4)) 6 (.slice A5 ps.length c5)))
    have HR6 := Aside0.mk ((((((((HR5.out.far (p := ⟨w.heap.size, 0, none⟩) HXg.out (.string ⟨#[]⟩)).far (p := ⟨w.heap.size, 1, none⟩) HXg.out (.bool true)).far (p := ⟨w.heap.size, 2, none⟩) HXg.out (.int .i64 0)).far (p := ⟨w.heap.size, 3, none⟩) HXg.out (.int .i64 0)).far (p := ⟨w.heap.size, 4, none⟩) HXg.out (.string ⟨#[]⟩)).far (p := ⟨w.heap.size, 5, none⟩) HXg.out (.slice A4 xs.length c4)).far (p := ⟨w.heap.size, 6, none⟩) HXg.out (.slice A5 ps.length c5)))
    have W6 := Aside0.mk ((((((((W5.out.far (Nat.le_refl _) 0 (.string ⟨#[]⟩)).far (Nat.le_refl _) 1 (.bool true)).far (Nat.le_refl _) 2 (.int .i64 0)).far (Nat.le_refl _) 3 (.int .i64 0)).far (Nat.le_refl _) 4 (.string ⟨#[]⟩)).far (Nat.le_refl _) 5 (.slice A4 xs.length c4)).far (Nat.le_refl _) 6 (.slice A5 ps.length c5)))
    have HI6 := Aside0.mk ((((((((HI5.out.far (p := ⟨w.heap.size, 0, none⟩) HL3.out (.string ⟨#[]⟩)).far (p := ⟨w.heap.size, 1, none⟩) HL3.out (.bool true)).far (p := ⟨w.heap.size, 2, none⟩) HL3.out (.int .i64 0)).far (p := ⟨w.heap.size, 3, none⟩) HL3.out (.int .i64 0)).far (p := ⟨w.heap.size, 4, none⟩) HL3.out (.string ⟨#[]⟩)).far (p := ⟨w.heap.size, 5, none⟩) HL3.out (.slice A4 xs.length c4)).far (p := ⟨w.heap.size, 6, none⟩) HL3.out (.slice A5 ps.length c5)))
    have HP6 := Aside0.mk ((((((((HP5.out.far (p := ⟨w.heap.size, 0, none⟩) HN5.out (.string ⟨#[]⟩)).far (p := ⟨w.heap.size, 1, none⟩) HN5.out (.bool true)).far (p := ⟨w.heap.size, 2, none⟩) HN5.out (.int .i64 0)).far (p := ⟨w.heap.size, 3, none⟩) HN5.out (.int .i64 0)).far (p := ⟨w.heap.size, 4, none⟩) HN5.out (.string ⟨#[]⟩)).far (p := ⟨w.heap.size, 5, none⟩) HN5.out (.slice A4 xs.length c4)).far (p := ⟨w.heap.size, 6, none⟩) HN5.out (.slice A5 ps.length c5)))
    generalize (((((((w5.setCell ⟨w.heap.size, 0, none⟩ (.string ⟨#[]⟩)).setCell ⟨w.heap.size, 1, none⟩ (.bool true)).setCell ⟨w.heap.size, 2, none⟩ (.int .i64 0)).setCell ⟨w.heap.size, 3, none⟩ (.int .i64 0)).setCell ⟨w.heap.size, 4, none⟩ (.string ⟨#[]⟩)).setCell ⟨w.heap.size, 5, none⟩ (.slice A4 xs.length c4)).setCell ⟨w.heap.size, 6, none⟩ (.slice A5 ps.length c5)) = w6 at *
    have x0 : w6.cell? ⟨w.heap.size, 0, none⟩ = some (.string ⟨#[]⟩) := (blk_cell HX6.out 0).trans rfl
    have x1 : w6.cell? ⟨w.heap.size, 1, none⟩ = some (.bool true) := (blk_cell HX6.out 1).trans rfl
    have x2 : w6.cell? ⟨w.heap.size, 2, none⟩ = some (.int .i64 0) := (blk_cell HX6.out 2).trans rfl
    have x3 : w6.cell? ⟨w.heap.size, 3, none⟩ = some (.int .i64 0) := (blk_cell HX6.out 3).trans rfl
    have x4 : w6.cell? ⟨w.heap.size, 4, none⟩ = some (.string ⟨#[]⟩) := (blk_cell HX6.out 4).trans rfl
    have x5 : w6.cell? ⟨w.heap.size, 5, none⟩ = some (.slice A4 xs.length c4) := (blk_cell HX6.out 5).trans rfl
    have x6 : w6.cell? ⟨w.heap.size, 6, none⟩ = some (.slice A5 ps.length c5) := (blk_cell HX6.out 6).trans rfl
    (try simp only [Exit.inBlock, Exit.then])
    refine bodyPost_ret (v := memV (⟨#[]⟩, true, (0, 0, ⟨#[]⟩), xs, ps) (.slice A4 xs.length c4) (.slice A5 ps.length c5)) (by simp [results, Tryd.results33, go_sem, memV, x0, x1, x2, x3, x4, x5, x6]; try rfl) rfl ?_
    exact ⟨_, _, rfl, Kd.R_lower HI6.out W3.out.keep.1, own_less HP6.out W4.out.keep.1, HR6.out, W6.out⟩
 ·rw [if_neg hc] at hR
  have HS := Aside0.mk (is_at HR1.out h0 h1 false (by simpa using hc))
  clear hc
  go_upto_region 5 with (go_at_call 53; refine HS.out.mono ?_; rintro x w2 ⟨rfl, hd⟩; have HR2 := Aside0.mk (HR1.out.drawn hd); have W2 := Aside0.mk (W1.out.drawn hd); have HX2 := Aside0.mk (blk_below HX1.out hd.below); clear hd)
  clear HS HR1 W1 HX1
  obtain ⟨I, hI, hR⟩ := Option.bind_eq_some_iff.mp hR
  have HIC := Aside0.mk (item_calls HH.out g s a w2 HR2.out (W2.out.from0 HW0.out HG0.out) HG0.out h0 h1 hs m I hI)
  rcases I with f | ⟨⟨B, ps⟩, c⟩
  ·have hE := Option.some.inj hR
   subst hE
   have HIC2 : Aside0 (Calls Tryd.prog 56 #[.pointer (some ⟨g, 0, none⟩)] w2 fun x w' => x = .panicked (wrongF f.1 f.2) ∧ Went w2 w' g) := ⟨HIC.out⟩
   go_wp2_with (go_at_call 56; refine HIC2.out.mono ?_; rintro x w5 ⟨rfl, hw5⟩; have W5 := Aside0.mk (W2.out.trans hw5); clear hw5)
   exact ⟨rfl, rfl, W5.out⟩
  ·have hE := Option.some.inj hR
   subst hE
   have HIC2 : Aside0 (Calls Tryd.prog 56 #[.pointer (some ⟨g, 0, none⟩)] w2 fun x w' => ∃ v, x = .returned (.agg #[.int .i64 B.1, .int .i64 B.2.1, .string B.2.2, v]) ∧ Pars w' w2.heap.size v ps ∧ FdAt w' g s c ∧ Went w2 w' g) := ⟨HIC.out⟩
   clear HIC
   go_upto_region 6 with (go_at_call 56; refine HIC2.out.mono ?_; rintro x w3 ⟨v3, rfl, hp3, hr3, hw3⟩; obtain ⟨A3, c3, rfl, hc3⟩ := hp3.len; have HR3 := Aside0.mk hr3; have W3 := Aside0.mk (W2.out.trans hw3); have HX3 := Aside0.mk (hw3.keep.blk HX2.out HXg.out (by simp)); have HP3 := Aside0.mk hp3; have HN3 := Aside0.mk (hp3.ne (g := w.heap.size) (show w.heap.size < w2.heap.size from blk_lt HX2.out)); clear hp3 hr3 hw3)
   obtain ⟨hy4, hb4⟩ := alloc1 w3 (.cells #[.int .i64 B.1, .int .i64 B.2.1, .string B.2.2, .slice A3 ps.length c3] 103)
   have HR4 := Aside0.mk (HR3.out.more hb4)
   have W4 := Aside0.mk (W3.out.more hb4)
   have hx4 := blk_below HX3.out hb4
   have HX4 := Aside0.mk hx4
   have HP4 := Aside0.mk (HP3.out.below hb4)
   clear hb4 HR3 W3 HX3 HP3 HIC2
   generalize w3.alloc (Obj.cells #[.int .i64 B.1, .int .i64 B.2.1, .string B.2.2, .slice A3 ps.length c3] 103) = w4 at *
   have y0 : w4.cell? ⟨w3.heap.size, 0, none⟩ = some (.int .i64 B.1) := (blk_cell hy4 0).trans rfl
   have y1 : w4.cell? ⟨w3.heap.size, 1, none⟩ = some (.int .i64 B.2.1) := (blk_cell hy4 1).trans rfl
   have y2 : w4.cell? ⟨w3.heap.size, 2, none⟩ = some (.string B.2.2) := (blk_cell hy4 2).trans rfl
   have y3 : w4.cell? ⟨w3.heap.size, 3, none⟩ = some (.slice A3 ps.length c3) := (blk_cell hy4 3).trans rfl
   clear hy4
   have x0 : w4.cell? ⟨w.heap.size, 0, none⟩ = some (.string ⟨#[]⟩) := (blk_cell hx4 0).trans rfl
   have xf0 := blk_frozen hx4 0
   have x1 : w4.cell? ⟨w.heap.size, 1, none⟩ = some (.bool false) := (blk_cell hx4 1).trans rfl
   have xf1 := blk_frozen hx4 1
   have x2 : w4.cell? ⟨w.heap.size, 2, none⟩ = some (.int .i64 0) := (blk_cell hx4 2).trans rfl
   have xf2 := blk_frozen hx4 2
   have x3 : w4.cell? ⟨w.heap.size, 3, none⟩ = some (.int .i64 0) := (blk_cell hx4 3).trans rfl
   have xf3 := blk_frozen hx4 3
   have x4 : w4.cell? ⟨w.heap.size, 4, none⟩ = some (.string ⟨#[]⟩) := (blk_cell hx4 4).trans rfl
   have xf4 := blk_frozen hx4 4
   have x5 : w4.cell? ⟨w.heap.size, 5, none⟩ = some (.slice none 0 0) := (blk_cell hx4 5).trans rfl
   have xf5 := blk_frozen hx4 5
   have x6 : w4.cell? ⟨w.heap.size, 6, none⟩ = some (.slice none 0 0) := (blk_cell hx4 6).trans rfl
   have xf6 := blk_frozen hx4 6
   clear hx4
   go_wp2
   clear y0 y1 y2 y3 x0 xf0 x1 xf1 x2 xf2 x3 xf3 x4 xf4 x5 xf5 x6 xf6
   have HX6 := Aside0.mk ((blk_set (blk_set (blk_set (blk_set (blk_set (blk_set (blk_set HX4.out 0 (.string ⟨#[]⟩)) 1 (.bool false)) 2 (.int .i64 B.1)) 3 (.int .i64 B.2.1)) 4 (.string B.2.2)) 5 (.slice none 0 0)) 6 (.slice A3 ps.length c3)))
   have HR6 := Aside0.mk ((((((((HR4.out.far (p := ⟨w.heap.size, 0, none⟩) HXg.out (.string ⟨#[]⟩)).far (p := ⟨w.heap.size, 1, none⟩) HXg.out (.bool false)).far (p := ⟨w.heap.size, 2, none⟩) HXg.out (.int .i64 B.1)).far (p := ⟨w.heap.size, 3, none⟩) HXg.out (.int .i64 B.2.1)).far (p := ⟨w.heap.size, 4, none⟩) HXg.out (.string B.2.2)).far (p := ⟨w.heap.size, 5, none⟩) HXg.out (.slice none 0 0)).far (p := ⟨w.heap.size, 6, none⟩) HXg.out (.slice A3 ps.length c3)))
   have W6 := Aside0.mk ((((((((W4.out.far (Nat.le_refl _) 0 (.string ⟨#[]⟩)).far (Nat.le_refl _) 1 (.bool false)).far (Nat.le_refl _) 2 (.int .i64 B.1)).far (Nat.le_refl _) 3 (.int .i64 B.2.1)).far (Nat.le_refl _) 4 (.string B.2.2)).far (Nat.le_refl _) 5 (.slice none 0 0)).far (Nat.le_refl _) 6 (.slice A3 ps.length c3)))
   have HP6 := Aside0.mk ((((((((HP4.out.far (p := ⟨w.heap.size, 0, none⟩) HN3.out (.string ⟨#[]⟩)).far (p := ⟨w.heap.size, 1, none⟩) HN3.out (.bool false)).far (p := ⟨w.heap.size, 2, none⟩) HN3.out (.int .i64 B.1)).far (p := ⟨w.heap.size, 3, none⟩) HN3.out (.int .i64 B.2.1)).far (p := ⟨w.heap.size, 4, none⟩) HN3.out (.string B.2.2)).far (p := ⟨w.heap.size, 5, none⟩) HN3.out (.slice none 0 0)).far (p := ⟨w.heap.size, 6, none⟩) HN3.out (.slice A3 ps.length c3)))
   generalize (((((((w4.setCell ⟨w.heap.size, 0, none⟩ (.string ⟨#[]⟩)).setCell ⟨w.heap.size, 1, none⟩ (.bool false)).setCell ⟨w.heap.size, 2, none⟩ (.int .i64 B.1)).setCell ⟨w.heap.size, 3, none⟩ (.int .i64 B.2.1)).setCell ⟨w.heap.size, 4, none⟩ (.string B.2.2)).setCell ⟨w.heap.size, 5, none⟩ (.slice none 0 0)).setCell ⟨w.heap.size, 6, none⟩ (.slice A3 ps.length c3)) = w6 at *
   have x0 : w6.cell? ⟨w.heap.size, 0, none⟩ = some (.string ⟨#[]⟩) := (blk_cell HX6.out 0).trans rfl
   have x1 : w6.cell? ⟨w.heap.size, 1, none⟩ = some (.bool false) := (blk_cell HX6.out 1).trans rfl
   have x2 : w6.cell? ⟨w.heap.size, 2, none⟩ = some (.int .i64 B.1) := (blk_cell HX6.out 2).trans rfl
   have x3 : w6.cell? ⟨w.heap.size, 3, none⟩ = some (.int .i64 B.2.1) := (blk_cell HX6.out 3).trans rfl
   have x4 : w6.cell? ⟨w.heap.size, 4, none⟩ = some (.string B.2.2) := (blk_cell HX6.out 4).trans rfl
   have x5 : w6.cell? ⟨w.heap.size, 5, none⟩ = some (.slice none 0 0) := (blk_cell HX6.out 5).trans rfl
   have x6 : w6.cell? ⟨w.heap.size, 6, none⟩ = some (.slice A3 ps.length c3) := (blk_cell HX6.out 6).trans rfl
   (try simp only [Exit.inBlock, Exit.then])
   refine bodyPost_ret (v := memV (⟨#[]⟩, false, B, [], ps) (.slice none 0 0) (.slice A3 ps.length c3)) (by simp [results, Tryd.results33, go_sem, memV, x0, x1, x2, x3, x4, x5, x6]; try rfl) rfl ?_
   exact ⟨_, _, rfl, Items.nil _ _, own_less HP6.out W2.out.keep.1, HR6.out, W6.out⟩
end Go.Proofs.YtclkclcacnpmbaaDoorW.PrintWords
