/- Layer 10's reader (fields): params, by hand. -/
import Derived.Test.YtclkclcacnpmbaaDoorXWFi
namespace Go.Proofs.YtclkclcacnpmbaaDoorW.PrintWords
open Go.RowKit

theorem isB_lt {s : ByteArray} {a c : Int} (h : isB s a c = true) : a < (s.size : Int) := by
 unfold isB at h
 rw [Bool.and_eq_true] at h
 exact of_decide_eq_true h.1
theorem Pars.ne {w : World} {base g : Nat} {v : Value} {ps : List ParT} (h : Pars w base v ps) (hg : g < base) : v.ownBlock ≠ some g := fun e => by have := own_base h g e; omega
theorem Went.from0 {w0 w w1 : World} {g : Nat} (h : Went w w1 g) (hw : Below w0.heap.size w0 w) (hg : w0.heap.size ≤ g) : Below w0.heap.size w0 w1 := hw.trans (h.below hg hw.size)
theorem FdAt.far3' {w : World} {g gb : Nat} {s : ByteArray} {at_ : Int} (h : FdAt w g s at_) (hg : gb ≠ g) (u0 u1 u2 : Value) : FdAt (((w.setCell ⟨gb, 1, none⟩ u0).setCell ⟨gb, 2, none⟩ u1).setCell ⟨gb, 3, none⟩ u2) g s at_ :=
 blk_far (blk_far (blk_far h (p := ⟨gb, 1, none⟩) (Ne.symm hg) u0) (p := ⟨gb, 2, none⟩) (Ne.symm hg) u1) (p := ⟨gb, 3, none⟩) (Ne.symm hg) u2
theorem Went.far3' {w w1 : World} {g gb : Nat} (h : Went w w1 g) (hb : w.heap.size ≤ gb) (u0 u1 u2 : Value) : Went w (((w1.setCell ⟨gb, 1, none⟩ u0).setCell ⟨gb, 2, none⟩ u1).setCell ⟨gb, 3, none⟩ u2) g := ((h.far hb 1 u0).far hb 2 u1).far hb 3 u2
theorem Pars.atN {w : World} {base g c n : Nat} {ps : List ParT} (h : Pars w base (.slice (some ⟨g, 0, none⟩) n c) ps) (hn : ps.length = n) (i : Nat) (hi : i < ps.length) (j : Nat) (hj : j < 4) : w.cell? ⟨g, i * 4 + j, none⟩ = (parCells ps[i])[j]? ∧ w.frozen? ⟨g, i * 4 + j, none⟩ = false := by
 subst hn
 exact h.at_ i hi j hj
theorem Pars.putN {w : World} {base g c n : Nat} {ps : List ParT} (h : Pars w base (.slice (some ⟨g, 0, none⟩) n c) ps) (hn : ps.length = n) (i : Nat) (hi : i < ps.length) (b : BareT) :
  Pars (((w.setCell ⟨g, i * 4 + 1, none⟩ (.int .i64 b.1)).setCell ⟨g, i * 4 + 2, none⟩ (.int .i64 b.2.1)).setCell ⟨g, i * 4 + 3, none⟩ (.string b.2.2)) base (.slice (some ⟨g, 0, none⟩) n c) (ps.set i (ps[i].1, b)) := by
 subst hn
 exact h.put i hi b
theorem text_eq {a b : ByteArray} : (a.toList == b.toList) = decide (a = b) := by
 rw [ByteArray.toList_eq, ByteArray.toList_eq]
 by_cases h : a = b
 ·rw [h, decide_eq_true rfl]
  exact beq_self_eq_true _
 ·rw [decide_eq_false h, beq_eq_false_iff_ne]
  exact fun e => h (ByteArray.ext (Array.toList_inj.1 e))
theorem FdAt.farA {w : World} {g gb : Nat} {s : ByteArray} {at_ : Int} (h : FdAt w g s at_) (hg : gb ≠ g) (j : Nat) (u0 u1 u2 : Value) : FdAt (((w.setCell ⟨gb, j + 1, none⟩ u0).setCell ⟨gb, j + 1 + 1, none⟩ u1).setCell ⟨gb, j + 1 + 2, none⟩ u2) g s at_ :=
 blk_far (blk_far (blk_far h (p := ⟨gb, j + 1, none⟩) (Ne.symm hg) u0) (p := ⟨gb, j + 1 + 1, none⟩) (Ne.symm hg) u1) (p := ⟨gb, j + 1 + 2, none⟩) (Ne.symm hg) u2
theorem Went.farA {w w1 : World} {g gb : Nat} (h : Went w w1 g) (hb : w.heap.size ≤ gb) (j : Nat) (u0 u1 u2 : Value) : Went w (((w1.setCell ⟨gb, j + 1, none⟩ u0).setCell ⟨gb, j + 1 + 1, none⟩ u1).setCell ⟨gb, j + 1 + 2, none⟩ u2) g := ((h.far hb (j + 1) u0).far hb (j + 1 + 1) u1).far hb (j + 1 + 2) u2
theorem Went.grown {w W w1 : World} {g : Nat} {row : Option Nat} (h : Went w W g) (hg : W.grownBy w1 row) (hr : ∀ k, row = some k → w.heap.size ≤ k) : Went w w1 g :=
 ⟨hg.os.trans h.os, hg.tape.trans h.tape, hg.output.trans h.output, ⟨Nat.le_trans h.keep.1 hg.size, fun i hi hne hn => (hg.block i (Nat.lt_of_lt_of_le hi h.keep.1) (fun e => by have := hr i e.symm; omega)).trans (h.keep.2 i hi hne hn)⟩⟩
theorem FdAt.grown {W w1 : World} {g : Nat} {s : ByteArray} {a : Int} {row : Option Nat} (h : FdAt W g s a) (hg : W.grownBy w1 row) (hr : row ≠ some g) : FdAt w1 g s a := blk_grown h hg (fun e => hr e.symm)
theorem infoPar : (Tryd.prog.info? 119).map (fun i => (i.zero, i.size, i.bytes)) = some (some (.agg #[.string ⟨#[]⟩, .int .i64 0, .int .i64 0, .string ⟨#[]⟩]), 4, 48) := by kernel_rfl
section
variable {ops : Array Oper} {rest : List Oper} {o : Oper} {a : Act} {Q : Exit → Act → World → Prop} {W : World} {B : Nat}
theorem push_par (hgd : o.guard = none) (sl x : Operand) (ho : o.op = .call { callee := .builtin .append, args := #[sl, x], argTypes := #[52, 52] }) (v : Value) (ps : List ParT) (k : ByteArray) (b : BareT) (hs : a.eval sl = v) (hx : a.eval x = .slice (some ⟨W.heap.size, 0, none⟩) 1 1)
  (HP : Pars W B v ps) (hb : B ≤ W.heap.size) (hl : ps.length ≤ 256)
  (h : ∀ v1 w1, Pars w1 B v1 (ps ++ [(k, b)]) → W.grownBy w1 v.ownBlock → wpList Tryd.prog ops Q rest (a.put o.dst v1) w1) : wpList Tryd.prog ops Q (o :: rest) a (W.alloc (.cells #[.string k, .int .i64 b.1, .int .i64 b.2.1, .string b.2.2] 119)) := by
 refine print_append_cells (w0 := W) B hgd sl x 52 119 _ 4 48 ho Tryd.underlying52 infoPar rfl (by decide) (by decide) v ps.length (parsCells ps) (parCells (k, b)) hs hx rfl ?_ HP (Below.refl _ _) hb (by omega) ?_
 ·intro u hu
  simp only [parCells, List.mem_cons, List.not_mem_nil, or_false] at hu
  rcases hu with rfl | rfl | rfl | rfl <;> rfl
 ·intro v1 w1 ho1 _ hg1 _
  refine h v1 w1 ?_ hg1
  unfold Pars
  rw [parsCells_append, List.length_append]
  exact ho1
end
set_option linter.unusedVariables false
set_option maxHeartbeats 4000000 in
set_option maxRecDepth 100000 in
theorem params_calls {w0 : World} {BR : ByteArray → Int → Option (BareT × Int × Int)} {KR : ByteArray → Int → Option (ByteArray × Int × Int)} {IX : ByteArray → Int → Int} (H : FdHyp w0 BR KR IX)
  (g : Nat) (s : ByteArray) (a : Int) (w : World) (hr : FdAt w g s a) (hw : Below w0.heap.size w0 w) (hg : w0.heap.size ≤ g) (h0 : 0 ≤ a) (h1 : a ≤ (s.size : Int)) (hs : s.size ≤ 281474976710656) (n : Nat) (R : FR (List ParT)) (hR : fdParams BR KR IX s n a [] = some R) :
  Calls Tryd.prog 55 #[.pointer (some ⟨g, 0, none⟩)] w fun x w' => GivesP x w w' g s R := by
 have HH := Aside0.mk H
 have W0 := Aside0.mk (Went.refl w g)
 have HW0 := Aside0.mk hw
 have HG0 := Aside0.mk hg
 have HGL := Aside0.mk hr.lt
 have HP0 : Aside0 (Pars w w.heap.size (.slice none 0 0) []) := ⟨Pars.nil _ _⟩
 have HE0 := Aside0.mk hR
 have HR0 := Aside0.mk hr
 clear H hw hg hR hr
 go_enter Tryd.func55, Tryd.ntmps55
 go_wp2
 go_loopw [3] (fun v3 wr => ∃ (n : Nat) (a2 : Int) (ps : List ParT) (v : Value), v3 = v ∧ Aside0 (fdParams BR KR IX s n a2 ps = some R) ∧ FdAt wr g s a2 ∧ Aside0 (Went w wr g) ∧ Aside0 (Pars wr w.heap.size v ps) ∧ a ≤ a2 ∧ a2 ≤ (s.size : Int) ∧ ps.length ≤ 256) (fun _ wr => ((s.size : Int) - posOf wr g).toNat)
 case atStart => exact ⟨n, a, [], _, rfl, HE0, HR0.out, W0, HP0, by omega, h1, by simp⟩
 case round =>
  obtain ⟨n2, a2, ps, v3, rfl, HE, hr1, HW1, HP1, ha0, ha1, hpl⟩ := hrel
  clear HE0 HR0 W0 HP0
  have HR1 := Aside0.mk hr1
  have hpos := hr1.pos
  clear hr1
  obtain ⟨n3, rfl⟩ : ∃ m, n2 = m + 1 := by
   cases n2 with
   | zero => exact absurd HE.out (by simp [fdParams])
   | succ m => exact ⟨m, rfl⟩
  have hE := HE.out
  unfold fdParams at hE
  clear HE
  by_cases hc : isB s a2 59 = false
  ·rw [if_pos hc] at hE
   have hE := Option.some.inj hE
   subst hE
   have HS := Aside0.mk (is_at HR1.out (by omega) ha1 false hc)
   go_wp2_with (go_at_call 53; refine HS.out.mono ?_; rintro x w3 ⟨rfl, hd⟩; have HR3 := Aside0.mk (HR1.out.drawn hd); have W3 := Aside0.mk (HW1.out.drawn hd); have HP3 := Aside0.mk (HP1.out.below hd.below); clear hd)
   go_ret
   exact ⟨_, rfl, HP3.out, HR3.out, W3.out⟩
  ·rw [if_neg hc] at hE
   have hc' : isB s a2 59 = true := by simpa using hc
   have hlt := isB_lt hc'
   obtain ⟨P, hP, hE⟩ := Option.bind_eq_some_iff.mp hE
   have HEq := Aside0.mk hE
   clear hE
   unfold fdParam at hP
   obtain ⟨K, hK, hP⟩ := Option.bind_eq_some_iff.mp hP
   have HPq := Aside0.mk hP
   clear hP
   have HS := Aside0.mk (is_at HR1.out (by omega) ha1 true hc')
   clear hc hc'
   go_upto_region 5 with (go_at_call 53; refine HS.out.mono ?_; rintro x w3 ⟨rfl, hd⟩; have HR3 := Aside0.mk (HR1.out.drawn hd); have W3 := Aside0.mk (HW1.out.drawn hd); have HP3 := Aside0.mk (HP1.out.below hd.below); have q1 := HR3.out.c1; have f1 := HR3.out.f1; clear hd)
   have HR4 := Aside0.mk (HR3.out.set (a2 + 1))
   have W4 := Aside0.mk (W3.out.set 1 (.int .i64 (a2 + 1)))
   have HP4 := Aside0.mk (HP3.out.far (p := ⟨g, 1, none⟩) (HP3.out.ne HGL.out) (.int .i64 (a2 + 1)))
   clear q1 f1 HR3 W3 HP3 HS HR1 HW1 HP1
   generalize w3.setCell ⟨g, 1, none⟩ (.int .i64 (a2 + 1)) = w4 at *
   obtain ⟨b, hb⟩ : ∃ b, tokE (inSet IX ⟨#[32]⟩) s (a2 + 1) = b := ⟨_, rfl⟩
   have S2 := skip_calls IX HH.out.hI ⟨#[32]⟩ g s (a2 + 1) w4 HR4.out (by omega) (by omega) (by omega)
   have hb1 := tokE_in (inSet IX ⟨#[32]⟩) s (a := a2 + 1) (by omega)
   simp only [hb] at hK S2 hb1
   have S2' := Aside0.mk S2
   clear S2 hb
   go_upto_region 6 with (go_at_call 50; refine S2'.out.mono ?_; rintro x w5 ⟨rfl, hr5, hw5⟩; have HR5 := Aside0.mk hr5; have W5 := Aside0.mk (W4.out.trans hw5); have HP5 := Aside0.mk (HP4.out.went hw5 HGL.out); clear hr5 hw5)
   have HKC := Aside0.mk (fkey_calls w0 KR HH.out.hK g s b w5 HR5.out (W5.out.from0 HW0.out HG0.out) hs K hK)
   rcases K with f | ⟨k, c⟩
   ·have hPq := Option.some.inj HPq.out
    subst hPq
    have hEq := Option.some.inj HEq.out
    subst hEq
    go_wp2_with (go_at_call 67; refine HKC.out.mono ?_; rintro x w6 ⟨rfl, hw6⟩; have W6 := Aside0.mk (W5.out.trans hw6); clear hw6)
    exact ⟨rfl, rfl, W6.out⟩
   ·have hk1 := HH.out.key_in (by omega) hb1.2 hK
    go_upto_region 7 with (first
     | (go_at_call 67; refine HKC.out.mono ?_; rintro x w6 ⟨rfl, hr6, hw6⟩; have HR6 := Aside0.mk hr6; have W6 := Aside0.mk (W5.out.trans hw6); have HP6 := Aside0.mk (HP5.out.went hw6 HGL.out); clear hw6 hr6)
     | (go_at_call 68; refine (yes_calls _).mono ?_; rintro x w7 ⟨rfl, hb7⟩; have HR7 := Aside0.mk (HR6.out.more hb7); have W7 := Aside0.mk (W6.out.more hb7); have HP7 := Aside0.mk (HP6.out.below hb7); clear hb7))
    obtain ⟨hx8, hb8⟩ := alloc1 w7 (Obj.cells #[.string k, .int .i64 6, .int .i64 1, .string ⟨#[]⟩] 119)
    have HR8 := Aside0.mk (HR7.out.more hb8)
    have W8 := Aside0.mk (W7.out.more hb8)
    have HP8 := Aside0.mk (HP7.out.below hb8)
    have HGp := Aside0.mk (show w.heap.size ≤ w7.heap.size from W7.out.keep.1)
    have HGg := Aside0.mk (show w7.heap.size ≠ g from fun e => by have := HR7.out.lt; omega)
    have HGu := Aside0.mk (show u3.ownBlock ≠ some w7.heap.size from fun e => by have := own_lt HP7.out _ e; omega)
    have HX8 := Aside0.mk hx8
    clear hx8 hb8 HR7 W7 HP7 HR6 W6 HP6 HR5 W5 HP5 S2' HR4 W4 HP4
    generalize w7.alloc (Obj.cells #[.string k, .int .i64 6, .int .i64 1, .string ⟨#[]⟩] 119) = w8 at *
    generalize w7.heap.size = gp at *
    by_cases he : isB s c 61 = true
    case' pos =>
     have hPq := HPq.out
     rw [if_pos he] at hPq
     obtain ⟨B, hB, hPq⟩ := Option.bind_eq_some_iff.mp hPq
     have hlt2 := isB_lt he
     have HS := Aside0.mk (is_at HR8.out (by omega) hk1.2 true he)
     go_upto_region 9 with (go_at_call 53; refine HS.out.mono ?_; rintro x w9 ⟨rfl, hd⟩; have HR9 := Aside0.mk (HR8.out.drawn hd); have W9 := Aside0.mk (W8.out.drawn hd); have HP9 := Aside0.mk (HP8.out.below hd.below); have HX9 := Aside0.mk (blk_below HX8.out hd.below); have q1 := HR9.out.c1; have f1 := HR9.out.f1; clear hd)
     have HR10 := Aside0.mk (HR9.out.set (c + 1))
     have W10 := Aside0.mk (W9.out.set 1 (.int .i64 (c + 1)))
     have HP10 := Aside0.mk (HP9.out.far (p := ⟨g, 1, none⟩) (HP9.out.ne HGL.out) (.int .i64 (c + 1)))
     have HX10 := Aside0.mk (blk_far (p := ⟨g, 1, none⟩) HX9.out HGg.out (.int .i64 (c + 1)))
     clear q1 f1 HR9 W9 HP9 HX9 HS HR8 W8 HP8 HX8
     generalize w9.setCell ⟨g, 1, none⟩ (.int .i64 (c + 1)) = w10 at *
     have HBC := Aside0.mk (fbare_calls w0 BR HH.out.hB g s (c + 1) w10 HR10.out (W10.out.from0 HW0.out HG0.out) HG0.out B hB)
     rcases B with f | ⟨B, d⟩
     ·have hPq := Option.some.inj hPq
      subst hPq
      have hEq := Option.some.inj HEq.out
      subst hEq
      go_wp2_with (go_at_call 69; refine HBC.out.mono ?_; rintro x w6 ⟨rfl, hw6⟩; have W6 := Aside0.mk (W10.out.trans hw6); clear hw6)
      exact ⟨rfl, rfl, W6.out⟩
     have hPq := Option.some.inj hPq
     subst hPq
     have hd1 := HH.out.bare_in (by omega) (by omega) hB
     have HBC2 : Aside0 (Calls Tryd.prog 69 #[.pointer (some ⟨g, 0, none⟩)] w10 fun x w' => x = .returned (.agg #[.int .i64 B.1, .int .i64 B.2.1, .string B.2.2]) ∧ FdAt w' g s d ∧ Went w10 w' g) := ⟨HBC.out⟩
     clear HBC
     go_upto_region 10 with (go_at_call 69; refine HBC2.out.mono ?_; rintro x w11 ⟨rfl, hr11, hw11⟩; have HR11 := Aside0.mk hr11; have W11 := Aside0.mk (W10.out.trans hw11); have HP11 := Aside0.mk (HP10.out.went hw11 HGL.out); have hx11 := hw11.keep.blk HX10.out HGg.out (by simp); have HX11 := Aside0.mk hx11; have xf1 := blk_frozen hx11 1; have xf2 := blk_frozen hx11 2; have xf3 := blk_frozen hx11 3; have x1 : w11.cell? ⟨gp, 1, none⟩ = some (.int .i64 6) := (blk_cell hx11 1).trans rfl; have x2 : w11.cell? ⟨gp, 2, none⟩ = some (.int .i64 1) := (blk_cell hx11 2).trans rfl; have x3 : w11.cell? ⟨gp, 3, none⟩ = some (.string ⟨#[]⟩) := (blk_cell hx11 3).trans rfl; clear hw11 hr11 hx11)
     have HX12 : Aside0 ((((w11.setCell ⟨gp, 1, none⟩ (.int .i64 B.1)).setCell ⟨gp, 2, none⟩ (.int .i64 B.2.1)).setCell ⟨gp, 3, none⟩ (.string B.2.2)).heap[gp]? = some (.cells #[.string k, .int .i64 B.1, .int .i64 B.2.1, .string B.2.2] 119 (0, 0))) := ⟨blk_set (blk_set (blk_set HX11.out 1 (.int .i64 B.1)) 2 (.int .i64 B.2.1)) 3 (.string B.2.2)⟩
     have HR12 := Aside0.mk (HR11.out.far3' HGg.out (.int .i64 B.1) (.int .i64 B.2.1) (.string B.2.2))
     have W12 := Aside0.mk (W11.out.far3' HGp.out (.int .i64 B.1) (.int .i64 B.2.1) (.string B.2.2))
     have HP12 := Aside0.mk (((HP11.out.far (p := ⟨gp, 1, none⟩) HGu.out (.int .i64 B.1)).far (p := ⟨gp, 2, none⟩) HGu.out (.int .i64 B.2.1)).far (p := ⟨gp, 3, none⟩) HGu.out (.string B.2.2))
     clear xf1 xf2 xf3 x1 x2 x3 HR11 W11 HP11 HX11 HR10 W10 HP10 HX10 HBC2 HKC
     generalize ((w11.setCell ⟨gp, 1, none⟩ (.int .i64 B.1)).setCell ⟨gp, 2, none⟩ (.int .i64 B.2.1)).setCell ⟨gp, 3, none⟩ (.string B.2.2) = w12 at *
     clear he hlt2 hB
     have hd2 : c ≤ d ∧ d ≤ (s.size : Int) := by omega
     clear hd1
    case' neg =>
     have hPq := HPq.out
     rw [if_neg he] at hPq
     have hPq := Option.some.inj hPq
     subst hPq
     have he' : isB s c 61 = false := by simpa using he
     have HS := Aside0.mk (is_at HR8.out (by omega) hk1.2 false he')
     go_upto_region 10 with (go_at_call 53; refine HS.out.mono ?_; rintro x w12 ⟨rfl, hd⟩; have HR12 := Aside0.mk (HR8.out.drawn hd); have W12 := Aside0.mk (W8.out.drawn hd); have HP12 := Aside0.mk (HP8.out.below hd.below); have hx12 := blk_below HX8.out hd.below; clear hd)
     obtain ⟨B, hBe⟩ : ∃ B : BareT, B = (6, 1, ⟨#[]⟩) := ⟨_, rfl⟩
     have HX12 : Aside0 (w12.heap[gp]? = some (.cells #[.string k, .int .i64 B.1, .int .i64 B.2.1, .string B.2.2] 119 (0, 0))) := ⟨by rw [hBe]; exact hx12⟩
     obtain ⟨d, hde⟩ : ∃ d, d = c := ⟨_, rfl⟩
     rw [← hBe, ← hde] at HEq
     rw [← hde] at HR12
     have hd2 : c ≤ d ∧ d ≤ (s.size : Int) := by omega
     clear hx12 hBe HS HR8 W8 HP8 HX8 HKC he he' hde
    all_goals (
     have hEq : (if hasPar ps k = true then fdParams BR KR IX s n3 d (ps.map (putOne (k, B))) else if ps.length = 256 then some (.inl (3, a2)) else fdParams BR KR IX s n3 d (ps ++ [(k, B)])) = some R := HEq.out
     obtain ⟨A, cp, hu3, hcp⟩ := HP12.out.len
     subst hu3
     have Hlen := Aside0.mk hpl
     go_wp2
     go_loopw [6, 41] (fun v6 v41 wq => ∃ i : Nat, v41 = .int .i64 (i : Int) ∧ v6 = .bool (hasPar (ps.take i) k) ∧ i ≤ ps.length ∧ Aside0 (FdAt wq g s d) ∧ Aside0 (Went w wq g) ∧ Aside0 (Pars wq w.heap.size (.slice A ps.length cp) (putTo (k, B) ps i)) ∧ Aside0 (wq.heap[gp]? = some (.cells #[.string k, .int .i64 B.1, .int .i64 B.2.1, .string B.2.2] 119 (0, 0)))) (fun _ v41 _ => ps.length - (intOf v41).toNat)
     case atStart => exact ⟨0, rfl, rfl, by omega, HR12, W12, HP12, HX12⟩
     case round =>
      obtain ⟨i, rfl, rfl, hil, HR13, W13, HP13, HX13⟩ := hrel
      clear HR12 W12 HP12 HX12
      by_cases hlt3 : i < ps.length
      ·obtain ⟨gA, capA, hv, _, _⟩ := World.ownsRow.form HP13.out (by rw [putTo_length]; omega)
       injection hv with hA _ _
       subst hA
       have hpt := putTo_length (k, B) ps i
       have hgt := putTo_get (k, B) ps i hlt3
       have e0 := HP13.out.atN hpt i (by omega) 0 (by omega)
       have e1 := HP13.out.atN hpt i (by omega) 1 (by omega)
       have e2 := HP13.out.atN hpt i (by omega) 2 (by omega)
       have e3 := HP13.out.atN hpt i (by omega) 3 (by omega)
       rw [hgt] at e0 e1 e2 e3
       obtain ⟨q, hq⟩ : ∃ q, q = ps[i] := ⟨_, rfl⟩
       rw [← hq] at e0 e1 e2 e3
       have y0 : wr.cell? ⟨gA, i * 4, none⟩ = some (.string q.1) := e0.1
       have y1 : wr.cell? ⟨gA, i * 4 + 1, none⟩ = some (.int .i64 q.2.1) := e1.1
       have y2 : wr.cell? ⟨gA, i * 4 + 2, none⟩ = some (.int .i64 q.2.2.1) := e2.1
       have y3 : wr.cell? ⟨gA, i * 4 + 3, none⟩ = some (.string q.2.2.2) := e3.1
       have yf1 := e1.2
       have yf2 := e2.2
       have yf3 := e3.2
       have x0 : wr.cell? ⟨gp, 0, none⟩ = some (.string k) := (blk_cell HX13.out 0).trans rfl
       have x1 : wr.cell? ⟨gp, 1, none⟩ = some (.int .i64 B.1) := (blk_cell HX13.out 1).trans rfl
       have x2 : wr.cell? ⟨gp, 2, none⟩ = some (.int .i64 B.2.1) := (blk_cell HX13.out 2).trans rfl
       have x3 : wr.cell? ⟨gp, 3, none⟩ = some (.string B.2.2) := (blk_cell HX13.out 3).trans rfl
       clear e0 e1 e2 e3
       have hi : 0 ≤ (i : Int) ∧ (i : Int) < (ps.length : Int) := ⟨by omega, by omega⟩
       have hw1 : IntKind.i64.wrap ((i : Int) + 1) = ((i + 1 : Nat) : Int) := by rw [wrap_small _ (by omega) (by omega)]; omega
       have HM := Aside0.mk (hasPar_more ps k i hlt3)
       have HT := Aside0.mk (putTo_more (k, B) ps i hlt3)
       rw [← hq] at HM HT
       have hil2 : i + 1 ≤ ps.length := hlt3
       have HGQ := Aside0.mk hq
       have HPT := Aside0.mk hpt
       have HEQ := Aside0.mk hEq
       clear hEq hq hpt hgt hd2 hcp
       by_cases hk : q.1 = k
       ·have hkb : (q.1.toList == k.toList) = true := text_eq.trans (decide_eq_true hk)
        have HPU : Aside0 (putOne (k, B) q = (q.1, B)) := ⟨if_pos hk⟩
        have HK1 : Aside0 (decide (q.1 = k) = true) := ⟨decide_eq_true hk⟩
        clear hk
        go_upto_region 14 with (fail)
        go_quiet (fail)
        have HGA := Aside0.mk (show gA ≠ g from fun e => by have := HGL.out; omega)
        have HGB := Aside0.mk (show gp ≠ gA from fun e => HGu.out (by rw [← e]; rfl))
        go_wp2
        refine ⟨⟨i + 1, rfl, ?_, hil2, ⟨?_⟩, ⟨?_⟩, ⟨?_⟩, ⟨?_⟩⟩, ?_⟩
        ·rw [HM.out, HK1.out, Bool.or_true]
        ·exact (HR13.out.drewN nq).farA HGA.out _ _ _ _
        ·exact (W13.out.drewN nq).farA (by omega) _ _ _ _
        ·rw [HT.out, HPU.out]
         have h3 := (Pars.below HP13.out (pw_below_drewN (Below.refl _ _) nq)).putN HPT.out i (by rw [HPT.out]; exact hlt3) B
         rw [putTo_get (k, B) ps i hlt3, ← HGQ.out] at h3
         exact h3
        ·exact blk_far (blk_far (blk_far (w := wr.drewN nq) HX13.out (p := ⟨gA, i * 4 + 1, none⟩) HGB.out _) (p := ⟨gA, i * 4 + 1 + 1, none⟩) HGB.out _) (p := ⟨gA, i * 4 + 1 + 2, none⟩) HGB.out _
        ·show ps.length - ((i : Int) + 1).toNat < ps.length - (i : Int).toNat
         omega
       ·have hkb : (q.1.toList == k.toList) = false := text_eq.trans (decide_eq_false hk)
        have HPU : Aside0 (putOne (k, B) q = q) := ⟨if_neg hk⟩
        have HK1 : Aside0 (decide (q.1 = k) = false) := ⟨decide_eq_false hk⟩
        clear hk
        go_upto_region 14 with (fail)
        go_quiet (fail)
        go_wp2
        refine ⟨⟨i + 1, rfl, ?_, hil2, ⟨?_⟩, ⟨?_⟩, ⟨?_⟩, ⟨?_⟩⟩, ?_⟩
        ·rw [HM.out, HK1.out, Bool.or_false]
        ·exact HR13.out.drewN nq
        ·exact W13.out.drewN nq
        ·rw [HT.out, HPU.out, HGQ.out, ← putTo_get (k, B) ps i hlt3, List.set_getElem_self]
         exact Pars.below HP13.out (pw_below_drewN (Below.refl _ _) nq)
        ·exact HX13.out
        ·show ps.length - ((i : Int) + 1).toNat < ps.length - (i : Int).toNat
         omega
      ·obtain rfl : i = ps.length := by omega
       rw [List.take_length] at *
       rw [putTo_all] at HP13
       by_cases hh : hasPar ps k = true
       ·rw [if_pos hh] at hEq
        have HEn := Aside0.mk hEq
        clear hEq
        rw [hh]
        go_wp2
        refine ⟨⟨n3, d, ps.map (putOne (k, B)), _, rfl, HEn, HR13.out, W13, HP13, by omega, hd2.2, by rw [List.length_map]; exact hpl⟩, ?_⟩
        rw [HR13.out.pos, hpos]
        omega
       ·rw [if_neg hh] at hEq
        have hh' : hasPar ps k = false := by simpa using hh
        rw [put_none (k, B) ps hh'] at HP13
        have x0 : wr.cell? ⟨gp, 0, none⟩ = some (.string k) := (blk_cell HX13.out 0).trans rfl
        have x1 : wr.cell? ⟨gp, 1, none⟩ = some (.int .i64 B.1) := (blk_cell HX13.out 1).trans rfl
        have x2 : wr.cell? ⟨gp, 2, none⟩ = some (.int .i64 B.2.1) := (blk_cell HX13.out 2).trans rfl
        have x3 : wr.cell? ⟨gp, 3, none⟩ = some (.string B.2.2) := (blk_cell HX13.out 3).trans rfl
        clear hh
        rw [hh']
        by_cases hf : ps.length = 256
        ·rw [if_pos hf] at hEq
         have hEq := Option.some.inj hEq
         subst hEq
         have hfb : ((ps.length : Int) == 256) = true := by rw [hf]; rfl
         go_wp2_with (go_at_call 32; refine (fail_calls _ _ _ _).mono ?_; rintro x w7 ⟨rfl, rfl⟩)
         exact ⟨rfl, rfl, W13.out⟩
        ·rw [if_neg hf] at hEq
         have HEn := Aside0.mk hEq
         have hfb : ((ps.length : Int) == 256) = false := by rw [beq_eq_false_iff_ne]; omega
         clear hEq
         go_wp2_with (first
          | ((with_reducible refine gate_builtin (b := .append) (xs := #[.tmp 66, .tmp 68]) rfl ?_); refine push_par rfl _ _ rfl _ ps k B rfl rfl HP13.out W13.out.keep.1 hpl ?_; intro v14 w14 ho14 hg14; have HP14 := Aside0.mk ho14; have HR14 := Aside0.mk (HR13.out.grown hg14 (HP13.out.ne HGL.out)); have W14 := Aside0.mk (W13.out.grown hg14 (fun q hq => own_base HP13.out q hq)); clear ho14 hg14))
         refine ⟨⟨n3, d, ps ++ [(k, B)], _, rfl, HEn, HR14.out, W14, HP14, by omega, hd2.2, by rw [List.length_append]; show ps.length + 1 ≤ 256; omega⟩, ?_⟩
         rw [HR14.out.pos, hpos]
         omega)
end Go.Proofs.YtclkclcacnpmbaaDoorW.PrintWords
