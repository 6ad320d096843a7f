/- Layer 9's reader: its text, by hand. -/
import Derived.Test.YtkbmbancfbfddaaGreatDoorXWRt
namespace Go.Proofs.YtkbmbancfbfddaaGreatDoorW.PrintWords
open Go.RowKit

theorem need_ok' {g : Nat} {s : ByteArray} {a : Int} {w : World} (hr : RdAt w g s a) (h0 : 0 ≤ a) (h : a < (s.size : Int)) (hs : s.size ≤ 9223372036854775806) :
  Calls Tryz.prog 73 #[.pointer (some ⟨g, 0, none⟩)] w fun x w' => x = .returned (.int .u8 (bt s a)) ∧ RdAt w' g s (a + 1) ∧ Went w w' g := need_ok g s a w hr h0 h hs

def rdText (s : ByteArray) : Nat → Int → List Int → RR
 | 0, _, _ => .inl (s.size, 99)
 | k + 1, a, xs =>
  if bt s a = 34 then .inr ((3, 0, strOfNums xs), a + 1)
  else if bt s a < 32 ∨ bt s a > 126 then .inl (a, 93)
  else if bt s a = 92 then (match k with | 0 => .inl (s.size, 99) | j + 1 => if bt s (a + 1) ≠ 34 ∧ bt s (a + 1) ≠ 92 then .inl (a + 1, 93) else rdText s j (a + 1 + 1) (xs ++ [bt s (a + 1)]))
  else rdText s k (a + 1) (xs ++ [bt s a])
def textE (s : ByteArray) (a : Int) (xs : List Int) : RR := rdText s ((s.size : Int) - a).toNat a xs
section
variable {s : ByteArray} {a : Int} {xs : List Int}
theorem textE_end (h : ¬ a < (s.size : Int)) : textE s a xs = .inl (s.size, 99) := by
 unfold textE
 rw [show ((s.size : Int) - a).toNat = 0 by omega]
 rfl
theorem textE_step (h : a < (s.size : Int)) : textE s a xs = if bt s a = 34 then .inr ((3, 0, strOfNums xs), a + 1)
  else if bt s a < 32 ∨ bt s a > 126 then .inl (a, 93)
  else if bt s a = 92 then (if a + 1 < (s.size : Int) then (if bt s (a + 1) ≠ 34 ∧ bt s (a + 1) ≠ 92 then .inl (a + 1, 93) else textE s (a + 1 + 1) (xs ++ [bt s (a + 1)])) else .inl (s.size, 99))
  else textE s (a + 1) (xs ++ [bt s a]) := by
 unfold textE
 rw [show ((s.size : Int) - a).toNat = ((s.size : Int) - (a + 1)).toNat + 1 by omega]
 by_cases h1 : a + 1 < (s.size : Int)
 ·rw [if_pos h1, show ((s.size : Int) - (a + 1)).toNat = ((s.size : Int) - (a + 1 + 1)).toNat + 1 by omega]
  rfl
 ·rw [if_neg h1, show ((s.size : Int) - (a + 1)).toNat = 0 by omega]
  rfl
end
abbrev RowF (w : World) (b : Nat) (v : Value) (xs : List Int) : Prop := Kd.R (Kd.int .u8) 5 w b (fun k => b ≤ k) v xs
theorem RdAt.moreB {w w1 : World} {g b : Nat} {s : ByteArray} {a : Int} (h : RdAt w g s a) (hb : Below b w w1) (hg : g < b) : RdAt w1 g s a := (hb.block g hg).trans h
theorem Went.moreB {w w1 w2 : World} {g b : Nat} (h : Went w w1 g) (hb : Below b w1 w2) (hw : w.heap.size ≤ b) : Went w w2 g := h.more' ⟨hb.os, hb.tape, hb.output, hb.size, fun k hk => hb.block k (Nat.lt_of_lt_of_le hk hw)⟩
theorem RowF.keep {w w1 : World} {g b : Nat} {v : Value} {xs : List Int} (h : RowF w b v xs) (hk : Went w w1 g) (hg : g < b) : RowF w1 b v xs := Kd.R_keep h hk.keep (fun k hk => by omega)
theorem infoB : (Tryz.prog.info? 5).map (fun i => (i.zero, i.size, i.bytes)) = some (some (.int .u8 0), 1, 1) := by kernel_rfl
set_option maxHeartbeats 4000000 in
set_option maxRecDepth 100000 in
theorem text_calls (g : Nat) (s : ByteArray) (at_ : Int) (w : World) (hr : RdAt w g s at_) (h0 : 0 ≤ at_) (h1 : at_ < (s.size : Int)) (hs : s.size ≤ 140737488355327) :
  Calls Tryz.prog 37 #[.pointer (some ⟨g, 0, none⟩)] w fun x w' => Gives x w w' g s (textE s (at_ + 1) []) := by
 obtain ⟨R, hE⟩ : ∃ R, textE s (at_ + 1) [] = R := ⟨_, rfl⟩
 rw [hE]
 go_enter Tryz.func37, Tryz.ntmps37
 go_wp2_with (first
  | ((with_reducible refine gate_dst (N := 2) rfl ?_); refine box_event ?hg (N := 2) ?hd (cs := #[.int .i64 0, .int .i64 0, .string ⟨#[]⟩]) (t := 24) ?hr ?_; (case hd => rfl); (case hg => rfl); (case hr => first | (go_simp; done) | (go_simp; rfl)); intro gb hg w1 hbox hb; have W0 := Aside0.mk (((Went.refl w g).more hb).set 1 (.int .i64 (at_ + 1))); have hr1 := hr.more hb; have hc1 := hr1.c1; have hf1 := hr1.f1; have HR2 := Aside0.mk (hr1.set (at_ + 1)); have HGL := Aside0.mk (blk_lt hr); have HG := Aside0.mk (show gb ≠ g from fun e => by have := blk_lt hr; omega); have HGE := Aside0.mk (show w.heap.size ≤ gb by omega); have HX := Aside0.mk (blk_far (p := ⟨g, 1, none⟩) hbox HG.out (.int .i64 (at_ + 1))); clear hb hbox hg hr1))
 generalize w1.setCell ⟨g, 1, none⟩ (.int .i64 (at_ + 1)) = w2 at *
 clear hc1 hf1
 obtain ⟨b0, hb0⟩ : ∃ b, b = w2.heap.size := ⟨_, rfl⟩
 have HXL := Aside0.mk (show gb < b0 by rw [hb0]; exact blk_lt HX.out)
 have HGB := Aside0.mk (show g < b0 by have := HGE.out; have := HGL.out; have := HXL.out; omega)
 have HWB := Aside0.mk (show w.heap.size ≤ b0 by have := HGE.out; have := HXL.out; omega)
 have HB2 := Aside0.mk (Nat.le_of_eq hb0)
 clear hb0
 go_loopw [3] (fun v3 wr => ∃ (a : Int) (xs : List Int) (v : Value), v3 = v ∧ Aside0 (RowF wr b0 v xs) ∧ RdAt wr g s a ∧ Aside0 (Went w wr g) ∧ Aside0 (wr.heap[gb]? = some (.cells #[.int .i64 0, .int .i64 0, .string ⟨#[]⟩] 24 (0, 0))) ∧ Aside0 (b0 ≤ wr.heap.size) ∧ at_ + 1 ≤ a ∧ a ≤ (s.size : Int) ∧ (xs.length : Int) ≤ a ∧ Aside0 (textE s a xs = R)) (fun _ wr => ((s.size : Int) - posOf wr g).toNat)
 case atStart => exact ⟨at_ + 1, [], _, rfl, ⟨Kd.R_nil _ _ _ _ _⟩, HR2.out, W0, HX, HB2, by omega, by omega, by simp; omega, ⟨hE⟩⟩
 case round =>
  obtain ⟨a, xs, v3, rfl, HO, hr2, HW, HX2, HS, ha0, ha1, hxl, HE⟩ := hrel
  clear HR2 W0 HX HB2
  have hpos := hr2.pos
  have HR := Aside0.mk hr2
  have q0 := hr2.c0
  have q1 := hr2.c1
  clear hr2
  by_cases hlt : a < (s.size : Int)
  ·have hcb := bt_range s a
   have HN := Aside0.mk (fun w1 (hr1 : RdAt w1 g s a) => need_ok' hr1 (by omega) hlt (by omega))
   have HE1 := (textE_step hlt).symm.trans HE.out
   clear HE
   by_cases hq : bt s a = 34
   ·rw [if_pos hq] at HE1
    subst HE1
    have hqb : (bt s a == 34) = true := by simp [hq]
    clear hq hE
    generalize bt s a = c at *
    go_wp2_with (first | (go_at_call 73; refine (HN.out _ HR.out).mono ?_; rintro e w3 ⟨rfl, hr3, W3⟩; have HR3 := Aside0.mk hr3; have HW3 := Aside0.mk (HW.out.trans W3); have HO3 := Aside0.mk (HO.out.keep W3 HGB.out); have hx3 := W3.keep.blk HX2.out HG.out (by simp); have HX3 := Aside0.mk hx3; have HS3 := Aside0.mk (Nat.le_trans HS.out W3.keep.1); clear HR HW HO HX2 HS hr3 W3 hx3 q0 q1; have hcv := own_string (P := Tryz.prog) Tryz.underlying59 Tryz.underlying5 Tryz.underlying9 (Kd.own_of_R HO3.out); have hx0 : w3.cell? ⟨gb, 0, none⟩ = some (.int .i64 0) := (blk_cell HX3.out 0).trans rfl; have hx1 : w3.cell? ⟨gb, 1, none⟩ = some (.int .i64 0) := (blk_cell HX3.out 1).trans rfl; have hx2 : w3.cell? ⟨gb, 2, none⟩ = some (.string ⟨#[]⟩) := (blk_cell HX3.out 2).trans rfl; have fx0 := blk_frozen HX3.out 0; have fx1 := blk_frozen HX3.out 1; have fx2 := blk_frozen HX3.out 2))
    (try simp only [Exit.inBlock, Exit.then])
    refine bodyPost_ret (v := bareV (3, 0, strOfNums xs)) (by simp [results, Tryz.results37, go_sem, bareV, hx0, hx1, hx2]; try rfl) rfl ?_
    exact ⟨rfl, HR3.out.far3 HG.out _ _ _, HW3.out.far3 HGE.out _ _ _⟩
   ·rw [if_neg hq] at HE1
    have hqb : (bt s a == 34) = false := by simp [hq]
    clear hq
    by_cases hbad : bt s a < 32 ∨ bt s a > 126
    ·rw [if_pos hbad] at HE1
     subst HE1
     have hbd : decide (bt s a < 32) = true ∨ (decide (bt s a < 32) = false ∧ decide (126 < bt s a) = true) := by
      rcases hbad with h | h
      ·exact .inl (decide_eq_true h)
      ·by_cases h2 : bt s a < 32
       ·exact .inl (decide_eq_true h2)
       ·exact .inr ⟨decide_eq_false h2, decide_eq_true h⟩
     clear hbad hE
     generalize bt s a = c at *
     rcases hbd with hbd | ⟨hbd, hbe⟩
     all_goals (
      go_wp2_with (first | (go_at_call 73; refine (HN.out _ HR.out).mono ?_; rintro e w3 ⟨rfl, hr3, W3⟩; have HR3 := Aside0.mk hr3; have HW3 := Aside0.mk (HW.out.trans W3); have HO3 := Aside0.mk (HO.out.keep W3 HGB.out); have hx3 := W3.keep.blk HX2.out HG.out (by simp); have HX3 := Aside0.mk hx3; have HS3 := Aside0.mk (Nat.le_trans HS.out W3.keep.1); clear HR HW HO HX2 HS hr3 W3 hx3 q0 q1) | (go_at_call 44; refine (stop_calls _ _ _ _).mono ?_; rintro e w5 ⟨rfl, rfl⟩))
      exact ⟨rfl, rfl, HW3.out⟩)
    ·rw [if_neg hbad] at HE1
     have hbd : decide (bt s a < 32) = false := decide_eq_false (fun h => hbad (.inl h))
     have hbe : decide (126 < bt s a) = false := decide_eq_false (fun h => hbad (.inr h))
     clear hbad
     by_cases hes : bt s a = 92
     ·rw [if_pos hes] at HE1
      have heb : (bt s a == 92) = true := by simp [hes]
      clear hes
      by_cases hlt2 : a + 1 < (s.size : Int)
      ·rw [if_pos hlt2] at HE1
       have hdb := bt_range s (a + 1)
       have HN2 := Aside0.mk (fun w1 (hr1 : RdAt w1 g s (a + 1)) => need_ok' hr1 (by omega) hlt2 (by omega))
       by_cases hok : bt s (a + 1) ≠ 34 ∧ bt s (a + 1) ≠ 92
       ·rw [if_pos hok] at HE1
        subst HE1
        have h34 : (bt s (a + 1) != 34) = true := by simp [hok.1]
        have h92 : (bt s (a + 1) != 92) = true := by simp [hok.2]
        clear hok hE
        generalize bt s (a + 1) = d at *
        generalize bt s a = c at *
        go_wp2_with (first | (go_at_call 73; refine (HN.out _ HR.out).mono ?_; rintro e w3 ⟨rfl, hr3, W3⟩; have HR3 := Aside0.mk hr3; have HW3 := Aside0.mk (HW.out.trans W3); have HO3 := Aside0.mk (HO.out.keep W3 HGB.out); have hx3 := W3.keep.blk HX2.out HG.out (by simp); have HX3 := Aside0.mk hx3; have HS3 := Aside0.mk (Nat.le_trans HS.out W3.keep.1); clear HR HW HO HX2 HS hr3 W3 hx3 q0 q1) | (go_at_call 73; refine (HN2.out _ HR3.out).mono ?_; rintro e w4 ⟨rfl, hr4, W4⟩; have HR4 := Aside0.mk hr4; have HW4 := Aside0.mk (HW3.out.trans W4); have HO4 := Aside0.mk (HO3.out.keep W4 HGB.out); have hx4 := W4.keep.blk HX3.out HG.out (by simp); have HX4 := Aside0.mk hx4; have HS4 := Aside0.mk (Nat.le_trans HS3.out W4.keep.1); clear HR3 HW3 HO3 HX3 HS3 hr4 W4 hx4) | (go_at_call 44; refine (stop_calls _ _ _ _).mono ?_; rintro e w5 ⟨rfl, rfl⟩))
        exact ⟨rfl, rfl, HW4.out⟩
       ·rw [if_neg hok] at HE1
        have HE2 := Aside0.mk HE1
        have hk : (bt s (a + 1) != 34) = false ∨ ((bt s (a + 1) != 34) = true ∧ (bt s (a + 1) != 92) = false) := by
         by_cases h : bt s (a + 1) = 34
         ·exact .inl (by simp [h])
         ·by_cases h2 : bt s (a + 1) = 92
          ·exact .inr ⟨by simp [h], by simp [h2]⟩
          ·exact absurd ⟨h, h2⟩ hok
        clear hok HE1 hE
        generalize bt s a = c' at *
        generalize bt s (a + 1) = c at *
        rcases hk with h34 | ⟨h34, h92⟩
        all_goals (
         go_wp2_with (first | (go_at_call 73; refine (HN.out _ HR.out).mono ?_; rintro e w3 ⟨rfl, hr3, W3⟩; have HR3 := Aside0.mk hr3; have HW3 := Aside0.mk (HW.out.trans W3); have HO3 := Aside0.mk (HO.out.keep W3 HGB.out); have hx3 := W3.keep.blk HX2.out HG.out (by simp); have HX3 := Aside0.mk hx3; have HS3 := Aside0.mk (Nat.le_trans HS.out W3.keep.1); clear HR HW HO HX2 HS hr3 W3 hx3 q0 q1) | (go_at_call 73; refine (HN2.out _ HR3.out).mono ?_; rintro e w4 ⟨rfl, hr4, W4⟩; have HR4 := Aside0.mk hr4; have HW4 := Aside0.mk (HW3.out.trans W4); have HO4 := Aside0.mk (HO3.out.keep W4 HGB.out); have hx4 := W4.keep.blk HX3.out HG.out (by simp); have HX4 := Aside0.mk hx4; have HS4 := Aside0.mk (Nat.le_trans HS3.out W4.keep.1); clear HR3 HW3 HO3 HX3 HS3 hr4 W4 hx4) | ((with_reducible refine gate_builtin (b := .append) (xs := #[.tmp 54, .tmp 56]) rfl ?_); (try (refine gate_guard (by rfl) ?_; dsimp only)); at_builtin; refine Kd.R_append (Kd.int .u8) (w0 := w4) b0 rfl (.tmp 54) (.tmp 56) 59 5 (.int .u8 0) 1 rfl Tryz.underlying59 infoB rfl (by decide) (by omega) _ xs c [.int .u8 c] (fun k => b0 ≤ k) (fun _ => False) rfl rfl ?aP (fun _ hk => hk.elim) ?aF ?aO ?aB ?aS ?aL ?_; (case aP => exact rfl); (case aB => exact Below.refl _ _); (case aF => exact (fun _ hk => Nat.le_trans HS4.out hk)); (case aO => exact HO4.out); (case aS => exact HS4.out); (case aL => omega); intro v5 w6 ho hbb hgb hat; have HO6 := Aside0.mk ho; have HR6 := Aside0.mk (HR4.out.moreB hbb HGB.out); have HW6 := Aside0.mk (HW4.out.moreB hbb HWB.out); have HX6 := Aside0.mk ((hbb.block gb HXL.out).trans HX4.out); have HS6 := Aside0.mk (Nat.le_trans HS4.out hbb.size); clear ho hbb hgb hat HO4 HR4 HW4 HX4 HS4))
         exact ⟨⟨a + 1 + 1, xs ++ [c], v5, rfl, HO6, HR6.out, HW6, HX6, HS6, by omega, by omega, by simp; omega, HE2⟩, by rw [hpos, HR6.out.pos]; omega⟩)
      ·rw [if_neg hlt2] at HE1
       subst HE1
       clear hE
       generalize bt s a = c at *
       go_wp2_with (first | (go_at_call 73; refine (HN.out _ HR.out).mono ?_; rintro e w3 ⟨rfl, hr3, W3⟩; have HR3 := Aside0.mk hr3; have HW3 := Aside0.mk (HW.out.trans W3); have HO3 := Aside0.mk (HO.out.keep W3 HGB.out); have hx3 := W3.keep.blk HX2.out HG.out (by simp); have HX3 := Aside0.mk hx3; have HS3 := Aside0.mk (Nat.le_trans HS.out W3.keep.1); clear HR HW HO HX2 HS hr3 W3 hx3 q0 q1) | (go_at_call 73; refine (need_end g s _ _ HR3.out (by omega)).mono ?_; rintro e w4 ⟨rfl, W4⟩; have HW4 := Aside0.mk (HW3.out.trans W4)))
       exact ⟨rfl, rfl, HW4.out⟩
     ·rw [if_neg hes] at HE1
      have heb : (bt s a == 92) = false := by simp [hes]
      have HE2 := Aside0.mk HE1
      clear hes HE1 hE
      generalize bt s a = c at *
      go_wp2_with (first | (go_at_call 73; refine (HN.out _ HR.out).mono ?_; rintro e w3 ⟨rfl, hr3, W3⟩; have HR3 := Aside0.mk hr3; have HW3 := Aside0.mk (HW.out.trans W3); have HO3 := Aside0.mk (HO.out.keep W3 HGB.out); have hx3 := W3.keep.blk HX2.out HG.out (by simp); have HX3 := Aside0.mk hx3; have HS3 := Aside0.mk (Nat.le_trans HS.out W3.keep.1); clear HR HW HO HX2 HS hr3 W3 hx3 q0 q1) | ((with_reducible refine gate_builtin (b := .append) (xs := #[.tmp 19, .tmp 21]) rfl ?_); (try (refine gate_guard (by rfl) ?_; dsimp only)); at_builtin; refine Kd.R_append (Kd.int .u8) (w0 := w3) b0 rfl (.tmp 19) (.tmp 21) 59 5 (.int .u8 0) 1 rfl Tryz.underlying59 infoB rfl (by decide) (by omega) _ xs c [.int .u8 c] (fun k => b0 ≤ k) (fun _ => False) rfl rfl ?aP (fun _ hk => hk.elim) ?aF ?aO ?aB ?aS ?aL ?_; (case aP => exact rfl); (case aB => exact Below.refl _ _); (case aF => exact (fun _ hk => Nat.le_trans HS3.out hk)); (case aO => exact HO3.out); (case aS => exact HS3.out); (case aL => omega); intro v5 w6 ho hbb hgb hat; have HO6 := Aside0.mk ho; have HR6 := Aside0.mk (HR3.out.moreB hbb HGB.out); have HW6 := Aside0.mk (HW3.out.moreB hbb HWB.out); have HX6 := Aside0.mk ((hbb.block gb HXL.out).trans HX3.out); have HS6 := Aside0.mk (Nat.le_trans HS3.out hbb.size); clear ho hbb hgb hat HO3 HR3 HW3 HX3 HS3))
      exact ⟨⟨a + 1, xs ++ [c], v5, rfl, HO6, HR6.out, HW6, HX6, HS6, by omega, by omega, by simp; omega, HE2⟩, by rw [hpos, HR6.out.pos]; omega⟩
  ·have hres : R = .inl (s.size, 99) := by rw [← HE.out, textE_end hlt]
   subst hres
   clear HE
   go_wp2_with (first | (go_at_call 73; refine (need_end g s _ _ HR.out (by omega)).mono ?_; rintro e w3 ⟨rfl, W3⟩; have HW3 := Aside0.mk (HW.out.trans W3)))
   exact ⟨rfl, rfl, HW3.out⟩
end Go.Proofs.YtkbmbancfbfddaaGreatDoorW.PrintWords
