/- Layer 9's reader: its display string, by hand, over what utf.Valid, octets.Unhex and octets.Lower do. -/
import Derived.Test.YtkbmbancfbfddaaGreatDoorXWRb
namespace Go.Proofs.YtkbmbancfbfddaaGreatDoorW.PrintWords
open Go.RowKit

section
variable (V : ByteArray → Option (Bool × Int)) (U : ByteArray → Option (List Int × Int × Int)) (L : ByteArray → Option ByteArray)
def hexAt (s : ByteArray) (a : Int) : ByteArray := s.extract (a + 1).toNat (if a + 1 + 2 < (s.size : Int) then a + 1 + 2 else (s.size : Int)).toNat
def rdDisp (s : ByteArray) (from_ : Int) : Nat → Int → List Int → Option RR
 | 0, _, _ => some (.inl (s.size, 99))
 | k + 1, a, xs =>
  if bt s a = 34 then (V (strOfNums xs)).bind fun r => some (if r.1 = true then .inr ((8, 0, strOfNums xs), a + 1) else .inl (from_, 21))
  else if bt s a < 32 ∨ bt s a > 126 then some (.inl (a, 97))
  else if bt s a = 37 then
   (U (hexAt s a)).bind fun r =>
    if r.2.1 = 0 ∧ r.1.length = 1 then (L (hexAt s a)).bind fun l => if l = hexAt s a then (match k with | j + 2 => rdDisp s from_ j (a + 1 + 2) (xs ++ [r.1.getD 0 0]) | _ => none) else some (.inl (a, 97))
    else some (.inl (a, 97))
  else rdDisp s from_ k (a + 1) (xs ++ [bt s a])
def dispE (s : ByteArray) (from_ a : Int) (xs : List Int) : Option RR := rdDisp V U L s from_ ((s.size : Int) - a).toNat a xs
theorem dispE_end {s : ByteArray} {f a : Int} {xs : List Int} (h : ¬ a < (s.size : Int)) : dispE V U L s f a xs = some (.inl (s.size, 99)) := by
 unfold dispE
 rw [show ((s.size : Int) - a).toNat = 0 by omega]
 rfl
theorem dispE_step {s : ByteArray} {f a : Int} {xs : List Int} (h : a < (s.size : Int)) : dispE V U L s f a xs = if bt s a = 34 then (V (strOfNums xs)).bind fun r => some (if r.1 = true then .inr ((8, 0, strOfNums xs), a + 1) else .inl (f, 21))
  else if bt s a < 32 ∨ bt s a > 126 then some (.inl (a, 97))
  else if bt s a = 37 then
   (U (hexAt s a)).bind fun r =>
    if r.2.1 = 0 ∧ r.1.length = 1 then (L (hexAt s a)).bind fun l => if l = hexAt s a then (if a + 1 + 2 ≤ (s.size : Int) then dispE V U L s f (a + 1 + 2) (xs ++ [r.1.getD 0 0]) else none) else some (.inl (a, 97))
    else some (.inl (a, 97))
  else dispE V U L s f (a + 1) (xs ++ [bt s a]) := by
 unfold dispE
 rw [show ((s.size : Int) - a).toNat = ((s.size : Int) - (a + 1)).toNat + 1 by omega]
 by_cases h1 : a + 1 + 2 ≤ (s.size : Int)
 ·simp only [if_pos h1]
  rw [show ((s.size : Int) - (a + 1)).toNat = ((s.size : Int) - (a + 1 + 2)).toNat + 2 by omega]
  rfl
 ·simp only [if_neg h1]
  have h2 : ((s.size : Int) - (a + 1)).toNat = 0 ∨ ((s.size : Int) - (a + 1)).toNat = 1 := by omega
  rcases h2 with h2 | h2 <;> rw [h2] <;> rfl
def rdDisplay (s : ByteArray) (at_ : Int) : Option RR :=
 if at_ + 1 < (s.size : Int) ∧ bt s (at_ + 1) = 34 then dispE V U L s at_ (at_ + 1 + 1) [] else some (.inl (at_ + 1, 97))
end
theorem row1_cell {w : World} {b : Nat} {ok : Nat → Prop} {v : Value} {x : Int} (h : Kd.R (Kd.int .u8) 5 w b ok v [x]) : ∃ (k c : Nat), v = .slice (some ⟨k, 0, none⟩) 1 c ∧ w.cell? ⟨k, 0, none⟩ = some (.int .u8 x) := by
 have ho := Kd.own_of_R h
 rcases ho.2 with ⟨_, h0⟩ | ⟨k, cap, cur, rfl, _⟩
 ·simp at h0
 ·exact ⟨k, cap, rfl, ho.cells (g := k) rfl 0 (.int .u8 x) (by simp [encs])⟩
theorem cell_more {w w1 : World} (hb : Below w.heap.size w w1) {a : Addr} {v : Value} (h : w.cell? a = some v) : w1.cell? a = some v := by
 have hlt : a.block < w.heap.size := by
  rcases Nat.lt_or_ge a.block w.heap.size with h1 | h1
  ·exact h1
  ·simp [World.cell?, Array.getElem?_eq_none h1] at h
 unfold World.cell?
 rw [hb.block _ hlt]
 exact h
set_option maxHeartbeats 8000000 in
set_option maxRecDepth 100000 in
theorem display_calls (V : ByteArray → Option (Bool × Int)) (U : ByteArray → Option (List Int × Int × Int)) (L : ByteArray → Option ByteArray)
  (HU : ∀ (a : ByteArray) (r1 : List Int) (r2 r3 : Int) (w : World), U a = some (r1, r2, r3) → Calls Tryz.prog 76 #[.string a] w fun x w' => ∃ v0_ : Value, x = .returned (.tuple #[v0_, .int .i64 r2, .int .i64 r3]) ∧ Kd.R (Kd.int .u8) 5 w' w.heap.size (fun _ => True) v0_ r1 ∧ Below w.heap.size w w')
  (HL : ∀ (a r : ByteArray) (w : World), L a = some r → Calls Tryz.prog 77 #[.string a] w fun x w' => x = .returned (.string r) ∧ Below w.heap.size w w')
  (g : Nat) (s : ByteArray) (at_ : Int) (w : World) (hr : RdAt w g s at_) (h0 : 0 ≤ at_) (h1 : at_ < (s.size : Int)) (hs : s.size ≤ 140737488355327) (R : RR) (hR : rdDisplay V U L s at_ = some R)
  (HV : ∀ (a : ByteArray) (r1 : Bool) (r2 : Int) (w1 : World), Went w w1 g → V a = some (r1, r2) → Calls Tryz.prog 45 #[.string a] w1 fun x w' => x = .returned (.tuple #[.bool r1, .int .i64 r2]) ∧ Below w1.heap.size w1 w') :
  Calls Tryz.prog 43 #[.pointer (some ⟨g, 0, none⟩)] w fun x w' => Gives x w w' g s R := by
 unfold rdDisplay at hR
 by_cases hn : at_ + 1 < (s.size : Int)
 ·have HQ := Aside0.mk (fun w1 (hr1 : RdAt w1 g s (at_ + 1)) => end_quiet hr1 hn)
  have hb := bt_at s (at_ + 1) (by omega)
  have hi : 0 ≤ at_ + 1 ∧ at_ + 1 < (s.size : Int) := ⟨by omega, hn⟩
  by_cases hq : bt s (at_ + 1) = 34
  ·rw [if_pos ⟨hn, hq⟩] at hR
   have hb34 : (bt s (at_ + 1) != 34) = false := by simp [hq]
   clear hq
   go_enter Tryz.func43, Tryz.ntmps43
   go_wp2_with (first
    | ((with_reducible refine gate_dst (N := 2) rfl ?_); refine box_event ?hg (N := 2) ?hd (cs := #[.int .i64 0, .int .i64 0, .string ⟨#[]⟩]) (t := 24) ?hr ?_; (case hd => rfl); (case hg => rfl); (case hr => first | (go_simp; done) | (go_simp; rfl)); intro gb hg w1 hbox hb; have W0 := Aside0.mk (((Went.refl w g).more hb).set 1 (.int .i64 (at_ + 1))); have hr1 := hr.more hb; have hc1 := hr1.c1; have hf1 := hr1.f1; have HR2 := Aside0.mk (hr1.set (at_ + 1)); have HGL := Aside0.mk (blk_lt hr); have HG := Aside0.mk (show gb ≠ g from fun e => by have := blk_lt hr; omega); have HGE := Aside0.mk (show w.heap.size ≤ gb by omega); have HX := Aside0.mk (blk_far (p := ⟨g, 1, none⟩) hbox HG.out (.int .i64 (at_ + 1))); clear hb hbox hg hr1))
   generalize w1.setCell ⟨g, 1, none⟩ (.int .i64 (at_ + 1)) = w2 at *
   clear hc1 hf1
   have q0 := HR2.out.c0
   have q1 := HR2.out.c1
   have f1 := HR2.out.f1
   have HQ2 := Aside0.mk (HQ.out w2 HR2.out)
   go_quiet (first | (go_at_call 71; exact HQ2.out _))
   go_wp2
   have HR6 := Aside0.mk ((HR2.out.more (pw_below_drewN (Below.refl _ _) nq)).set (at_ + 1 + 1))
   have W6 := Aside0.mk ((W0.out.drewN nq).set 1 (.int .i64 (at_ + 1 + 1)))
   have HX6 : Aside0 (((w2.drewN nq).setCell ⟨g, 1, none⟩ (.int .i64 (at_ + 1 + 1))).heap[gb]? = some (.cells #[.int .i64 0, .int .i64 0, .string ⟨#[]⟩] 24 (0, 0))) := ⟨blk_far (p := ⟨g, 1, none⟩) HX.out HG.out _⟩
   clear q0 q1 f1 HQ HQ2 HR2 W0 HX hb34 hi hb
   generalize (w2.drewN nq).setCell ⟨g, 1, none⟩ (.int .i64 (at_ + 1 + 1)) = w3 at *
   obtain ⟨b0, hb0⟩ : ∃ b, b = w3.heap.size := ⟨_, rfl⟩
   have HXL := Aside0.mk (show gb < b0 by rw [hb0]; exact blk_lt HX6.out)
   have HGB := Aside0.mk (show g < b0 by have := HGE.out; have := HGL.out; have := HXL.out; omega)
   have HWB := Aside0.mk (show w.heap.size ≤ b0 by have := HGE.out; have := HXL.out; omega)
   have HB2 := Aside0.mk (Nat.le_of_eq hb0)
   clear hb0
   go_loopw [4] (fun v4 wr => ∃ (a : Int) (xs : List Int) (v : Value), v4 = v ∧ Aside0 (RowF wr b0 v xs) ∧ RdAt wr g s a ∧ Aside0 (Went w wr g) ∧ Aside0 (wr.heap[gb]? = some (.cells #[.int .i64 0, .int .i64 0, .string ⟨#[]⟩] 24 (0, 0))) ∧ Aside0 (b0 ≤ wr.heap.size) ∧ at_ + 1 + 1 ≤ a ∧ a ≤ (s.size : Int) ∧ (xs.length : Int) ≤ a ∧ Aside0 (dispE V U L s at_ a xs = some R)) (fun _ wr => ((s.size : Int) - posOf wr g).toNat)
   case atStart => exact ⟨at_ + 1 + 1, [], _, rfl, ⟨Kd.R_nil _ _ _ _ _⟩, HR6.out, W6, HX6, HB2, by omega, by omega, by simp; omega, ⟨hR⟩⟩
   case round =>
    obtain ⟨a, xs, v4_, rfl, HO, hr2, HW, HX2, HS, ha0, ha1, hxl, HE⟩ := hrel
    clear HR6 W6 HX6 HB2
    have hpos := hr2.pos
    have HR := Aside0.mk hr2
    have q0 := hr2.c0
    have q1 := hr2.c1
    clear hr2
    by_cases hlt : a < (s.size : Int)
    ·have hcb := bt_range s a
     have HN := Aside0.mk (fun w1 (hr1 : RdAt w1 g s a) => need_ok' hr1 (by omega) hlt (by omega))
     have HE1 := (dispE_step V U L hlt).symm.trans HE.out
     clear HE hR
     by_cases hq : bt s a = 34
     ·rw [if_pos hq] at HE1
      replace HE1 := Option.bind_eq_some_iff.mp HE1
      obtain ⟨⟨r1, r2⟩, hv, HE1⟩ := HE1
      replace HE1 := Option.some.inj HE1
      have HVc := Aside0.mk (fun w1 (hw1 : Went w w1 g) => HV _ _ _ w1 hw1 hv)
      have hqb : (bt s a == 34) = true := by simp [hq]
      clear hq hv
      generalize bt s a = c at *
      cases r1 with
      | true =>
       obtain rfl := (if_pos rfl).symm.trans HE1
       clear HE1
       go_wp2_with (first | (go_at_call 73; refine (HN.out _ HR.out).mono ?_; rintro e w3 ⟨rfl, hr3, W3⟩; have HR3 := Aside0.mk hr3; have HW3 := Aside0.mk (HW.out.trans W3); have HO3 := Aside0.mk (HO.out.keep W3 HGB.out); have hx3 := W3.keep.blk HX2.out HG.out (by simp); have HX3 := Aside0.mk hx3; have HS3 := Aside0.mk (Nat.le_trans HS.out W3.keep.1); clear HR HW HO HX2 HS hr3 W3 hx3 q0 q1; have hcv := own_string (P := Tryz.prog) Tryz.underlying59 Tryz.underlying5 Tryz.underlying9 (Kd.own_of_R HO3.out)) | (go_at_call 45; refine (HVc.out _ HW3.out).mono ?_; rintro e w4 ⟨rfl, hb4⟩; have HR4 := Aside0.mk (HR3.out.more hb4); have HW4 := Aside0.mk (HW3.out.more hb4); have hx4 := (hb4.block gb (blk_lt HX3.out)).trans HX3.out; have hcv4 := own_string (P := Tryz.prog) Tryz.underlying59 Tryz.underlying5 Tryz.underlying9 (Kd.own_of_R (Kd.R_below HO3.out hb4)); have hx0 : w4.cell? ⟨gb, 0, none⟩ = some (.int .i64 0) := (blk_cell hx4 0).trans rfl; have hx1 : w4.cell? ⟨gb, 1, none⟩ = some (.int .i64 0) := (blk_cell hx4 1).trans rfl; have hx2 : w4.cell? ⟨gb, 2, none⟩ = some (.string ⟨#[]⟩) := (blk_cell hx4 2).trans rfl; have fx0 := blk_frozen hx4 0; have fx1 := blk_frozen hx4 1; have fx2 := blk_frozen hx4 2; clear HR3 HW3 HX3 HO3 hcv hx4 hb4))
       (try simp only [Exit.inBlock, Exit.then])
       refine bodyPost_ret (v := bareV (8, 0, strOfNums xs)) (by simp [results, Tryz.results43, go_sem, bareV, hx0, hx1, hx2]; try rfl) rfl ?_
       exact ⟨rfl, HR4.out.far3 HG.out _ _ _, HW4.out.far3 HGE.out _ _ _⟩
      | false =>
       obtain rfl := (if_neg (by simp)).symm.trans HE1
       clear HE1
       go_wp2_with (first | (go_at_call 73; refine (HN.out _ HR.out).mono ?_; rintro e w3 ⟨rfl, hr3, W3⟩; have HR3 := Aside0.mk hr3; have HW3 := Aside0.mk (HW.out.trans W3); have HO3 := Aside0.mk (HO.out.keep W3 HGB.out); have hx3 := W3.keep.blk HX2.out HG.out (by simp); have HX3 := Aside0.mk hx3; have HS3 := Aside0.mk (Nat.le_trans HS.out W3.keep.1); clear HR HW HO HX2 HS hr3 W3 hx3 q0 q1; have hcv := own_string (P := Tryz.prog) Tryz.underlying59 Tryz.underlying5 Tryz.underlying9 (Kd.own_of_R HO3.out)) | (go_at_call 45; refine (HVc.out _ HW3.out).mono ?_; rintro e w4 ⟨rfl, hb4⟩; have HR4 := Aside0.mk (HR3.out.more hb4); have HW4 := Aside0.mk (HW3.out.more hb4); have hx4 := (hb4.block gb (blk_lt HX3.out)).trans HX3.out; have hcv4 := own_string (P := Tryz.prog) Tryz.underlying59 Tryz.underlying5 Tryz.underlying9 (Kd.own_of_R (Kd.R_below HO3.out hb4)); have hx0 : w4.cell? ⟨gb, 0, none⟩ = some (.int .i64 0) := (blk_cell hx4 0).trans rfl; have hx1 : w4.cell? ⟨gb, 1, none⟩ = some (.int .i64 0) := (blk_cell hx4 1).trans rfl; have hx2 : w4.cell? ⟨gb, 2, none⟩ = some (.string ⟨#[]⟩) := (blk_cell hx4 2).trans rfl; have fx0 := blk_frozen hx4 0; have fx1 := blk_frozen hx4 1; have fx2 := blk_frozen hx4 2; clear HR3 HW3 HX3 HO3 hcv hx4 hb4) | (go_at_call 44; refine (stop_calls _ _ _ _).mono ?_; rintro e w5 ⟨rfl, rfl⟩))
       exact ⟨rfl, rfl, HW4.out⟩
     ·rw [if_neg hq] at HE1
      have hqb : (bt s a == 34) = false := by simp [hq]
      clear hq
      by_cases hbad : bt s a < 32 ∨ bt s a > 126
      ·rw [if_pos hbad] at HE1
       obtain rfl := Option.some.inj HE1
       have hbd : decide (bt s a < 32) = true ∨ (decide (bt s a < 32) = false ∧ decide (126 < bt s a) = true) := by
        rcases hbad with h | h
        ·exact .inl (decide_eq_true h)
        ·by_cases h2 : bt s a < 32
         ·exact .inl (decide_eq_true h2)
         ·exact .inr ⟨decide_eq_false h2, decide_eq_true h⟩
       clear hbad HE1
       generalize bt s a = c at *
       rcases hbd with hbd | ⟨hbd, hbe⟩
       all_goals (
        go_wp2_with (first | (go_at_call 73; refine (HN.out _ HR.out).mono ?_; rintro e w3 ⟨rfl, hr3, W3⟩; have HR3 := Aside0.mk hr3; have HW3 := Aside0.mk (HW.out.trans W3); have HO3 := Aside0.mk (HO.out.keep W3 HGB.out); have hx3 := W3.keep.blk HX2.out HG.out (by simp); have HX3 := Aside0.mk hx3; have HS3 := Aside0.mk (Nat.le_trans HS.out W3.keep.1); clear HR HW HO HX2 HS hr3 W3 hx3 q0 q1) | (go_at_call 44; refine (stop_calls _ _ _ _).mono ?_; rintro e w5 ⟨rfl, rfl⟩))
        exact ⟨rfl, rfl, HW3.out⟩)
      ·rw [if_neg hbad] at HE1
       have hbd : decide (bt s a < 32) = false := decide_eq_false (fun h => hbad (.inl h))
       have hbe : decide (126 < bt s a) = false := decide_eq_false (fun h => hbad (.inr h))
       clear hbad
       by_cases hes : bt s a = 37
       ·rw [if_pos hes] at HE1
        have heb : (bt s a == 37) = true := by simp [hes]
        clear hes
        generalize bt s a = c at *
        replace HE1 := Option.bind_eq_some_iff.mp HE1
        obtain ⟨⟨r1, r2, r3⟩, hu, HE1⟩ := HE1
        have HUc := Aside0.mk (fun w => HU _ _ _ _ w hu)
        obtain ⟨H, hH⟩ : ∃ H : Int, (if a + 1 + 2 < (s.size : Int) then a + 1 + 2 else (s.size : Int)) = H := ⟨_, rfl⟩
        have hwa : IntKind.i64.wrap (a + 1 + 2) = a + 1 + 2 := wrap_small _ (by omega) (by omega)
        have hHb : a + 1 ≤ H ∧ H ≤ (s.size : Int) := by rw [← hH]; split <;> omega
        have hs1 : (0 : Int) ≤ a + 1 := by omega
        have hs2 : a + 1 ≤ H := hHb.1
        have hs3 : H ≤ (s.size : Int) := hHb.2
        have hX : hexAt s a = s.extract (a + 1).toNat H.toNat := by unfold hexAt; rw [hH]
        rw [hX] at HUc HE1 hu
        clear hX
        have HLq := Aside0.mk HL
        by_cases h2 : r2 = 0
        ·by_cases h3 : r1.length = 1
         ·obtain ⟨x, rfl⟩ : ∃ x, r1 = [x] := List.length_eq_one_iff.mp h3
          rw [if_pos ⟨h2, h3⟩] at HE1
          replace HE1 := Option.bind_eq_some_iff.mp HE1
          obtain ⟨l, hl, HE1⟩ := HE1
          have HLc := Aside0.mk (fun w => HL _ _ w hl)
          have h2b : (r2 != 0) = false := by simp [h2]
          clear h2 h3 hu hl HLq
          obtain ⟨X, hX⟩ : ∃ X, s.extract (a + 1).toNat H.toNat = X := ⟨_, rfl⟩
          rw [hX] at HUc HE1 HLc
          by_cases hlx : l = X
          ·rw [if_pos hlx] at HE1
           by_cases hfit : a + 1 + 2 ≤ (s.size : Int)
           ·rw [if_pos hfit] at HE1
            have HE2 : Aside0 (dispE V U L s at_ (a + 1 + 2) (xs ++ [x]) = some R) := ⟨HE1⟩
            subst hlx
            clear HE1
            go_wp2_with (first | (go_at_call 73; refine (HN.out _ HR.out).mono ?_; rintro e w3 ⟨rfl, hr3, W3⟩; have HR3 := Aside0.mk hr3; have HW3 := Aside0.mk (HW.out.trans W3); have HO3 := Aside0.mk (HO.out.keep W3 HGB.out); have hx3 := W3.keep.blk HX2.out HG.out (by simp); have HX3 := Aside0.mk hx3; have HS3 := Aside0.mk (Nat.le_trans HS.out W3.keep.1); clear HR HW HO HX2 HS hr3 W3 hx3 q0 q1))
            have q0 := HR3.out.c0
            have q1 := HR3.out.c1
            go_still_tail 19, (by kernel_rfl)
            change wpList _ _ _ _ _ w3.drew
            have HR4 : Aside0 (RdAt w3.drew g s (a + 1)) := ⟨HR3.out⟩
            have HW4 := Aside0.mk HW3.out.drew
            have HO4 : Aside0 (RowF w3.drew b0 u4 xs) := ⟨Kd.R_drew HO3.out⟩
            have HX4 : Aside0 (w3.drew.heap[gb]? = some (.cells #[.int .i64 0, .int .i64 0, .string ⟨#[]⟩] 24 (0, 0))) := ⟨HX3.out⟩
            have HS4 : Aside0 (b0 ≤ w3.drew.heap.size) := ⟨HS3.out⟩
            clear q0 q1 HR3 HW3 HO3 HX3 HS3
            generalize w3.drew = w4 at *
            go_upto_region 23 with (first | (go_at_call 76; refine (HUc.out _).mono ?_; rintro e w5 ⟨v0, rfl, ho, hb5⟩; have HR5 := Aside0.mk (HR4.out.more hb5); have HW5 := Aside0.mk (HW4.out.more hb5); have HX5 := Aside0.mk ((hb5.block gb (blk_lt HX4.out)).trans HX4.out); have HO5 := Aside0.mk (Kd.R_below HO4.out hb5); have HS5 := Aside0.mk (Nat.le_trans HS4.out hb5.size); have z1 := HR5.out.c1; clear HR4 HW4 HX4 HO4 HS4 hb5; obtain ⟨k0, c0, rfl, hk0⟩ := row1_cell ho; clear ho) | (go_at_call 77; refine (HLc.out _).mono ?_; rintro e w6 ⟨rfl, hb6⟩; have HR6 := Aside0.mk (HR5.out.more hb6); have HW6 := Aside0.mk (HW5.out.more hb6); have HX6 := Aside0.mk ((hb6.block gb (blk_lt HX5.out)).trans HX5.out); have HO6 := Aside0.mk (Kd.R_below HO5.out hb6); have HS6 := Aside0.mk (Nat.le_trans HS5.out hb6.size); have hk6 := cell_more hb6 hk0; clear HR5 HW5 HX5 HO5 HS5 hb6 hk0 z1) | ((with_reducible refine gate_builtin (b := .append) (xs := #[.tmp 133, .tmp 137]) rfl ?_); (try (refine gate_guard (by rfl) ?_; dsimp only)); at_builtin; refine Kd.R_append (Kd.int .u8) (w0 := w6) b0 rfl (.tmp 133) (.tmp 137) 59 5 (.int .u8 0) 1 rfl Tryz.underlying59 infoB rfl (by decide) (by omega) _ xs x [.int .u8 x] (fun k => b0 ≤ k) (fun _ => False) rfl rfl ?aP (fun _ hk => hk.elim) ?aF ?aO ?aB ?aS ?aL ?_; (case aP => exact rfl); (case aB => exact Below.refl _ _); (case aF => exact (fun _ hk => Nat.le_trans HS6.out hk)); (case aO => exact HO6.out); (case aS => exact HS6.out); (case aL => omega); intro v7 w7 ho hbb hgb hat; have HO7 := Aside0.mk ho; have HR7 := Aside0.mk (HR6.out.moreB hbb HGB.out); have HW7 := Aside0.mk (HW6.out.moreB hbb HWB.out); have HX7 := Aside0.mk ((hbb.block gb HXL.out).trans HX6.out); have HS7 := Aside0.mk (Nat.le_trans HS6.out hbb.size); clear ho hbb hgb hat HO6 HR6 HW6 HX6 HS6))
            have z7 := HR7.out.c1
            have zf := HR7.out.f1
            go_wp2
            exact ⟨⟨a + 1 + 2, xs ++ [x], v7, rfl, ⟨Kd.R_far (p := ⟨g, 1, none⟩) HO7.out (fun k hk => by have := HGB.out; show k ≠ g; omega) _⟩, HR7.out.set _, ⟨HW7.out.set _ _⟩, ⟨blk_far (p := ⟨g, 1, none⟩) HX7.out HG.out _⟩, ⟨Nat.le_trans HS7.out (Nat.le_of_eq (by simp [World.setCell]))⟩, by omega, hfit, by simp; omega, HE2⟩, by rw [hpos, (HR7.out.set (a + 1 + 2)).pos]; omega⟩
           ·rw [if_neg hfit] at HE1
            cases HE1
          ·rw [if_neg hlx] at HE1
           obtain rfl := Option.some.inj HE1
           have hne : (l.toList == X.toList) = false := beq_eq_false_iff_ne.mpr fun h => hlx (ByteArray.ext (Array.toList_inj.mp (by simpa [ByteArray.toList_eq] using h)))
           clear HE1 hlx
           go_wp2_with (first | (go_at_call 73; refine (HN.out _ HR.out).mono ?_; rintro e w3 ⟨rfl, hr3, W3⟩; have HR3 := Aside0.mk hr3; have HW3 := Aside0.mk (HW.out.trans W3); have HO3 := Aside0.mk (HO.out.keep W3 HGB.out); have hx3 := W3.keep.blk HX2.out HG.out (by simp); have HX3 := Aside0.mk hx3; have HS3 := Aside0.mk (Nat.le_trans HS.out W3.keep.1); clear HR HW HO HX2 HS hr3 W3 hx3 q0 q1))
           have q0 := HR3.out.c0
           have q1 := HR3.out.c1
           go_still_tail 19, (by kernel_rfl)
           change wpList _ _ _ _ _ w3.drew
           have HR4 : Aside0 (RdAt w3.drew g s (a + 1)) := ⟨HR3.out⟩
           have HW4 := Aside0.mk HW3.out.drew
           have HO4 : Aside0 (RowF w3.drew b0 u4 xs) := ⟨Kd.R_drew HO3.out⟩
           have HX4 : Aside0 (w3.drew.heap[gb]? = some (.cells #[.int .i64 0, .int .i64 0, .string ⟨#[]⟩] 24 (0, 0))) := ⟨HX3.out⟩
           have HS4 : Aside0 (b0 ≤ w3.drew.heap.size) := ⟨HS3.out⟩
           clear q0 q1 HR3 HW3 HO3 HX3 HS3
           generalize w3.drew = w4 at *
           go_wp2_with (first | (go_at_call 76; refine (HUc.out _).mono ?_; rintro e w5 ⟨v0, rfl, ho, hb5⟩; have HR5 := Aside0.mk (HR4.out.more hb5); have HW5 := Aside0.mk (HW4.out.more hb5); have HX5 := Aside0.mk ((hb5.block gb (blk_lt HX4.out)).trans HX4.out); have HO5 := Aside0.mk (Kd.R_below HO4.out hb5); have HS5 := Aside0.mk (Nat.le_trans HS4.out hb5.size); have z1 := HR5.out.c1; clear HR4 HW4 HX4 HO4 HS4 hb5; obtain ⟨k0, c0, rfl, hk0⟩ := row1_cell ho; clear ho) | (go_at_call 77; refine (HLc.out _).mono ?_; rintro e w6 ⟨rfl, hb6⟩; have HR6 := Aside0.mk (HR5.out.more hb6); have HW6 := Aside0.mk (HW5.out.more hb6); have HX6 := Aside0.mk ((hb6.block gb (blk_lt HX5.out)).trans HX5.out); have HO6 := Aside0.mk (Kd.R_below HO5.out hb6); have HS6 := Aside0.mk (Nat.le_trans HS5.out hb6.size); have hk6 := cell_more hb6 hk0; clear HR5 HW5 HX5 HO5 HS5 hb6 hk0 z1) | (go_at_call 44; refine (stop_calls _ _ _ _).mono ?_; rintro e w5 ⟨rfl, rfl⟩))
           exact ⟨rfl, rfl, HW6.out⟩
         ·rw [if_neg fun h => h3 h.2] at HE1
          obtain rfl := Option.some.inj HE1
          have h2b : (r2 != 0) = false := by simp [h2]
          have h3b : ((r1.length : Int) != 1) = true := by simp; omega
          clear HE1 h2 h3 hu
          obtain ⟨X, hX⟩ : ∃ X, s.extract (a + 1).toNat H.toNat = X := ⟨_, rfl⟩
          rw [hX] at HUc
          go_wp2_with (first | (go_at_call 73; refine (HN.out _ HR.out).mono ?_; rintro e w3 ⟨rfl, hr3, W3⟩; have HR3 := Aside0.mk hr3; have HW3 := Aside0.mk (HW.out.trans W3); have HO3 := Aside0.mk (HO.out.keep W3 HGB.out); have hx3 := W3.keep.blk HX2.out HG.out (by simp); have HX3 := Aside0.mk hx3; have HS3 := Aside0.mk (Nat.le_trans HS.out W3.keep.1); clear HR HW HO HX2 HS hr3 W3 hx3 q0 q1))
          have q0 := HR3.out.c0
          have q1 := HR3.out.c1
          go_still_tail 19, (by kernel_rfl)
          change wpList _ _ _ _ _ w3.drew
          have HR4 : Aside0 (RdAt w3.drew g s (a + 1)) := ⟨HR3.out⟩
          have HW4 := Aside0.mk HW3.out.drew
          have HO4 : Aside0 (RowF w3.drew b0 u4 xs) := ⟨Kd.R_drew HO3.out⟩
          have HX4 : Aside0 (w3.drew.heap[gb]? = some (.cells #[.int .i64 0, .int .i64 0, .string ⟨#[]⟩] 24 (0, 0))) := ⟨HX3.out⟩
          have HS4 : Aside0 (b0 ≤ w3.drew.heap.size) := ⟨HS3.out⟩
          clear q0 q1 HR3 HW3 HO3 HX3 HS3
          generalize w3.drew = w4 at *
          go_wp2_with (first | (go_at_call 76; refine (HUc.out _).mono ?_; rintro e w5 ⟨v0, rfl, ho, hb5⟩; have HR5 := Aside0.mk (HR4.out.more hb5); have HW5 := Aside0.mk (HW4.out.more hb5); have HX5 := Aside0.mk ((hb5.block gb (blk_lt HX4.out)).trans HX4.out); have HO5 := Aside0.mk (Kd.R_below HO4.out hb5); have HS5 := Aside0.mk (Nat.le_trans HS4.out hb5.size); have z1 := HR5.out.c1; clear HR4 HW4 HX4 HO4 HS4 hb5; obtain ⟨A0, c0, rfl⟩ := Kd.R_slice ho; clear ho) | (go_at_call 44; refine (stop_calls _ _ _ _).mono ?_; rintro e w5 ⟨rfl, rfl⟩))
          exact ⟨rfl, rfl, HW5.out⟩
        ·rw [if_neg fun h => h2 h.1] at HE1
         obtain rfl := Option.some.inj HE1
         have h2b : (r2 != 0) = true := by simp [h2]
         clear HE1 h2 hu
         obtain ⟨X, hX⟩ : ∃ X, s.extract (a + 1).toNat H.toNat = X := ⟨_, rfl⟩
         rw [hX] at HUc
         go_wp2_with (first | (go_at_call 73; refine (HN.out _ HR.out).mono ?_; rintro e w3 ⟨rfl, hr3, W3⟩; have HR3 := Aside0.mk hr3; have HW3 := Aside0.mk (HW.out.trans W3); have HO3 := Aside0.mk (HO.out.keep W3 HGB.out); have hx3 := W3.keep.blk HX2.out HG.out (by simp); have HX3 := Aside0.mk hx3; have HS3 := Aside0.mk (Nat.le_trans HS.out W3.keep.1); clear HR HW HO HX2 HS hr3 W3 hx3 q0 q1))
         have q0 := HR3.out.c0
         have q1 := HR3.out.c1
         go_still_tail 19, (by kernel_rfl)
         change wpList _ _ _ _ _ w3.drew
         have HR4 : Aside0 (RdAt w3.drew g s (a + 1)) := ⟨HR3.out⟩
         have HW4 := Aside0.mk HW3.out.drew
         have HO4 : Aside0 (RowF w3.drew b0 u4 xs) := ⟨Kd.R_drew HO3.out⟩
         have HX4 : Aside0 (w3.drew.heap[gb]? = some (.cells #[.int .i64 0, .int .i64 0, .string ⟨#[]⟩] 24 (0, 0))) := ⟨HX3.out⟩
         have HS4 : Aside0 (b0 ≤ w3.drew.heap.size) := ⟨HS3.out⟩
         clear q0 q1 HR3 HW3 HO3 HX3 HS3
         generalize w3.drew = w4 at *
         go_wp2_with (first | (go_at_call 76; refine (HUc.out _).mono ?_; rintro e w5 ⟨v0, rfl, ho, hb5⟩; have HR5 := Aside0.mk (HR4.out.more hb5); have HW5 := Aside0.mk (HW4.out.more hb5); have HX5 := Aside0.mk ((hb5.block gb (blk_lt HX4.out)).trans HX4.out); have HO5 := Aside0.mk (Kd.R_below HO4.out hb5); have HS5 := Aside0.mk (Nat.le_trans HS4.out hb5.size); have z1 := HR5.out.c1; clear HR4 HW4 HX4 HO4 HS4 hb5; obtain ⟨A0, c0, rfl⟩ := Kd.R_slice ho; clear ho) | (go_at_call 44; refine (stop_calls _ _ _ _).mono ?_; rintro e w5 ⟨rfl, rfl⟩))
         exact ⟨rfl, rfl, HW5.out⟩
       ·rw [if_neg hes] at HE1
        have heb : (bt s a == 37) = false := by simp [hes]
        have HE2 := Aside0.mk HE1
        clear hes HE1
        generalize bt s a = c at *
        go_wp2_with (first | (go_at_call 73; refine (HN.out _ HR.out).mono ?_; rintro e w3 ⟨rfl, hr3, W3⟩; have HR3 := Aside0.mk hr3; have HW3 := Aside0.mk (HW.out.trans W3); have HO3 := Aside0.mk (HO.out.keep W3 HGB.out); have hx3 := W3.keep.blk HX2.out HG.out (by simp); have HX3 := Aside0.mk hx3; have HS3 := Aside0.mk (Nat.le_trans HS.out W3.keep.1); clear HR HW HO HX2 HS hr3 W3 hx3 q0 q1) | ((with_reducible refine gate_builtin (b := .append) (xs := #[.tmp 57, .tmp 59]) rfl ?_); (try (refine gate_guard (by rfl) ?_; dsimp only)); at_builtin; refine Kd.R_append (Kd.int .u8) (w0 := w3) b0 rfl (.tmp 57) (.tmp 59) 59 5 (.int .u8 0) 1 rfl Tryz.underlying59 infoB rfl (by decide) (by omega) _ xs c [.int .u8 c] (fun k => b0 ≤ k) (fun _ => False) rfl rfl ?aP (fun _ hk => hk.elim) ?aF ?aO ?aB ?aS ?aL ?_; (case aP => exact rfl); (case aB => exact Below.refl _ _); (case aF => exact (fun _ hk => Nat.le_trans HS3.out hk)); (case aO => exact HO3.out); (case aS => exact HS3.out); (case aL => omega); intro v5 w6 ho hbb hgb hat; have HO6 := Aside0.mk ho; have HR6 := Aside0.mk (HR3.out.moreB hbb HGB.out); have HW6 := Aside0.mk (HW3.out.moreB hbb HWB.out); have HX6 := Aside0.mk ((hbb.block gb HXL.out).trans HX3.out); have HS6 := Aside0.mk (Nat.le_trans HS3.out hbb.size); clear ho hbb hgb hat HO3 HR3 HW3 HX3 HS3))
        exact ⟨⟨a + 1, xs ++ [c], v5, rfl, HO6, HR6.out, HW6, HX6, HS6, by omega, by omega, by simp; omega, HE2⟩, by rw [hpos, HR6.out.pos]; omega⟩
    ·obtain rfl := Option.some.inj ((dispE_end V U L hlt).symm.trans HE.out)
     clear HE hR
     go_wp2_with (first | (go_at_call 73; refine (need_end g s _ _ HR.out (by omega)).mono ?_; rintro e w3 ⟨rfl, W3⟩; have HW3 := Aside0.mk (HW.out.trans W3)))
     exact ⟨rfl, rfl, HW3.out⟩
  ·rw [if_neg fun h => hq h.2] at hR
   obtain rfl := Option.some.inj hR
   have hb34 : (bt s (at_ + 1) != 34) = true := by simp [hq]
   clear hq hR
   go_enter Tryz.func43, Tryz.ntmps43
   go_wp2_with (first
    | ((with_reducible refine gate_dst (N := 2) rfl ?_); refine box_event ?hg (N := 2) ?hd (cs := #[.int .i64 0, .int .i64 0, .string ⟨#[]⟩]) (t := 24) ?hr ?_; (case hd => rfl); (case hg => rfl); (case hr => first | (go_simp; done) | (go_simp; rfl)); intro gb hg w1 hbox hb; have W0 := Aside0.mk (((Went.refl w g).more hb).set 1 (.int .i64 (at_ + 1))); have hr1 := hr.more hb; have hc1 := hr1.c1; have hf1 := hr1.f1; have HR2 := Aside0.mk (hr1.set (at_ + 1)); have HGL := Aside0.mk (blk_lt hr); have HG := Aside0.mk (show gb ≠ g from fun e => by have := blk_lt hr; omega); have HGE := Aside0.mk (show w.heap.size ≤ gb by omega); have HX := Aside0.mk (blk_far (p := ⟨g, 1, none⟩) hbox HG.out (.int .i64 (at_ + 1))); clear hb hbox hg hr1))
   generalize w1.setCell ⟨g, 1, none⟩ (.int .i64 (at_ + 1)) = w2 at *
   clear hc1 hf1
   have q0 := HR2.out.c0
   have q1 := HR2.out.c1
   have f1 := HR2.out.f1
   have HQ2 := Aside0.mk (HQ.out w2 HR2.out)
   go_quiet (first | (go_at_call 71; exact HQ2.out _))
   go_wp2_with (first | (go_at_call 44; refine (stop_calls _ _ _ _).mono ?_; rintro e w5 ⟨rfl, rfl⟩))
   exact ⟨rfl, rfl, W0.out.drewN _⟩
 ·rw [if_neg fun h => hn h.1] at hR
  obtain rfl := Option.some.inj hR
  clear hR
  have HQ := Aside0.mk (fun w1 (hr1 : RdAt w1 g s (at_ + 1)) => end_quiet' hr1 hn)
  go_enter Tryz.func43, Tryz.ntmps43
  go_wp2_with (first
   | ((with_reducible refine gate_dst (N := 2) rfl ?_); refine box_event ?hg (N := 2) ?hd (cs := #[.int .i64 0, .int .i64 0, .string ⟨#[]⟩]) (t := 24) ?hr ?_; (case hd => rfl); (case hg => rfl); (case hr => first | (go_simp; done) | (go_simp; rfl)); intro gb hg w1 hbox hb; have W0 := Aside0.mk (((Went.refl w g).more hb).set 1 (.int .i64 (at_ + 1))); have hr1 := hr.more hb; have hc1 := hr1.c1; have hf1 := hr1.f1; have HR2 := Aside0.mk (hr1.set (at_ + 1)); have HGL := Aside0.mk (blk_lt hr); have HG := Aside0.mk (show gb ≠ g from fun e => by have := blk_lt hr; omega); have HGE := Aside0.mk (show w.heap.size ≤ gb by omega); have HX := Aside0.mk (blk_far (p := ⟨g, 1, none⟩) hbox HG.out (.int .i64 (at_ + 1))); clear hb hbox hg hr1))
  generalize w1.setCell ⟨g, 1, none⟩ (.int .i64 (at_ + 1)) = w2 at *
  clear hc1 hf1
  have q0 := HR2.out.c0
  have q1 := HR2.out.c1
  have f1 := HR2.out.f1
  have HQ2 := Aside0.mk (HQ.out w2 HR2.out)
  go_quiet (first | (go_at_call 71; exact HQ2.out _))
  go_wp2_with (first | (go_at_call 44; refine (stop_calls _ _ _ _).mono ?_; rintro e w5 ⟨rfl, rfl⟩))
  exact ⟨rfl, rfl, W0.out.drewN _⟩
end Go.Proofs.YtkbmbancfbfddaaGreatDoorW.PrintWords
