-- Written by wip/xprint.py for this seat
import Derived.Test.YtjadlnmphcoioaaGreatDoorX0
import Derived.Test.YtjadlnmphcoioaaGreatDoorX2
namespace Go.Proofs.YtjadlnmphcoioaaGreatDoor.X
open Go.RowKit Go.Proofs.YtjadlnmphcoioaaGreatDoorW.PrintWords Go.Proofs.YtjadlnmphcoioaaGreatDoorW.PrintLast Go.Proofs.YtjadlnmphcoioaaGreatDoorW.PrintMore
attribute [local go_sem] max2_int min2_int max_two min_two max_three min_three max_four min_four   -- for this text's walks alone
set_option linter.unusedVariables false
set_option linter.unusedSimpArgs false

/-! ### pergolaplain_SameBytes: function 46 -/
def pergolaplain_SameBytes.l0 : Nat → List Int → List Int → Int → Option (Bool)
 | 0, _, _, _ => none
 | k + 1, x0, x1, x5 => if x5 < (x0.length : Int) then (if 0 ≤ x5 then (if x5 < (x1.length : Int) then (if (rd x0 x5) = (rd x1 x5) then (pergolaplain_SameBytes.l0 k x0 x1 (wrap64 (x5 + 1))) else (some false)) else (none)) else (none)) else (some true)
def pergolaplain_SameBytes.f (k : Nat) (l0 : List Int) (l1 : List Int) : Option (Bool) := if (l0.length : Int) = (l1.length : Int) then (pergolaplain_SameBytes.l0 k l0 l1 0) else (some false)
theorem pergolaplain_SameBytes.mono_l : ∀ k, (∀ y0 y1 y2, LeO (pergolaplain_SameBytes.l0 k y0 y1 y2) (pergolaplain_SameBytes.l0 (k + 1) y0 y1 y2))
 | 0 => fun _ _ _ r h => by simp [pergolaplain_SameBytes.l0] at h
 | k + 1 => by
  have ih0 := pergolaplain_SameBytes.mono_l k
  ·intro y0 y1 y2
   unfold pergolaplain_SameBytes.l0
   repeat' first
   | (with_reducible exact ih0 _ _ _)
   | (with_reducible exact LeO.refl _)
   | (with_reducible exact LeO.none _)
   | (with_reducible refine LeO.ite ?_ ?_)
   | (with_reducible refine LeO.bind ?_ (fun _ => ?_))
   | exact ih0 _ _ _
   | exact LeO.none _
   | refine LeO.ite ?_ ?_
   | refine LeO.bind ?_ (fun _ => ?_)
theorem pergolaplain_SameBytes.mono : ∀ a0 a1 k, LeO (pergolaplain_SameBytes.f k a0 a1) (pergolaplain_SameBytes.f (k + 1) a0 a1) := by
 intro a0 a1 k
 have ih0 := pergolaplain_SameBytes.mono_l k
 unfold pergolaplain_SameBytes.f
 repeat' first
   | (with_reducible exact ih0 _ _ _)
   | (with_reducible exact LeO.refl _)
   | (with_reducible exact LeO.none _)
   | (with_reducible refine LeO.ite ?_ ?_)
   | (with_reducible refine LeO.bind ?_ (fun _ => ?_))
   | exact ih0 _ _ _
   | exact LeO.none _
   | refine LeO.ite ?_ ?_
   | refine LeO.bind ?_ (fun _ => ?_)
set_option maxHeartbeats 8000000 in
set_option maxRecDepth 100000 in
theorem pergolaplain_SameBytes.calls (k : Nat) (A0 : Option Addr) (c0 : Nat) (l0 : List Int) (A1 : Option Addr) (c1 : Nat) (l1 : List Int) (r : Bool) (w : World) (hr0 : Kd.C (Kd.int .u8) w A0 l0.length l0) (hc0 : l0.length ≤ c0) (hr1 : Kd.C (Kd.int .u8) w A1 l1.length l1) (hc1 : l1.length ≤ c1) (h : pergolaplain_SameBytes.f k l0 l1 = some r) :
  Calls Tryz.prog 46 #[.slice A0 l0.length c0, .slice A1 l1.length c1] w fun e w' => e = .returned (.bool r) ∧ Drawn0 w w' := by
 have HR0 := Aside0.mk hr0
 have HC0 := Aside0.mk hc0
 clear hr0 hc0
 have HR1 := Aside0.mk hr1
 have HC1 := Aside0.mk hc1
 clear hr1 hc1
 have H : (if (l0.length : Int) = (l1.length : Int) then (pergolaplain_SameBytes.l0 k l0 l1 0) else (some false)) = some r := h
 clear h
 by_cases c3 : (l0.length : Int) = (l1.length : Int)
 ·rw [if_pos c3] at H
  have c3b0 : ((l0.length : Int) == (l1.length : Int)) = true := beq_iff_eq.mpr c3
  have c3b1 : ((l0.length : Int) != (l1.length : Int)) = false := bne_eq_false_iff_eq.mpr c3
  have c3b2 : (l0.length == l1.length) = true := by first | simpa using c3 | (simp at c3 ⊢; omega)
  clear c3
  have H' := Aside0.mk H
  clear H
  go_enter Tryz.func46, Tryz.ntmps46
  go_wp2
  repeat (go_quiet (fail); try go_wp2)
  go_loopg [5] k (fun kq v5 w' => ∃ (x5_1 : Int), v5 = .int .i64 x5_1 ∧ Aside0 (pergolaplain_SameBytes.l0 kq l0 l1 x5_1 = some r) ∧ Aside0 (kq ≤ k) ∧ Drawn0 w w')
  case atStart => exact ⟨(0), (by first | rfl | (simp; done) | (simp [*]; done)), H', ⟨Nat.le_refl _⟩, by repeat (first | exact Drawn0.refl _ | apply Drawn0.step)⟩
  case round =>
   clear H'
   try clear c1
   try clear p2
   try clear c3
   try clear c3b0
   try clear c3b1
   try clear c3b2
   obtain ⟨x5_1, rfl, HA, HK1, ⟨m1, rfl⟩⟩ := hrel
   cases gk with
   | zero => exact absurd HA.out (by simp [pergolaplain_SameBytes.l0])
   | succ k1 =>
    have H := HA.out
    clear HA
    simp only [pergolaplain_SameBytes.l0] at H
    by_cases c4 : x5_1 < (l0.length : Int)
    ·rw [if_pos c4] at H
     have c4b0 : decide (x5_1 < (l0.length : Int)) = true := decide_eq_true c4
     clear c4
     by_cases c5 : 0 ≤ x5_1
     ·rw [if_pos c5] at H
      have c5b0 : decide (0 ≤ x5_1) = true := decide_eq_true c5
      clear c5
      by_cases c6 : x5_1 < (l1.length : Int)
      ·rw [if_pos c6] at H
       have c6b0 : decide (x5_1 < (l1.length : Int)) = true := decide_eq_true c6
       clear c6
       by_cases c7 : (rd l0 x5_1) = (rd l1 x5_1)
       ·rw [if_pos c7] at H
        have c7b0 : ((rd l0 x5_1) == (rd l1 x5_1)) = true := beq_iff_eq.mpr c7
        have c7b1 : ((rd l0 x5_1) != (rd l1 x5_1)) = false := bne_eq_false_iff_eq.mpr c7
        clear c7
        have H' := Aside0.mk H
        clear H
        have p110 : 0 ≤ (x5_1 : Int) := of_decide_eq_true (by first | (with_reducible assumption) | assumption)
        have q110 : x5_1 < (l0.length : Int) := of_decide_eq_true (by first | (with_reducible assumption) | assumption)
        obtain ⟨ad110, e110, hx110_0⟩ := Kd.at_int HR0.out x5_1 p110 q110
        cases e110
        replace p110 := eq_true p110
        replace q110 := eq_true q110
        have p111 : 0 ≤ (x5_1 : Int) := of_decide_eq_true (by first | (with_reducible assumption) | assumption)
        have q111 : x5_1 < (l1.length : Int) := of_decide_eq_true (by first | (with_reducible assumption) | assumption)
        obtain ⟨ad111, e111, hx111_0⟩ := Kd.at_int HR1.out x5_1 p111 q111
        cases e111
        replace p111 := eq_true p111
        replace q111 := eq_true q111
        go_wp2
        repeat (go_quiet (fail); try go_wp2)
        go_roundg k1
        case measure => have := HK1.out; omega
        case rel => exact ⟨(wrap64 (x5_1 + 1)), (by first | rfl | (simp; done) | (simp [*]; done)), H', ⟨by have := HK1.out; omega⟩, by repeat (first | exact Drawn0.refl _ | apply Drawn0.step)⟩
       ·rw [if_neg c7] at H
        have c7b0 : ((rd l0 x5_1) == (rd l1 x5_1)) = false := beq_eq_false_iff_ne.mpr c7
        have c7b1 : ((rd l0 x5_1) != (rd l1 x5_1)) = true := bne_iff_ne.mpr c7
        obtain rfl := Option.some.inj H
        have p110 : 0 ≤ (x5_1 : Int) := of_decide_eq_true (by first | (with_reducible assumption) | assumption)
        have q110 : x5_1 < (l0.length : Int) := of_decide_eq_true (by first | (with_reducible assumption) | assumption)
        obtain ⟨ad110, e110, hx110_0⟩ := Kd.at_int HR0.out x5_1 p110 q110
        cases e110
        replace p110 := eq_true p110
        replace q110 := eq_true q110
        have p111 : 0 ≤ (x5_1 : Int) := of_decide_eq_true (by first | (with_reducible assumption) | assumption)
        have q111 : x5_1 < (l1.length : Int) := of_decide_eq_true (by first | (with_reducible assumption) | assumption)
        obtain ⟨ad111, e111, hx111_0⟩ := Kd.at_int HR1.out x5_1 p111 q111
        cases e111
        replace p111 := eq_true p111
        replace q111 := eq_true q111
        go_wp2
        repeat (go_quiet (fail); try go_wp2)
        go_ret
        exact ⟨by first | rfl | (simp; done) | (simp [*]; done), by repeat (first | exact Drawn0.refl _ | apply Drawn0.step)⟩
      ·rw [if_neg c6] at H
       exact absurd H (by simp)
     ·rw [if_neg c5] at H
      exact absurd H (by simp)
    ·rw [if_neg c4] at H
     have c4b0 : decide (x5_1 < (l0.length : Int)) = false := decide_eq_false c4
     clear c4
     obtain rfl := Option.some.inj H
     go_wp2
     repeat (go_quiet (fail); try go_wp2)
     go_ret
     exact ⟨by first | rfl | (simp; done) | (simp [*]; done), by repeat (first | exact Drawn0.refl _ | apply Drawn0.step)⟩
 ·rw [if_neg c3] at H
  have c3b0 : ((l0.length : Int) == (l1.length : Int)) = false := beq_eq_false_iff_ne.mpr c3
  have c3b1 : ((l0.length : Int) != (l1.length : Int)) = true := bne_iff_ne.mpr c3
  have c3b2 : (l0.length == l1.length) = false := by first | simpa using c3 | (simp at c3 ⊢; omega)
  obtain rfl := Option.some.inj H
  go_enter Tryz.func46, Tryz.ntmps46
  go_wp2
  repeat (go_quiet (fail); try go_wp2)
  go_ret
  exact ⟨by first | rfl | (simp; done) | (simp [*]; done), by repeat (first | exact Drawn0.refl _ | apply Drawn0.step)⟩

/-! ### given: (*pergola/pergolaplain.Given).Intact -/
-- USES pergola/pergolaplain.SameBytes
-- USES pergola/pergolaplain.SameHeaders
-- INFO 72
theorem pergolaplain_Given_Intact.sameB_l (l : List Int) (hl : l.length ≤ 140737488355328) : ∀ (m j : Nat), j + m = l.length → ∀ k, m + 1 ≤ k → pergolaplain_SameBytes.l0 k l l j = some true := by
 intro m
 induction m with
 | zero =>
  intro j hj k hk
  obtain ⟨k, rfl⟩ : ∃ k', k = k' + 1 := ⟨k - 1, by omega⟩
  rw [pergolaplain_SameBytes.l0, if_neg (by omega)]
 | succ m ih =>
  intro j hj k hk
  obtain ⟨k, rfl⟩ : ∃ k', k = k' + 1 := ⟨k - 1, by omega⟩
  rw [pergolaplain_SameBytes.l0, if_pos (by omega), if_pos (by omega), if_pos (by omega), if_pos rfl, show wrap64 ((j : Int) + 1) = ((j + 1 : Nat) : Int) by unfold wrap64; omega]
  exact ih (j + 1) (by omega) k (by omega)
theorem pergolaplain_Given_Intact.sameB (l : List Int) (hl : l.length ≤ 140737488355328) : pergolaplain_SameBytes.f (l.length + 1) l l = some true := by
 unfold pergolaplain_SameBytes.f
 rw [if_pos rfl]
 exact pergolaplain_Given_Intact.sameB_l l hl l.length 0 (by omega) _ (by omega)
theorem pergolaplain_Given_Intact.sameH_l (l : List (S72)) (hl : l.length ≤ 140737488355328) : ∀ (m j : Nat), j + m = l.length → ∀ k, m + 1 ≤ k → pergolaplain_SameHeaders.l0 k l l j = some true := by
 intro m
 induction m with
 | zero =>
  intro j hj k hk
  obtain ⟨k, rfl⟩ : ∃ k', k = k' + 1 := ⟨k - 1, by omega⟩
  rw [pergolaplain_SameHeaders.l0, if_neg (by omega)]
 | succ m ih =>
  intro j hj k hk
  obtain ⟨k, rfl⟩ : ∃ k', k = k' + 1 := ⟨k - 1, by omega⟩
  rw [pergolaplain_SameHeaders.l0, if_pos (by omega), if_pos (by omega), if_pos (by omega), if_neg (by simp), show wrap64 ((j : Int) + 1) = ((j + 1 : Nat) : Int) by unfold wrap64; omega]
  exact ih (j + 1) (by omega) k (by omega)
theorem pergolaplain_Given_Intact.sameH (l : List (S72)) (hl : l.length ≤ 140737488355328) : pergolaplain_SameHeaders.f (l.length + 1) l l = some true := by
 unfold pergolaplain_SameHeaders.f
 rw [if_pos rfl]
 exact pergolaplain_Given_Intact.sameH_l l hl l.length 0 (by omega) _ (by omega)
set_option maxHeartbeats 8000000 in
set_option maxRecDepth 100000 in
theorem pergolaplain_Given_Intact.calls (hd_ : Bool) (g : Nat) (w : World) (hg : GivK k72 72 hd_ w g) :
  Calls Tryz.prog 13 #[.pointer (some ⟨g, 0, none⟩)] w fun e w' => e = .returned (.bool true) ∧ Below w.heap.size w w' := by
 obtain ⟨A1, A2, c1, c2, xss, B1, B2, d1, d2, hss, b1, b2, b3, b4, o1, o2, o3, o4, h0, hr1, hr2, hr3, hr4, hl, hn, hl', hn', _⟩ := hg
 have HR0 := Aside0.mk (Kd.R_reads' hr1).2.2
 have HR1 := Aside0.mk (Kd.R_reads' hr2).2.2
 have HR2 := Aside0.mk (Kd.R_reads' hr3).2.2
 have HR3 := Aside0.mk (Kd.R_reads' hr4).2.2
 have HL := Aside0.mk hl
 have HN := Aside0.mk hn
 have HL' := Aside0.mk hl'
 have HN' := Aside0.mk hn'
 have hx0 : w.cell? ⟨g, 0, none⟩ = some (.slice A1 xss.length c1) := (blk_cell h0 0).trans rfl
 have hx1 : w.cell? ⟨g, 1, none⟩ = some (.slice A2 xss.length c2) := (blk_cell h0 1).trans rfl
 have hx12 : w.cell? ⟨g, 12, none⟩ = some (.slice B1 hss.length d1) := (blk_cell h0 12).trans rfl
 have hx13 : w.cell? ⟨g, 13, none⟩ = some (.slice B2 hss.length d2) := (blk_cell h0 13).trans rfl
 have hz1 : w.cell? ⟨g, 2, none⟩ = some (.slice none 0 0) := (blk_cell h0 2).trans rfl
 have hz2 : w.cell? ⟨g, 4, none⟩ = some (.slice none 0 0) := (blk_cell h0 4).trans rfl
 have hz3 : w.cell? ⟨g, 6, none⟩ = some (.slice none 0 0) := (blk_cell h0 6).trans rfl
 have hz4 : w.cell? ⟨g, 8, none⟩ = some (.slice none 0 0) := (blk_cell h0 8).trans rfl
 have hz5 : w.cell? ⟨g, 10, none⟩ = some (.slice none 0 0) := (blk_cell h0 10).trans rfl
 have hz7 : w.cell? ⟨g, 14, none⟩ = some (.slice none 0 0) := (blk_cell h0 14).trans rfl
 have hz8 : w.cell? ⟨g, 16, none⟩ = some (.slice none 0 0) := (blk_cell h0 16).trans rfl
 have hz9 : w.cell? ⟨g, 18, none⟩ = some (.slice none 0 0) := (blk_cell h0 18).trans rfl
 have hz10 : w.cell? ⟨g, 20, none⟩ = some (.slice none 0 0) := (blk_cell h0 20).trans rfl
 have hz11 : w.cell? ⟨g, 22, none⟩ = some (.slice none 0 0) := (blk_cell h0 22).trans rfl
 have hz12 : w.cell? ⟨g, 24, none⟩ = some (.slice none 0 0) := (blk_cell h0 24).trans rfl
 have hz13 : w.cell? ⟨g, 26, none⟩ = some (.slice none 0 0) := (blk_cell h0 26).trans rfl
 have hz14 : w.cell? ⟨g, 28, none⟩ = some (.slice none 0 0) := (blk_cell h0 28).trans rfl
 have hz15 : w.cell? ⟨g, 30, none⟩ = some (.slice none 0 0) := (blk_cell h0 30).trans rfl
 clear hr1 hr2 hr3 hr4 hl hn hl' hn' h0
 go_enter Tryz.func13, Tryz.ntmps13
 go_wp2
 go_loopw [3] (fun v_ w' => ∃ (i : Int), v_ = .int .i64 i ∧ 0 ≤ i ∧ i ≤ (xss.length : Int) ∧ Drawn0 w w') (fun v_ _ => xss.length - (intOf v_).toNat)
 case atStart => exact ⟨0, rfl, Int.le_refl _, by omega, Drawn0.refl _⟩
 case round =>
  obtain ⟨i, rfl, hi0, hi, ⟨m3, rfl⟩⟩ := hrel
  have hn := HN.out
  by_cases c3 : i < (xss.length : Int)
  ·have c3b0 : decide (i < (xss.length : Int)) = true := decide_eq_true (by omega)
   have p232 : 0 ≤ i := hi0
   have q232 : i < (xss.length : Int) := c3
   obtain ⟨ad232, A232, c232, e232, hx232, hl232, hi232⟩ := at_K HR0.out i p232 q232
   cases e232
   obtain ⟨ad233, A233, c233, e233, hx233, hl233, hi233⟩ := at_K HR1.out i p232 q232
   cases e233
   have HI0 := Aside0.mk hi232
   have HC0 := Aside0.mk hl232
   have HI1 := Aside0.mk hi233
   have HC1 := Aside0.mk hl233
   clear hi232 hl232 hi233 hl233
   have hlen : (rdK xss i).length ≤ 140737488355328 := by
    unfold rdK
    rw [List.getD_eq_getElem?_getD, List.getElem?_eq_getElem (show i.toNat < xss.length by omega)]
    exact Nat.le_trans (HL.out _ (List.getElem_mem _)) (by omega)
   have HS := Aside0.mk (pergolaplain_Given_Intact.sameB (rdK xss i) hlen)
   clear hlen
   have hi9 : i + 1 ≤ 140737488355328 := by omega
   replace p232 := eq_true p232
   replace q232 := eq_true q232
   go_wp2_with (first | (go_at_call 46; (with_reducible refine (pergolaplain_SameBytes.calls _ _ _ (rdK xss i) _ _ (rdK xss i) true _ ?side1 ?side2 ?side3 ?side4 HS.out).mono ?_); (case side1 => repeat (first | exact HI0.out | (with_reducible refine Kd.C_alloc ?_ _) | (with_reducible refine Kd.C_drewN ?_ _) | (with_reducible refine Kd.C_drew ?_))); (case side2 => exact HC0.out); (case side3 => repeat (first | exact HI1.out | (with_reducible refine Kd.C_alloc ?_ _) | (with_reducible refine Kd.C_drewN ?_ _) | (with_reducible refine Kd.C_drew ?_))); (case side4 => exact HC1.out); rintro e w' ⟨rfl, ⟨nd, rfl⟩⟩; (try first | exact ⟨rfl, _, World.drewN_drewN _ _ _⟩ | exact ⟨rfl, _, Eq.trans (World.drewN_drewN _ _ _) (congrArg (World.drewN _) (Nat.add_assoc _ _ _))⟩)))
   repeat (go_quiet (first | (go_at_call 46; (with_reducible refine (pergolaplain_SameBytes.calls _ _ _ (rdK xss i) _ _ (rdK xss i) true _ ?side1 ?side2 ?side3 ?side4 HS.out).mono ?_); (case side1 => repeat (first | exact HI0.out | (with_reducible refine Kd.C_alloc ?_ _) | (with_reducible refine Kd.C_drewN ?_ _) | (with_reducible refine Kd.C_drew ?_))); (case side2 => exact HC0.out); (case side3 => repeat (first | exact HI1.out | (with_reducible refine Kd.C_alloc ?_ _) | (with_reducible refine Kd.C_drewN ?_ _) | (with_reducible refine Kd.C_drew ?_))); (case side4 => exact HC1.out); rintro e w' ⟨rfl, ⟨nd, rfl⟩⟩; (try first | exact ⟨rfl, _, World.drewN_drewN _ _ _⟩ | exact ⟨rfl, _, Eq.trans (World.drewN_drewN _ _ _) (congrArg (World.drewN _) (Nat.add_assoc _ _ _))⟩))); try go_wp2_with (first | (go_at_call 46; (with_reducible refine (pergolaplain_SameBytes.calls _ _ _ (rdK xss i) _ _ (rdK xss i) true _ ?side1 ?side2 ?side3 ?side4 HS.out).mono ?_); (case side1 => repeat (first | exact HI0.out | (with_reducible refine Kd.C_alloc ?_ _) | (with_reducible refine Kd.C_drewN ?_ _) | (with_reducible refine Kd.C_drew ?_))); (case side2 => exact HC0.out); (case side3 => repeat (first | exact HI1.out | (with_reducible refine Kd.C_alloc ?_ _) | (with_reducible refine Kd.C_drewN ?_ _) | (with_reducible refine Kd.C_drew ?_))); (case side4 => exact HC1.out); rintro e w' ⟨rfl, ⟨nd, rfl⟩⟩; (try first | exact ⟨rfl, _, World.drewN_drewN _ _ _⟩ | exact ⟨rfl, _, Eq.trans (World.drewN_drewN _ _ _) (congrArg (World.drewN _) (Nat.add_assoc _ _ _))⟩))))
   exact ⟨⟨i + 1, by first | rfl | (simp; done) | (simp [*]; done), by omega, by omega, by repeat (first | exact Drawn0.refl _ | exact Drawn0.mk ⟨_, rfl⟩ | apply Drawn0.step)⟩, by simp only [intOf]; omega⟩
  ·have c3b0 : decide (i < (xss.length : Int)) = false := decide_eq_false (by omega)
   have HD3 := Drawn0.mk (w := w) (w' := w.drewN m3) ⟨m3, rfl⟩
   clear hn
   go_wp2
   go_loop [4] (fun v => v = .int .i64 0) (fun _ => 0)
   case atStart => rfl
   case round =>
    subst hrel
    go_wp2
    go_loop [5] (fun v => v = .int .i64 0) (fun _ => 0)
    case atStart => rfl
    case round =>
     subst hrel
     go_wp2
     go_loop [6] (fun v => v = .int .i64 0) (fun _ => 0)
     case atStart => rfl
     case round =>
      subst hrel
      go_wp2
      go_loop [7] (fun v => v = .int .i64 0) (fun _ => 0)
      case atStart => rfl
      case round =>
       subst hrel
       go_wp2
       go_loop [8] (fun v => v = .int .i64 0) (fun _ => 0)
       case atStart => rfl
       case round =>
        subst hrel
        go_wp2
        go_loopw [9] (fun v_ w' => ∃ (i : Int), v_ = .int .i64 i ∧ 0 ≤ i ∧ i ≤ (hss.length : Int) ∧ Drawn0 w w') (fun v_ _ => hss.length - (intOf v_).toNat)
        case atStart => exact ⟨0, rfl, Int.le_refl _, by omega, by repeat (first | exact HD3 | exact Drawn0.refl _ | apply Drawn0.step)⟩
        case round =>
         obtain ⟨i, rfl, hi0, hi, ⟨m9, rfl⟩⟩ := hrel
         have hn := HN'.out
         by_cases c3 : i < (hss.length : Int)
         ·have c3b0 : decide (i < (hss.length : Int)) = true := decide_eq_true (by omega)
          have p232 : 0 ≤ i := hi0
          have q232 : i < (hss.length : Int) := c3
          obtain ⟨ad232, A232, c232, e232, hx232, hl232, hi232⟩ := at_K HR2.out i p232 q232
          cases e232
          obtain ⟨ad233, A233, c233, e233, hx233, hl233, hi233⟩ := at_K HR3.out i p232 q232
          cases e233
          have HI0 := Aside0.mk hi232
          have HC0 := Aside0.mk hl232
          have HI1 := Aside0.mk hi233
          have HC1 := Aside0.mk hl233
          clear hi232 hl232 hi233 hl233
          have hlen : (rdK hss i).length ≤ 140737488355328 := by
           unfold rdK
           rw [List.getD_eq_getElem?_getD, List.getElem?_eq_getElem (show i.toNat < hss.length by omega)]
           exact Nat.le_trans (HL'.out _ (List.getElem_mem _)) (by omega)
          have HS := Aside0.mk (pergolaplain_Given_Intact.sameH (rdK hss i) hlen)
          clear hlen
          have hi9 : i + 1 ≤ 140737488355328 := by omega
          replace p232 := eq_true p232
          replace q232 := eq_true q232
          go_wp2_with (first | (go_at_call 11; (with_reducible refine (pergolaplain_SameHeaders.calls _ _ _ (rdK hss i) _ _ (rdK hss i) true _ ?side1 ?side2 ?side3 ?side4 HS.out).mono ?_); (case side1 => repeat (first | exact HI0.out | (with_reducible refine Kd.C_alloc ?_ _) | (with_reducible refine Kd.C_drewN ?_ _) | (with_reducible refine Kd.C_drew ?_))); (case side2 => exact HC0.out); (case side3 => repeat (first | exact HI1.out | (with_reducible refine Kd.C_alloc ?_ _) | (with_reducible refine Kd.C_drewN ?_ _) | (with_reducible refine Kd.C_drew ?_))); (case side4 => exact HC1.out); rintro e w' ⟨rfl, ⟨nd, rfl⟩⟩; (try first | exact ⟨rfl, _, World.drewN_drewN _ _ _⟩ | exact ⟨rfl, _, Eq.trans (World.drewN_drewN _ _ _) (congrArg (World.drewN _) (Nat.add_assoc _ _ _))⟩)))
          repeat (go_quiet (first | (go_at_call 11; (with_reducible refine (pergolaplain_SameHeaders.calls _ _ _ (rdK hss i) _ _ (rdK hss i) true _ ?side1 ?side2 ?side3 ?side4 HS.out).mono ?_); (case side1 => repeat (first | exact HI0.out | (with_reducible refine Kd.C_alloc ?_ _) | (with_reducible refine Kd.C_drewN ?_ _) | (with_reducible refine Kd.C_drew ?_))); (case side2 => exact HC0.out); (case side3 => repeat (first | exact HI1.out | (with_reducible refine Kd.C_alloc ?_ _) | (with_reducible refine Kd.C_drewN ?_ _) | (with_reducible refine Kd.C_drew ?_))); (case side4 => exact HC1.out); rintro e w' ⟨rfl, ⟨nd, rfl⟩⟩; (try first | exact ⟨rfl, _, World.drewN_drewN _ _ _⟩ | exact ⟨rfl, _, Eq.trans (World.drewN_drewN _ _ _) (congrArg (World.drewN _) (Nat.add_assoc _ _ _))⟩))); try go_wp2_with (first | (go_at_call 11; (with_reducible refine (pergolaplain_SameHeaders.calls _ _ _ (rdK hss i) _ _ (rdK hss i) true _ ?side1 ?side2 ?side3 ?side4 HS.out).mono ?_); (case side1 => repeat (first | exact HI0.out | (with_reducible refine Kd.C_alloc ?_ _) | (with_reducible refine Kd.C_drewN ?_ _) | (with_reducible refine Kd.C_drew ?_))); (case side2 => exact HC0.out); (case side3 => repeat (first | exact HI1.out | (with_reducible refine Kd.C_alloc ?_ _) | (with_reducible refine Kd.C_drewN ?_ _) | (with_reducible refine Kd.C_drew ?_))); (case side4 => exact HC1.out); rintro e w' ⟨rfl, ⟨nd, rfl⟩⟩; (try first | exact ⟨rfl, _, World.drewN_drewN _ _ _⟩ | exact ⟨rfl, _, Eq.trans (World.drewN_drewN _ _ _) (congrArg (World.drewN _) (Nat.add_assoc _ _ _))⟩))))
          exact ⟨⟨i + 1, by first | rfl | (simp; done) | (simp [*]; done), by omega, by omega, by repeat (first | exact Drawn0.refl _ | exact Drawn0.mk ⟨_, rfl⟩ | apply Drawn0.step)⟩, by simp only [intOf]; omega⟩
         ·have c3b0 : decide (i < (hss.length : Int)) = false := decide_eq_false (by omega)
          have HD9 := Drawn0.mk (w := w) (w' := w.drewN m9) ⟨m9, rfl⟩
          clear hn
          go_wp2
          go_loop [10] (fun v => v = .int .i64 0) (fun _ => 0)
          case atStart => rfl
          case round =>
           subst hrel
           go_wp2
           go_loop [11] (fun v => v = .int .i64 0) (fun _ => 0)
           case atStart => rfl
           case round =>
            subst hrel
            go_wp2
            go_loop [12] (fun v => v = .int .i64 0) (fun _ => 0)
            case atStart => rfl
            case round =>
             subst hrel
             go_wp2
             go_loop [13] (fun v => v = .int .i64 0) (fun _ => 0)
             case atStart => rfl
             case round =>
              subst hrel
              go_wp2
              go_loop [14] (fun v => v = .int .i64 0) (fun _ => 0)
              case atStart => rfl
              case round =>
               subst hrel
               go_wp2
               go_loop [15] (fun v => v = .int .i64 0) (fun _ => 0)
               case atStart => rfl
               case round =>
                subst hrel
                go_wp2
                go_loop [16] (fun v => v = .int .i64 0) (fun _ => 0)
                case atStart => rfl
                case round =>
                 subst hrel
                 go_wp2
                 go_loop [17] (fun v => v = .int .i64 0) (fun _ => 0)
                 case atStart => rfl
                 case round =>
                  subst hrel
                  go_wp2
                  go_loop [18] (fun v => v = .int .i64 0) (fun _ => 0)
                  case atStart => rfl
                  case round =>
                   subst hrel
                   go_wp2
                   go_ret
                   exact ⟨by first | rfl | (simp; done) | (simp [*]; done), by repeat (first | exact HD9.below | exact HD3.below | apply below_alloc | apply pw_below_drewN | apply below_drew1)⟩

/-! ### given: pergola/octets.turned -/
def turn1 (a b c : Int) : Int := if a ≤ c then (if c ≤ b then Go.bits .xor .u8 c 32 else c) else c
def octets_turned.f (a0 : ByteArray) (a1 a2 : Int) : Option ByteArray := if a0.size ≤ 9223372036854775807 then some (strOfNums ((bytesOf a0).map (turn1 a1 a2))) else none
theorem turned_at (xs : List Int) (a b : Int) (k : Nat) (hk : k < xs.length) : ((xs.take k).map (turn1 a b) ++ xs.drop k).getD k 0 = xs.getD k 0 := by
 have hm : min k xs.length = k := Nat.min_eq_left (Nat.le_of_lt hk)
 rw [List.getD_eq_getElem?_getD, List.getElem?_append_right (by simp [hm]), List.getD_eq_getElem?_getD]
 simp [hm]
theorem turned_step (xs : List Int) (a b : Int) (k : Nat) (hk : k < xs.length) : ((xs.take k).map (turn1 a b) ++ xs.drop k).set k (turn1 a b (xs.getD k 0)) = (xs.take (k + 1)).map (turn1 a b) ++ xs.drop (k + 1) := by
 have hm : min k xs.length = k := Nat.min_eq_left (Nat.le_of_lt hk)
 rw [List.set_append_right _ _ (by simp [hm]), List.take_succ_eq_append_getElem hk, List.map_append]
 simp only [List.length_map, List.length_take, hm, Nat.sub_self]
 rw [List.drop_eq_getElem_cons hk, List.set_cons_zero, List.append_assoc]
 simp [List.getD_eq_getElem?_getD, List.getElem?_eq_getElem hk]
theorem turned_skip (xs : List Int) (a b : Int) (k : Nat) (hk : k < xs.length) (h : turn1 a b (xs.getD k 0) = xs.getD k 0) : (xs.take k).map (turn1 a b) ++ xs.drop k = (xs.take (k + 1)).map (turn1 a b) ++ xs.drop (k + 1) := by
 have e : turn1 a b xs[k] = xs[k] := by simpa [List.getD_eq_getElem?_getD, List.getElem?_eq_getElem hk] using h
 rw [List.take_succ_eq_append_getElem hk, List.map_append, List.drop_eq_getElem_cons hk]
 simp [e]
set_option maxHeartbeats 1000000 in
theorem octets_turned.calls (a0 : ByteArray) (a1 a2 : Int) (r : ByteArray) (w : World) (h : octets_turned.f a0 a1 a2 = some r) :
  Calls Tryz.prog 105 #[.string a0, .int .u8 a1, .int .u8 a2] w fun e w' => e = .returned (.string r) ∧ Below w.heap.size w w' := by
 unfold octets_turned.f at h
 by_cases hs : a0.size ≤ 9223372036854775807
 ·rw [if_pos hs] at h
  obtain rfl := Option.some.inj h
  clear h
  have kb := fun W => print_bytes (P := Tryz.prog) 9 63 5 Tryz.underlying9 Tryz.underlying63 Tryz.underlying5 a0 W
  go_enter Tryz.func105, Tryz.ntmps105
  go_wp2
  have hl := bytesOf_length a0
  generalize hbs : bytesOf a0 = bs at *
  have HM : Marked (Lib.bytesWorld w 5 a0) 5 w.heap.size bs := by rw [← hbs]; exact Marked.new w 5 a0
  have HB : Below w.heap.size w (Lib.bytesWorld w 5 a0) := bytes_below (Below.refl _ _) (Nat.le_refl _) _ _
  clear kb
  go_loopw [14] (fun v14 wr => ∃ k : Nat, v14 = .int .i64 k ∧ k ≤ a0.size ∧ Marked wr 5 w.heap.size ((bs.take k).map (turn1 a1 a2) ++ bs.drop k) ∧ Below w.heap.size w wr) (fun v14 _ => a0.size - (intOf v14).toNat)
  case atStart => exact ⟨0, rfl, Nat.zero_le _, by simpa using HM, HB⟩
  case round =>
   clear HM HB
   obtain ⟨k, rfl, hk, hm, hb⟩ := hrel
   have HL := Aside0.mk hl
   have HBS := Aside0.mk hbs
   clear hl hbs
   by_cases hlt : k < a0.size
   ·have hkb : k < bs.length := by rw [HL.out]; exact hlt
    obtain ⟨hc, hf⟩ := hm.get k (by simp; omega)
    rw [turned_at bs a1 a2 k hkb] at hc
    have hset := hm.set k (turn1 a1 a2 (bs.getD k 0))
    rw [turned_step bs a1 a2 k hkb] at hset
    have hskip := turned_skip bs a1 a2 k hkb
    have hbw := Marked.write hb (Nat.le_refl _) k (.int .u8 (turn1 a1 a2 (bs.getD k 0)))
    generalize bs.getD k 0 = c at *
    by_cases t1 : a1 ≤ c
    ·by_cases t2 : c ≤ a2
     ·have e : turn1 a1 a2 c = Go.bits .xor .u8 c 32 := by unfold turn1; rw [if_pos t1, if_pos t2]
      rw [e] at hset hbw
      clear e
      have HM := Aside0.mk hm
      have HS := Aside0.mk hset
      clear hm hset hskip
      go_wp2
      exact ⟨⟨k + 1, by go_num, by omega, HS.out, hbw⟩, by simp [intOf]; omega⟩
     ·have hm2 := hm
      rw [hskip (by unfold turn1; rw [if_pos t1, if_neg t2])] at hm2
      have HM := Aside0.mk hm2
      clear hm hset hskip hbw hm2
      go_wp2
      exact ⟨⟨k + 1, by go_num, by omega, HM.out, hb⟩, by simp [intOf]; omega⟩
    ·have hm2 := hm
     rw [hskip (by unfold turn1; rw [if_neg t1])] at hm2
     have HM := Aside0.mk hm2
     clear hm hset hskip hbw hm2
     go_wp2
     exact ⟨⟨k + 1, by go_num, by omega, HM.out, hb⟩, by simp [intOf]; omega⟩
   ·obtain rfl : k = a0.size := by omega
    rw [List.take_of_length_le (by rw [HL.out]; omega), List.drop_of_length_le (by rw [HL.out]; omega), List.append_nil] at hm
    have hcv := fun n => Marked.string (P := Tryz.prog) (src := 63) (dst := 9) hm Tryz.underlying63 Tryz.underlying5 Tryz.underlying9 a0.size n (by rw [List.length_map]; exact HL.out)
    have HM := Aside0.mk hm
    clear hm
    go_wp2
    go_ret
    exact ⟨by rw [HBS.out]; rfl, hb⟩
 ·rw [if_neg hs] at h
  cases h

/-! ### octets_Lower: function 63 -/
def octets_Lower.f (a0 : ByteArray) : Option (ByteArray) := (octets_turned.f a0 65 90).bind fun t112 => (some t112)
set_option maxHeartbeats 8000000 in
set_option maxRecDepth 100000 in
theorem octets_Lower.calls (a0 : ByteArray) (r : ByteArray) (w : World) (h : octets_Lower.f a0 = some r) :
  Calls Tryz.prog 63 #[.string a0] w fun e w' => e = .returned (.string r) ∧ Below w.heap.size w w' := by
 have HB := Aside0.mk (Below.refl w.heap.size w)
 have H : ((octets_turned.f a0 65 90).bind fun t112 => (some t112)) = some r := h
 clear h
 replace H := Option.bind_eq_some_iff.mp H
 obtain ⟨t112, A20, H⟩ := H
 replace H : (some t112) = some r := H
 have A2 := Aside0.mk A20
 clear A20
 obtain rfl := Option.some.inj H
 go_enter Tryz.func63, Tryz.ntmps63
 go_wp2_with (first | ((with_reducible refine gate_callee (f := 105) rfl ?_); refine goesL_ (some 4) rfl rfl Tryz.func105 (by kernel_rfl) rfl #[.string a0, .int .u8 65, .int .u8 90] rfl (by (try simp only [List.map_toArray, List.map_cons, List.map_nil]); first | done | rfl | (simp only [List.length_drop, List.length_take]; rfl)) ?_; (with_reducible refine (octets_turned.calls a0 65 90 t112 _ A2.out).mono ?_); rintro e w3 ⟨rfl, hb⟩; refine ⟨_, rfl, ?_⟩; have n0_ := Aside0.mk (below_step (by repeat (first | (with_reducible first | exact HB.out | apply below_alloc | apply pw_below_drewN | apply below_drew1) | exact HB.out)) hb); clear HB; have HB := n0_; clear n0_; (try clear hb); (try clear hb2); (try clear hk); (try clear hi)))
 go_ret
 exact ⟨by first | rfl | (simp [errW_none, errW_some] <;> rfl) | (simp [*, errW_none, errW_some] <;> rfl), by repeat (first | (with_reducible first | exact HB.out | apply below_alloc | apply pw_below_drewN | apply below_drew1) | exact HB.out)⟩

/-! ### octets_Same: function 40 -/
def octets_Same.f (a0 : ByteArray) (a1 : ByteArray) : Option (Bool) := (octets_Lower.f a0).bind fun t113 => ((octets_Lower.f a1).bind fun t114 => (some (t113.toList == t114.toList)))
set_option maxHeartbeats 8000000 in
set_option maxRecDepth 100000 in
theorem octets_Same.calls (a0 : ByteArray) (a1 : ByteArray) (r : Bool) (w : World) (h : octets_Same.f a0 a1 = some r) :
  Calls Tryz.prog 40 #[.string a0, .string a1] w fun e w' => e = .returned (.bool r) ∧ Below w.heap.size w w' := by
 have HB := Aside0.mk (Below.refl w.heap.size w)
 have H : ((octets_Lower.f a0).bind fun t113 => ((octets_Lower.f a1).bind fun t114 => (some (t113.toList == t114.toList)))) = some r := h
 clear h
 replace H := Option.bind_eq_some_iff.mp H
 obtain ⟨t113, A30, H⟩ := H
 replace H : ((octets_Lower.f a1).bind fun t114 => (some (t113.toList == t114.toList))) = some r := H
 have A3 := Aside0.mk A30
 clear A30
 replace H := Option.bind_eq_some_iff.mp H
 obtain ⟨t114, A40, H⟩ := H
 replace H : (some (t113.toList == t114.toList)) = some r := H
 have A4 := Aside0.mk A40
 clear A40
 obtain rfl := Option.some.inj H
 go_enter Tryz.func40, Tryz.ntmps40
 go_wp2_with (first | ((with_reducible refine gate_callee (f := 63) rfl ?_); refine goesL_ (some 6) rfl rfl Tryz.func63 (by kernel_rfl) rfl #[.string a0] rfl (by (try simp only [List.map_toArray, List.map_cons, List.map_nil]); first | done | rfl | (simp only [List.length_drop, List.length_take]; rfl)) ?_; (with_reducible refine (octets_Lower.calls a0 t113 _ A3.out).mono ?_); rintro e w5 ⟨rfl, hb⟩; refine ⟨_, rfl, ?_⟩; have n0_ := Aside0.mk (below_step (by repeat (first | (with_reducible first | exact HB.out | apply below_alloc | apply pw_below_drewN | apply below_drew1) | exact HB.out)) hb); clear HB; have HB := n0_; clear n0_; (try clear hb); (try clear hb2); (try clear hk); (try clear hi)) | ((with_reducible refine gate_callee (f := 63) rfl ?_); refine goesL_ (some 8) rfl rfl Tryz.func63 (by kernel_rfl) rfl #[.string a1] rfl (by (try simp only [List.map_toArray, List.map_cons, List.map_nil]); first | done | rfl | (simp only [List.length_drop, List.length_take]; rfl)) ?_; (with_reducible refine (octets_Lower.calls a1 t114 _ A4.out).mono ?_); rintro e w6 ⟨rfl, hb⟩; refine ⟨_, rfl, ?_⟩; have n0_ := Aside0.mk (below_step (by repeat (first | (with_reducible first | exact HB.out | apply below_alloc | apply pw_below_drewN | apply below_drew1) | exact HB.out)) hb); clear HB; have HB := n0_; clear n0_; (try clear hb); (try clear hb2); (try clear hk); (try clear hi)))
 go_ret
 exact ⟨by first | rfl | (simp [errW_none, errW_some] <;> rfl) | (simp [*, errW_none, errW_some] <;> rfl), by repeat (first | (with_reducible first | exact HB.out | apply below_alloc | apply pw_below_drewN | apply below_drew1) | exact HB.out)⟩

/-! ### headers_All: function 20 -/
def headers_All.l0 : Nat → ByteArray → List ByteArray → List (S72) → Int → Int → Option (List ByteArray)
 | 0, _, _, _, _, _ => none
 | k + 1, x1, x5, x8, x9, x10 => if x10 < x9 then (if 0 ≤ x10 then (if x10 < (x8.length : Int) then ((octets_Same.f ((rd_T72 x8 x10).f0) x1).bind fun t117 => (if t117 = true then (if x5.length < 8796093022208 then (headers_All.l0 k x1 (x5 ++ [(rd_T72 x8 x10).f1]) x8 x9 (wrap64 (x10 + 1))) else (none)) else (headers_All.l0 k x1 x5 x8 x9 (wrap64 (x10 + 1))))) else (none)) else (none)) else (some x5)
def headers_All.f (k : Nat) (l0 : List (S72)) (a1 : ByteArray) : Option (List ByteArray) := headers_All.l0 k a1 ([] : List ByteArray) l0 (l0.length : Int) 0
theorem headers_All.mono_l : ∀ k, (∀ y0 y1 y2 y3 y4, LeO (headers_All.l0 k y0 y1 y2 y3 y4) (headers_All.l0 (k + 1) y0 y1 y2 y3 y4))
 | 0 => fun _ _ _ _ _ r h => by simp [headers_All.l0] at h
 | k + 1 => by
  have ih0 := headers_All.mono_l k
  ·intro y0 y1 y2 y3 y4
   unfold headers_All.l0
   repeat' first
   | (with_reducible exact ih0 _ _ _ _ _)
   | (with_reducible exact LeO.refl _)
   | (with_reducible exact LeO.none _)
   | (with_reducible refine LeO.ite ?_ ?_)
   | (with_reducible refine LeO.bind ?_ (fun _ => ?_))
   | exact ih0 _ _ _ _ _
   | exact LeO.none _
   | refine LeO.ite ?_ ?_
   | refine LeO.bind ?_ (fun _ => ?_)
theorem headers_All.mono : ∀ a0 a1 k, LeO (headers_All.f k a0 a1) (headers_All.f (k + 1) a0 a1) := by
 intro a0 a1 k
 have ih0 := headers_All.mono_l k
 unfold headers_All.f
 repeat' first
   | (with_reducible exact ih0 _ _ _ _ _)
   | (with_reducible exact LeO.refl _)
   | (with_reducible exact LeO.none _)
   | (with_reducible refine LeO.ite ?_ ?_)
   | (with_reducible refine LeO.bind ?_ (fun _ => ?_))
   | exact ih0 _ _ _ _ _
   | exact LeO.none _
   | refine LeO.ite ?_ ?_
   | refine LeO.bind ?_ (fun _ => ?_)
set_option maxHeartbeats 8000000 in
set_option maxRecDepth 100000 in
theorem headers_All.calls (k : Nat) (A0 : Option Addr) (c0 : Nat) (l0 : List (S72)) (a1 : ByteArray) (r : List ByteArray) (w : World) (hr0 : Kd.C k72 w A0 l0.length l0) (hc0 : l0.length ≤ c0) (h : headers_All.f k l0 a1 = some r) :
  Calls Tryz.prog 20 #[.slice A0 l0.length c0, .string a1] w fun e w' => ∃ v0_ : Value, e = .returned (v0_) ∧ Kd.R Kd.string 9 w' w.heap.size (fun _ => True) v0_ r ∧ Below w.heap.size w w' := by
 have hu72 := Tryz.underlying72
 have HR0 := Aside0.mk hr0
 have HC0 := Aside0.mk hc0
 clear hr0 hc0
 have HB := Aside0.mk (Below.refl w.heap.size w)
 have H : (headers_All.l0 k a1 ([] : List ByteArray) l0 (l0.length : Int) 0) = some r := h
 clear h
 have H' := Aside0.mk H
 clear H
 go_enter Tryz.func20, Tryz.ntmps20
 go_wp2
 go_loopg [5, 10] k (fun kq v5 v10 w' => ∃ (x5_1 : List ByteArray) (x10_1 : Int), v10 = .int .i64 x10_1 ∧ Aside0 (headers_All.l0 kq a1 x5_1 l0 (l0.length : Int) x10_1 = some r) ∧ Aside0 (kq ≤ k) ∧ Aside0 (Kd.R Kd.string 9 w' w.heap.size (fun _ => True) v5 x5_1) ∧ Aside0 (Below w.heap.size w w'))
 case atStart => exact ⟨(([] : List ByteArray)), (0), (by first | rfl | (simp; done) | (simp [*]; done)), H', ⟨Nat.le_refl _⟩, ⟨by first | exact Kd.R_nil _ _ _ _ _ | exact Kd.N_nil _ _ _ _ _ | exact Kd.V_nil _ _ _ _ _ | exact Kd.Q_nil _ _ _ _ _ | exact Kd.S_nil _ _ _ _ _⟩, ⟨by repeat (first | (with_reducible first | exact HB.out | apply below_alloc | apply pw_below_drewN | apply below_drew1) | exact HB.out)⟩⟩
 case round =>
  clear H'
  try clear c2
  try clear p2
  obtain ⟨x5_1, x10_1, rfl, HA, HK1, HO_5, HB⟩ := hrel
  cases gk with
  | zero => exact absurd HA.out (by simp [headers_All.l0])
  | succ k1 =>
   have H := HA.out
   clear HA
   simp only [headers_All.l0] at H
   by_cases c3 : x10_1 < (l0.length : Int)
   ·rw [if_pos c3] at H
    have c3b0 : decide (x10_1 < (l0.length : Int)) = true := decide_eq_true c3
    clear c3
    by_cases c4 : 0 ≤ x10_1
    ·rw [if_pos c4] at H
     have c4b0 : decide (0 ≤ x10_1) = true := decide_eq_true c4
     clear c4
     by_cases c5 : x10_1 < (l0.length : Int)
     ·rw [if_pos c5] at H
      have c5b0 : decide (x10_1 < (l0.length : Int)) = true := decide_eq_true c5
      clear c5
      replace H := Option.bind_eq_some_iff.mp H
      obtain ⟨t117, A60, H⟩ := H
      replace H : (if t117 = true then (if x5_1.length < 8796093022208 then (headers_All.l0 k1 a1 (x5_1 ++ [(rd_T72 l0 x10_1).f1]) l0 (l0.length : Int) (wrap64 (x10_1 + 1))) else (none)) else (headers_All.l0 k1 a1 x5_1 l0 (l0.length : Int) (wrap64 (x10_1 + 1)))) = some r := H
      have A6 := Aside0.mk A60
      clear A60
      by_cases c7 : t117 = true
      ·subst c7
       have H1 : (if x5_1.length < 8796093022208 then (headers_All.l0 k1 a1 (x5_1 ++ [(rd_T72 l0 x10_1).f1]) l0 (l0.length : Int) (wrap64 (x10_1 + 1))) else (none)) = some r := by rw [if_pos rfl] at H; exact H
       clear H
       have H := H1
       clear H1
       by_cases c8 : x5_1.length < 8796093022208
       ·rw [if_pos c8] at H
        have LMc8 := Aside0.mk c8
        clear c8
        obtain ⟨y118, hy118⟩ : ∃ y_ : List ByteArray, y_ = (x5_1 ++ [(rd_T72 l0 x10_1).f1]) := ⟨_, rfl⟩
        replace H : (headers_All.l0 k1 a1 y118 l0 (l0.length : Int) (wrap64 (x10_1 + 1))) = some r := by first | (rw [hy118]; with_reducible exact H) | (have H2_ := (Option.bind_some _ _).symm.trans H; rw [hy118]; with_reducible exact H2_) | (have H2_ := (Option.bind_some _ _).symm.trans H; with_reducible exact H2_) | with_reducible exact H | (rw [hy118]; exact H) | exact H
        have Ny118 := Aside0.mk hy118
        clear hy118
        have H' := Aside0.mk H
        clear H
        have p115 : 0 ≤ (x10_1 : Int) := of_decide_eq_true (by first | (with_reducible assumption) | assumption)
        have q115 : x10_1 < (l0.length : Int) := of_decide_eq_true (by first | (with_reducible assumption) | assumption)
        obtain ⟨ad115, e115, hx115_0, hx115_1⟩ := at_T72 HR0.out x10_1 p115 q115
        cases e115
        replace hx115_0 := (HB.out.cell (World.block_lt_of_cell? w _ hx115_0)).trans hx115_0
        replace hx115_1 := (HB.out.cell (World.block_lt_of_cell? w _ hx115_1)).trans hx115_1
        replace p115 := eq_true p115
        replace q115 := eq_true q115
        go_wp2_with (first | ((with_reducible refine gate_dst (N := 7) rfl ?_); refine box_event ?hg (N := 7) ?hd (cs := #[.string (⟨#[]⟩ : ByteArray), .string (⟨#[]⟩ : ByteArray)]) (t := 72) ?hr ?_; (case hd => rfl); (case hg => rfl); (case hr => first | (go_simp; done) | (go_simp; rfl)); intro gb116 hg w9 hbox hb; have n0_ := Aside0.mk (Kd.R_below (by (with_reducible repeat (first | apply Kd.R_alloc | apply Kd.R_drewN | apply Kd.R_drew)); exact HO_5.out) hb); have n1_ := Aside0.mk (below_step (by repeat (first | (with_reducible first | exact HB.out | apply below_alloc | apply pw_below_drewN | apply below_drew1) | exact HB.out)) hb); have n2_ := Aside0.mk (hbox); have n3_ := Aside0.mk ((by rw [hg]; exact (below_size (by repeat (first | (with_reducible first | exact HB.out | apply below_alloc | apply pw_below_drewN | apply below_drew1) | exact HB.out))) : w.heap.size ≤ gb116)); have n4_ := Aside0.mk ((by rw [hg]; exact (below_size (by repeat (first | (with_reducible first | exact HB.out | apply below_alloc | apply pw_below_drewN | apply below_drew1) | exact HB.out))) : w.heap.size ≤ gb116)); clear HO_5; clear HB; have HO_5 := n0_; have HB := n1_; have BK116 := n2_; have GW116 := n3_; have GE116 := n4_; clear n0_ n1_ n2_ n3_ n4_; clear hb hbox hg; have hcz10_0 : w9.cell? ⟨gb116, 0, none⟩ = some (.string (⟨#[]⟩ : ByteArray)) := (blk_cell BK116.out 0).trans rfl; have hcz10_1 : w9.cell? ⟨gb116, 1, none⟩ = some (.string (⟨#[]⟩ : ByteArray)) := (blk_cell BK116.out 1).trans rfl; have hfz10_0 := blk_frozen BK116.out 0; have hfz10_1 := blk_frozen BK116.out 1) | ((with_reducible refine gate_callee (f := 40) rfl ?_); refine goesL_ (some 17) rfl rfl Tryz.func40 (by kernel_rfl) rfl #[.string ((rd_T72 l0 x10_1).f0), .string a1] rfl (by (try simp only [List.map_toArray, List.map_cons, List.map_nil]); first | done | rfl | (simp only [List.length_drop, List.length_take]; rfl)) ?_; (with_reducible refine (octets_Same.calls ((rd_T72 l0 x10_1).f0) a1 true _ A6.out).mono ?_); rintro e w11 ⟨rfl, hb⟩; refine ⟨_, rfl, ?_⟩; have n0_ := Aside0.mk (Kd.R_below (by (with_reducible repeat (first | apply Kd.R_alloc | apply Kd.R_drewN | apply Kd.R_drew)); exact (Kd.R_mono (Kd.R_far (p := ⟨gb116, 1, none⟩) (Kd.R_far (p := ⟨gb116, 0, none⟩) (Kd.R_types HO_5.out BK116.out (by decide)) (fun _ hk => hk.2) (.string ((rd_T72 l0 x10_1).f0))) (fun _ hk => hk.2) (.string ((rd_T72 l0 x10_1).f1))) (fun _ h_ => h_.1))) hb); have n1_ := Aside0.mk (blk_below (g := gb116) (o := .cells #[.string ((rd_T72 l0 x10_1).f0), .string ((rd_T72 l0 x10_1).f1)] 72 (0, 0)) (by (with_reducible repeat (first | refine blk_drewN ?_ _ | refine blk_drew ?_ | refine blk_alloc ?_ _)); refine blk_put (cs := #[.string ((rd_T72 l0 x10_1).f0), .string (⟨#[]⟩ : ByteArray)]) ?_ 1 _ rfl; (with_reducible repeat (first | refine blk_drewN ?_ _ | refine blk_drew ?_ | refine blk_alloc ?_ _)); refine blk_put (cs := #[.string (⟨#[]⟩ : ByteArray), .string (⟨#[]⟩ : ByteArray)]) ?_ 0 _ rfl; (with_reducible repeat (first | refine blk_drewN ?_ _ | refine blk_drew ?_ | refine blk_alloc ?_ _)); exact BK116.out) hb); have n2_ := Aside0.mk (below_step (by repeat (first | (with_reducible first | exact HB.out | apply below_alloc | apply pw_below_drewN | apply below_drew1 | refine below_set ?_ GE116.out) | exact HB.out)) hb); clear HO_5; clear BK116; clear HB; have HO_5 := n0_; have BK116 := n1_; have HB := n2_; clear n0_ n1_ n2_; (try clear hb); (try clear hb2); (try clear hk); (try clear hi); have hcz12_0 : w11.cell? ⟨gb116, 0, none⟩ = some (.string ((rd_T72 l0 x10_1).f0)) := (blk_cell BK116.out 0).trans rfl; have hcz12_1 : w11.cell? ⟨gb116, 1, none⟩ = some (.string ((rd_T72 l0 x10_1).f1)) := (blk_cell BK116.out 1).trans rfl; have hfz12_0 := blk_frozen BK116.out 0; have hfz12_1 := blk_frozen BK116.out 1) | ((with_reducible refine gate_builtin (b := .append) (xs := #[.tmp 18, .tmp 21]) rfl ?_); at_builtin; refine Kd.R_append Kd.string (w0 := w) w.heap.size rfl (.tmp 18) (.tmp 21) 58 9 (.string ⟨#[]⟩) 16 rfl Tryz.underlying58 info9 rfl (by decide) (by omega) u5 x5_1 ((rd_T72 l0 x10_1).f1) [.string ((rd_T72 l0 x10_1).f1)] (fun _ => True) (fun _ => False) rfl rfl ?aP (fun _ hk => hk.elim) ?aF ?aO ?aB ?aS ?aL ?_; (case aP => exact rfl); (case aB => exact (by repeat (first | (with_reducible first | exact HB.out | apply below_alloc | apply pw_below_drewN | apply below_drew1 | refine below_set ?_ GE116.out) | exact HB.out))); (case aF => exact (fun _ _ => trivial)); (case aO => exact (by (with_reducible repeat (first | apply Kd.R_alloc | apply Kd.R_drewN | apply Kd.R_drew)); exact HO_5.out)); (case aS => exact (below_size (by repeat (first | (with_reducible first | exact HB.out | apply below_alloc | apply pw_below_drewN | apply below_drew1 | refine below_set ?_ GE116.out) | exact HB.out)))); (case aL => have := LMc8.out; omega); intro v119 w13 ho hb hg hat; rw [← Ny118.out] at ho; have n0_ := Aside0.mk (blk_grown (g := gb116) (o := .cells #[.string ((rd_T72 l0 x10_1).f0), .string ((rd_T72 l0 x10_1).f1)] 72 (0, 0)) (by (with_reducible repeat (first | refine blk_drewN ?_ _ | refine blk_drew ?_ | refine blk_alloc ?_ _)); exact BK116.out) hg (Kd.R_ne HO_5.out BK116.out (by decide))); have n1_ := Aside0.mk (hb); have n2_ := Aside0.mk (ho); clear BK116; clear HB; clear HO_5; have BK116 := n0_; have HB := n1_; have HO120 := n2_; clear n0_ n1_ n2_; clear ho hb hg hat))
        go_roundg k1
        case measure => have := HK1.out; omega
        case rel => exact ⟨(y118), (wrap64 (x10_1 + 1)), (by first | rfl | (simp; done) | (simp [*]; done)), H', ⟨by have := HK1.out; omega⟩, ⟨by (with_reducible repeat (first | apply Kd.R_alloc | apply Kd.R_drewN | apply Kd.R_drew)); exact HO120.out⟩, ⟨by repeat (first | (with_reducible first | exact HB.out | apply below_alloc | apply pw_below_drewN | apply below_drew1 | refine below_set ?_ GE116.out) | exact HB.out)⟩⟩
       ·rw [if_neg c8] at H
        exact absurd H (by simp)
      ·replace c7 := Bool.eq_false_iff.mpr c7
       subst c7
       have H1 : (headers_All.l0 k1 a1 x5_1 l0 (l0.length : Int) (wrap64 (x10_1 + 1))) = some r := by rw [if_neg (show ¬ (false = true) by decide)] at H; exact H
       clear H
       have H := H1
       clear H1
       have H' := Aside0.mk H
       clear H
       have p115 : 0 ≤ (x10_1 : Int) := of_decide_eq_true (by first | (with_reducible assumption) | assumption)
       have q115 : x10_1 < (l0.length : Int) := of_decide_eq_true (by first | (with_reducible assumption) | assumption)
       obtain ⟨ad115, e115, hx115_0, hx115_1⟩ := at_T72 HR0.out x10_1 p115 q115
       cases e115
       replace hx115_0 := (HB.out.cell (World.block_lt_of_cell? w _ hx115_0)).trans hx115_0
       replace hx115_1 := (HB.out.cell (World.block_lt_of_cell? w _ hx115_1)).trans hx115_1
       replace p115 := eq_true p115
       replace q115 := eq_true q115
       go_wp2_with (first | ((with_reducible refine gate_dst (N := 7) rfl ?_); refine box_event ?hg (N := 7) ?hd (cs := #[.string (⟨#[]⟩ : ByteArray), .string (⟨#[]⟩ : ByteArray)]) (t := 72) ?hr ?_; (case hd => rfl); (case hg => rfl); (case hr => first | (go_simp; done) | (go_simp; rfl)); intro gb116 hg w14 hbox hb; have n0_ := Aside0.mk (Kd.R_below (by (with_reducible repeat (first | apply Kd.R_alloc | apply Kd.R_drewN | apply Kd.R_drew)); exact HO_5.out) hb); have n1_ := Aside0.mk (below_step (by repeat (first | (with_reducible first | exact HB.out | apply below_alloc | apply pw_below_drewN | apply below_drew1) | exact HB.out)) hb); have n2_ := Aside0.mk (hbox); have n3_ := Aside0.mk ((by rw [hg]; exact (below_size (by repeat (first | (with_reducible first | exact HB.out | apply below_alloc | apply pw_below_drewN | apply below_drew1) | exact HB.out))) : w.heap.size ≤ gb116)); have n4_ := Aside0.mk ((by rw [hg]; exact (below_size (by repeat (first | (with_reducible first | exact HB.out | apply below_alloc | apply pw_below_drewN | apply below_drew1) | exact HB.out))) : w.heap.size ≤ gb116)); clear HO_5; clear HB; have HO_5 := n0_; have HB := n1_; have BK116 := n2_; have GW116 := n3_; have GE116 := n4_; clear n0_ n1_ n2_ n3_ n4_; clear hb hbox hg; have hcz15_0 : w14.cell? ⟨gb116, 0, none⟩ = some (.string (⟨#[]⟩ : ByteArray)) := (blk_cell BK116.out 0).trans rfl; have hcz15_1 : w14.cell? ⟨gb116, 1, none⟩ = some (.string (⟨#[]⟩ : ByteArray)) := (blk_cell BK116.out 1).trans rfl; have hfz15_0 := blk_frozen BK116.out 0; have hfz15_1 := blk_frozen BK116.out 1) | ((with_reducible refine gate_callee (f := 40) rfl ?_); refine goesL_ (some 17) rfl rfl Tryz.func40 (by kernel_rfl) rfl #[.string ((rd_T72 l0 x10_1).f0), .string a1] rfl (by (try simp only [List.map_toArray, List.map_cons, List.map_nil]); first | done | rfl | (simp only [List.length_drop, List.length_take]; rfl)) ?_; (with_reducible refine (octets_Same.calls ((rd_T72 l0 x10_1).f0) a1 false _ A6.out).mono ?_); rintro e w16 ⟨rfl, hb⟩; refine ⟨_, rfl, ?_⟩; have n0_ := Aside0.mk (Kd.R_below (by (with_reducible repeat (first | apply Kd.R_alloc | apply Kd.R_drewN | apply Kd.R_drew)); exact (Kd.R_mono (Kd.R_far (p := ⟨gb116, 1, none⟩) (Kd.R_far (p := ⟨gb116, 0, none⟩) (Kd.R_types HO_5.out BK116.out (by decide)) (fun _ hk => hk.2) (.string ((rd_T72 l0 x10_1).f0))) (fun _ hk => hk.2) (.string ((rd_T72 l0 x10_1).f1))) (fun _ h_ => h_.1))) hb); have n1_ := Aside0.mk (blk_below (g := gb116) (o := .cells #[.string ((rd_T72 l0 x10_1).f0), .string ((rd_T72 l0 x10_1).f1)] 72 (0, 0)) (by (with_reducible repeat (first | refine blk_drewN ?_ _ | refine blk_drew ?_ | refine blk_alloc ?_ _)); refine blk_put (cs := #[.string ((rd_T72 l0 x10_1).f0), .string (⟨#[]⟩ : ByteArray)]) ?_ 1 _ rfl; (with_reducible repeat (first | refine blk_drewN ?_ _ | refine blk_drew ?_ | refine blk_alloc ?_ _)); refine blk_put (cs := #[.string (⟨#[]⟩ : ByteArray), .string (⟨#[]⟩ : ByteArray)]) ?_ 0 _ rfl; (with_reducible repeat (first | refine blk_drewN ?_ _ | refine blk_drew ?_ | refine blk_alloc ?_ _)); exact BK116.out) hb); have n2_ := Aside0.mk (below_step (by repeat (first | (with_reducible first | exact HB.out | apply below_alloc | apply pw_below_drewN | apply below_drew1 | refine below_set ?_ GE116.out) | exact HB.out)) hb); clear HO_5; clear BK116; clear HB; have HO_5 := n0_; have BK116 := n1_; have HB := n2_; clear n0_ n1_ n2_; (try clear hb); (try clear hb2); (try clear hk); (try clear hi)))
       go_roundg k1
       case measure => have := HK1.out; omega
       case rel => exact ⟨(x5_1), (wrap64 (x10_1 + 1)), (by first | rfl | (simp; done) | (simp [*]; done)), H', ⟨by have := HK1.out; omega⟩, ⟨by (with_reducible repeat (first | apply Kd.R_alloc | apply Kd.R_drewN | apply Kd.R_drew)); exact HO_5.out⟩, ⟨by repeat (first | (with_reducible first | exact HB.out | apply below_alloc | apply pw_below_drewN | apply below_drew1 | refine below_set ?_ GE116.out) | exact HB.out)⟩⟩
     ·rw [if_neg c5] at H
      exact absurd H (by simp)
    ·rw [if_neg c4] at H
     exact absurd H (by simp)
   ·rw [if_neg c3] at H
    have c3b0 : decide (x10_1 < (l0.length : Int)) = false := decide_eq_false c3
    clear c3
    obtain rfl := Option.some.inj H
    go_wp2
    go_ret
    exact ⟨_, by first | rfl | (simp [errW_none, errW_some] <;> rfl) | (simp [*, errW_none, errW_some] <;> rfl), by (with_reducible repeat (first | apply Kd.R_alloc | apply Kd.R_drewN | apply Kd.R_drew)); exact HO_5.out, by repeat (first | (with_reducible first | exact HB.out | apply below_alloc | apply pw_below_drewN | apply below_drew1) | exact HB.out)⟩

/-! ### given: strings.Join -/
-- INFO 9
def strings_Join.text (l0 : List ByteArray) (a1 : ByteArray) : List UInt8 := Lib.join (l0.map (·.data.toList)) a1.data.toList
def strings_Join.f (l0 : List ByteArray) (a1 : ByteArray) : Option ByteArray := if l0.length ≤ 140737488355328 ∧ (strings_Join.text l0 a1).length ≤ 140737488355328 then some ⟨(strings_Join.text l0 a1).toArray⟩ else none
theorem strings_Join.calls (A0 : Option Addr) (c0 : Nat) (l0 : List ByteArray) (a1 r : ByteArray) (w : World) (hr0 : Kd.C Kd.string w A0 l0.length l0) (hc0 : l0.length ≤ c0) (h : strings_Join.f l0 a1 = some r) :
  Calls Tryz.prog 62 #[.slice A0 l0.length c0, .string a1] w fun e w' => e = .returned (.string r) ∧ Below w.heap.size w w' := by
 unfold strings_Join.f at h
 by_cases hs : l0.length ≤ 140737488355328 ∧ (strings_Join.text l0 a1).length ≤ 140737488355328
 ·rw [if_pos hs] at h
  obtain rfl := Option.some.inj h
  have hr := Kd.reads_of_C (enc := Value.string) (d := ByteArray.empty) (h1 := fun _ => rfl) hr0
  by_cases h0 : 0 < l0.length
  ·obtain ⟨ad, rfl, hc⟩ := hr.2.2 h0
   obtain ⟨bk, o, sp⟩ := ad
   have hsp : sp = none := by
    have h1 := hc 0 h0
    cases sp with
    | none => rfl
    | some k =>
     exfalso
     unfold World.cell? at h1
     have hadd : ∀ j, ((⟨bk, o, some k⟩ : Addr).add j).spot.isSome = true ∨ True := fun _ => .inr trivial
     unfold Addr.add at h1
     simp at h1
     split at h1 <;> simp at h1
   subst hsp
   have hcell : ∀ (j : Nat) x, l0[j]? = some x → w.cell? ⟨bk, o + j, none⟩ = some (.string x) := by
    intro j x hj
    have hlt := (List.getElem?_eq_some_iff.1 hj).1
    have h1 := hc j hlt
    rw [List.getD_eq_getElem?_getD, hj] at h1
    have h2 : (⟨bk, o, none⟩ : Addr).add j = ⟨bk, o + j, none⟩ := by unfold Addr.add; split <;> simp_all
    rw [h2] at h1
    exact h1
   exact Tryz.strings_Join bk o c0 l0 a1 w hcell (World.block_lt_of_cell? _ _ (hcell 0 _ (List.getElem?_eq_getElem h0))) hs.1 hc0 hs.2
  ·obtain rfl := List.eq_nil_of_length_eq_zero (by omega : l0.length = 0)
   refine (Tryz.strings_Join_none A0 c0 a1 w).mono ?_
   rintro e w' ⟨rfl, rfl⟩
   exact ⟨rfl, Below.refl _ _⟩
 ·rw [if_neg hs] at h
  cases h

/-! ### headers_Get: function 17 -/
def headers_Get.f (k : Nat) (l0 : List (S72)) (a1 : ByteArray) : Option (ByteArray × Bool) := (headers_All.f k l0 a1).bind fun t121 => ((strings_Join.f t121 (⟨#[44, 32]⟩ : ByteArray)).bind fun t124 => (some (t124, decide ((t121.length : Int) > 0))))
theorem headers_Get.mono : ∀ a0 a1 k, LeO (headers_Get.f k a0 a1) (headers_Get.f (k + 1) a0 a1) := by
 intro a0 a1 k
 unfold headers_Get.f
 repeat' first
   | (with_reducible exact headers_All.mono _ _ _)
   | (with_reducible exact LeO.refl _)
   | (with_reducible exact LeO.none _)
   | (with_reducible refine LeO.ite ?_ ?_)
   | (with_reducible refine LeO.bind ?_ (fun _ => ?_))
   | exact headers_All.mono _ _ _
   | exact LeO.none _
   | refine LeO.ite ?_ ?_
   | refine LeO.bind ?_ (fun _ => ?_)
set_option maxHeartbeats 8000000 in
set_option maxRecDepth 100000 in
theorem headers_Get.calls (k : Nat) (A0 : Option Addr) (c0 : Nat) (l0 : List (S72)) (a1 : ByteArray) (r1 : ByteArray) (r2 : Bool) (w : World) (hr0 : Kd.C k72 w A0 l0.length l0) (hc0 : l0.length ≤ c0) (h : headers_Get.f k l0 a1 = some (r1, r2)) :
  Calls Tryz.prog 17 #[.slice A0 l0.length c0, .string a1] w fun e w' => e = .returned (.tuple #[.string r1, .bool r2]) ∧ Below w.heap.size w w' := by
 have HR0 := Aside0.mk hr0
 have HC0 := Aside0.mk hc0
 clear hr0 hc0
 have HB := Aside0.mk (Below.refl w.heap.size w)
 have H : ((headers_All.f k l0 a1).bind fun t121 => ((strings_Join.f t121 (⟨#[44, 32]⟩ : ByteArray)).bind fun t124 => (some (t124, decide ((t121.length : Int) > 0))))) = some (r1, r2) := h
 clear h
 replace H := Option.bind_eq_some_iff.mp H
 obtain ⟨t121, A30, H⟩ := H
 replace H : ((strings_Join.f t121 (⟨#[44, 32]⟩ : ByteArray)).bind fun t124 => (some (t124, decide ((t121.length : Int) > 0)))) = some (r1, r2) := H
 have A3 := Aside0.mk A30
 clear A30
 replace H := Option.bind_eq_some_iff.mp H
 obtain ⟨t124, A40, H⟩ := H
 replace H : (some (t124, decide ((t121.length : Int) > 0))) = some (r1, r2) := H
 have A4 := Aside0.mk A40
 clear A40
 simp only [Option.some.injEq, Prod.mk.injEq] at H
 obtain ⟨rfl, rfl⟩ := H
 go_enter Tryz.func17, Tryz.ntmps17
 go_wp2_with (first | ((with_reducible refine gate_callee (f := 20) rfl ?_); refine goesL_ (some 9) rfl rfl Tryz.func20 (by kernel_rfl) rfl #[.slice A0 l0.length c0, .string a1] rfl (by (try simp only [List.map_toArray, List.map_cons, List.map_nil]); first | done | rfl | (simp only [List.length_drop, List.length_take]; rfl)) ?_; (with_reducible refine (headers_All.calls k _ _ l0 a1 t121 _ ?side1 ?side2 A3.out).mono ?_); (case side1 => repeat (first | exact HR0.out | (with_reducible refine Kd.C_alloc ?_ _) | (with_reducible refine Kd.C_drewN ?_ _) | (with_reducible refine Kd.C_drew ?_))); (case side2 => exact HC0.out); rintro e w5 ⟨v122, rfl, ho0, hb⟩; refine ⟨_, rfl, ?_⟩; have n0_ := Aside0.mk (Kd.R_lower ho0 (below_size (by repeat (first | (with_reducible first | exact HB.out | apply below_alloc | apply pw_below_drewN | apply below_drew1) | exact HB.out)))); have n1_ := Aside0.mk (below_step (by repeat (first | (with_reducible first | exact HB.out | apply below_alloc | apply pw_below_drewN | apply below_drew1) | exact HB.out)) hb); clear HB; have HO123 := n0_; have HB := n1_; clear n0_ n1_; (try clear hb); (try clear hb2); (try clear hk); (try clear hi); (try clear ho0); obtain ⟨Ao6, co6, eo6⟩ := Kd.R_slice HO123.out; subst eo6) | ((with_reducible refine gate_callee (f := 62) rfl ?_); refine goesL_ (some 11) rfl rfl Tryz.func62 (by kernel_rfl) rfl #[.slice Ao6 t121.length co6, .string (⟨#[44, 32]⟩ : ByteArray)] rfl (by (try simp only [List.map_toArray, List.map_cons, List.map_nil]); first | done | rfl | (simp only [List.length_drop, List.length_take]; rfl)) ?_; (with_reducible refine (strings_Join.calls _ _ t121 (⟨#[44, 32]⟩ : ByteArray) t124 _ ?side1 ?side2 A4.out).mono ?_); (case side1 => repeat (first | exact (Kd.R_reads' HO123.out).2.2 | (with_reducible refine Kd.C_alloc ?_ _) | (with_reducible refine Kd.C_drewN ?_ _) | (with_reducible refine Kd.C_drew ?_))); (case side2 => exact (Kd.R_reads' HO123.out).2.1); rintro e w7 ⟨rfl, hb⟩; refine ⟨_, rfl, ?_⟩; have n0_ := Aside0.mk (Kd.R_below (by (with_reducible repeat (first | apply Kd.R_alloc | apply Kd.R_drewN | apply Kd.R_drew)); exact HO123.out) hb); have n1_ := Aside0.mk (below_step (by repeat (first | (with_reducible first | exact HB.out | apply below_alloc | apply pw_below_drewN | apply below_drew1) | exact HB.out)) hb); clear HO123; clear HB; have HO123 := n0_; have HB := n1_; clear n0_ n1_; (try clear hb); (try clear hb2); (try clear hk); (try clear hi)))
 go_ret2
 exact ⟨by first | rfl | (simp [errW_none, errW_some] <;> rfl) | (simp [*, errW_none, errW_some] <;> rfl), by repeat (first | (with_reducible first | exact HB.out | apply below_alloc | apply pw_below_drewN | apply below_drew1) | exact HB.out)⟩

/-! ### given: strings.Trim -/
def strings_Trim.f (a0 a1 : ByteArray) : Option ByteArray := if a0.size ≤ 9223372036854775807 ∧ 2 ≤ a1.size ∧ a1.size < 1000 ∧ a1.data.toList.all (fun b => decide (b.toNat < 128)) = true then some ⟨(Lib.trimS a0.data.toList a1.data.toList).toArray⟩ else none
theorem byte_row (t : ByteArray) (i : Nat) (h : i < t.size) : t.data.toList[i]? = some (t[i]'h) := Lib.data_getElem? t i h
theorem row_extract (t : ByteArray) (a b : Nat) : (t.extract a b).data.toList = (t.data.toList.drop a).take (b - a) := by
 have := congrArg (fun x : ByteArray => x.data.toList) (Lib.extract_mk t.data.toList a b)
 rw [Lib.mk_data] at this
 simp only [] at this
 exact this
theorem trimL_step (t : ByteArray) (cs : List UInt8) (h0 : 0 < t.size) (h : cs.contains (t[0]'h0) = true) : Lib.trimLeftS (t.extract 1 t.size).data.toList cs = Lib.trimLeftS t.data.toList cs := by
 have h1 := byte_row t 0 h0
 have hl : t.data.toList.length = t.size := (Lib.size_eq t).symm
 rw [row_extract, List.take_of_length_le (by rw [List.length_drop]; omega)]
 match hm : t.data.toList, h1 with
 | a :: l, h1 =>
  obtain rfl : a = t[0]'h0 := by simpa using h1
  simp only [List.drop_succ_cons, List.drop_zero, Lib.trimLeftS, List.dropWhile_cons, h, if_true]
theorem trimL_stop (t : ByteArray) (cs : List UInt8) (h0 : 0 < t.size) (h : cs.contains (t[0]'h0) = false) : Lib.trimLeftS t.data.toList cs = t.data.toList := by
 have h1 := byte_row t 0 h0
 match hm : t.data.toList, h1 with
 | a :: l, h1 =>
  obtain rfl : a = t[0]'h0 := by simpa using h1
  simp only [Lib.trimLeftS, List.dropWhile_cons, h]
  rfl
theorem row_last (t : ByteArray) (h0 : 0 < t.size) : t.data.toList = t.data.toList.take (t.size - 1) ++ [t[t.size - 1]'(by omega)] := by
 have h1 := byte_row t (t.size - 1) (by omega)
 have hl : t.data.toList.length = t.size := (Lib.size_eq t).symm
 have h2 := List.take_succ_eq_append_getElem (l := t.data.toList) (i := t.size - 1) (by omega)
 rw [List.getElem?_eq_getElem (by omega)] at h1
 rw [Option.some.inj h1, Nat.sub_add_cancel h0, List.take_of_length_le (by omega)] at h2
 exact h2
theorem trimR_step (t : ByteArray) (cs : List UInt8) (h0 : 0 < t.size) (h : cs.contains (t[t.size - 1]'(by omega)) = true) : Lib.trimRightS (t.extract 0 (t.size - 1)).data.toList cs = Lib.trimRightS t.data.toList cs := by
 rw [row_extract, List.drop_zero, Nat.sub_zero]
 conv => rhs; rw [row_last t h0]
 simp only [Lib.trimRightS, List.reverse_append, List.reverse_singleton, List.singleton_append, List.dropWhile_cons, h, if_true]
theorem trimR_stop (t : ByteArray) (cs : List UInt8) (h0 : 0 < t.size) (h : cs.contains (t[t.size - 1]'(by omega)) = false) : Lib.trimRightS t.data.toList cs = t.data.toList := by
 conv => lhs; rw [row_last t h0]
 simp only [Lib.trimRightS, List.reverse_append, List.reverse_singleton, List.singleton_append, List.dropWhile_cons, h]
 conv => rhs; rw [row_last t h0]
 simp
theorem row_empty (t : ByteArray) (h : ¬ 0 < t.size) : t.data.toList = [] := List.eq_nil_of_length_eq_zero (by rw [← Lib.size_eq]; omega)
set_option maxHeartbeats 2000000 in
theorem strings_trimLeftASCII.calls (s : ByteArray) (b : Nat) (cs : List UInt8) (w : World) (hset : ∀ x : UInt8, w.cell? ⟨b, x.toNat, none⟩ = some (.bool (cs.contains x))) :
  Calls Tryz.prog 111 #[.string s, .pointer (some ⟨b, 0, none⟩)] w fun e w' => e = .returned (.string ⟨(Lib.trimLeftS s.data.toList cs).toArray⟩) ∧ w' = w := by
 have HS := Aside0.mk hset
 clear hset
 go_enter Tryz.func111, Tryz.ntmps111
 go_wp2
 go_loop [0] (fun v => ∃ t : ByteArray, v = .string t ∧ Aside0 (Lib.trimLeftS t.data.toList cs = Lib.trimLeftS s.data.toList cs)) (fun v => Lib.strSize v)
 case atStart => exact ⟨s, rfl, ⟨rfl⟩⟩
 case round =>
  obtain ⟨t, rfl, HT⟩ := hrel
  by_cases h0 : 0 < t.size
  ·have hcx := HS.out (t[0]'h0)
   have H1 := Aside0.mk (trimL_step t cs h0)
   have H2 := Aside0.mk (trimL_stop t cs h0)
   have hsz : (t.extract 1 t.size).size = t.size - 1 := by simp [ByteArray.size_extract]
   cases hin : cs.contains (t[0]'h0) <;> rw [hin] at hcx
   ·have H2' := Aside0.mk (H2.out hin)
    clear hin H1 H2 hsz
    go_wp2_with (go_at_call 150; refine (Tryz.asciiSet_contains _ (t[0]'h0) _ _ hcx).mono ?_; rintro e w' ⟨rfl, hw⟩; rw [hw])
    go_ret
    refine ⟨?_, rfl⟩
    show Ending.returned (Value.string t) = _
    rw [← HT.out, H2'.out, Lib.mk_data]
   ·have H1' := Aside0.mk (H1.out hin)
    clear hin H1 H2
    generalize ht2 : t.extract 1 t.size = t2 at *
    go_wp2_with (go_at_call 150; refine (Tryz.asciiSet_contains _ (t[0]'h0) _ _ hcx).mono ?_; rintro e w' ⟨rfl, hw⟩; rw [hw])
    refine ⟨⟨t2, rfl, ⟨H1'.out.trans HT.out⟩⟩, ?_⟩
    show Lib.strSize (Value.string t2) < Lib.strSize (Value.string t)
    rw [Lib.strSize_string, Lib.strSize_string]
    omega
  ·go_wp2
   go_ret
   refine ⟨?_, rfl⟩
   have h2 := HT.out
   rw [row_empty t h0, Lib.trimLeftS_nil] at h2
   show Ending.returned (Value.string t) = _
   rw [← h2, ← row_empty t h0, Lib.mk_data]
set_option maxHeartbeats 2000000 in
theorem strings_trimRightASCII.calls (s : ByteArray) (b : Nat) (cs : List UInt8) (w : World) (hs : s.size ≤ 9223372036854775807) (hset : ∀ x : UInt8, w.cell? ⟨b, x.toNat, none⟩ = some (.bool (cs.contains x))) :
  Calls Tryz.prog 112 #[.string s, .pointer (some ⟨b, 0, none⟩)] w fun e w' => e = .returned (.string ⟨(Lib.trimRightS s.data.toList cs).toArray⟩) ∧ w' = w := by
 have HS := Aside0.mk hset
 clear hset
 go_enter Tryz.func112, Tryz.ntmps112
 go_wp2
 go_loop [0] (fun v => ∃ t : ByteArray, v = .string t ∧ t.size ≤ s.size ∧ Aside0 (Lib.trimRightS t.data.toList cs = Lib.trimRightS s.data.toList cs)) (fun v => Lib.strSize v)
 case atStart => exact ⟨s, rfl, Nat.le_refl _, ⟨rfl⟩⟩
 case round =>
  obtain ⟨t, rfl, hle, HT⟩ := hrel
  by_cases h0 : 0 < t.size
  ·have hwr : ((t.size : Int) - 1 + 9223372036854775808) % 18446744073709551616 - 9223372036854775808 = ((t.size - 1 : Nat) : Int) := by omega
   have h1 : t.size - 1 < t.size := by omega
   have hcx := HS.out (t[t.size - 1]'h1)
   have H1 := Aside0.mk (trimR_step t cs h0)
   have H2 := Aside0.mk (trimR_stop t cs h0)
   have hsz : (t.extract 0 (t.size - 1)).size = t.size - 1 := by simp [ByteArray.size_extract]
   cases hin : cs.contains (t[t.size - 1]'h1) <;> rw [hin] at hcx
   ·have H2' := Aside0.mk (H2.out hin)
    clear hin H1 H2 hsz
    go_wp2_with (go_at_call 150; refine (Tryz.asciiSet_contains _ (t[t.size - 1]'h1) _ _ hcx).mono ?_; rintro e w' ⟨rfl, hw⟩; rw [hw])
    go_ret
    refine ⟨?_, rfl⟩
    show Ending.returned (Value.string t) = _
    rw [← HT.out, H2'.out, Lib.mk_data]
   ·have H1' := Aside0.mk (H1.out hin)
    clear hin H1 H2
    generalize ht2 : t.extract 0 (t.size - 1) = t2 at *
    go_wp2_with (go_at_call 150; refine (Tryz.asciiSet_contains _ (t[t.size - 1]'h1) _ _ hcx).mono ?_; rintro e w' ⟨rfl, hw⟩; rw [hw])
    refine ⟨⟨t2, rfl, by omega, ⟨H1'.out.trans HT.out⟩⟩, ?_⟩
    show Lib.strSize (Value.string t2) < Lib.strSize (Value.string t)
    rw [Lib.strSize_string, Lib.strSize_string]
    omega
  ·go_wp2
   go_ret
   refine ⟨?_, rfl⟩
   have h2 := HT.out
   rw [row_empty t h0, Lib.trimRightS_nil] at h2
   show Ending.returned (Value.string t) = _
   rw [← h2, ← row_empty t h0, Lib.mk_data]
set_option maxHeartbeats 4000000 in
theorem strings_Trim.calls (a0 a1 : ByteArray) (r : ByteArray) (w : World) (h : strings_Trim.f a0 a1 = some r) :
  Calls Tryz.prog 69 #[.string a0, .string a1] w fun e w' => e = .returned (.string r) ∧ Below w.heap.size w w' := by
 unfold strings_Trim.f at h
 by_cases hc : a0.size ≤ 9223372036854775807 ∧ 2 ≤ a1.size ∧ a1.size < 1000 ∧ a1.data.toList.all (fun b => decide (b.toNat < 128)) = true
 ·rw [if_pos hc] at h
  obtain rfl := Option.some.inj h
  clear h
  obtain ⟨hs, h2, hcs, hall⟩ := hc
  by_cases he : 0 < a0.size
  ·have hv : ∀ w, (zeroValue 174).run Tryz.prog w = .ok (.agg (Array.replicate 256 (.bool false))) w := (zero_of_info (P := Tryz.prog) (n := 256) (by kernel_rfl)).1
   have hM := Tryz.strings_makeASCIISet hv a1 w (by omega) (fun j b hb => of_decide_eq_true (List.all_eq_true.1 hall b (List.mem_of_getElem? hb)))
   clear hall
   have hemp : ∀ t : ByteArray, 0 < t.size → t.toList.isEmpty = false := fun t ht => by
    rw [Lib.toList_data]
    cases h : t.data.toList with
    | nil => have := Lib.size_eq t; rw [h, List.length_nil] at this; omega
    | cons _ _ => rfl
   have hemp1 := hemp a1 (by omega)
   have hemp0 := hemp a0 he
   clear hemp
   have hn1 : ((a1.size : Int) == 1) = false := beq_eq_false_iff_ne.2 (by omega)
   generalize hcl : a1.data.toList = cl at *
   have hsc : (storeCells ⟨w.heap.size + 1, 0, none⟩ (Lib.setCells cl).toList 0).run Tryz.prog ((w.alloc (.cells (Lib.setCells cl) 174)).alloc (.cells (Array.replicate 256 (.bool false)) 174)) = .ok () ((w.alloc (.cells (Lib.setCells cl) 174)).alloc (.cells (Lib.setCells cl) 174)) := by
    have := run_storeCells_new (P := Tryz.prog) (w.alloc (.cells (Lib.setCells cl) 174)) 174 (Array.replicate 256 (.bool false)) (Lib.setCells cl) (by rw [Lib.setCells_size]; kernel_rfl) (by rw [Lib.setCells_size, Array.size_replicate]) (Lib.setCells_one _)
    simpa using this
   have hsz := Lib.setCells_size cl
   have hcellAt : ∀ x : UInt8, ((w.alloc (.cells (Lib.setCells cl) 174)).alloc (.cells (Lib.setCells cl) 174)).cell? ⟨w.heap.size + 1, x.toNat, none⟩ = some (.bool (cl.contains x)) := fun x => by
    rw [World.cell?_alloc_at _ _ _ _ (by simp), Lib.setCells_at]
   have HC : Aside (∀ (q : Nat) (x : UInt8), (((w.alloc (.cells (Lib.setCells cl) 174)).alloc (.cells (Lib.setCells cl) 174)).drewN q).cell? ⟨w.heap.size + 1, x.toNat, none⟩ = some (.bool (cl.contains x))) := fun q x => by simpa using hcellAt x
   clear hcellAt
   have HL := Aside0.mk hcl
   clear hcl
   go_enter Tryz.func69, Tryz.ntmps69
   go_wp2_with (first
    | (go_at_call 110; refine hM.mono ?_; rintro e w' ⟨rfl, hw⟩; rw [hw])
    | (go_at_call 112; refine (strings_trimRightASCII.calls a0 (w.heap.size + 1) cl _ hs (HC.out 0)).mono ?_; rintro e w' ⟨rfl, hw⟩; rw [hw])
    | (go_at_call 111; refine (strings_trimLeftASCII.calls _ (w.heap.size + 1) cl _ (HC.out 0)).mono ?_; rintro e w' ⟨rfl, hw⟩; rw [hw]))
   go_ret
   refine ⟨rfl, ?_⟩
   exact (((Below.refl _ _).alloc (Nat.le_refl _) _).alloc (by simp) _).trans ⟨rfl, rfl, rfl, Nat.le_refl _, fun _ _ => rfl⟩
  ·have hl := row_empty a0 he
   have hem : a0.toList.isEmpty = true := by rw [Lib.toList_data, hl]; rfl
   have hr : (⟨(Lib.trimS a0.data.toList a1.data.toList).toArray⟩ : ByteArray) = a0 := by
    rw [hl]
    show (⟨([] : List UInt8).toArray⟩ : ByteArray) = a0
    rw [← hl, Lib.mk_data]
   rw [hr]
   clear hr hl hall
   go_enter Tryz.func69, Tryz.ntmps69
   go_wp2
   go_ret
   exact ⟨rfl, Below.refl _ _⟩
 ·rw [if_neg hc] at h
  cases h

end Go.Proofs.YtjadlnmphcoioaaGreatDoor.X
