-- Written by wip/xprint.py for this seat
import Derived.Test.YtkbmbancfbfddaaGreatDoorX0
import Derived.Test.YtkbmbancfbfddaaGreatDoorX6
namespace Go.Proofs.YtkbmbancfbfddaaGreatDoor.X
open Go.RowKit Go.Proofs.YtkbmbancfbfddaaGreatDoorW.PrintWords Go.Proofs.YtkbmbancfbfddaaGreatDoorW.PrintLast Go.Proofs.YtkbmbancfbfddaaGreatDoorW.PrintMore
attribute [local go_sem] max2_int min2_int max_two min_two max_three min_three max_four min_four   -- for this text's walks alone
set_option linter.unusedVariables false
set_option linter.unusedSimpArgs false

mutual
def pergolaref09_number.j0 : Nat → ByteArray → Int → Int → Option (Int × Int × ByteArray × Int × Int)
 | 0, _, _, _ => none
 | k + 1, x0, x7, x8 => pergolaref09_number.l0 k x0 x7 x8 0 0 (-1)
def pergolaref09_number.j4 : Nat → Int → Int → Int → Int → Option (Int × Int × ByteArray × Int × Int)
 | 0, _, _, _, _ => none
 | k + 1, x7, x8, x9, x11 => if x11 < 0 then (some (1, wrap64 (x8 * x9), (⟨#[]⟩ : ByteArray), x7, 0)) else (if x11 = 0 then (some (0, 0, (⟨#[]⟩ : ByteArray), x7, 92)) else (pergolaref09_number.l1 k x7 x8 x9 x11))
def pergolaref09_number.l1 : Nat → Int → Int → Int → Int → Option (Int × Int × ByteArray × Int × Int)
 | 0, _, _, _, _ => none
 | k + 1, x7, x8, x9, x11 => if x11 < 3 then (pergolaref09_number.l1 k x7 x8 (wrap64 (x9 * 10)) (wrap64 (x11 + 1))) else (some (2, wrap64 (x8 * x9), (⟨#[]⟩ : ByteArray), x7, 0))
def pergolaref09_number.l0 : Nat → ByteArray → Int → Int → Int → Int → Int → Option (Int × Int × ByteArray × Int × Int)
 | 0, _, _, _, _, _, _ => none
 | k + 1, x0, x7, x8, x9, x10, x11 => if x7 < (x0.size : Int) then (if 0 ≤ x7 then ((pergolaref09_digit.f (bt x0 x7)).bind fun t155 => (if t155 = true then (pergolaref09_number.j2 k x0 x7 x8 x9 x10 x11 (decide (x11 < 0))) else (pergolaref09_number.j2 k x0 x7 x8 x9 x10 x11 false))) else (none)) else (pergolaref09_number.j4 k x7 x8 x9 x11)
def pergolaref09_number.j2 : Nat → ByteArray → Int → Int → Int → Int → Int → Bool → Option (Int × Int × ByteArray × Int × Int)
 | 0, _, _, _, _, _, _, _ => none
 | k + 1, x0, x7, x8, x9, x10, x11, x38 => if x38 = true then (if (wrap64 (x10 + 1)) > 15 then (some (0, 0, (⟨#[]⟩ : ByteArray), x7, 92)) else (if 0 ≤ x7 then (if x7 < (x0.size : Int) then (pergolaref09_number.l0 k x0 (wrap64 (x7 + 1)) x8 (wrap64 ((wrap64 (x9 * 10)) + (((bt x0 x7) - 48) % 256))) (wrap64 (x10 + 1)) x11) else (none)) else (none))) else (if 0 ≤ x7 then (if x7 < (x0.size : Int) then (if (bt x0 x7) = 46 then (pergolaref09_number.j3 k x0 x7 x8 x9 x10 x11 (decide (x11 < 0))) else (pergolaref09_number.j3 k x0 x7 x8 x9 x10 x11 false)) else (none)) else (none))
def pergolaref09_number.j3 : Nat → ByteArray → Int → Int → Int → Int → Int → Bool → Option (Int × Int × ByteArray × Int × Int)
 | 0, _, _, _, _, _, _, _ => none
 | k + 1, x0, x7, x8, x9, x10, x11, x61 => if x61 = true then (if x10 > 12 then (some (0, 0, (⟨#[]⟩ : ByteArray), x7, 92)) else (pergolaref09_number.l0 k x0 (wrap64 (x7 + 1)) x8 x9 x10 0)) else (if 0 ≤ x7 then (if x7 < (x0.size : Int) then ((pergolaref09_digit.f (bt x0 x7)).bind fun t156 => (if t156 = true then (if (wrap64 (x11 + 1)) > 3 then (some (0, 0, (⟨#[]⟩ : ByteArray), x7, 92)) else (pergolaref09_number.l0 k x0 (wrap64 (x7 + 1)) x8 (wrap64 ((wrap64 (x9 * 10)) + (((bt x0 x7) - 48) % 256))) x10 (wrap64 (x11 + 1)))) else (pergolaref09_number.j4 k x7 x8 x9 x11))) else (none)) else (none))
end
def pergolaref09_number.f (k : Nat) (a0 : ByteArray) (a1 : Int) : Option (Int × Int × ByteArray × Int × Int) := if 0 ≤ a1 then (if a1 < (a0.size : Int) then (if (bt a0 a1) = 45 then (if (wrap64 (a1 + 1)) ≥ (a0.size : Int) then (some (0, 0, (⟨#[]⟩ : ByteArray), wrap64 (a1 + 1), 92)) else (if 0 ≤ (wrap64 (a1 + 1)) then (if (wrap64 (a1 + 1)) < (a0.size : Int) then ((pergolaref09_digit.f (bt a0 (wrap64 (a1 + 1)))).bind fun t154 => (if t154 = true then (pergolaref09_number.j0 k a0 (wrap64 (a1 + 1)) (-1)) else (some (0, 0, (⟨#[]⟩ : ByteArray), wrap64 (a1 + 1), 92)))) else (none)) else (none))) else (pergolaref09_number.j0 k a0 a1 1)) else (none)) else (none)
set_option maxHeartbeats 8000000 in
set_option maxRecDepth 100000 in
theorem pergolaref09_number.calls (k : Nat) (a0 : ByteArray) (a1 : Int) (r1 : Int) (r2 : Int) (r3 : ByteArray) (r4 : Int) (r5 : Int) (w : World) (h : pergolaref09_number.f k a0 a1 = some (r1, r2, r3, r4, r5)) :
  Calls Tryz.prog 48 #[.string a0, .int .i64 a1] w fun e w' => e = .returned (.tuple #[.agg #[.int .i64 r1, .int .i64 r2, .string r3], .int .i64 r4, .int .i64 r5]) ∧ Below w.heap.size w w' := by
 have hu24 := Tryz.underlying24
 have HB := Aside0.mk (Below.refl w.heap.size w)
 have H : (if 0 ≤ a1 then (if a1 < (a0.size : Int) then (if (bt a0 a1) = 45 then (if (wrap64 (a1 + 1)) ≥ (a0.size : Int) then (some (0, 0, (⟨#[]⟩ : ByteArray), wrap64 (a1 + 1), 92)) else (if 0 ≤ (wrap64 (a1 + 1)) then (if (wrap64 (a1 + 1)) < (a0.size : Int) then ((pergolaref09_digit.f (bt a0 (wrap64 (a1 + 1)))).bind fun t154 => (if t154 = true then (pergolaref09_number.j0 k a0 (wrap64 (a1 + 1)) (-1)) else (some (0, 0, (⟨#[]⟩ : ByteArray), wrap64 (a1 + 1), 92)))) else (none)) else (none))) else (pergolaref09_number.j0 k a0 a1 1)) else (none)) else (none)) = some (r1, r2, r3, r4, r5) := h
 clear h
 by_cases c3 : 0 ≤ a1
 ·rw [if_pos c3] at H
  have c3b0 : decide (0 ≤ a1) = true := decide_eq_true c3
  clear c3
  by_cases c4 : a1 < (a0.size : Int)
  ·rw [if_pos c4] at H
   have c4b0 : decide (a1 < (a0.size : Int)) = true := decide_eq_true c4
   clear c4
   have HC6 := Aside0.mk H
   clear H
   go_enter Tryz.func48, Tryz.ntmps48
   go_upto_if 16 with (first | ((with_reducible refine gate_dst (N := 4) rfl ?_); refine box_event ?hg (N := 4) ?hd (cs := #[.int .i64 0, .int .i64 0, .string (⟨#[]⟩ : ByteArray)]) (t := 24) ?hr ?_; (case hd => rfl); (case hg => rfl); (case hr => first | (go_simp; done) | (go_simp; rfl)); intro gb153 hg w7 hbox hb; have n0_ := Aside0.mk (below_step (by repeat (first | (with_reducible first | exact HB.out | apply below_alloc | apply pw_below_drewN | apply below_drew1) | exact HB.out)) hb); have n1_ := Aside0.mk (hbox); have n2_ := Aside0.mk ((by rw [hg]; exact (below_size (by repeat (first | (with_reducible first | exact HB.out | apply below_alloc | apply pw_below_drewN | apply below_drew1) | exact HB.out))) : w.heap.size ≤ gb153)); have n3_ := Aside0.mk ((by rw [hg]; exact (below_size (by repeat (first | (with_reducible first | exact HB.out | apply below_alloc | apply pw_below_drewN | apply below_drew1) | exact HB.out))) : w.heap.size ≤ gb153)); clear HB; have HB := n0_; have BK153 := n1_; have GW153 := n2_; have GE153 := n3_; clear n0_ n1_ n2_ n3_; clear hb hbox hg; have p5 : 0 ≤ (a1 : Int) := of_decide_eq_true (by first | (with_reducible assumption) | assumption); have q5 : a1 < (a0.size : Int) := of_decide_eq_true (by first | (with_reducible assumption) | assumption); have hx5 := bt_at a0 a1; replace p5 := eq_true p5; replace q5 := eq_true q5))
   (try simp only [Act.put, List.setIfInBounds_toArray, List.set_cons_zero, List.set_cons_succ])
   go_cut [7, 8] (fun v7 v8 wc => ∃ (kq : Nat) (x7_5 : Int) (x8_5 : Int) (x154000_5 : Int) (x154001_5 : Int) (x154002_5 : ByteArray), v7 = .int .i64 x7_5 ∧ v8 = .int .i64 x8_5 ∧ Aside0 (pergolaref09_number.j0 kq a0 x7_5 x8_5 = some (r1, r2, r3, r4, r5)) ∧ Aside0 (kq ≤ k) ∧ Aside0 (wc.heap[gb153]? = some (.cells #[.int .i64 x154000_5, .int .i64 x154001_5, .string x154002_5] 24 (0, 0))) ∧ Aside0 (Below w.heap.size w wc))
   case first =>
    have H := HC6.out
    clear HC6
    by_cases c8 : (bt a0 a1) = 45
    ·rw [if_pos c8] at H
     have c8b0 : ((bt a0 a1) == 45) = true := beq_iff_eq.mpr c8
     have c8b1 : ((bt a0 a1) != 45) = false := bne_eq_false_iff_eq.mpr c8
     clear c8
     (first | rw [c8b0] | (simp only [i64_w, i32_w]; rw [c8b0]) | skip)
     by_cases c9 : (wrap64 (a1 + 1)) ≥ (a0.size : Int)
     ·rw [if_pos c9] at H
      have c9b0 : decide ((a0.size : Int) ≤ (wrap64 (a1 + 1))) = true := decide_eq_true c9
      clear c9
      simp only [Option.some.injEq, Prod.mk.injEq] at H
      obtain ⟨rfl, rfl, rfl, rfl, rfl⟩ := H
      have hcz10_0 : w7.cell? ⟨gb153, 0, none⟩ = some (.int .i64 0) := (blk_cell BK153.out 0).trans rfl
      have hcz10_1 : w7.cell? ⟨gb153, 1, none⟩ = some (.int .i64 0) := (blk_cell BK153.out 1).trans rfl
      have hcz10_2 : w7.cell? ⟨gb153, 2, none⟩ = some (.string (⟨#[]⟩ : ByteArray)) := (blk_cell BK153.out 2).trans rfl
      have hfz10_0 := blk_frozen BK153.out 0
      have hfz10_1 := blk_frozen BK153.out 1
      have hfz10_2 := blk_frozen BK153.out 2
      go_wp2
      refine bodyPost_ret (results_ctt rfl _ _ gb153 24 #[.int .i64 0, .int .i64 0, .string (⟨#[]⟩ : ByteArray)] (0, 0) _ rfl (by (with_reducible repeat (first | refine blk_drewN ?_ _ | refine blk_drew ?_ | refine blk_alloc ?_ _)); refine blk_put (cs := #[.int .i64 0, .int .i64 0, .string (⟨#[]⟩ : ByteArray)]) ?_ 2 _ rfl; (with_reducible repeat (first | refine blk_drewN ?_ _ | refine blk_drew ?_ | refine blk_alloc ?_ _)); refine blk_put (cs := #[.int .i64 0, .int .i64 0, .string (⟨#[]⟩ : ByteArray)]) ?_ 1 _ rfl; (with_reducible repeat (first | refine blk_drewN ?_ _ | refine blk_drew ?_ | refine blk_alloc ?_ _)); refine blk_put (cs := #[.int .i64 0, .int .i64 0, .string (⟨#[]⟩ : ByteArray)]) ?_ 0 _ rfl; (with_reducible repeat (first | refine blk_drewN ?_ _ | refine blk_drew ?_ | refine blk_alloc ?_ _)); exact BK153.out) Tryz.underlying24 rfl (by kernel_rfl)) rfl ?_
      exact ⟨by first | rfl | (simp [errW_none, errW_some] <;> rfl) | (simp [*, errW_none, errW_some] <;> rfl), by repeat (first | (with_reducible first | exact HB.out | apply below_alloc | apply pw_below_drewN | apply below_drew1 | refine below_set ?_ GE153.out) | exact HB.out)⟩
     ·rw [if_neg c9] at H
      have c9b0 : decide ((a0.size : Int) ≤ (wrap64 (a1 + 1))) = false := decide_eq_false c9
      clear c9
      obtain ⟨ji11, hji11⟩ : ∃ j_ : Int, (wrap64 (a1 + 1)) = j_ := ⟨_, rfl⟩
      replace H : (if 0 ≤ (ji11) then (if (ji11) < (a0.size : Int) then ((pergolaref09_digit.f (bt a0 (ji11))).bind fun t154 => (if t154 = true then (pergolaref09_number.j0 k a0 ji11 (-1)) else (some (0, 0, (⟨#[]⟩ : ByteArray), ji11, 92)))) else (none)) else (none)) = some (r1, r2, r3, r4, r5) := by first | (rw [hji11] at H; exact H) | (simp only [hji11] at H ⊢; exact H)
      (try rw [hji11] at c9b0)
      have hji11w : (IntKind.i64.wrap (a1 + 1)) = ji11 := (i64_w _).trans hji11
      by_cases c12 : 0 ≤ (ji11)
      ·rw [if_pos c12] at H
       have c12b0 : decide (0 ≤ (ji11)) = true := decide_eq_true c12
       clear c12
       by_cases c13 : (ji11) < (a0.size : Int)
       ·rw [if_pos c13] at H
        have c13b0 : decide ((ji11) < (a0.size : Int)) = true := decide_eq_true c13
        clear c13
        replace H := Option.bind_eq_some_iff.mp H
        obtain ⟨t154, A150, H⟩ := H
        replace H : (if t154 = true then (pergolaref09_number.j0 k a0 ji11 (-1)) else (some (0, 0, (⟨#[]⟩ : ByteArray), ji11, 92))) = some (r1, r2, r3, r4, r5) := H
        have A15 := Aside0.mk A150
        clear A150
        by_cases c16 : t154 = true
        ·subst c16
         have H1 : (pergolaref09_number.j0 k a0 ji11 (-1)) = some (r1, r2, r3, r4, r5) := by rw [if_pos rfl] at H; exact H
         clear H
         have H := H1
         clear H1
         have H' := Aside0.mk H
         clear H
         have p14 : 0 ≤ ((ji11) : Int) := of_decide_eq_true (by first | (with_reducible assumption) | assumption)
         have q14 : (ji11) < (a0.size : Int) := of_decide_eq_true (by first | (with_reducible assumption) | assumption)
         have hx14 := bt_at a0 (ji11)
         replace p14 := eq_true p14
         replace q14 := eq_true q14
         go_wp2_with (first | (go_at_call 47; (with_reducible refine (pergolaref09_digit.calls (bt a0 (ji11)) true _ A15.out).mono ?_); rintro e w' ⟨rfl, ⟨nd, rfl⟩⟩))
         go_meet
         case rel => exact ⟨_, (ji11), ((-1)), (0), (0), ((⟨#[]⟩ : ByteArray)), (by first | rfl | (simp; done) | (simp only [← hji11] <;> (first | rfl | simp)) | (simp [*]; done)), (by first | rfl | (simp; done) | (simp [*]; done)), (by first | exact H' | (simp only [hji11]; exact H')), ⟨by first | omega | exact Nat.le_refl _⟩, ⟨by (with_reducible repeat (first | refine blk_drewN ?_ _ | refine blk_drew ?_ | refine blk_alloc ?_ _)); exact BK153.out⟩, ⟨by repeat (first | (with_reducible first | exact HB.out | apply below_alloc | apply pw_below_drewN | apply below_drew1 | refine below_set ?_ GE153.out) | exact HB.out)⟩⟩
        ·replace c16 := Bool.eq_false_iff.mpr c16
         subst c16
         have H1 : (some (0, 0, (⟨#[]⟩ : ByteArray), ji11, 92)) = some (r1, r2, r3, r4, r5) := by rw [if_neg (show ¬ (false = true) by decide)] at H; exact H
         clear H
         have H := H1
         clear H1
         simp only [Option.some.injEq, Prod.mk.injEq] at H
         obtain ⟨rfl, rfl, rfl, rfl, rfl⟩ := H
         have p14 : 0 ≤ ((ji11) : Int) := of_decide_eq_true (by first | (with_reducible assumption) | assumption)
         have q14 : (ji11) < (a0.size : Int) := of_decide_eq_true (by first | (with_reducible assumption) | assumption)
         have hx14 := bt_at a0 (ji11)
         replace p14 := eq_true p14
         replace q14 := eq_true q14
         go_wp2_with (first | (go_at_call 47; (with_reducible refine (pergolaref09_digit.calls (bt a0 (ji11)) false _ A15.out).mono ?_); rintro e w' ⟨rfl, ⟨nd, rfl⟩⟩; (try (rw [drewN_self w7]; generalize hq_ : World.drewN w7 _ = w7; have n0_ : Aside0 (w7.heap[gb153]? = some (.cells #[.int .i64 0, .int .i64 0, .string (⟨#[]⟩ : ByteArray)] 24 (0, 0))) := ⟨by rw [← hq_]; exact (by (with_reducible repeat (first | refine blk_drewN ?_ _ | refine blk_drew ?_ | refine blk_alloc ?_ _)); exact BK153.out)⟩; have n1_ : Aside0 (Below w.heap.size w w7) := ⟨by rw [← hq_]; exact (by repeat (first | (with_reducible first | exact HB.out | apply below_alloc | apply pw_below_drewN | apply below_drew1 | refine below_set ?_ GE153.out) | exact HB.out))⟩; clear BK153 HB hq_; have BK153 := n0_; have HB := n1_; clear n0_ n1_)); have hcz17_0 : w7.cell? ⟨gb153, 0, none⟩ = some (.int .i64 0) := (blk_cell BK153.out 0).trans rfl; have hcz17_1 : w7.cell? ⟨gb153, 1, none⟩ = some (.int .i64 0) := (blk_cell BK153.out 1).trans rfl; have hcz17_2 : w7.cell? ⟨gb153, 2, none⟩ = some (.string (⟨#[]⟩ : ByteArray)) := (blk_cell BK153.out 2).trans rfl; have hfz17_0 := blk_frozen BK153.out 0; have hfz17_1 := blk_frozen BK153.out 1; have hfz17_2 := blk_frozen BK153.out 2))
         refine bodyPost_ret (results_ctt rfl _ _ gb153 24 #[.int .i64 0, .int .i64 0, .string (⟨#[]⟩ : ByteArray)] (0, 0) _ rfl (by (with_reducible repeat (first | refine blk_drewN ?_ _ | refine blk_drew ?_ | refine blk_alloc ?_ _)); refine blk_put (cs := #[.int .i64 0, .int .i64 0, .string (⟨#[]⟩ : ByteArray)]) ?_ 2 _ rfl; (with_reducible repeat (first | refine blk_drewN ?_ _ | refine blk_drew ?_ | refine blk_alloc ?_ _)); refine blk_put (cs := #[.int .i64 0, .int .i64 0, .string (⟨#[]⟩ : ByteArray)]) ?_ 1 _ rfl; (with_reducible repeat (first | refine blk_drewN ?_ _ | refine blk_drew ?_ | refine blk_alloc ?_ _)); refine blk_put (cs := #[.int .i64 0, .int .i64 0, .string (⟨#[]⟩ : ByteArray)]) ?_ 0 _ rfl; (with_reducible repeat (first | refine blk_drewN ?_ _ | refine blk_drew ?_ | refine blk_alloc ?_ _)); exact BK153.out) Tryz.underlying24 rfl (by kernel_rfl)) rfl ?_
         exact ⟨by first | rfl | (simp [errW_none, errW_some] <;> rfl) | (simp only [← hji11]; first | rfl | (simp [errW_none, errW_some] <;> rfl)) | (simp [*, errW_none, errW_some] <;> rfl), by repeat (first | (with_reducible first | exact HB.out | apply below_alloc | apply pw_below_drewN | apply below_drew1 | refine below_set ?_ GE153.out) | exact HB.out)⟩
       ·rw [if_neg c13] at H
        exact absurd H (by simp)
      ·rw [if_neg c12] at H
       exact absurd H (by simp)
    ·rw [if_neg c8] at H
     have c8b0 : ((bt a0 a1) == 45) = false := beq_eq_false_iff_ne.mpr c8
     have c8b1 : ((bt a0 a1) != 45) = true := bne_iff_ne.mpr c8
     (first | rw [c8b0] | (simp only [i64_w, i32_w]; rw [c8b0]) | skip)
     have H' := Aside0.mk H
     clear H
     go_wp2
     go_meet
     case rel => exact ⟨_, (a1), (1), (0), (0), ((⟨#[]⟩ : ByteArray)), (by first | rfl | (simp; done) | (simp [*]; done)), (by first | rfl | (simp; done) | (simp [*]; done)), H', ⟨by first | omega | exact Nat.le_refl _⟩, ⟨by (with_reducible repeat (first | refine blk_drewN ?_ _ | refine blk_drew ?_ | refine blk_alloc ?_ _)); exact BK153.out⟩, ⟨by repeat (first | (with_reducible first | exact HB.out | apply below_alloc | apply pw_below_drewN | apply below_drew1 | refine below_set ?_ GE153.out) | exact HB.out)⟩⟩
   case rest =>
    clear HC6
    try clear c1
    try clear p1
    try clear q1
    try clear hx1
    try clear p2
    try clear c3
    try clear c3b0
    try clear c4
    try clear c4b0
    try clear p5
    try clear q5
    try clear hx5
    try clear p6
    try clear c8
    try clear c8b0
    try clear c8b1
    try clear c9
    try clear c9b0
    try clear c12
    try clear c12b0
    try clear c13
    try clear c13b0
    try clear p14
    try clear q14
    try clear hx14
    try clear c16
    try clear hcz10_0
    try clear hcz10_1
    try clear hcz10_2
    try clear hcz17_0
    try clear hcz17_1
    try clear hcz17_2
    try clear hfz10_0
    try clear hfz10_1
    try clear hfz10_2
    try clear hfz17_0
    try clear hfz17_1
    try clear hfz17_2
    try clear p14
    try clear p5
    try clear q14
    try clear q5
    obtain ⟨kq, x7_5, x8_5, x154000_5, x154001_5, x154002_5, rfl, rfl, HA, HJ5, BK153, HB⟩ := hcut
    cases kq with
    | zero => exact absurd HA.out (by simp [pergolaref09_number.j0])
    | succ kj5 =>
     have H := HA.out
     clear HA
     simp only [pergolaref09_number.j0] at H
     have HC18 := Aside0.mk H
     clear H
     go_upto_block 0 with (fail)
     go_cut [7, 9, 11] (fun v7 v9 v11 wc => ∃ (kq : Nat) (x7_17 : Int) (x9_17 : Int) (x11_17 : Int) (x154000_17 : Int) (x154001_17 : Int) (x154002_17 : ByteArray), v7 = .int .i64 x7_17 ∧ v9 = .int .i64 x9_17 ∧ v11 = .int .i64 x11_17 ∧ Aside0 (pergolaref09_number.j4 kq x7_17 x8_5 x9_17 x11_17 = some (r1, r2, r3, r4, r5)) ∧ Aside0 (kq ≤ kj5) ∧ Aside0 (wc.heap[gb153]? = some (.cells #[.int .i64 x154000_17, .int .i64 x154001_17, .string x154002_17] 24 (0, 0))) ∧ Aside0 (Below w.heap.size w wc))
     case first =>
      have H := HC18.out
      clear HC18
      have H' := Aside0.mk H
      clear H
      go_wp2
      go_loopg [7, 9, 10, 11] kj5 (fun kq v7 v9 v10 v11 w' => ∃ (x7_2 : Int) (x9_2 : Int) (x10_2 : Int) (x11_2 : Int) (x154000_2 : Int) (x154001_2 : Int) (x154002_2 : ByteArray), v7 = .int .i64 x7_2 ∧ v9 = .int .i64 x9_2 ∧ v10 = .int .i64 x10_2 ∧ v11 = .int .i64 x11_2 ∧ Aside0 (pergolaref09_number.l0 kq a0 x7_2 x8_5 x9_2 x10_2 x11_2 = some (r1, r2, r3, r4, r5)) ∧ Aside0 (kq ≤ kj5) ∧ Aside0 (w'.heap[gb153]? = some (.cells #[.int .i64 x154000_2, .int .i64 x154001_2, .string x154002_2] 24 (0, 0))) ∧ Aside0 (Below w.heap.size w w'))
      case atStart => exact ⟨(x7_5), (0), (0), ((-1)), (x154000_5), (x154001_5), (x154002_5), (by first | rfl | (simp; done) | (simp [*]; done)), (by first | rfl | (simp; done) | (simp [*]; done)), (by first | rfl | (simp; done) | (simp [*]; done)), (by first | rfl | (simp; done) | (simp [*]; done)), H', ⟨Nat.le_refl _⟩, ⟨by (with_reducible repeat (first | refine blk_drewN ?_ _ | refine blk_drew ?_ | refine blk_alloc ?_ _)); exact BK153.out⟩, ⟨by repeat (first | (with_reducible first | exact HB.out | apply below_alloc | apply pw_below_drewN | apply below_drew1 | refine below_set ?_ GE153.out) | exact HB.out)⟩⟩
      case round =>
       clear H'
       try clear c1
       try clear p1
       try clear q1
       try clear hx1
       try clear p2
       try clear c3
       try clear c3b0
       try clear c4
       try clear c4b0
       try clear p5
       try clear q5
       try clear hx5
       try clear p6
       try clear c8
       try clear c8b0
       try clear c8b1
       try clear c9
       try clear c9b0
       try clear c12
       try clear c12b0
       try clear c13
       try clear c13b0
       try clear p14
       try clear q14
       try clear hx14
       try clear c16
       try clear hcz10_0
       try clear hcz10_1
       try clear hcz10_2
       try clear hcz17_0
       try clear hcz17_1
       try clear hcz17_2
       try clear hfz10_0
       try clear hfz10_1
       try clear hfz10_2
       try clear hfz17_0
       try clear hfz17_1
       try clear hfz17_2
       try clear p1
       try clear p14
       try clear p2
       try clear p5
       try clear p6
       try clear q1
       try clear q14
       try clear q5
       obtain ⟨x7_2, x9_2, x10_2, x11_2, x154000_2, x154001_2, x154002_2, rfl, rfl, rfl, rfl, HA, HK2, BK153, HB⟩ := hrel
       cases gk with
       | zero => exact absurd HA.out (by simp [pergolaref09_number.l0])
       | succ k2 =>
        have H := HA.out
        clear HA
        simp only [pergolaref09_number.l0] at H
        by_cases c19 : x7_2 < (a0.size : Int)
        ·rw [if_pos c19] at H
         have c19b0 : decide (x7_2 < (a0.size : Int)) = true := decide_eq_true c19
         clear c19
         (first | rw [c19b0] | (simp only [i64_w, i32_w]; rw [c19b0]) | skip)
         have HC20 := Aside0.mk H
         clear H
         go_upto_region 11 with (fail)
         go_cut [38] (fun v38 wc => ∃ (kq : Nat) (x38_19 : Bool), v38 = .bool x38_19 ∧ Aside0 (pergolaref09_number.j2 kq a0 x7_2 x8_5 x9_2 x10_2 x11_2 x38_19 = some (r1, r2, r3, r4, r5)) ∧ Aside0 (kq ≤ k2) ∧ Aside0 (wc.heap[gb153]? = some (.cells #[.int .i64 x154000_2, .int .i64 x154001_2, .string x154002_2] 24 (0, 0))) ∧ Aside0 (Below w.heap.size w wc))
         case first =>
          have H := HC20.out
          clear HC20
          by_cases c21 : 0 ≤ x7_2
          ·rw [if_pos c21] at H
           have c21b0 : decide (0 ≤ x7_2) = true := decide_eq_true c21
           clear c21
           (first | rw [c21b0] | (simp only [i64_w, i32_w]; rw [c21b0]) | skip)
           replace H := Option.bind_eq_some_iff.mp H
           obtain ⟨t155, A230, H⟩ := H
           replace H : (if t155 = true then (pergolaref09_number.j2 k2 a0 x7_2 x8_5 x9_2 x10_2 x11_2 (decide (x11_2 < 0))) else (pergolaref09_number.j2 k2 a0 x7_2 x8_5 x9_2 x10_2 x11_2 false)) = some (r1, r2, r3, r4, r5) := H
           have A23 := Aside0.mk A230
           clear A230
           by_cases c24 : t155 = true
           ·subst c24
            have H1 : (pergolaref09_number.j2 k2 a0 x7_2 x8_5 x9_2 x10_2 x11_2 (decide (x11_2 < 0))) = some (r1, r2, r3, r4, r5) := by rw [if_pos rfl] at H; exact H
            clear H
            have H := H1
            clear H1
            have H' := Aside0.mk H
            clear H
            have p22 : 0 ≤ (x7_2 : Int) := of_decide_eq_true (by first | (with_reducible assumption) | assumption)
            have q22 : x7_2 < (a0.size : Int) := of_decide_eq_true (by first | (with_reducible assumption) | assumption)
            have hx22 := bt_at a0 x7_2
            replace p22 := eq_true p22
            replace q22 := eq_true q22
            go_wp2_with (first | ((with_reducible refine gate_callee (f := 47) rfl ?_); refine goesL_ (some 42) rfl rfl Tryz.func47 (by kernel_rfl) rfl #[.int .u8 (bt a0 x7_2)] rfl (by (try simp only [List.map_toArray, List.map_cons, List.map_nil]); first | done | rfl | (simp only [List.length_drop, List.length_take]; rfl)) ?_; (with_reducible refine (pergolaref09_digit.calls (bt a0 x7_2) true _ A23.out).mono ?_); rintro e w' ⟨rfl, ⟨nd, rfl⟩⟩; refine ⟨_, rfl, ?_⟩))
            go_meet
            case rel => exact ⟨_, (decide (x11_2 < 0)), (by first | rfl | (simp; done) | (simp [*]; done)), H', ⟨by have := HJ5.out; have := HK2.out; first | omega | exact Nat.le_refl _⟩, ⟨by (with_reducible repeat (first | refine blk_drewN ?_ _ | refine blk_drew ?_ | refine blk_alloc ?_ _)); exact BK153.out⟩, ⟨by repeat (first | (with_reducible first | exact HB.out | apply below_alloc | apply pw_below_drewN | apply below_drew1 | refine below_set ?_ GE153.out) | exact HB.out)⟩⟩
           ·replace c24 := Bool.eq_false_iff.mpr c24
            subst c24
            have H1 : (pergolaref09_number.j2 k2 a0 x7_2 x8_5 x9_2 x10_2 x11_2 false) = some (r1, r2, r3, r4, r5) := by rw [if_neg (show ¬ (false = true) by decide)] at H; exact H
            clear H
            have H := H1
            clear H1
            have H' := Aside0.mk H
            clear H
            have p22 : 0 ≤ (x7_2 : Int) := of_decide_eq_true (by first | (with_reducible assumption) | assumption)
            have q22 : x7_2 < (a0.size : Int) := of_decide_eq_true (by first | (with_reducible assumption) | assumption)
            have hx22 := bt_at a0 x7_2
            replace p22 := eq_true p22
            replace q22 := eq_true q22
            go_wp2_with (first | ((with_reducible refine gate_callee (f := 47) rfl ?_); refine goesL_ (some 42) rfl rfl Tryz.func47 (by kernel_rfl) rfl #[.int .u8 (bt a0 x7_2)] rfl (by (try simp only [List.map_toArray, List.map_cons, List.map_nil]); first | done | rfl | (simp only [List.length_drop, List.length_take]; rfl)) ?_; (with_reducible refine (pergolaref09_digit.calls (bt a0 x7_2) false _ A23.out).mono ?_); rintro e w' ⟨rfl, ⟨nd, rfl⟩⟩; refine ⟨_, rfl, ?_⟩))
            go_meet
            case rel => exact ⟨_, (false), (by first | rfl | (simp; done) | (simp [*]; done)), H', ⟨by have := HJ5.out; have := HK2.out; first | omega | exact Nat.le_refl _⟩, ⟨by (with_reducible repeat (first | refine blk_drewN ?_ _ | refine blk_drew ?_ | refine blk_alloc ?_ _)); exact BK153.out⟩, ⟨by repeat (first | (with_reducible first | exact HB.out | apply below_alloc | apply pw_below_drewN | apply below_drew1 | refine below_set ?_ GE153.out) | exact HB.out)⟩⟩
          ·rw [if_neg c21] at H
           exact absurd H (by simp)
         case rest =>
          clear HC20
          try clear c1
          try clear p1
          try clear q1
          try clear hx1
          try clear c2
          try clear p2
          try clear q2
          try clear hx2
          try clear c3
          try clear c3b0
          try clear c4
          try clear c4b0
          try clear p5
          try clear q5
          try clear hx5
          try clear p6
          try clear c8
          try clear c8b0
          try clear c8b1
          try clear c9
          try clear c9b0
          try clear c12
          try clear c12b0
          try clear c13
          try clear c13b0
          try clear p14
          try clear q14
          try clear hx14
          try clear c16
          try clear c19
          try clear c19b0
          try clear c21
          try clear c21b0
          try clear p22
          try clear q22
          try clear hx22
          try clear c24
          try clear hcz10_0
          try clear hcz10_1
          try clear hcz10_2
          try clear hcz17_0
          try clear hcz17_1
          try clear hcz17_2
          try clear hfz10_0
          try clear hfz10_1
          try clear hfz10_2
          try clear hfz17_0
          try clear hfz17_1
          try clear hfz17_2
          try clear p1
          try clear p14
          try clear p2
          try clear p22
          try clear p5
          try clear p6
          try clear q1
          try clear q14
          try clear q22
          try clear q5
          obtain ⟨kq, x38_19, rfl, HA, HJ19, BK153, HB⟩ := hcut
          cases kq with
          | zero => exact absurd HA.out (by simp [pergolaref09_number.j2])
          | succ kj19 =>
           have H := HA.out
           clear HA
           simp only [pergolaref09_number.j2] at H
           by_cases c25 : x38_19 = true
           ·subst c25
            have H1 : (if (wrap64 (x10_2 + 1)) > 15 then (some (0, 0, (⟨#[]⟩ : ByteArray), x7_2, 92)) else (if 0 ≤ x7_2 then (if x7_2 < (a0.size : Int) then (pergolaref09_number.l0 kj19 a0 (wrap64 (x7_2 + 1)) x8_5 (wrap64 ((wrap64 (x9_2 * 10)) + (((bt a0 x7_2) - 48) % 256))) (wrap64 (x10_2 + 1)) x11_2) else (none)) else (none))) = some (r1, r2, r3, r4, r5) := by rw [if_pos rfl] at H; exact H
            clear H
            have H := H1
            clear H1
            by_cases c26 : (wrap64 (x10_2 + 1)) > 15
            ·rw [if_pos c26] at H
             have c26b0 : decide (15 < (wrap64 (x10_2 + 1))) = true := decide_eq_true c26
             clear c26
             simp only [Option.some.injEq, Prod.mk.injEq] at H
             obtain ⟨rfl, rfl, rfl, rfl, rfl⟩ := H
             have hcz27_0 : wc.cell? ⟨gb153, 0, none⟩ = some (.int .i64 x154000_2) := (blk_cell BK153.out 0).trans rfl
             have hcz27_1 : wc.cell? ⟨gb153, 1, none⟩ = some (.int .i64 x154001_2) := (blk_cell BK153.out 1).trans rfl
             have hcz27_2 : wc.cell? ⟨gb153, 2, none⟩ = some (.string x154002_2) := (blk_cell BK153.out 2).trans rfl
             have hfz27_0 := blk_frozen BK153.out 0
             have hfz27_1 := blk_frozen BK153.out 1
             have hfz27_2 := blk_frozen BK153.out 2
             go_wp2
             refine bodyPost_ret (results_ctt rfl _ _ gb153 24 #[.int .i64 0, .int .i64 0, .string (⟨#[]⟩ : ByteArray)] (0, 0) _ rfl (by (with_reducible repeat (first | refine blk_drewN ?_ _ | refine blk_drew ?_ | refine blk_alloc ?_ _)); refine blk_put (cs := #[.int .i64 0, .int .i64 0, .string x154002_2]) ?_ 2 _ rfl; (with_reducible repeat (first | refine blk_drewN ?_ _ | refine blk_drew ?_ | refine blk_alloc ?_ _)); refine blk_put (cs := #[.int .i64 0, .int .i64 x154001_2, .string x154002_2]) ?_ 1 _ rfl; (with_reducible repeat (first | refine blk_drewN ?_ _ | refine blk_drew ?_ | refine blk_alloc ?_ _)); refine blk_put (cs := #[.int .i64 x154000_2, .int .i64 x154001_2, .string x154002_2]) ?_ 0 _ rfl; (with_reducible repeat (first | refine blk_drewN ?_ _ | refine blk_drew ?_ | refine blk_alloc ?_ _)); exact BK153.out) Tryz.underlying24 rfl (by kernel_rfl)) rfl ?_
             exact ⟨by first | rfl | (simp [errW_none, errW_some] <;> rfl) | (simp [*, errW_none, errW_some] <;> rfl), by repeat (first | (with_reducible first | exact HB.out | apply below_alloc | apply pw_below_drewN | apply below_drew1 | refine below_set ?_ GE153.out) | exact HB.out)⟩
            ·rw [if_neg c26] at H
             have c26b0 : decide (15 < (wrap64 (x10_2 + 1))) = false := decide_eq_false c26
             clear c26
             by_cases c28 : 0 ≤ x7_2
             ·rw [if_pos c28] at H
              have c28b0 : decide (0 ≤ x7_2) = true := decide_eq_true c28
              clear c28
              by_cases c29 : x7_2 < (a0.size : Int)
              ·rw [if_pos c29] at H
               have c29b0 : decide (x7_2 < (a0.size : Int)) = true := decide_eq_true c29
               clear c29
               have H' := Aside0.mk H
               clear H
               have p30 : 0 ≤ (x7_2 : Int) := of_decide_eq_true (by first | (with_reducible assumption) | assumption)
               have q30 : x7_2 < (a0.size : Int) := of_decide_eq_true (by first | (with_reducible assumption) | assumption)
               have hx30 := bt_at a0 x7_2
               replace p30 := eq_true p30
               replace q30 := eq_true q30
               go_wp2
               go_roundg kj19
               case measure => have := HJ5.out; have := HK2.out; have := HJ19.out; omega
               case rel => exact ⟨(wrap64 (x7_2 + 1)), (wrap64 ((wrap64 (x9_2 * 10)) + (((bt a0 x7_2) - 48) % 256))), (wrap64 (x10_2 + 1)), (x11_2), (x154000_2), (x154001_2), (x154002_2), (by first | rfl | (simp; done) | (simp [*]; done)), (by first | rfl | (simp; done) | (simp [*]; done)), (by first | rfl | (simp; done) | (simp [*]; done)), (by first | rfl | (simp; done) | (simp [*]; done)), H', ⟨by have := HJ5.out; have := HK2.out; have := HJ19.out; omega⟩, ⟨by (with_reducible repeat (first | refine blk_drewN ?_ _ | refine blk_drew ?_ | refine blk_alloc ?_ _)); exact BK153.out⟩, ⟨by repeat (first | (with_reducible first | exact HB.out | apply below_alloc | apply pw_below_drewN | apply below_drew1 | refine below_set ?_ GE153.out) | exact HB.out)⟩⟩
              ·rw [if_neg c29] at H
               exact absurd H (by simp)
             ·rw [if_neg c28] at H
              exact absurd H (by simp)
           ·replace c25 := Bool.eq_false_iff.mpr c25
            subst c25
            have H1 : (if 0 ≤ x7_2 then (if x7_2 < (a0.size : Int) then (if (bt a0 x7_2) = 46 then (pergolaref09_number.j3 kj19 a0 x7_2 x8_5 x9_2 x10_2 x11_2 (decide (x11_2 < 0))) else (pergolaref09_number.j3 kj19 a0 x7_2 x8_5 x9_2 x10_2 x11_2 false)) else (none)) else (none)) = some (r1, r2, r3, r4, r5) := by rw [if_neg (show ¬ (false = true) by decide)] at H; exact H
            clear H
            have H := H1
            clear H1
            have HC31 := Aside0.mk H
            clear H
            go_upto_region 16 with (fail)
            go_cut [61] (fun v61 wc => ∃ (kq : Nat) (x61_30 : Bool), v61 = .bool x61_30 ∧ Aside0 (pergolaref09_number.j3 kq a0 x7_2 x8_5 x9_2 x10_2 x11_2 x61_30 = some (r1, r2, r3, r4, r5)) ∧ Aside0 (kq ≤ kj19) ∧ Aside0 (wc.heap[gb153]? = some (.cells #[.int .i64 x154000_2, .int .i64 x154001_2, .string x154002_2] 24 (0, 0))) ∧ Aside0 (Below w.heap.size w wc))
            case first =>
             have H := HC31.out
             clear HC31
             by_cases c32 : 0 ≤ x7_2
             ·rw [if_pos c32] at H
              have c32b0 : decide (0 ≤ x7_2) = true := decide_eq_true c32
              clear c32
              (first | rw [c32b0] | (simp only [i64_w, i32_w]; rw [c32b0]) | skip)
              by_cases c33 : x7_2 < (a0.size : Int)
              ·rw [if_pos c33] at H
               have c33b0 : decide (x7_2 < (a0.size : Int)) = true := decide_eq_true c33
               clear c33
               by_cases c35 : (bt a0 x7_2) = 46
               ·rw [if_pos c35] at H
                have c35b0 : ((bt a0 x7_2) == 46) = true := beq_iff_eq.mpr c35
                have c35b1 : ((bt a0 x7_2) != 46) = false := bne_eq_false_iff_eq.mpr c35
                clear c35
                have H' := Aside0.mk H
                clear H
                have p34 : 0 ≤ (x7_2 : Int) := of_decide_eq_true (by first | (with_reducible assumption) | assumption)
                have q34 : x7_2 < (a0.size : Int) := of_decide_eq_true (by first | (with_reducible assumption) | assumption)
                have hx34 := bt_at a0 x7_2
                replace p34 := eq_true p34
                replace q34 := eq_true q34
                go_wp2
                go_meet
                case rel => exact ⟨_, (decide (x11_2 < 0)), (by first | rfl | (simp; done) | (simp [*]; done)), H', ⟨by have := HJ5.out; have := HK2.out; have := HJ19.out; first | omega | exact Nat.le_refl _⟩, ⟨by (with_reducible repeat (first | refine blk_drewN ?_ _ | refine blk_drew ?_ | refine blk_alloc ?_ _)); exact BK153.out⟩, ⟨by repeat (first | (with_reducible first | exact HB.out | apply below_alloc | apply pw_below_drewN | apply below_drew1 | refine below_set ?_ GE153.out) | exact HB.out)⟩⟩
               ·rw [if_neg c35] at H
                have c35b0 : ((bt a0 x7_2) == 46) = false := beq_eq_false_iff_ne.mpr c35
                have c35b1 : ((bt a0 x7_2) != 46) = true := bne_iff_ne.mpr c35
                have H' := Aside0.mk H
                clear H
                have p34 : 0 ≤ (x7_2 : Int) := of_decide_eq_true (by first | (with_reducible assumption) | assumption)
                have q34 : x7_2 < (a0.size : Int) := of_decide_eq_true (by first | (with_reducible assumption) | assumption)
                have hx34 := bt_at a0 x7_2
                replace p34 := eq_true p34
                replace q34 := eq_true q34
                go_wp2
                go_meet
                case rel => exact ⟨_, (false), (by first | rfl | (simp; done) | (simp [*]; done)), H', ⟨by have := HJ5.out; have := HK2.out; have := HJ19.out; first | omega | exact Nat.le_refl _⟩, ⟨by (with_reducible repeat (first | refine blk_drewN ?_ _ | refine blk_drew ?_ | refine blk_alloc ?_ _)); exact BK153.out⟩, ⟨by repeat (first | (with_reducible first | exact HB.out | apply below_alloc | apply pw_below_drewN | apply below_drew1 | refine below_set ?_ GE153.out) | exact HB.out)⟩⟩
              ·rw [if_neg c33] at H
               exact absurd H (by simp)
             ·rw [if_neg c32] at H
              exact absurd H (by simp)
            case rest =>
             clear HC31
             try clear c1
             try clear p1
             try clear q1
             try clear hx1
             try clear c2
             try clear p2
             try clear q2
             try clear hx2
             try clear c3
             try clear c3b0
             try clear p3
             try clear q3
             try clear hx3
             try clear c4
             try clear c4b0
             try clear p5
             try clear q5
             try clear hx5
             try clear p6
             try clear c8
             try clear c8b0
             try clear c8b1
             try clear c9
             try clear c9b0
             try clear c12
             try clear c12b0
             try clear c13
             try clear c13b0
             try clear p14
             try clear q14
             try clear hx14
             try clear c16
             try clear c19
             try clear c19b0
             try clear c21
             try clear c21b0
             try clear p22
             try clear q22
             try clear hx22
             try clear c24
             try clear c25
             try clear c26
             try clear c26b0
             try clear c28
             try clear c28b0
             try clear c29
             try clear c29b0
             try clear p30
             try clear q30
             try clear hx30
             try clear c32
             try clear c32b0
             try clear c33
             try clear c33b0
             try clear p34
             try clear q34
             try clear hx34
             try clear c35
             try clear c35b0
             try clear c35b1
             try clear hcz10_0
             try clear hcz10_1
             try clear hcz10_2
             try clear hcz17_0
             try clear hcz17_1
             try clear hcz17_2
             try clear hcz27_0
             try clear hcz27_1
             try clear hcz27_2
             try clear hfz10_0
             try clear hfz10_1
             try clear hfz10_2
             try clear hfz17_0
             try clear hfz17_1
             try clear hfz17_2
             try clear hfz27_0
             try clear hfz27_1
             try clear hfz27_2
             try clear p1
             try clear p14
             try clear p2
             try clear p22
             try clear p30
             try clear p34
             try clear p5
             try clear p6
             try clear q1
             try clear q14
             try clear q2
             try clear q22
             try clear q30
             try clear q34
             try clear q5
             obtain ⟨kq, x61_30, rfl, HA, HJ30, BK153, HB⟩ := hcut
             cases kq with
             | zero => exact absurd HA.out (by simp [pergolaref09_number.j3])
             | succ kj30 =>
              have H := HA.out
              clear HA
              simp only [pergolaref09_number.j3] at H
              by_cases c36 : x61_30 = true
              ·subst c36
               have H1 : (if x10_2 > 12 then (some (0, 0, (⟨#[]⟩ : ByteArray), x7_2, 92)) else (pergolaref09_number.l0 kj30 a0 (wrap64 (x7_2 + 1)) x8_5 x9_2 x10_2 0)) = some (r1, r2, r3, r4, r5) := by rw [if_pos rfl] at H; exact H
               clear H
               have H := H1
               clear H1
               by_cases c37 : x10_2 > 12
               ·rw [if_pos c37] at H
                have c37b0 : decide (12 < x10_2) = true := decide_eq_true c37
                clear c37
                simp only [Option.some.injEq, Prod.mk.injEq] at H
                obtain ⟨rfl, rfl, rfl, rfl, rfl⟩ := H
                have hcz38_0 : wc.cell? ⟨gb153, 0, none⟩ = some (.int .i64 x154000_2) := (blk_cell BK153.out 0).trans rfl
                have hcz38_1 : wc.cell? ⟨gb153, 1, none⟩ = some (.int .i64 x154001_2) := (blk_cell BK153.out 1).trans rfl
                have hcz38_2 : wc.cell? ⟨gb153, 2, none⟩ = some (.string x154002_2) := (blk_cell BK153.out 2).trans rfl
                have hfz38_0 := blk_frozen BK153.out 0
                have hfz38_1 := blk_frozen BK153.out 1
                have hfz38_2 := blk_frozen BK153.out 2
                go_wp2
                refine bodyPost_ret (results_ctt rfl _ _ gb153 24 #[.int .i64 0, .int .i64 0, .string (⟨#[]⟩ : ByteArray)] (0, 0) _ rfl (by (with_reducible repeat (first | refine blk_drewN ?_ _ | refine blk_drew ?_ | refine blk_alloc ?_ _)); refine blk_put (cs := #[.int .i64 0, .int .i64 0, .string x154002_2]) ?_ 2 _ rfl; (with_reducible repeat (first | refine blk_drewN ?_ _ | refine blk_drew ?_ | refine blk_alloc ?_ _)); refine blk_put (cs := #[.int .i64 0, .int .i64 x154001_2, .string x154002_2]) ?_ 1 _ rfl; (with_reducible repeat (first | refine blk_drewN ?_ _ | refine blk_drew ?_ | refine blk_alloc ?_ _)); refine blk_put (cs := #[.int .i64 x154000_2, .int .i64 x154001_2, .string x154002_2]) ?_ 0 _ rfl; (with_reducible repeat (first | refine blk_drewN ?_ _ | refine blk_drew ?_ | refine blk_alloc ?_ _)); exact BK153.out) Tryz.underlying24 rfl (by kernel_rfl)) rfl ?_
                exact ⟨by first | rfl | (simp [errW_none, errW_some] <;> rfl) | (simp [*, errW_none, errW_some] <;> rfl), by repeat (first | (with_reducible first | exact HB.out | apply below_alloc | apply pw_below_drewN | apply below_drew1 | refine below_set ?_ GE153.out) | exact HB.out)⟩
               ·rw [if_neg c37] at H
                have c37b0 : decide (12 < x10_2) = false := decide_eq_false c37
                clear c37
                have H' := Aside0.mk H
                clear H
                go_wp2
                go_roundg kj30
                case measure => have := HJ5.out; have := HK2.out; have := HJ19.out; have := HJ30.out; omega
                case rel => exact ⟨(wrap64 (x7_2 + 1)), (x9_2), (x10_2), (0), (x154000_2), (x154001_2), (x154002_2), (by first | rfl | (simp; done) | (simp [*]; done)), (by first | rfl | (simp; done) | (simp [*]; done)), (by first | rfl | (simp; done) | (simp [*]; done)), (by first | rfl | (simp; done) | (simp [*]; done)), H', ⟨by have := HJ5.out; have := HK2.out; have := HJ19.out; have := HJ30.out; omega⟩, ⟨by (with_reducible repeat (first | refine blk_drewN ?_ _ | refine blk_drew ?_ | refine blk_alloc ?_ _)); exact BK153.out⟩, ⟨by repeat (first | (with_reducible first | exact HB.out | apply below_alloc | apply pw_below_drewN | apply below_drew1 | refine below_set ?_ GE153.out) | exact HB.out)⟩⟩
              ·replace c36 := Bool.eq_false_iff.mpr c36
               subst c36
               have H1 : (if 0 ≤ x7_2 then (if x7_2 < (a0.size : Int) then ((pergolaref09_digit.f (bt a0 x7_2)).bind fun t156 => (if t156 = true then (if (wrap64 (x11_2 + 1)) > 3 then (some (0, 0, (⟨#[]⟩ : ByteArray), x7_2, 92)) else (pergolaref09_number.l0 kj30 a0 (wrap64 (x7_2 + 1)) x8_5 (wrap64 ((wrap64 (x9_2 * 10)) + (((bt a0 x7_2) - 48) % 256))) x10_2 (wrap64 (x11_2 + 1)))) else (pergolaref09_number.j4 kj30 x7_2 x8_5 x9_2 x11_2))) else (none)) else (none)) = some (r1, r2, r3, r4, r5) := by rw [if_neg (show ¬ (false = true) by decide)] at H; exact H
               clear H
               have H := H1
               clear H1
               by_cases c39 : 0 ≤ x7_2
               ·rw [if_pos c39] at H
                have c39b0 : decide (0 ≤ x7_2) = true := decide_eq_true c39
                clear c39
                by_cases c40 : x7_2 < (a0.size : Int)
                ·rw [if_pos c40] at H
                 have c40b0 : decide (x7_2 < (a0.size : Int)) = true := decide_eq_true c40
                 clear c40
                 replace H := Option.bind_eq_some_iff.mp H
                 obtain ⟨t156, A420, H⟩ := H
                 replace H : (if t156 = true then (if (wrap64 (x11_2 + 1)) > 3 then (some (0, 0, (⟨#[]⟩ : ByteArray), x7_2, 92)) else (pergolaref09_number.l0 kj30 a0 (wrap64 (x7_2 + 1)) x8_5 (wrap64 ((wrap64 (x9_2 * 10)) + (((bt a0 x7_2) - 48) % 256))) x10_2 (wrap64 (x11_2 + 1)))) else (pergolaref09_number.j4 kj30 x7_2 x8_5 x9_2 x11_2)) = some (r1, r2, r3, r4, r5) := H
                 have A42 := Aside0.mk A420
                 clear A420
                 by_cases c43 : t156 = true
                 ·subst c43
                  have H1 : (if (wrap64 (x11_2 + 1)) > 3 then (some (0, 0, (⟨#[]⟩ : ByteArray), x7_2, 92)) else (pergolaref09_number.l0 kj30 a0 (wrap64 (x7_2 + 1)) x8_5 (wrap64 ((wrap64 (x9_2 * 10)) + (((bt a0 x7_2) - 48) % 256))) x10_2 (wrap64 (x11_2 + 1)))) = some (r1, r2, r3, r4, r5) := by rw [if_pos rfl] at H; exact H
                  clear H
                  have H := H1
                  clear H1
                  by_cases c44 : (wrap64 (x11_2 + 1)) > 3
                  ·rw [if_pos c44] at H
                   have c44b0 : decide (3 < (wrap64 (x11_2 + 1))) = true := decide_eq_true c44
                   clear c44
                   simp only [Option.some.injEq, Prod.mk.injEq] at H
                   obtain ⟨rfl, rfl, rfl, rfl, rfl⟩ := H
                   have p41 : 0 ≤ (x7_2 : Int) := of_decide_eq_true (by first | (with_reducible assumption) | assumption)
                   have q41 : x7_2 < (a0.size : Int) := of_decide_eq_true (by first | (with_reducible assumption) | assumption)
                   have hx41 := bt_at a0 x7_2
                   replace p41 := eq_true p41
                   replace q41 := eq_true q41
                   go_wp2_with (first | ((with_reducible refine gate_callee (f := 47) rfl ?_); refine goesL_ (some 78) rfl rfl Tryz.func47 (by kernel_rfl) rfl #[.int .u8 (bt a0 x7_2)] rfl (by (try simp only [List.map_toArray, List.map_cons, List.map_nil]); first | done | rfl | (simp only [List.length_drop, List.length_take]; rfl)) ?_; (with_reducible refine (pergolaref09_digit.calls (bt a0 x7_2) true _ A42.out).mono ?_); rintro e w' ⟨rfl, ⟨nd, rfl⟩⟩; refine ⟨_, rfl, ?_⟩; (try (rw [drewN_self wc]; generalize hq_ : World.drewN wc _ = wc; have n0_ : Aside0 (wc.heap[gb153]? = some (.cells #[.int .i64 x154000_2, .int .i64 x154001_2, .string x154002_2] 24 (0, 0))) := ⟨by rw [← hq_]; exact (by (with_reducible repeat (first | refine blk_drewN ?_ _ | refine blk_drew ?_ | refine blk_alloc ?_ _)); exact BK153.out)⟩; have n1_ : Aside0 (Below w.heap.size w wc) := ⟨by rw [← hq_]; exact (by repeat (first | (with_reducible first | exact HB.out | apply below_alloc | apply pw_below_drewN | apply below_drew1 | refine below_set ?_ GE153.out) | exact HB.out))⟩; clear BK153 HB hq_; have BK153 := n0_; have HB := n1_; clear n0_ n1_)); have hcz45_0 : wc.cell? ⟨gb153, 0, none⟩ = some (.int .i64 x154000_2) := (blk_cell BK153.out 0).trans rfl; have hcz45_1 : wc.cell? ⟨gb153, 1, none⟩ = some (.int .i64 x154001_2) := (blk_cell BK153.out 1).trans rfl; have hcz45_2 : wc.cell? ⟨gb153, 2, none⟩ = some (.string x154002_2) := (blk_cell BK153.out 2).trans rfl; have hfz45_0 := blk_frozen BK153.out 0; have hfz45_1 := blk_frozen BK153.out 1; have hfz45_2 := blk_frozen BK153.out 2))
                   refine bodyPost_ret (results_ctt rfl _ _ gb153 24 #[.int .i64 0, .int .i64 0, .string (⟨#[]⟩ : ByteArray)] (0, 0) _ rfl (by (with_reducible repeat (first | refine blk_drewN ?_ _ | refine blk_drew ?_ | refine blk_alloc ?_ _)); refine blk_put (cs := #[.int .i64 0, .int .i64 0, .string x154002_2]) ?_ 2 _ rfl; (with_reducible repeat (first | refine blk_drewN ?_ _ | refine blk_drew ?_ | refine blk_alloc ?_ _)); refine blk_put (cs := #[.int .i64 0, .int .i64 x154001_2, .string x154002_2]) ?_ 1 _ rfl; (with_reducible repeat (first | refine blk_drewN ?_ _ | refine blk_drew ?_ | refine blk_alloc ?_ _)); refine blk_put (cs := #[.int .i64 x154000_2, .int .i64 x154001_2, .string x154002_2]) ?_ 0 _ rfl; (with_reducible repeat (first | refine blk_drewN ?_ _ | refine blk_drew ?_ | refine blk_alloc ?_ _)); exact BK153.out) Tryz.underlying24 rfl (by kernel_rfl)) rfl ?_
                   exact ⟨by first | rfl | (simp [errW_none, errW_some] <;> rfl) | (simp [*, errW_none, errW_some] <;> rfl), by repeat (first | (with_reducible first | exact HB.out | apply below_alloc | apply pw_below_drewN | apply below_drew1 | refine below_set ?_ GE153.out) | exact HB.out)⟩
                  ·rw [if_neg c44] at H
                   have c44b0 : decide (3 < (wrap64 (x11_2 + 1))) = false := decide_eq_false c44
                   clear c44
                   have H' := Aside0.mk H
                   clear H
                   have p41 : 0 ≤ (x7_2 : Int) := of_decide_eq_true (by first | (with_reducible assumption) | assumption)
                   have q41 : x7_2 < (a0.size : Int) := of_decide_eq_true (by first | (with_reducible assumption) | assumption)
                   have hx41 := bt_at a0 x7_2
                   replace p41 := eq_true p41
                   replace q41 := eq_true q41
                   go_wp2_with (first | ((with_reducible refine gate_callee (f := 47) rfl ?_); refine goesL_ (some 78) rfl rfl Tryz.func47 (by kernel_rfl) rfl #[.int .u8 (bt a0 x7_2)] rfl (by (try simp only [List.map_toArray, List.map_cons, List.map_nil]); first | done | rfl | (simp only [List.length_drop, List.length_take]; rfl)) ?_; (with_reducible refine (pergolaref09_digit.calls (bt a0 x7_2) true _ A42.out).mono ?_); rintro e w' ⟨rfl, ⟨nd, rfl⟩⟩; refine ⟨_, rfl, ?_⟩; have p46 : 0 ≤ (x7_2 : Int) := of_decide_eq_true (by first | (with_reducible assumption) | assumption); have q46 : x7_2 < (a0.size : Int) := of_decide_eq_true (by first | (with_reducible assumption) | assumption); have hx46 := bt_at a0 x7_2; replace p46 := eq_true p46; replace q46 := eq_true q46))
                   go_roundg kj30
                   case measure => have := HJ5.out; have := HK2.out; have := HJ19.out; have := HJ30.out; omega
                   case rel => exact ⟨(wrap64 (x7_2 + 1)), (wrap64 ((wrap64 (x9_2 * 10)) + (((bt a0 x7_2) - 48) % 256))), (x10_2), (wrap64 (x11_2 + 1)), (x154000_2), (x154001_2), (x154002_2), (by first | rfl | (simp; done) | (simp [*]; done)), (by first | rfl | (simp; done) | (simp [*]; done)), (by first | rfl | (simp; done) | (simp [*]; done)), (by first | rfl | (simp; done) | (simp [*]; done)), H', ⟨by have := HJ5.out; have := HK2.out; have := HJ19.out; have := HJ30.out; omega⟩, ⟨by (with_reducible repeat (first | refine blk_drewN ?_ _ | refine blk_drew ?_ | refine blk_alloc ?_ _)); exact BK153.out⟩, ⟨by repeat (first | (with_reducible first | exact HB.out | apply below_alloc | apply pw_below_drewN | apply below_drew1 | refine below_set ?_ GE153.out) | exact HB.out)⟩⟩
                 ·replace c43 := Bool.eq_false_iff.mpr c43
                  subst c43
                  have H1 : (pergolaref09_number.j4 kj30 x7_2 x8_5 x9_2 x11_2) = some (r1, r2, r3, r4, r5) := by rw [if_neg (show ¬ (false = true) by decide)] at H; exact H
                  clear H
                  have H := H1
                  clear H1
                  have H' := Aside0.mk H
                  clear H
                  have p41 : 0 ≤ (x7_2 : Int) := of_decide_eq_true (by first | (with_reducible assumption) | assumption)
                  have q41 : x7_2 < (a0.size : Int) := of_decide_eq_true (by first | (with_reducible assumption) | assumption)
                  have hx41 := bt_at a0 x7_2
                  replace p41 := eq_true p41
                  replace q41 := eq_true q41
                  go_wp2_with (first | ((with_reducible refine gate_callee (f := 47) rfl ?_); refine goesL_ (some 78) rfl rfl Tryz.func47 (by kernel_rfl) rfl #[.int .u8 (bt a0 x7_2)] rfl (by (try simp only [List.map_toArray, List.map_cons, List.map_nil]); first | done | rfl | (simp only [List.length_drop, List.length_take]; rfl)) ?_; (with_reducible refine (pergolaref09_digit.calls (bt a0 x7_2) false _ A42.out).mono ?_); rintro e w' ⟨rfl, ⟨nd, rfl⟩⟩; refine ⟨_, rfl, ?_⟩))
                  go_meet
                  case rel => exact ⟨_, (x7_2), (x9_2), (x11_2), (x154000_2), (x154001_2), (x154002_2), (by first | rfl | (simp; done) | (simp [*]; done)), (by first | rfl | (simp; done) | (simp [*]; done)), (by first | rfl | (simp; done) | (simp [*]; done)), H', ⟨by have := HJ5.out; have := HK2.out; have := HJ19.out; have := HJ30.out; first | omega | exact Nat.le_refl _⟩, ⟨by (with_reducible repeat (first | refine blk_drewN ?_ _ | refine blk_drew ?_ | refine blk_alloc ?_ _)); exact BK153.out⟩, ⟨by repeat (first | (with_reducible first | exact HB.out | apply below_alloc | apply pw_below_drewN | apply below_drew1 | refine below_set ?_ GE153.out) | exact HB.out)⟩⟩
                ·rw [if_neg c40] at H
                 exact absurd H (by simp)
               ·rw [if_neg c39] at H
                exact absurd H (by simp)
        ·rw [if_neg c19] at H
         have c19b0 : decide (x7_2 < (a0.size : Int)) = false := decide_eq_false c19
         clear c19
         (first | rw [c19b0] | (simp only [i64_w, i32_w]; rw [c19b0]) | skip)
         have H' := Aside0.mk H
         clear H
         go_wp2
         go_meet
         case rel => exact ⟨_, (x7_2), (x9_2), (x11_2), (x154000_2), (x154001_2), (x154002_2), (by first | rfl | (simp; done) | (simp [*]; done)), (by first | rfl | (simp; done) | (simp [*]; done)), (by first | rfl | (simp; done) | (simp [*]; done)), H', ⟨by have := HJ5.out; have := HK2.out; first | omega | exact Nat.le_refl _⟩, ⟨by (with_reducible repeat (first | refine blk_drewN ?_ _ | refine blk_drew ?_ | refine blk_alloc ?_ _)); exact BK153.out⟩, ⟨by repeat (first | (with_reducible first | exact HB.out | apply below_alloc | apply pw_below_drewN | apply below_drew1 | refine below_set ?_ GE153.out) | exact HB.out)⟩⟩
     case rest =>
      clear HC18
      try clear c1
      try clear p1
      try clear q1
      try clear hx1
      try clear c2
      try clear p2
      try clear q2
      try clear hx2
      try clear c3
      try clear c3b0
      try clear p3
      try clear q3
      try clear hx3
      try clear c4
      try clear c4b0
      try clear p4
      try clear q4
      try clear hx4
      try clear p5
      try clear q5
      try clear hx5
      try clear p6
      try clear c8
      try clear c8b0
      try clear c8b1
      try clear c9
      try clear c9b0
      try clear c12
      try clear c12b0
      try clear c13
      try clear c13b0
      try clear p14
      try clear q14
      try clear hx14
      try clear c16
      try clear c19
      try clear c19b0
      try clear c21
      try clear c21b0
      try clear p22
      try clear q22
      try clear hx22
      try clear c24
      try clear c25
      try clear c26
      try clear c26b0
      try clear c28
      try clear c28b0
      try clear c29
      try clear c29b0
      try clear p30
      try clear q30
      try clear hx30
      try clear c32
      try clear c32b0
      try clear c33
      try clear c33b0
      try clear p34
      try clear q34
      try clear hx34
      try clear c35
      try clear c35b0
      try clear c35b1
      try clear c36
      try clear c37
      try clear c37b0
      try clear c39
      try clear c39b0
      try clear c40
      try clear c40b0
      try clear p41
      try clear q41
      try clear hx41
      try clear c43
      try clear c44
      try clear c44b0
      try clear p46
      try clear q46
      try clear hx46
      try clear hcz10_0
      try clear hcz10_1
      try clear hcz10_2
      try clear hcz17_0
      try clear hcz17_1
      try clear hcz17_2
      try clear hcz27_0
      try clear hcz27_1
      try clear hcz27_2
      try clear hcz38_0
      try clear hcz38_1
      try clear hcz38_2
      try clear hcz45_0
      try clear hcz45_1
      try clear hcz45_2
      try clear hfz10_0
      try clear hfz10_1
      try clear hfz10_2
      try clear hfz17_0
      try clear hfz17_1
      try clear hfz17_2
      try clear hfz27_0
      try clear hfz27_1
      try clear hfz27_2
      try clear hfz38_0
      try clear hfz38_1
      try clear hfz38_2
      try clear hfz45_0
      try clear hfz45_1
      try clear hfz45_2
      try clear p1
      try clear p14
      try clear p2
      try clear p22
      try clear p3
      try clear p30
      try clear p34
      try clear p41
      try clear p46
      try clear p5
      try clear p6
      try clear q1
      try clear q14
      try clear q2
      try clear q22
      try clear q3
      try clear q30
      try clear q34
      try clear q41
      try clear q46
      try clear q5
      obtain ⟨kq, x7_17, x9_17, x11_17, x154000_17, x154001_17, x154002_17, rfl, rfl, rfl, HA, HJ17, BK153, HB⟩ := hcut
      cases kq with
      | zero => exact absurd HA.out (by simp [pergolaref09_number.j4])
      | succ kj17 =>
       have H := HA.out
       clear HA
       simp only [pergolaref09_number.j4] at H
       by_cases c47 : x11_17 < 0
       ·rw [if_pos c47] at H
        have c47b0 : decide (x11_17 < 0) = true := decide_eq_true c47
        clear c47
        simp only [Option.some.injEq, Prod.mk.injEq] at H
        obtain ⟨rfl, rfl, rfl, rfl, rfl⟩ := H
        have hcz48_0 : wc.cell? ⟨gb153, 0, none⟩ = some (.int .i64 x154000_17) := (blk_cell BK153.out 0).trans rfl
        have hcz48_1 : wc.cell? ⟨gb153, 1, none⟩ = some (.int .i64 x154001_17) := (blk_cell BK153.out 1).trans rfl
        have hcz48_2 : wc.cell? ⟨gb153, 2, none⟩ = some (.string x154002_17) := (blk_cell BK153.out 2).trans rfl
        have hfz48_0 := blk_frozen BK153.out 0
        have hfz48_1 := blk_frozen BK153.out 1
        have hfz48_2 := blk_frozen BK153.out 2
        go_wp2
        refine bodyPost_ret (results_ctt rfl _ _ gb153 24 #[.int .i64 1, .int .i64 (wrap64 (x8_5 * x9_17)), .string (⟨#[]⟩ : ByteArray)] (0, 0) _ rfl (by (with_reducible repeat (first | refine blk_drewN ?_ _ | refine blk_drew ?_ | refine blk_alloc ?_ _)); refine blk_put (cs := #[.int .i64 1, .int .i64 (wrap64 (x8_5 * x9_17)), .string x154002_17]) ?_ 2 _ rfl; (with_reducible repeat (first | refine blk_drewN ?_ _ | refine blk_drew ?_ | refine blk_alloc ?_ _)); refine blk_put (cs := #[.int .i64 1, .int .i64 x154001_17, .string x154002_17]) ?_ 1 _ rfl; (with_reducible repeat (first | refine blk_drewN ?_ _ | refine blk_drew ?_ | refine blk_alloc ?_ _)); refine blk_put (cs := #[.int .i64 x154000_17, .int .i64 x154001_17, .string x154002_17]) ?_ 0 _ rfl; (with_reducible repeat (first | refine blk_drewN ?_ _ | refine blk_drew ?_ | refine blk_alloc ?_ _)); exact BK153.out) Tryz.underlying24 rfl (by kernel_rfl)) rfl ?_
        exact ⟨by first | rfl | (simp [errW_none, errW_some] <;> rfl) | (simp [*, errW_none, errW_some] <;> rfl), by repeat (first | (with_reducible first | exact HB.out | apply below_alloc | apply pw_below_drewN | apply below_drew1 | refine below_set ?_ GE153.out) | exact HB.out)⟩
       ·rw [if_neg c47] at H
        have c47b0 : decide (x11_17 < 0) = false := decide_eq_false c47
        clear c47
        by_cases c49 : x11_17 = 0
        ·rw [if_pos c49] at H
         have c49b0 : (x11_17 == 0) = true := beq_iff_eq.mpr c49
         have c49b1 : (x11_17 != 0) = false := bne_eq_false_iff_eq.mpr c49
         clear c49
         simp only [Option.some.injEq, Prod.mk.injEq] at H
         obtain ⟨rfl, rfl, rfl, rfl, rfl⟩ := H
         have hcz50_0 : wc.cell? ⟨gb153, 0, none⟩ = some (.int .i64 x154000_17) := (blk_cell BK153.out 0).trans rfl
         have hcz50_1 : wc.cell? ⟨gb153, 1, none⟩ = some (.int .i64 x154001_17) := (blk_cell BK153.out 1).trans rfl
         have hcz50_2 : wc.cell? ⟨gb153, 2, none⟩ = some (.string x154002_17) := (blk_cell BK153.out 2).trans rfl
         have hfz50_0 := blk_frozen BK153.out 0
         have hfz50_1 := blk_frozen BK153.out 1
         have hfz50_2 := blk_frozen BK153.out 2
         go_wp2
         refine bodyPost_ret (results_ctt rfl _ _ gb153 24 #[.int .i64 0, .int .i64 0, .string (⟨#[]⟩ : ByteArray)] (0, 0) _ rfl (by (with_reducible repeat (first | refine blk_drewN ?_ _ | refine blk_drew ?_ | refine blk_alloc ?_ _)); refine blk_put (cs := #[.int .i64 0, .int .i64 0, .string x154002_17]) ?_ 2 _ rfl; (with_reducible repeat (first | refine blk_drewN ?_ _ | refine blk_drew ?_ | refine blk_alloc ?_ _)); refine blk_put (cs := #[.int .i64 0, .int .i64 x154001_17, .string x154002_17]) ?_ 1 _ rfl; (with_reducible repeat (first | refine blk_drewN ?_ _ | refine blk_drew ?_ | refine blk_alloc ?_ _)); refine blk_put (cs := #[.int .i64 x154000_17, .int .i64 x154001_17, .string x154002_17]) ?_ 0 _ rfl; (with_reducible repeat (first | refine blk_drewN ?_ _ | refine blk_drew ?_ | refine blk_alloc ?_ _)); exact BK153.out) Tryz.underlying24 rfl (by kernel_rfl)) rfl ?_
         exact ⟨by first | rfl | (simp [errW_none, errW_some] <;> rfl) | (simp [*, errW_none, errW_some] <;> rfl), by repeat (first | (with_reducible first | exact HB.out | apply below_alloc | apply pw_below_drewN | apply below_drew1 | refine below_set ?_ GE153.out) | exact HB.out)⟩
        ·rw [if_neg c49] at H
         have c49b0 : (x11_17 == 0) = false := beq_eq_false_iff_ne.mpr c49
         have c49b1 : (x11_17 != 0) = true := bne_iff_ne.mpr c49
         have H' := Aside0.mk H
         clear H
         go_wp2
         go_loopg [9, 11] kj17 (fun kq v9 v11 w' => ∃ (x9_3 : Int) (x11_3 : Int), v9 = .int .i64 x9_3 ∧ v11 = .int .i64 x11_3 ∧ Aside0 (pergolaref09_number.l1 kq x7_17 x8_5 x9_3 x11_3 = some (r1, r2, r3, r4, r5)) ∧ Aside0 (kq ≤ kj17) ∧ Aside0 (w'.heap[gb153]? = some (.cells #[.int .i64 x154000_17, .int .i64 x154001_17, .string x154002_17] 24 (0, 0))) ∧ Aside0 (Below w.heap.size w w'))
         case atStart => exact ⟨(x9_17), (x11_17), (by first | rfl | (simp; done) | (simp [*]; done)), (by first | rfl | (simp; done) | (simp [*]; done)), H', ⟨Nat.le_refl _⟩, ⟨by (with_reducible repeat (first | refine blk_drewN ?_ _ | refine blk_drew ?_ | refine blk_alloc ?_ _)); exact BK153.out⟩, ⟨by repeat (first | (with_reducible first | exact HB.out | apply below_alloc | apply pw_below_drewN | apply below_drew1 | refine below_set ?_ GE153.out) | exact HB.out)⟩⟩
         case round =>
          clear H'
          try clear c1
          try clear p1
          try clear q1
          try clear hx1
          try clear c2
          try clear p2
          try clear q2
          try clear hx2
          try clear c3
          try clear c3b0
          try clear p3
          try clear q3
          try clear hx3
          try clear c4
          try clear c4b0
          try clear p4
          try clear q4
          try clear hx4
          try clear p5
          try clear q5
          try clear hx5
          try clear p6
          try clear c8
          try clear c8b0
          try clear c8b1
          try clear c9
          try clear c9b0
          try clear c12
          try clear c12b0
          try clear c13
          try clear c13b0
          try clear p14
          try clear q14
          try clear hx14
          try clear c16
          try clear c19
          try clear c19b0
          try clear c21
          try clear c21b0
          try clear p22
          try clear q22
          try clear hx22
          try clear c24
          try clear c25
          try clear c26
          try clear c26b0
          try clear c28
          try clear c28b0
          try clear c29
          try clear c29b0
          try clear p30
          try clear q30
          try clear hx30
          try clear c32
          try clear c32b0
          try clear c33
          try clear c33b0
          try clear p34
          try clear q34
          try clear hx34
          try clear c35
          try clear c35b0
          try clear c35b1
          try clear c36
          try clear c37
          try clear c37b0
          try clear c39
          try clear c39b0
          try clear c40
          try clear c40b0
          try clear p41
          try clear q41
          try clear hx41
          try clear c43
          try clear c44
          try clear c44b0
          try clear p46
          try clear q46
          try clear hx46
          try clear c47
          try clear c47b0
          try clear c49
          try clear c49b0
          try clear c49b1
          try clear hcz10_0
          try clear hcz10_1
          try clear hcz10_2
          try clear hcz17_0
          try clear hcz17_1
          try clear hcz17_2
          try clear hcz27_0
          try clear hcz27_1
          try clear hcz27_2
          try clear hcz38_0
          try clear hcz38_1
          try clear hcz38_2
          try clear hcz45_0
          try clear hcz45_1
          try clear hcz45_2
          try clear hcz48_0
          try clear hcz48_1
          try clear hcz48_2
          try clear hcz50_0
          try clear hcz50_1
          try clear hcz50_2
          try clear hfz10_0
          try clear hfz10_1
          try clear hfz10_2
          try clear hfz17_0
          try clear hfz17_1
          try clear hfz17_2
          try clear hfz27_0
          try clear hfz27_1
          try clear hfz27_2
          try clear hfz38_0
          try clear hfz38_1
          try clear hfz38_2
          try clear hfz45_0
          try clear hfz45_1
          try clear hfz45_2
          try clear hfz48_0
          try clear hfz48_1
          try clear hfz48_2
          try clear hfz50_0
          try clear hfz50_1
          try clear hfz50_2
          try clear p1
          try clear p14
          try clear p2
          try clear p22
          try clear p3
          try clear p30
          try clear p34
          try clear p4
          try clear p41
          try clear p46
          try clear p5
          try clear p6
          try clear q1
          try clear q14
          try clear q2
          try clear q22
          try clear q3
          try clear q30
          try clear q34
          try clear q4
          try clear q41
          try clear q46
          try clear q5
          obtain ⟨x9_3, x11_3, rfl, rfl, HA, HK3, BK153, HB⟩ := hrel
          cases gk with
          | zero => exact absurd HA.out (by simp [pergolaref09_number.l1])
          | succ k3 =>
           have H := HA.out
           clear HA
           simp only [pergolaref09_number.l1] at H
           by_cases c51 : x11_3 < 3
           ·rw [if_pos c51] at H
            have c51b0 : decide (x11_3 < 3) = true := decide_eq_true c51
            clear c51
            have H' := Aside0.mk H
            clear H
            go_wp2
            go_roundg k3
            case measure => have := HJ5.out; have := HJ17.out; have := HK3.out; omega
            case rel => exact ⟨(wrap64 (x9_3 * 10)), (wrap64 (x11_3 + 1)), (by first | rfl | (simp; done) | (simp [*]; done)), (by first | rfl | (simp; done) | (simp [*]; done)), H', ⟨by have := HJ5.out; have := HJ17.out; have := HK3.out; omega⟩, ⟨by (with_reducible repeat (first | refine blk_drewN ?_ _ | refine blk_drew ?_ | refine blk_alloc ?_ _)); exact BK153.out⟩, ⟨by repeat (first | (with_reducible first | exact HB.out | apply below_alloc | apply pw_below_drewN | apply below_drew1 | refine below_set ?_ GE153.out) | exact HB.out)⟩⟩
           ·rw [if_neg c51] at H
            have c51b0 : decide (x11_3 < 3) = false := decide_eq_false c51
            clear c51
            simp only [Option.some.injEq, Prod.mk.injEq] at H
            obtain ⟨rfl, rfl, rfl, rfl, rfl⟩ := H
            have hcz52_0 : wr.cell? ⟨gb153, 0, none⟩ = some (.int .i64 x154000_17) := (blk_cell BK153.out 0).trans rfl
            have hcz52_1 : wr.cell? ⟨gb153, 1, none⟩ = some (.int .i64 x154001_17) := (blk_cell BK153.out 1).trans rfl
            have hcz52_2 : wr.cell? ⟨gb153, 2, none⟩ = some (.string x154002_17) := (blk_cell BK153.out 2).trans rfl
            have hfz52_0 := blk_frozen BK153.out 0
            have hfz52_1 := blk_frozen BK153.out 1
            have hfz52_2 := blk_frozen BK153.out 2
            go_wp2
            refine bodyPost_ret (results_ctt rfl _ _ gb153 24 #[.int .i64 2, .int .i64 (wrap64 (x8_5 * x9_3)), .string (⟨#[]⟩ : ByteArray)] (0, 0) _ rfl (by (with_reducible repeat (first | refine blk_drewN ?_ _ | refine blk_drew ?_ | refine blk_alloc ?_ _)); refine blk_put (cs := #[.int .i64 2, .int .i64 (wrap64 (x8_5 * x9_3)), .string x154002_17]) ?_ 2 _ rfl; (with_reducible repeat (first | refine blk_drewN ?_ _ | refine blk_drew ?_ | refine blk_alloc ?_ _)); refine blk_put (cs := #[.int .i64 2, .int .i64 x154001_17, .string x154002_17]) ?_ 1 _ rfl; (with_reducible repeat (first | refine blk_drewN ?_ _ | refine blk_drew ?_ | refine blk_alloc ?_ _)); refine blk_put (cs := #[.int .i64 x154000_17, .int .i64 x154001_17, .string x154002_17]) ?_ 0 _ rfl; (with_reducible repeat (first | refine blk_drewN ?_ _ | refine blk_drew ?_ | refine blk_alloc ?_ _)); exact BK153.out) Tryz.underlying24 rfl (by kernel_rfl)) rfl ?_
            exact ⟨by first | rfl | (simp [errW_none, errW_some] <;> rfl) | (simp [*, errW_none, errW_some] <;> rfl), by repeat (first | (with_reducible first | exact HB.out | apply below_alloc | apply pw_below_drewN | apply below_drew1 | refine below_set ?_ GE153.out) | exact HB.out)⟩
  ·rw [if_neg c4] at H
   exact absurd H (by simp)
 ·rw [if_neg c3] at H
  exact absurd H (by simp)

end Go.Proofs.YtkbmbancfbfddaaGreatDoor.X
