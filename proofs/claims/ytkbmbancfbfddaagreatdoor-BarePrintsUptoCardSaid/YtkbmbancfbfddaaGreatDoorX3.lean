-- Written by wip/xprint.py for this seat
import Derived.Test.YtkbmbancfbfddaaGreatDoorX0
namespace Go.Proofs.YtkbmbancfbfddaaGreatDoor.X
open Go.RowKit Go.Proofs.YtkbmbancfbfddaaGreatDoorW.PrintWords Go.Proofs.YtkbmbancfbfddaaGreatDoorW.PrintLast Go.Proofs.YtkbmbancfbfddaaGreatDoorW.PrintMore
attribute [local go_sem] max2_int min2_int max_two min_two max_three min_three max_four min_four   -- for this text's walks alone
set_option linter.unusedVariables false
set_option linter.unusedSimpArgs false

def strconv_FormatInt.f (a0 a1 : Int) : Option ByteArray := if a1 = 10 ∧ -9223372036854775808 ≤ a0 ∧ a0 ≤ 9223372036854775807 then some ⟨(Lib.itoa a0).toArray⟩ else none
theorem strconv_FormatInt.calls (a0 a1 : Int) (r : ByteArray) (w : World) (hT_ : PowIs w) (h : strconv_FormatInt.f a0 a1 = some r) :
  Calls Tryz.prog 25 #[.int .i64 a0, .int .i64 a1] w fun e w' => e = .returned (.string r) ∧ Below w.heap.size w w' := by
 unfold strconv_FormatInt.f at h
 by_cases hc : a1 = 10 ∧ -9223372036854775808 ≤ a0 ∧ a0 ≤ 9223372036854775807
 ·rw [if_pos hc] at h
  obtain rfl := Option.some.inj h
  obtain ⟨rfl, h0, h1⟩ := hc
  exact formatInt a0 h0 h1 w hT_
 ·rw [if_neg hc] at h
  cases h

mutual
def bare_decimal.j0 : Nat → Int → ByteArray → Option (ByteArray)
 | 0, _, _ => none
 | k + 1, x0, x3 => (strconv_FormatInt.f (wrap64 (1000 + (Int.tmod x0 1000))) 10).bind fun t121 => (if 1 ≤ (t121.size : Int) then (bare_decimal.l0 k x0 x3 (t121.extract 1 t121.size)) else (none))
def bare_decimal.l0 : Nat → Int → ByteArray → ByteArray → Option (ByteArray)
 | 0, _, _, _ => none
 | k + 1, x0, x3, x4 => if (x4.size : Int) > 1 then (if 0 ≤ (wrap64 ((x4.size : Int) - 1)) then (if (wrap64 ((x4.size : Int) - 1)) < (x4.size : Int) then (if (bt x4 (wrap64 ((x4.size : Int) - 1))) = 48 then (if (wrap64 ((x4.size : Int) - 1)) ≤ (x4.size : Int) then (bare_decimal.l0 k x0 x3 (x4.extract 0 ((wrap64 ((x4.size : Int) - 1)) : Int).toNat)) else (none)) else ((strconv_FormatInt.f (wrap64 (Int.tdiv x0 1000)) 10).bind fun t122 => (if x3.size + t122.size ≤ 9223372036854775807 then (if (x3 ++ t122).size + 1 ≤ 9223372036854775807 then (if ((x3 ++ t122) ++ (⟨#[46]⟩ : ByteArray)).size + x4.size ≤ 9223372036854775807 then (some (((x3 ++ t122) ++ (⟨#[46]⟩ : ByteArray)) ++ x4)) else (none)) else (none)) else (none)))) else (none)) else (none)) else ((strconv_FormatInt.f (wrap64 (Int.tdiv x0 1000)) 10).bind fun t123 => (if x3.size + t123.size ≤ 9223372036854775807 then (if (x3 ++ t123).size + 1 ≤ 9223372036854775807 then (if ((x3 ++ t123) ++ (⟨#[46]⟩ : ByteArray)).size + x4.size ≤ 9223372036854775807 then (some (((x3 ++ t123) ++ (⟨#[46]⟩ : ByteArray)) ++ x4)) else (none)) else (none)) else (none)))
end
def bare_decimal.f (k : Nat) (a0 : Int) : Option (ByteArray) := if a0 < 0 then (bare_decimal.j0 k (wrap64 (-a0)) (⟨#[45]⟩ : ByteArray)) else (bare_decimal.j0 k a0 (⟨#[]⟩ : ByteArray))
theorem bare_decimal.mono_l : ∀ k, (∀ y0 y1, LeO (bare_decimal.j0 k y0 y1) (bare_decimal.j0 (k + 1) y0 y1)) ∧ (∀ y0 y1 y2, LeO (bare_decimal.l0 k y0 y1 y2) (bare_decimal.l0 (k + 1) y0 y1 y2))
 | 0 => ⟨fun _ _ r h => by simp [bare_decimal.j0] at h, fun _ _ _ r h => by simp [bare_decimal.l0] at h⟩
 | k + 1 => by
  obtain ⟨ih0, ih1⟩ := bare_decimal.mono_l k
  refine ⟨?_, ?_⟩
  ·intro y0 y1
   unfold bare_decimal.j0
   repeat' first
   | (with_reducible exact ih0 _ _)
   | (with_reducible exact ih1 _ _ _)
   | (with_reducible exact LeO.refl _)
   | (with_reducible exact LeO.none _)
   | (with_reducible refine LeO.ite ?_ ?_)
   | (with_reducible refine LeO.bind ?_ (fun _ => ?_))
   | exact ih0 _ _
   | exact ih1 _ _ _
   | exact LeO.none _
   | refine LeO.ite ?_ ?_
   | refine LeO.bind ?_ (fun _ => ?_)
  ·intro y0 y1 y2
   unfold bare_decimal.l0
   repeat' first
   | (with_reducible exact ih0 _ _)
   | (with_reducible exact ih1 _ _ _)
   | (with_reducible exact LeO.refl _)
   | (with_reducible exact LeO.none _)
   | (with_reducible refine LeO.ite ?_ ?_)
   | (with_reducible refine LeO.bind ?_ (fun _ => ?_))
   | exact ih0 _ _
   | exact ih1 _ _ _
   | exact LeO.none _
   | refine LeO.ite ?_ ?_
   | refine LeO.bind ?_ (fun _ => ?_)
theorem bare_decimal.mono : ∀ a0 k, LeO (bare_decimal.f k a0) (bare_decimal.f (k + 1) a0) := by
 intro a0 k
 obtain ⟨ih0, ih1⟩ := bare_decimal.mono_l k
 unfold bare_decimal.f
 repeat' first
   | (with_reducible exact ih0 _ _)
   | (with_reducible exact ih1 _ _ _)
   | (with_reducible exact LeO.refl _)
   | (with_reducible exact LeO.none _)
   | (with_reducible refine LeO.ite ?_ ?_)
   | (with_reducible refine LeO.bind ?_ (fun _ => ?_))
   | exact ih0 _ _
   | exact ih1 _ _ _
   | exact LeO.none _
   | refine LeO.ite ?_ ?_
   | refine LeO.bind ?_ (fun _ => ?_)
set_option maxHeartbeats 8000000 in
set_option maxRecDepth 100000 in
theorem bare_decimal.calls (k : Nat) (a0 : Int) (r : ByteArray) (w : World) (hT_ : PowIs w) (h : bare_decimal.f k a0 = some r) :
  Calls Tryz.prog 26 #[.int .i64 a0] w fun e w' => e = .returned (.string r) ∧ Below w.heap.size w w' := by
 have HT0_ := Aside0.mk hT_
 clear hT_
 have HB := Aside0.mk (Below.refl w.heap.size w)
 have H : (if a0 < 0 then (bare_decimal.j0 k (wrap64 (-a0)) (⟨#[45]⟩ : ByteArray)) else (bare_decimal.j0 k a0 (⟨#[]⟩ : ByteArray))) = some r := h
 clear h
 have HC2 := Aside0.mk H
 clear H
 go_enter Tryz.func26, Tryz.ntmps26
 go_upto_if 6 with (fail)
 go_cut [0, 3] (fun v0 v3 wc => ∃ (kq : Nat) (x0_1 : Int) (x3_1 : ByteArray), v0 = .int .i64 x0_1 ∧ v3 = .string x3_1 ∧ Aside0 (bare_decimal.j0 kq x0_1 x3_1 = some r) ∧ Aside0 (kq ≤ k) ∧ Aside0 (Below w.heap.size w wc))
 case first =>
  have H := HC2.out
  clear HC2
  by_cases c3 : a0 < 0
  ·rw [if_pos c3] at H
   have c3b0 : decide (a0 < 0) = true := decide_eq_true c3
   clear c3
   (first | rw [c3b0] | (simp only [i64_w, i32_w]; rw [c3b0]) | skip)
   have H' := Aside0.mk H
   clear H
   go_wp2
   go_meet
   case rel => exact ⟨_, (wrap64 (-a0)), ((⟨#[45]⟩ : ByteArray)), (by first | rfl | (simp; done) | (simp [*]; done)), (by first | rfl | (simp; done) | (simp [*]; done)), H', ⟨by first | omega | exact Nat.le_refl _⟩, ⟨by repeat (first | (with_reducible first | exact HB.out | apply below_alloc | apply pw_below_drewN | apply below_drew1) | exact HB.out)⟩⟩
  ·rw [if_neg c3] at H
   have c3b0 : decide (a0 < 0) = false := decide_eq_false c3
   clear c3
   (first | rw [c3b0] | (simp only [i64_w, i32_w]; rw [c3b0]) | skip)
   have H' := Aside0.mk H
   clear H
   go_wp2
   go_meet
   case rel => exact ⟨_, (a0), ((⟨#[]⟩ : ByteArray)), (by first | rfl | (simp; done) | (simp [*]; done)), (by first | rfl | (simp; done) | (simp [*]; done)), H', ⟨by first | omega | exact Nat.le_refl _⟩, ⟨by repeat (first | (with_reducible first | exact HB.out | apply below_alloc | apply pw_below_drewN | apply below_drew1) | exact HB.out)⟩⟩
 case rest =>
  clear HC2
  try clear c2
  try clear p2
  try clear c3
  try clear c3b0
  obtain ⟨kq, x0_1, x3_1, rfl, rfl, HA, HJ1, HB⟩ := hcut
  cases kq with
  | zero => exact absurd HA.out (by simp [bare_decimal.j0])
  | succ kj1 =>
   have H := HA.out
   clear HA
   simp only [bare_decimal.j0] at H
   replace H := Option.bind_eq_some_iff.mp H
   obtain ⟨t121, A40, H⟩ := H
   replace H : (if 1 ≤ (t121.size : Int) then (bare_decimal.l0 kj1 x0_1 x3_1 (t121.extract 1 t121.size)) else (none)) = some r := H
   have A4 := Aside0.mk A40
   clear A40
   by_cases c5 : 1 ≤ (t121.size : Int)
   ·rw [if_pos c5] at H
    have c5b0 := eq_true c5
    have c5b1 : decide (1 ≤ (t121.size : Int)) = true := decide_eq_true c5
    clear c5
    have H' := Aside0.mk H
    clear H
    go_wp2_with (first | ((with_reducible refine gate_callee (f := 25) rfl ?_); refine goesL_ (some 12) rfl rfl Tryz.func25 (by kernel_rfl) rfl #[.int .i64 (wrap64 (1000 + (Int.tmod x0_1 1000))), .int .i64 10] rfl (by (try simp only [List.map_toArray, List.map_cons, List.map_nil]); first | done | rfl | (simp only [List.length_drop, List.length_take]; rfl)) ?_; (with_reducible refine (strconv_FormatInt.calls (wrap64 (1000 + (Int.tmod x0_1 1000))) 10 t121 _ ?tabT_ A4.out).mono ?_); (case tabT_ => exact PowIs.below HT0_.out (by repeat (first | (with_reducible first | exact HB.out | apply below_alloc | apply pw_below_drewN | apply below_drew1) | exact HB.out))); rintro e w6 ⟨rfl, hb⟩; refine ⟨_, rfl, ?_⟩; have n0_ := Aside0.mk (below_step (by repeat (first | (with_reducible first | exact HB.out | apply below_alloc | apply pw_below_drewN | apply below_drew1) | exact HB.out)) hb); clear HB; have HB := n0_; clear n0_; (try clear hb); (try clear hb2); (try clear hk); (try clear hi)))
    go_loopg [4] kj1 (fun kq v4 w' => ∃ (x4_2 : ByteArray), v4 = .string x4_2 ∧ Aside0 (bare_decimal.l0 kq x0_1 x3_1 x4_2 = some r) ∧ Aside0 (kq ≤ kj1) ∧ Aside0 (Below w.heap.size w w'))
    case atStart => exact ⟨(t121.extract 1 t121.size), (by first | rfl | (simp; done) | (simp [*]; done)), H', ⟨Nat.le_refl _⟩, ⟨by repeat (first | (with_reducible first | exact HB.out | apply below_alloc | apply pw_below_drewN | apply below_drew1) | exact HB.out)⟩⟩
    case round =>
     clear H'
     try clear c2
     try clear p2
     try clear c3
     try clear c3b0
     try clear c5
     try clear c5b0
     try clear c5b1
     try clear p6
     try clear p2
     obtain ⟨x4_2, rfl, HA, HK2, HB⟩ := hrel
     cases gk with
     | zero => exact absurd HA.out (by simp [bare_decimal.l0])
     | succ k2 =>
      have H := HA.out
      clear HA
      simp only [bare_decimal.l0] at H
      by_cases c7 : (x4_2.size : Int) > 1
      ·rw [if_pos c7] at H
       have c7b0 : decide (1 < (x4_2.size : Int)) = true := decide_eq_true c7
       have c7b1 : decide (1 < x4_2.size) = true := decide_eq_true (by omega)
       clear c7
       obtain ⟨ji8, hji8⟩ : ∃ j_ : Int, (wrap64 ((x4_2.size : Int) - 1)) = j_ := ⟨_, rfl⟩
       replace H : (if 0 ≤ (ji8) then (if (ji8) < (x4_2.size : Int) then (if (bt x4_2 (ji8)) = 48 then (if (ji8) ≤ (x4_2.size : Int) then (bare_decimal.l0 k2 x0_1 x3_1 (x4_2.extract 0 ((ji8) : Int).toNat)) else (none)) else ((strconv_FormatInt.f (wrap64 (Int.tdiv x0_1 1000)) 10).bind fun t122 => (if x3_1.size + t122.size ≤ 9223372036854775807 then (if (x3_1 ++ t122).size + 1 ≤ 9223372036854775807 then (if ((x3_1 ++ t122) ++ (⟨#[46]⟩ : ByteArray)).size + x4_2.size ≤ 9223372036854775807 then (some (((x3_1 ++ t122) ++ (⟨#[46]⟩ : ByteArray)) ++ x4_2)) else (none)) else (none)) else (none)))) else (none)) else (none)) = some r := by first | (rw [hji8] at H; exact H) | (simp only [hji8] at H ⊢; exact H)
       have hji8w : (IntKind.i64.wrap ((x4_2.size : Int) - 1)) = ji8 := (i64_w _).trans hji8
       by_cases c9 : 0 ≤ (ji8)
       ·rw [if_pos c9] at H
        have c9b0 : decide (0 ≤ (ji8)) = true := decide_eq_true c9
        clear c9
        by_cases c10 : (ji8) < (x4_2.size : Int)
        ·rw [if_pos c10] at H
         have c10b0 : decide ((ji8) < (x4_2.size : Int)) = true := decide_eq_true c10
         clear c10
         by_cases c12 : (bt x4_2 (ji8)) = 48
         ·rw [if_pos c12] at H
          have c12b0 : ((bt x4_2 (ji8)) == 48) = true := beq_iff_eq.mpr c12
          have c12b1 : ((bt x4_2 (ji8)) != 48) = false := bne_eq_false_iff_eq.mpr c12
          clear c12
          have c13b0 := eq_true (of_decide_eq_true (by first | (with_reducible assumption) | assumption) : 0 ≤ (ji8))
          by_cases c14 : (ji8) ≤ (x4_2.size : Int)
          ·rw [if_pos c14] at H
           have c14b0 := eq_true c14
           have c14b1 : decide ((ji8) ≤ (x4_2.size : Int)) = true := decide_eq_true c14
           clear c14
           have H' := Aside0.mk H
           clear H
           have p11 : 0 ≤ ((ji8) : Int) := of_decide_eq_true (by first | (with_reducible assumption) | assumption)
           have q11 : (ji8) < (x4_2.size : Int) := of_decide_eq_true (by first | (with_reducible assumption) | assumption)
           have hx11 := bt_at x4_2 (ji8)
           replace p11 := eq_true p11
           replace q11 := eq_true q11
           go_wp2
           go_roundg k2
           case measure => have := HJ1.out; have := HK2.out; omega
           case rel => exact ⟨(x4_2.extract 0 ((ji8) : Int).toNat), (by first | rfl | (simp; done) | (simp only [← hji8] <;> (first | rfl | simp)) | (simp [*]; done)), H', ⟨by have := HJ1.out; have := HK2.out; omega⟩, ⟨by repeat (first | (with_reducible first | exact HB.out | apply below_alloc | apply pw_below_drewN | apply below_drew1) | exact HB.out)⟩⟩
          ·rw [if_neg c14] at H
           exact absurd H (by simp)
         ·rw [if_neg c12] at H
          have c12b0 : ((bt x4_2 (ji8)) == 48) = false := beq_eq_false_iff_ne.mpr c12
          have c12b1 : ((bt x4_2 (ji8)) != 48) = true := bne_iff_ne.mpr c12
          replace H := Option.bind_eq_some_iff.mp H
          obtain ⟨t122, A150, H⟩ := H
          replace H : (if x3_1.size + t122.size ≤ 9223372036854775807 then (if (x3_1 ++ t122).size + 1 ≤ 9223372036854775807 then (if ((x3_1 ++ t122) ++ (⟨#[46]⟩ : ByteArray)).size + x4_2.size ≤ 9223372036854775807 then (some (((x3_1 ++ t122) ++ (⟨#[46]⟩ : ByteArray)) ++ x4_2)) else (none)) else (none)) else (none)) = some r := H
          have A15 := Aside0.mk A150
          clear A150
          by_cases c16 : x3_1.size + t122.size ≤ 9223372036854775807
          ·rw [if_pos c16] at H
           have c16b0 := eq_true c16
           have c16b1 : decide (x3_1.size + t122.size ≤ 9223372036854775807) = true := decide_eq_true c16
           try have c16b2 : (9223372036854775807 < x3_1.size + t122.size) = False := eq_false (Nat.not_lt.2 c16)
           by_cases c17 : (x3_1 ++ t122).size + 1 ≤ 9223372036854775807
           ·rw [if_pos c17] at H
            have c17b0 := eq_true c17
            have c17b1 : decide ((x3_1 ++ t122).size + 1 ≤ 9223372036854775807) = true := decide_eq_true c17
            try have c17b2 : (9223372036854775807 < (x3_1 ++ t122).size + 1) = False := eq_false (Nat.not_lt.2 c17)
            try (have c17b3 := c17b2; simp only [ByteArray.size_append] at c17b3)
            by_cases c18 : ((x3_1 ++ t122) ++ (⟨#[46]⟩ : ByteArray)).size + x4_2.size ≤ 9223372036854775807
            ·rw [if_pos c18] at H
             have c18b0 := eq_true c18
             have c18b1 : decide (((x3_1 ++ t122) ++ (⟨#[46]⟩ : ByteArray)).size + x4_2.size ≤ 9223372036854775807) = true := decide_eq_true c18
             try have c18b2 : (9223372036854775807 < ((x3_1 ++ t122) ++ (⟨#[46]⟩ : ByteArray)).size + x4_2.size) = False := eq_false (Nat.not_lt.2 c18)
             try (have c18b3 := c18b2; simp only [ByteArray.size_append, show (⟨#[46]⟩ : ByteArray).size = 1 from rfl] at c18b3)
             obtain rfl := Option.some.inj H
             have p11 : 0 ≤ ((ji8) : Int) := of_decide_eq_true (by first | (with_reducible assumption) | assumption)
             have q11 : (ji8) < (x4_2.size : Int) := of_decide_eq_true (by first | (with_reducible assumption) | assumption)
             have hx11 := bt_at x4_2 (ji8)
             replace p11 := eq_true p11
             replace q11 := eq_true q11
             go_wp2_with (first | ((with_reducible refine gate_callee (f := 25) rfl ?_); refine goesL_ (some 33) rfl rfl Tryz.func25 (by kernel_rfl) rfl #[.int .i64 (wrap64 (Int.tdiv x0_1 1000)), .int .i64 10] rfl (by (try simp only [List.map_toArray, List.map_cons, List.map_nil]); first | done | rfl | (simp only [List.length_drop, List.length_take]; rfl)) ?_; (with_reducible refine (strconv_FormatInt.calls (wrap64 (Int.tdiv x0_1 1000)) 10 t122 _ ?tabT_ A15.out).mono ?_); (case tabT_ => exact PowIs.below HT0_.out (by repeat (first | (with_reducible first | exact HB.out | apply below_alloc | apply pw_below_drewN | apply below_drew1) | exact HB.out))); rintro e w19 ⟨rfl, hb⟩; refine ⟨_, rfl, ?_⟩; have n0_ := Aside0.mk (below_step (by repeat (first | (with_reducible first | exact HB.out | apply below_alloc | apply pw_below_drewN | apply below_drew1) | exact HB.out)) hb); clear HB; have HB := n0_; clear n0_; (try clear hb); (try clear hb2); (try clear hk); (try clear hi)))
             go_ret
             exact ⟨by first | rfl | (simp [errW_none, errW_some] <;> rfl) | (simp only [← hji8]; first | rfl | (simp [errW_none, errW_some] <;> rfl)) | (simp [*, errW_none, errW_some] <;> rfl), by repeat (first | (with_reducible first | exact HB.out | apply below_alloc | apply pw_below_drewN | apply below_drew1) | exact HB.out)⟩
            ·rw [if_neg c18] at H
             exact absurd H (by simp)
           ·rw [if_neg c17] at H
            exact absurd H (by simp)
          ·rw [if_neg c16] at H
           exact absurd H (by simp)
        ·rw [if_neg c10] at H
         exact absurd H (by simp)
       ·rw [if_neg c9] at H
        exact absurd H (by simp)
      ·rw [if_neg c7] at H
       have c7b0 : decide (1 < (x4_2.size : Int)) = false := decide_eq_false c7
       have c7b1 : decide (1 < x4_2.size) = false := decide_eq_false (by omega)
       clear c7
       replace H := Option.bind_eq_some_iff.mp H
       obtain ⟨t123, A200, H⟩ := H
       replace H : (if x3_1.size + t123.size ≤ 9223372036854775807 then (if (x3_1 ++ t123).size + 1 ≤ 9223372036854775807 then (if ((x3_1 ++ t123) ++ (⟨#[46]⟩ : ByteArray)).size + x4_2.size ≤ 9223372036854775807 then (some (((x3_1 ++ t123) ++ (⟨#[46]⟩ : ByteArray)) ++ x4_2)) else (none)) else (none)) else (none)) = some r := H
       have A20 := Aside0.mk A200
       clear A200
       by_cases c21 : x3_1.size + t123.size ≤ 9223372036854775807
       ·rw [if_pos c21] at H
        have c21b0 := eq_true c21
        have c21b1 : decide (x3_1.size + t123.size ≤ 9223372036854775807) = true := decide_eq_true c21
        try have c21b2 : (9223372036854775807 < x3_1.size + t123.size) = False := eq_false (Nat.not_lt.2 c21)
        by_cases c22 : (x3_1 ++ t123).size + 1 ≤ 9223372036854775807
        ·rw [if_pos c22] at H
         have c22b0 := eq_true c22
         have c22b1 : decide ((x3_1 ++ t123).size + 1 ≤ 9223372036854775807) = true := decide_eq_true c22
         try have c22b2 : (9223372036854775807 < (x3_1 ++ t123).size + 1) = False := eq_false (Nat.not_lt.2 c22)
         try (have c22b3 := c22b2; simp only [ByteArray.size_append] at c22b3)
         by_cases c23 : ((x3_1 ++ t123) ++ (⟨#[46]⟩ : ByteArray)).size + x4_2.size ≤ 9223372036854775807
         ·rw [if_pos c23] at H
          have c23b0 := eq_true c23
          have c23b1 : decide (((x3_1 ++ t123) ++ (⟨#[46]⟩ : ByteArray)).size + x4_2.size ≤ 9223372036854775807) = true := decide_eq_true c23
          try have c23b2 : (9223372036854775807 < ((x3_1 ++ t123) ++ (⟨#[46]⟩ : ByteArray)).size + x4_2.size) = False := eq_false (Nat.not_lt.2 c23)
          try (have c23b3 := c23b2; simp only [ByteArray.size_append, show (⟨#[46]⟩ : ByteArray).size = 1 from rfl] at c23b3)
          obtain rfl := Option.some.inj H
          go_wp2_with (first | ((with_reducible refine gate_callee (f := 25) rfl ?_); refine goesL_ (some 33) rfl rfl Tryz.func25 (by kernel_rfl) rfl #[.int .i64 (wrap64 (Int.tdiv x0_1 1000)), .int .i64 10] rfl (by (try simp only [List.map_toArray, List.map_cons, List.map_nil]); first | done | rfl | (simp only [List.length_drop, List.length_take]; rfl)) ?_; (with_reducible refine (strconv_FormatInt.calls (wrap64 (Int.tdiv x0_1 1000)) 10 t123 _ ?tabT_ A20.out).mono ?_); (case tabT_ => exact PowIs.below HT0_.out (by repeat (first | (with_reducible first | exact HB.out | apply below_alloc | apply pw_below_drewN | apply below_drew1) | exact HB.out))); rintro e w24 ⟨rfl, hb⟩; refine ⟨_, rfl, ?_⟩; have n0_ := Aside0.mk (below_step (by repeat (first | (with_reducible first | exact HB.out | apply below_alloc | apply pw_below_drewN | apply below_drew1) | exact HB.out)) hb); clear HB; have HB := n0_; clear n0_; (try clear hb); (try clear hb2); (try clear hk); (try clear hi)))
          go_ret
          exact ⟨by first | rfl | (simp [errW_none, errW_some] <;> rfl) | (simp [*, errW_none, errW_some] <;> rfl), by repeat (first | (with_reducible first | exact HB.out | apply below_alloc | apply pw_below_drewN | apply below_drew1) | exact HB.out)⟩
         ·rw [if_neg c23] at H
          exact absurd H (by simp)
        ·rw [if_neg c22] at H
         exact absurd H (by simp)
       ·rw [if_neg c21] at H
        exact absurd H (by simp)
   ·rw [if_neg c5] at H
    exact absurd H (by simp)

-- INFO 5
def b64base : ByteArray := ⟨#[65, 66, 67, 68, 69, 70, 71, 72, 73, 74, 75, 76, 77, 78, 79, 80, 81, 82, 83, 84, 85, 86, 87, 88, 89, 90, 97, 98, 99, 100, 101, 102, 103, 104, 105, 106, 107, 108, 109, 110, 111, 112, 113, 114, 115, 116, 117, 118, 119, 120, 121, 122, 48, 49, 50, 51, 52, 53, 54, 55, 56, 57, 43, 47]⟩
def b64dig (q : Int) (n k : Nat) : Int := if n < k then 61 else bt b64base (q % 64)
def b64v (b : List Int) : Int := b.getD 0 0 * 65536 + b.getD 1 0 * 256 + b.getD 2 0
def b64four (b : List Int) : List Int := [b64dig (b64v b / 262144) (min b.length 3) 0, b64dig (b64v b / 4096) (min b.length 3) 1, b64dig (b64v b / 64) (min b.length 3) 2, b64dig (b64v b) (min b.length 3) 3]
def isByte (x : Int) : Bool := decide (0 ≤ x) && decide (x ≤ 255)
def octets_Base64.l0 : Nat → List Int → List Int → Option ByteArray
 | 0, _, _ => none
 | k + 1, b, out => if 0 < b.length then (if (isByte (b.getD 0 0) && isByte (b.getD 1 0) && isByte (b.getD 2 0)) = true then (if out.length + 4 < 140737488355328 then octets_Base64.l0 k (b.drop (min 3 b.length)) (out ++ b64four b) else none) else none) else some (strOfNums out)
def octets_Base64.f (k : Nat) (l0 : List Int) : Option ByteArray := octets_Base64.l0 k l0 []
theorem octets_Base64.mono_l : ∀ k b out, LeO (octets_Base64.l0 k b out) (octets_Base64.l0 (k + 1) b out) := by
 intro k
 induction k with
 | zero => intro b out; exact LeO.none _
 | succ k ih =>
  intro b out
  unfold octets_Base64.l0
  exact LeO.ite (LeO.ite (LeO.ite (ih _ _) (LeO.none _)) (LeO.none _)) (LeO.refl _)
theorem octets_Base64.mono : ∀ l0 k, LeO (octets_Base64.f k l0) (octets_Base64.f (k + 1) l0) := fun l0 k => octets_Base64.mono_l k _ _
theorem b64_splice (f : Int → Value) (b : List Int) (hb : 0 < b.length) : splice [f 0, f 0, f 0] 0 ((b.take 3).map f) = [f (b.getD 0 0), f (b.getD 1 0), f (b.getD 2 0)] := by
 match b, hb with
 | [a], _ => rfl
 | [a, c], _ => rfl
 | a :: c :: d :: t, _ => simp [splice]
set_option maxRecDepth 100000 in
theorem b64_or (x y z : Int) (hx : 0 ≤ x ∧ x ≤ 255) (hy : 0 ≤ y ∧ y ≤ 255) (hz : 0 ≤ z ∧ z ≤ 255) : Go.bits .or .u64 (Go.bits .or .u64 (x * 65536) (y * 256)) z = x * 65536 + y * 256 + z := by
 obtain ⟨x, rfl⟩ := Int.eq_ofNat_of_zero_le hx.1
 obtain ⟨y, rfl⟩ := Int.eq_ofNat_of_zero_le hy.1
 obtain ⟨z, rfl⟩ := Int.eq_ofNat_of_zero_le hz.1
 have h1 := u64_or_nat (x * 65536) (y * 256) (by omega) (by omega)
 have e1 : x * 65536 ||| y * 256 = x * 65536 + y * 256 := by
  have := Nat.shiftLeft_add_eq_or_of_lt (show y * 256 < 2 ^ 16 by omega) x
  simp only [Nat.shiftLeft_eq, Nat.reducePow] at this
  exact this.symm
 rw [e1] at h1
 have h2 := u64_or_nat (x * 65536 + y * 256) z (by omega) (by omega)
 have e2 : (x * 65536 + y * 256) ||| z = x * 65536 + y * 256 + z := by
  have := Nat.shiftLeft_add_eq_or_of_lt (show z < 2 ^ 8 by omega) (x * 256 + y)
  simp only [Nat.shiftLeft_eq, Nat.reducePow] at this
  rw [show x * 65536 + y * 256 = (x * 256 + y) * 256 by omega]
  exact this.symm
 rw [e2] at h2
 simp only [Int.natCast_mul, Int.natCast_add, Int.cast_ofNat_Int] at h1 h2
 rw [h1, h2]
theorem b64_and (v : Int) (h : 0 ≤ v) (h2 : v < 18446744073709551616) : Go.bits .and .u64 v 63 = v % 64 := by
 obtain ⟨v, rfl⟩ := Int.eq_ofNat_of_zero_le h
 have h1 := u64_and_nat v 63 (by omega) (by omega)
 have : v &&& 63 = v % 64 := Nat.and_two_pow_sub_one_eq_mod v 6
 rw [this] at h1
 simp only [Int.cast_ofNat_Int] at h1
 rw [h1, Int.natCast_emod]
 rfl
theorem isByte_of {x : Int} (h : isByte x = true) : 0 ≤ x ∧ x ≤ 255 := by simpa [isByte] using h
theorem b64_src {W : World} {A : Option Addr} {b : List Int} (h : Kd.C (Kd.int .u8) W A b.length b) (g : Nat) : 0 < ((b.take 3).map (Value.int .u8)).length → (some (⟨g, 0, none⟩ : Addr) = some ⟨g, 0, none⟩) ∧ ∃ ad, A = some ad ∧ ∀ j v, ((b.take 3).map (Value.int .u8))[j]? = some v → W.cell? (ad.add j) = some v := by
 intro hp
 have hr := Kd.reads_of_C (enc := Value.int .u8) (d := (0 : Int)) (h1 := fun _ => rfl) h
 have h0 : 0 < b.length := by rw [List.length_map, List.length_take] at hp; omega
 obtain ⟨ad, e, hc⟩ := hr.2.2 h0
 refine ⟨rfl, ad, e, fun j v hj => ?_⟩
 rw [List.getElem?_map, List.getElem?_take] at hj
 split at hj
 ·rename_i h3
  cases hb : b[j]? with
  | none => rw [hb] at hj; cases hj
  | some x =>
   rw [hb] at hj
   obtain rfl : Value.int .u8 x = v := by simpa using hj
   have hl := (List.getElem?_eq_some_iff.1 hb).1
   rw [hc j hl, List.getD_eq_getElem?_getD, hb]
   rfl
 ·cases hj
theorem b64_one (b : List Int) : ∀ v ∈ (b.take 3).map (Value.int .u8), v.oneCell' = true := by
 intro v hv
 obtain ⟨x, _, rfl⟩ := List.mem_map.1 hv
 rfl
set_option maxHeartbeats 4000000 in
set_option maxRecDepth 100000 in
theorem octets_Base64.calls (k : Nat) (A0 : Option Addr) (c0 : Nat) (l0 : List Int) (r : ByteArray) (w : World) (hr0 : Kd.C (Kd.int .u8) w A0 l0.length l0) (hc0 : l0.length ≤ c0) (h : octets_Base64.f k l0 = some r) :
  Calls Tryz.prog 29 #[.slice A0 l0.length c0] w fun e w' => e = .returned (.string r) ∧ Below w.heap.size w w' := by
 have HR := Aside0.mk hr0
 have HC := Aside0.mk hc0
 have H := Aside0.mk (show octets_Base64.l0 k l0 [] = some r from h)
 clear h hr0 hc0
 go_enter Tryz.func29, Tryz.ntmps29
 go_wp2
 go_loopg [0, 3] k (fun kq v0 v3 wr => ∃ (b out : List Int) (A : Option Addr) (c : Nat), v0 = .slice A b.length c ∧ Aside0 (octets_Base64.l0 kq b out = some r) ∧ Aside0 (kq ≤ k) ∧ Aside0 (b.length ≤ c) ∧ Aside0 (Kd.C (Kd.int .u8) w A b.length b) ∧ Aside0 (Kd.R (Kd.int .u8) 5 wr w.heap.size (fun _ => True) v3 out) ∧ Aside0 (Below w.heap.size w wr))
 case atStart => exact ⟨l0, [], A0, c0, rfl, H, ⟨Nat.le_refl _⟩, HC, HR, ⟨Kd.R_nil _ _ _ _ _⟩, ⟨Below.refl _ _⟩⟩
 case round =>
  clear H HR HC
  obtain ⟨b, out, A, c, rfl, HA, HK, HC, HR, HO, HB⟩ := hrel
  cases gk with
  | zero => exact absurd HA.out (by simp [octets_Base64.l0])
  | succ k1 =>
   have h := HA.out
   clear HA
   simp only [octets_Base64.l0] at h
   by_cases hlt : 0 < b.length
   ·rw [if_pos hlt] at h
    by_cases hby : (isByte (b.getD 0 0) && isByte (b.getD 1 0) && isByte (b.getD 2 0)) = true
    ·rw [if_pos hby] at h
     by_cases hlim : out.length + 4 < 140737488355328
     ·rw [if_pos hlim] at h
      have H := Aside0.mk h
      clear h
      simp only [Bool.and_eq_true] at hby
      obtain ⟨⟨hx, hy⟩, hz⟩ := hby
      replace hx := isByte_of hx
      replace hy := isByte_of hy
      replace hz := isByte_of hz
      have hlt2 : (0 : Int) < (b.length : Int) := by omega
      have hor := b64_or _ _ _ hx hy hz
      have HSP := Aside0.mk (b64_splice (Value.int .u8) b hlt)
      have HN := Aside0.mk (show ((b.take 3).map (Value.int .u8)).length = Nat.min b.length 3 by rw [List.length_map, List.length_take, Nat.min_comm])
      have HF := Aside0.mk (show b64four b = [b64dig (b64v b / 262144) (min b.length 3) 0, b64dig (b64v b / 4096) (min b.length 3) 1, b64dig (b64v b / 64) (min b.length 3) 2, b64dig (b64v b) (min b.length 3) 3] from rfl)
      have hv : b.getD 0 0 * 65536 + b.getD 1 0 * 256 + b.getD 2 0 = b64v b := rfl
      rw [hv] at hor
      have hv0 : 0 ≤ b64v b := by omega
      have hv1 : b64v b < 16777216 := by omega
      clear hv
      generalize b64v b = V at *
      generalize b.getD 0 0 = x0 at *
      generalize b.getD 1 0 = x1 at *
      generalize b.getD 2 0 = x2 at *
      have hb0 : Below wr.heap.size wr (wr.alloc (.cells [Value.int .u8 0, Value.int .u8 0, Value.int .u8 0].toArray 100)) := below_alloc (Below.refl _ _) _
      have HS := Aside0.mk (b64_src (Kd.C_below HR.out (below_alloc HB.out (.cells [Value.int .u8 0, Value.int .u8 0, Value.int .u8 0].toArray 100))) wr.heap.size)
      have H5 := Aside0.mk (show (Tryz.prog.info? 5).map (·.size) = some 1 by have h5 := congrArg (Option.map fun z => z.2.1) info5; simpa [Option.map_map, Function.comp_def] using h5)
      have HB0 := Aside0.mk hb0
      clear hb0
      go_wp2_with (first | ((with_reducible refine gate_builtin (b := .copy) (xs := #[.tmp 16, .tmp 17]) rfl ?_); refine wpList_copy_splice rfl (.tmp 16) (.tmp 17) 59 59 rfl 5 Tryz.underlying59 H5.out (some ⟨wr.heap.size, 0, none⟩) A 3 3 b.length c rfl rfl wr.heap.size 0 [Value.int .u8 0, Value.int .u8 0, Value.int .u8 0] 100 (heap_alloc_new wr _) ((b.take 3).map (Value.int .u8)) HN.out HS.out (by rw [HN.out, Nat.zero_add]; exact Nat.min_le_right _ _) (b64_one b) wr.heap.size wr HB0.out (Nat.le_refl _) ?_; intro w2 hg2 hb2; have hh := hg2.out; rw [HSP.out] at hh; have q0 := cell_of_row w2 wr.heap.size 0 _ _ _ hh; have q1 := cell_of_row w2 wr.heap.size 1 _ _ _ hh; have q2 := cell_of_row w2 wr.heap.size 2 _ _ _ hh; have HO2 := Aside0.mk (Kd.R_below HO.out hb2); have HB2 := Aside0.mk (below_then HB.out HB.out.size hb2); clear hh hg2 hb2 HO HB HS HB0; rw [HN.out]))
      clear q0 q1 q2 hx hy hz hor HSP H5
      obtain ⟨n, hn⟩ : ∃ n, b.length.min 3 = n := ⟨_, rfl⟩
      rw [hn]
      have hn3 : n ≤ 3 := by rw [← hn]; exact Nat.min_le_right _ _
      have HNN := Aside0.mk hn
      have HF2 := HF.out
      rw [show min b.length 3 = n from hn] at HF2
      clear HF HN hn
      have HF := Aside0.mk HF2
      clear HF2
      go_loopw [32, 3] (fun v32 v3 wq => ∃ (j : Nat), v32 = .int .i64 j ∧ j ≤ 4 ∧ Aside0 (Kd.R (Kd.int .u8) 5 wq w.heap.size (fun _ => True) v3 (out ++ (b64four b).take j)) ∧ Aside0 (Below w.heap.size w wq)) (fun v32 _ _ => 4 - (intOf v32).toNat)
      case atStart => exact ⟨0, rfl, by omega, ⟨by simpa using HO2.out⟩, HB2⟩
      case round =>
       clear HO2 HB2
       obtain ⟨j, rfl, hj, HO, HB⟩ := hrel
       by_cases hj4 : j < 4
       ·have hcs : j = 0 ∨ j = 1 ∨ j = 2 ∨ j = 3 := by omega
        rcases hcs with rfl | rfl | rfl | rfl
        ·have hand := b64_and (V / 262144) (by omega) (by omega)
         have h0 : 0 ≤ V / 262144 % 64 := by omega
         have h1 : V / 262144 % 64 < 64 := by omega
         have hbt := bt_at b64base (V / 262144 % 64)
         unfold b64base at hbt
         by_cases hnj : n < 0
         ·omega
         ·go_wp2_with (first | ((with_reducible refine gate_builtin (b := .append) (xs := #[.tmp 41, .tmp 49]) rfl ?_); at_builtin; refine Kd.R_append (Kd.int .u8) (w0 := w) w.heap.size rfl (.tmp 41) (.tmp 49) 59 5 (.int .u8 0) 1 rfl Tryz.underlying59 info5 rfl (by decide) (by omega) _ _ (bt b64base (V / 262144 % 64)) [.int .u8 (bt b64base (V / 262144 % 64))] (fun _ => True) (fun _ => False) rfl rfl rfl (fun _ hk => hk.elim) (fun _ _ => trivial) HO.out HB.out (below_size HB.out) ?aL ?_; (case aL => simp; omega); intro v1 w3 ho hb hg hat; have n0_ := Aside0.mk hb; have n1_ := Aside0.mk ho; clear ho hb hg hat HB HO))
          exact ⟨⟨1, by go_num, by omega, ⟨by have := n1_.out; rw [HF.out] at this ⊢; simpa [b64dig, hnj] using this⟩, n0_⟩, by simp [intOf]⟩
        ·have hand := b64_and (V / 4096) (by omega) (by omega)
         have h0 : 0 ≤ V / 4096 % 64 := by omega
         have h1 : V / 4096 % 64 < 64 := by omega
         have hbt := bt_at b64base (V / 4096 % 64)
         unfold b64base at hbt
         by_cases hnj : n < 1
         ·go_wp2_with (first | ((with_reducible refine gate_builtin (b := .append) (xs := #[.tmp 38, .tmp 39]) rfl ?_); at_builtin; refine Kd.R_append (Kd.int .u8) (w0 := w) w.heap.size rfl (.tmp 38) (.tmp 39) 59 5 (.int .u8 0) 1 rfl Tryz.underlying59 info5 rfl (by decide) (by omega) _ _ (61) [.int .u8 (61)] (fun _ => True) (fun _ => False) rfl rfl rfl (fun _ hk => hk.elim) (fun _ _ => trivial) HO.out HB.out (below_size HB.out) ?aL ?_; (case aL => simp; omega); intro v1 w3 ho hb hg hat; have n0_ := Aside0.mk hb; have n1_ := Aside0.mk ho; clear ho hb hg hat HB HO))
          exact ⟨⟨2, by go_num, by omega, ⟨by have := n1_.out; rw [HF.out] at this ⊢; simpa [b64dig, hnj] using this⟩, n0_⟩, by simp [intOf]⟩
         ·go_wp2_with (first | ((with_reducible refine gate_builtin (b := .append) (xs := #[.tmp 41, .tmp 49]) rfl ?_); at_builtin; refine Kd.R_append (Kd.int .u8) (w0 := w) w.heap.size rfl (.tmp 41) (.tmp 49) 59 5 (.int .u8 0) 1 rfl Tryz.underlying59 info5 rfl (by decide) (by omega) _ _ (bt b64base (V / 4096 % 64)) [.int .u8 (bt b64base (V / 4096 % 64))] (fun _ => True) (fun _ => False) rfl rfl rfl (fun _ hk => hk.elim) (fun _ _ => trivial) HO.out HB.out (below_size HB.out) ?aL ?_; (case aL => simp; omega); intro v1 w3 ho hb hg hat; have n0_ := Aside0.mk hb; have n1_ := Aside0.mk ho; clear ho hb hg hat HB HO))
          exact ⟨⟨2, by go_num, by omega, ⟨by have := n1_.out; rw [HF.out] at this ⊢; simpa [b64dig, hnj] using this⟩, n0_⟩, by simp [intOf]⟩
        ·have hand := b64_and (V / 64) (by omega) (by omega)
         have h0 : 0 ≤ V / 64 % 64 := by omega
         have h1 : V / 64 % 64 < 64 := by omega
         have hbt := bt_at b64base (V / 64 % 64)
         unfold b64base at hbt
         by_cases hnj : n < 2
         ·go_wp2_with (first | ((with_reducible refine gate_builtin (b := .append) (xs := #[.tmp 38, .tmp 39]) rfl ?_); at_builtin; refine Kd.R_append (Kd.int .u8) (w0 := w) w.heap.size rfl (.tmp 38) (.tmp 39) 59 5 (.int .u8 0) 1 rfl Tryz.underlying59 info5 rfl (by decide) (by omega) _ _ (61) [.int .u8 (61)] (fun _ => True) (fun _ => False) rfl rfl rfl (fun _ hk => hk.elim) (fun _ _ => trivial) HO.out HB.out (below_size HB.out) ?aL ?_; (case aL => simp; omega); intro v1 w3 ho hb hg hat; have n0_ := Aside0.mk hb; have n1_ := Aside0.mk ho; clear ho hb hg hat HB HO))
          exact ⟨⟨3, by go_num, by omega, ⟨by have := n1_.out; rw [HF.out] at this ⊢; simpa [b64dig, hnj] using this⟩, n0_⟩, by simp [intOf]⟩
         ·go_wp2_with (first | ((with_reducible refine gate_builtin (b := .append) (xs := #[.tmp 41, .tmp 49]) rfl ?_); at_builtin; refine Kd.R_append (Kd.int .u8) (w0 := w) w.heap.size rfl (.tmp 41) (.tmp 49) 59 5 (.int .u8 0) 1 rfl Tryz.underlying59 info5 rfl (by decide) (by omega) _ _ (bt b64base (V / 64 % 64)) [.int .u8 (bt b64base (V / 64 % 64))] (fun _ => True) (fun _ => False) rfl rfl rfl (fun _ hk => hk.elim) (fun _ _ => trivial) HO.out HB.out (below_size HB.out) ?aL ?_; (case aL => simp; omega); intro v1 w3 ho hb hg hat; have n0_ := Aside0.mk hb; have n1_ := Aside0.mk ho; clear ho hb hg hat HB HO))
          exact ⟨⟨3, by go_num, by omega, ⟨by have := n1_.out; rw [HF.out] at this ⊢; simpa [b64dig, hnj] using this⟩, n0_⟩, by simp [intOf]⟩
        ·have hand := b64_and (V) (by omega) (by omega)
         have h0 : 0 ≤ V % 64 := by omega
         have h1 : V % 64 < 64 := by omega
         have hbt := bt_at b64base (V % 64)
         unfold b64base at hbt
         by_cases hnj : n < 3
         ·go_wp2_with (first | ((with_reducible refine gate_builtin (b := .append) (xs := #[.tmp 38, .tmp 39]) rfl ?_); at_builtin; refine Kd.R_append (Kd.int .u8) (w0 := w) w.heap.size rfl (.tmp 38) (.tmp 39) 59 5 (.int .u8 0) 1 rfl Tryz.underlying59 info5 rfl (by decide) (by omega) _ _ (61) [.int .u8 (61)] (fun _ => True) (fun _ => False) rfl rfl rfl (fun _ hk => hk.elim) (fun _ _ => trivial) HO.out HB.out (below_size HB.out) ?aL ?_; (case aL => simp; omega); intro v1 w3 ho hb hg hat; have n0_ := Aside0.mk hb; have n1_ := Aside0.mk ho; clear ho hb hg hat HB HO))
          exact ⟨⟨4, by go_num, by omega, ⟨by have := n1_.out; rw [HF.out] at this ⊢; simpa [b64dig, hnj] using this⟩, n0_⟩, by simp [intOf]⟩
         ·go_wp2_with (first | ((with_reducible refine gate_builtin (b := .append) (xs := #[.tmp 41, .tmp 49]) rfl ?_); at_builtin; refine Kd.R_append (Kd.int .u8) (w0 := w) w.heap.size rfl (.tmp 41) (.tmp 49) 59 5 (.int .u8 0) 1 rfl Tryz.underlying59 info5 rfl (by decide) (by omega) _ _ (bt b64base (V % 64)) [.int .u8 (bt b64base (V % 64))] (fun _ => True) (fun _ => False) rfl rfl rfl (fun _ hk => hk.elim) (fun _ _ => trivial) HO.out HB.out (below_size HB.out) ?aL ?_; (case aL => simp; omega); intro v1 w3 ho hb hg hat; have n0_ := Aside0.mk hb; have n1_ := Aside0.mk ho; clear ho hb hg hat HB HO))
          exact ⟨⟨4, by go_num, by omega, ⟨by have := n1_.out; rw [HF.out] at this ⊢; simpa [b64dig, hnj] using this⟩, n0_⟩, by simp [intOf]⟩
       ·obtain rfl : j = 4 := by omega
        have ho := HO.out
        rw [List.take_of_length_le (by rw [HF.out]; simp)] at ho
        have HO4 := Aside0.mk ho
        clear ho HO
        obtain ⟨i5, hi5, he5⟩ := Option.map_eq_some_iff.1 info5
        simp only [Prod.mk.injEq] at he5
        have hC := Kd.C_drop (c := c) HR.out (m := min 3 b.length) (Nat.min_le_right _ _) HC.out
        replace hC : Kd.C (Kd.int .u8) w (if c = min 3 b.length then A else A.map (·.add (min 3 b.length * 1))) (b.drop (min 3 b.length)).length (b.drop (min 3 b.length)) := hC
        by_cases h3 : (b.length : Int) < 3
        ·have hcut := cut_from (P := Tryz.prog) 59 5 .i64 Tryz.underlying59 hi5 1 he5.2.1 A b.length c ((b.length : Int)) (by omega) (by omega)
         rw [show ((b.length : Int) : Int).toNat = min 3 b.length by omega, ← List.length_drop] at hcut
         generalize (if c = min 3 b.length then A else A.map (·.add (min 3 b.length * 1))) = A2 at hcut hC
         have HC2 := Aside0.mk hC
         clear hC hi5 he5
         go_wp2
         go_roundg k1
         case measure => have := HK.out; omega
         case rel => exact ⟨b.drop (min 3 b.length), out ++ b64four b, A2, c - min 3 b.length, (by first | rfl | (simp; done)), H, ⟨by have := HK.out; omega⟩, ⟨by have := HC.out; rw [List.length_drop]; omega⟩, HC2, HO4, HB⟩
        ·have hcut := cut_from (P := Tryz.prog) 59 5 .i64 Tryz.underlying59 hi5 1 he5.2.1 A b.length c (3) (by omega) (by omega)
         rw [show (3 : Int).toNat = min 3 b.length by omega, ← List.length_drop] at hcut
         generalize (if c = min 3 b.length then A else A.map (·.add (min 3 b.length * 1))) = A2 at hcut hC
         have HC2 := Aside0.mk hC
         clear hC hi5 he5
         go_wp2
         go_roundg k1
         case measure => have := HK.out; omega
         case rel => exact ⟨b.drop (min 3 b.length), out ++ b64four b, A2, c - min 3 b.length, (by first | rfl | (simp; done)), H, ⟨by have := HK.out; omega⟩, ⟨by have := HC.out; rw [List.length_drop]; omega⟩, HC2, HO4, HB⟩
     ·rw [if_neg hlim] at h
      cases h
    ·rw [if_neg hby] at h
     cases h
   ·rw [if_neg hlt] at h
    obtain rfl := Option.some.inj h
    clear h
    have hlt2 : ¬ (0 : Int) < (b.length : Int) := by omega
    have hcv := own_string (P := Tryz.prog) Tryz.underlying59 Tryz.underlying5 Tryz.underlying9 (Kd.own_of_R HO.out)
    go_wp2
    go_ret
    exact ⟨by first | rfl | (simp; done) | (simp [*]; done), HB.out⟩

def octets_Hex.l0 : Nat → List Int → List Int → Int → Int → Option (ByteArray)
 | 0, _, _, _, _ => none
 | k + 1, x3, x10, x11, x12 => if x12 < x11 then (if 0 ≤ x12 then (if x12 < (x10.length : Int) then (if 0 ≤ ((rd x10 x12) / 16) then (if ((rd x10 x12) / 16) < 16 then (if 0 ≤ (Go.bits .and .u8 (rd x10 x12) 15) then (if (Go.bits .and .u8 (rd x10 x12) 15) < 16 then ((some (([bt (⟨#[48, 49, 50, 51, 52, 53, 54, 55, 56, 57, 97, 98, 99, 100, 101, 102]⟩ : ByteArray) ((rd x10 x12) / 16), bt (⟨#[48, 49, 50, 51, 52, 53, 54, 55, 56, 57, 97, 98, 99, 100, 101, 102]⟩ : ByteArray) (Go.bits .and .u8 (rd x10 x12) 15)] : List Int) : List Int)).bind fun y128 => (if x3.length + y128.length < 140737488355328 then (octets_Hex.l0 k (x3 ++ y128) x10 x11 (wrap64 (x12 + 1))) else (none))) else (none)) else (none)) else (none)) else (none)) else (none)) else (none)) else (some (strOfNums x3))
def octets_Hex.f (k : Nat) (l0 : List Int) : Option (ByteArray) := if 0 ≤ (wrap64 (2 * (l0.length : Int))) then (if (wrap64 (2 * (l0.length : Int)) : Int).toNat ≤ 281474976710656 then (octets_Hex.l0 k (([] : List Int)) l0 (l0.length : Int) 0) else (none)) else (none)
def octets_Hex.T5 : Bool × List (List Nat × List Nat) := (true, [([], []), ([], []), ([1], [1]), ([2], [2]), ([], []), ([4], [4]), ([5], [5]), ([3, 6], [3, 6]), ([0, 7], [0, 7]), ([8, 8, 0, 1, 2, 3, 4, 5, 6, 7, 8], [0, 8])])
def octets_Hex.B5 : List Nat := [0, 0, 2, 6, 0, 16, 48, 126, 255, 511]
theorem octets_Hex.tab5 : rtab .any (opsOf Tryz.f31 5) = octets_Hex.T5 := by kernel_rfl
theorem octets_Hex.bits5 : waitsOk octets_Hex.T5.2 octets_Hex.B5 = true := by kernel_rfl
set_option maxHeartbeats 8000000 in
set_option maxRecDepth 100000 in
theorem octets_Hex.calls (k : Nat) (A0 : Option Addr) (c0 : Nat) (l0 : List Int) (r : ByteArray) (w : World) (hr0 : Kd.C (Kd.int .u8) w A0 l0.length l0) (hc0 : l0.length ≤ c0) (h : octets_Hex.f k l0 = some r) :
  Calls Tryz.prog 31 #[.slice A0 l0.length c0] w fun e w' => e = .returned (.string r) ∧ Below w.heap.size w w' := by
 have HR0 := Aside0.mk hr0
 have HC0 := Aside0.mk hc0
 clear hr0 hc0
 have HB := Aside0.mk (Below.refl w.heap.size w)
 have H : (if 0 ≤ (wrap64 (2 * (l0.length : Int))) then (if (wrap64 (2 * (l0.length : Int)) : Int).toNat ≤ 281474976710656 then (octets_Hex.l0 k (([] : List Int)) l0 (l0.length : Int) 0) else (none)) else (none)) = some r := h
 clear h
 obtain ⟨ji2, hji2⟩ : ∃ j_ : Int, (wrap64 (2 * (l0.length : Int))) = j_ := ⟨_, rfl⟩
 replace H : (if 0 ≤ (ji2) then (if (ji2 : Int).toNat ≤ 281474976710656 then (octets_Hex.l0 k (([] : List Int)) l0 (l0.length : Int) 0) else (none)) else (none)) = some r := by first | (rw [hji2] at H; exact H) | (simp only [hji2] at H ⊢; exact H)
 have hji2w : (IntKind.i64.wrap (2 * (l0.length : Int))) = ji2 := (i64_w _).trans hji2
 by_cases c3 : 0 ≤ (ji2)
 ·rw [if_pos c3] at H
  have c3b0 := eq_true c3
  have c3b1 : decide (0 ≤ (ji2)) = true := decide_eq_true c3
  clear c3
  by_cases c4 : (ji2 : Int).toNat ≤ 281474976710656
  ·rw [if_pos c4] at H
   have c4b0 := eq_true c4
   have c4b1 : decide ((ji2 : Int).toNat ≤ 281474976710656) = true := decide_eq_true c4
   clear c4
   obtain ⟨y124, hy124⟩ : ∃ y_ : List Int, y_ = (([] : List Int)) := ⟨_, rfl⟩
   replace H : (octets_Hex.l0 k y124 l0 (l0.length : Int) 0) = some r := by first | (rw [hy124]; with_reducible exact H) | (have H2_ := (Option.bind_some _ _).symm.trans H; rw [hy124]; with_reducible exact H2_) | (have H2_ := (Option.bind_some _ _).symm.trans H; with_reducible exact H2_) | with_reducible exact H | (rw [hy124]; exact H) | exact H
   have Ny124 := Aside0.mk hy124
   clear hy124
   have H' := Aside0.mk H
   clear H
   go_enter Tryz.func31, Tryz.ntmps31
   go_wp2_with (first | ((with_reducible refine gate_dst (N := 9) rfl ?_); refine Kd.R_make0 (Kd.int .u8) _ 5 rfl (N := 9) rfl 59 _ _ rfl ji2 rfl rfl Tryz.underlying59 (.int .u8 0) 1 info5 rfl (by decide) (by omega) 0 (ok := fun _ => True) (okp := fun _ => True) rfl (fun _ hk => hk) trivial (of_decide_eq_true (by first | (with_reducible assumption) | assumption)) (Nat.le_trans (Nat.mul_le_mul_right _ (of_decide_eq_true (by first | (with_reducible assumption) | assumption) : ji2.toNat ≤ 281474976710656)) (by omega)) (Below.refl _ _) (Nat.le_refl _) ?_; intro v125 w5 ho6 hb hg_ hnew_; clear hg_ hnew_; (first | rw [← Ny124.out] at ho6 | (simp only [Int.reduceToNat] at ho6; rw [← Ny124.out] at ho6)); have n0_ := Aside0.mk (Kd.R_lower ho6 (below_size (by repeat (first | (with_reducible first | exact HB.out | apply below_alloc | apply pw_below_drewN | apply below_drew1) | exact HB.out)))); have n1_ := Aside0.mk (below_step (by repeat (first | (with_reducible first | exact HB.out | apply below_alloc | apply pw_below_drewN | apply below_drew1) | exact HB.out)) hb); clear HB; have HO126 := n0_; have HB := n1_; clear n0_ n1_; clear hb ho6))
   go_loopg [3, 12] k (fun kq v3 v12 w' => ∃ (x3_1 : List Int) (x12_1 : Int), v12 = .int .i64 x12_1 ∧ Aside0 (octets_Hex.l0 kq x3_1 l0 (l0.length : Int) x12_1 = some r) ∧ Aside0 (kq ≤ k) ∧ Aside0 (Kd.R (Kd.int .u8) 5 w' w.heap.size (fun _ => True) v3 x3_1) ∧ Aside0 (Below w.heap.size w w'))
   case atStart => exact ⟨(y124), (0), (by first | rfl | (simp; done) | (simp [*]; done)), H', ⟨Nat.le_refl _⟩, ⟨by (with_reducible repeat (first | apply Kd.R_alloc | apply Kd.R_drewN | apply Kd.R_drew)); exact HO126.out⟩, ⟨by repeat (first | (with_reducible first | exact HB.out | apply below_alloc | apply pw_below_drewN | apply below_drew1) | exact HB.out)⟩⟩
   case round =>
    clear H'
    try clear p2
    try clear c3
    try clear c3b0
    try clear c3b1
    try clear c4
    try clear c4b0
    try clear c4b1
    try clear p6
    obtain ⟨x3_1, x12_1, rfl, HA, HK1, HO_3, HB⟩ := hrel
    cases gk with
    | zero => exact absurd HA.out (by simp [octets_Hex.l0])
    | succ k1 =>
     have H := HA.out
     clear HA
     simp only [octets_Hex.l0] at H
     by_cases c7 : x12_1 < (l0.length : Int)
     ·rw [if_pos c7] at H
      have c7b0 : decide (x12_1 < (l0.length : Int)) = true := decide_eq_true c7
      clear c7
      by_cases c8 : 0 ≤ x12_1
      ·rw [if_pos c8] at H
       have c8b0 : decide (0 ≤ x12_1) = true := decide_eq_true c8
       clear c8
       by_cases c9 : x12_1 < (l0.length : Int)
       ·rw [if_pos c9] at H
        have c9b0 : decide (x12_1 < (l0.length : Int)) = true := decide_eq_true c9
        clear c9
        obtain ⟨ji10, hji10⟩ : ∃ j_ : Int, ((rd l0 x12_1) / 16) = j_ := ⟨_, rfl⟩
        replace H : (if 0 ≤ (ji10) then (if (ji10) < 16 then (if 0 ≤ (Go.bits .and .u8 (rd l0 x12_1) 15) then (if (Go.bits .and .u8 (rd l0 x12_1) 15) < 16 then ((some (([bt (⟨#[48, 49, 50, 51, 52, 53, 54, 55, 56, 57, 97, 98, 99, 100, 101, 102]⟩ : ByteArray) (ji10), bt (⟨#[48, 49, 50, 51, 52, 53, 54, 55, 56, 57, 97, 98, 99, 100, 101, 102]⟩ : ByteArray) (Go.bits .and .u8 (rd l0 x12_1) 15)] : List Int) : List Int)).bind fun y128 => (if x3_1.length + y128.length < 140737488355328 then (octets_Hex.l0 k1 (x3_1 ++ y128) l0 (l0.length : Int) (wrap64 (x12_1 + 1))) else (none))) else (none)) else (none)) else (none)) else (none)) = some r := by first | (rw [hji10] at H; exact H) | (simp only [hji10] at H ⊢; exact H)
        by_cases c11 : 0 ≤ (ji10)
        ·rw [if_pos c11] at H
         have c11b0 : decide (0 ≤ (ji10)) = true := decide_eq_true c11
         clear c11
         by_cases c12 : (ji10) < 16
         ·rw [if_pos c12] at H
          have c12b0 : decide ((ji10) < 16) = true := decide_eq_true c12
          clear c12
          by_cases c14 : 0 ≤ (Go.bits .and .u8 (rd l0 x12_1) 15)
          ·rw [if_pos c14] at H
           have c14b0 : decide (0 ≤ (Go.bits .and .u8 (rd l0 x12_1) 15)) = true := decide_eq_true c14
           clear c14
           by_cases c15 : (Go.bits .and .u8 (rd l0 x12_1) 15) < 16
           ·rw [if_pos c15] at H
            have c15b0 : decide ((Go.bits .and .u8 (rd l0 x12_1) 15) < 16) = true := decide_eq_true c15
            clear c15
            obtain ⟨y128, hy128⟩ : ∃ y_ : List Int, y_ = (([bt (⟨#[48, 49, 50, 51, 52, 53, 54, 55, 56, 57, 97, 98, 99, 100, 101, 102]⟩ : ByteArray) (ji10), bt (⟨#[48, 49, 50, 51, 52, 53, 54, 55, 56, 57, 97, 98, 99, 100, 101, 102]⟩ : ByteArray) (Go.bits .and .u8 (rd l0 x12_1) 15)] : List Int)) := ⟨_, rfl⟩
            replace H : (if x3_1.length + y128.length < 140737488355328 then (octets_Hex.l0 k1 (x3_1 ++ y128) l0 (l0.length : Int) (wrap64 (x12_1 + 1))) else (none)) = some r := by first | (rw [hy128]; with_reducible exact H) | (have H2_ := (Option.bind_some _ _).symm.trans H; rw [hy128]; with_reducible exact H2_) | (have H2_ := (Option.bind_some _ _).symm.trans H; with_reducible exact H2_) | with_reducible exact H | (rw [hy128]; exact H) | exact H
            have Ny128 := Aside0.mk hy128
            clear hy128
            by_cases c17 : x3_1.length + y128.length < 140737488355328
            ·rw [if_pos c17] at H
             have LMc17 := Aside0.mk c17
             clear c17
             obtain ⟨y131, hy131⟩ : ∃ y_ : List Int, y_ = (x3_1 ++ y128) := ⟨_, rfl⟩
             replace H : (octets_Hex.l0 k1 y131 l0 (l0.length : Int) (wrap64 (x12_1 + 1))) = some r := by first | (rw [hy131]; with_reducible exact H) | (have H2_ := (Option.bind_some _ _).symm.trans H; rw [hy131]; with_reducible exact H2_) | (have H2_ := (Option.bind_some _ _).symm.trans H; with_reducible exact H2_) | with_reducible exact H | (rw [hy131]; exact H) | exact H
             have Ny131 := Aside0.mk hy131
             clear hy131
             have H' := Aside0.mk H
             clear H
             have p127 : 0 ≤ (x12_1 : Int) := of_decide_eq_true (by first | (with_reducible assumption) | assumption)
             have q127 : x12_1 < (l0.length : Int) := of_decide_eq_true (by first | (with_reducible assumption) | assumption)
             obtain ⟨ad127, e127, hx127_0⟩ := Kd.at_int HR0.out x12_1 p127 q127
             cases e127
             replace hx127_0 := (HB.out.cell (World.block_lt_of_cell? w _ hx127_0)).trans hx127_0
             replace p127 := eq_true p127
             replace q127 := eq_true q127
             try go_wp2
             have n0_ := Aside0.mk (Kd.R_drew HO_3.out)
             have n1_ := Aside0.mk (below_drew1 HB.out)
             clear HO_3
             clear HB
             have HO_3 := n0_
             have HB := n1_
             clear n0_ n1_
             have p13 : 0 ≤ ((ji10) : Int) := of_decide_eq_true (by first | (with_reducible assumption) | assumption)
             have q13 : (ji10) < (16 : Int) := of_decide_eq_true (by first | (with_reducible assumption) | assumption)
             have hx13 := bt_at (⟨#[48, 49, 50, 51, 52, 53, 54, 55, 56, 57, 97, 98, 99, 100, 101, 102]⟩ : ByteArray) (ji10)
             replace p13 := eq_true p13
             replace q13 := eq_true q13
             have p16 : 0 ≤ ((Go.bits .and .u8 (rd l0 x12_1) 15) : Int) := of_decide_eq_true (by first | (with_reducible assumption) | assumption)
             have q16 : (Go.bits .and .u8 (rd l0 x12_1) 15) < (16 : Int) := of_decide_eq_true (by first | (with_reducible assumption) | assumption)
             have hx16 := bt_at (⟨#[48, 49, 50, 51, 52, 53, 54, 55, 56, 57, 97, 98, 99, 100, 101, 102]⟩ : ByteArray) (Go.bits .and .u8 (rd l0 x12_1) 15)
             replace p16 := eq_true p16
             replace q16 := eq_true q16
             refine start_ (n := 10) (S := fun w' => True) (ds := []) #[false, false, false, false, false, false, false, false, false, false] (by kernel_rfl) rfl rfl trivial (fun hHeld => ?_); refine with_tabW octets_Hex.tab5 octets_Hex.bits5 (fun HT_ HW_ => ?_)
             generalize wr.drew = w18 at HO_3 HB hHeld ⊢
             refine pure_ (i := 0) (N := some 16) (v := ?_) (a' := ?_) #[true, false, false, false, false, false, false, false, false, false] rfl rfl (any_of HT_.out (by kernel_rfl)) (fun _ _ _ h => h) (Or.inl ⟨by rfl, ?_⟩) ?_ ?_
             rotate_left
             ·intro w'
              go_simp
              with_reducible rfl
             rotate_left
             ·simp only [Act.put, List.setIfInBounds_toArray, List.set_cons_zero, List.set_cons_succ, i64_w, i32_w]
              rfl
             refine pure_ (i := 1) (N := some 17) (v := ?_) (a' := ?_) #[true, true, false, false, false, false, false, false, false, false] rfl rfl (any_of HT_.out (by kernel_rfl)) (fun _ _ _ h => h) (Or.inl ⟨by rfl, ?_⟩) ?_ ?_
             rotate_left
             ·intro w'
              go_simp
              with_reducible rfl
             rotate_left
             ·simp only [Act.put, List.setIfInBounds_toArray, List.set_cons_zero, List.set_cons_succ, i64_w, i32_w]
              rfl
             refine pure_ (i := 2) (N := some 18) (v := ?_) (a' := ?_) #[true, true, true, false, false, false, false, false, false, false] rfl rfl (any_of HT_.out (by kernel_rfl)) (fun _ _ _ h => h) (Or.inl ⟨by rfl, ?_⟩) ?_ ?_
             rotate_left
             ·intro w'
              go_simp
              with_reducible rfl
             rotate_left
             ·simp only [Act.put, List.setIfInBounds_toArray, List.set_cons_zero, List.set_cons_succ, i64_w, i32_w]
              rfl
             refine pure_ (i := 4) (N := some 20) (v := ?_) (a' := ?_) #[true, true, true, false, true, false, false, false, false, false] rfl rfl (any_of HT_.out (by kernel_rfl)) (fun _ _ _ h => h) (Or.inl ⟨by rfl, ?_⟩) ?_ ?_
             rotate_left
             ·intro w'
              go_simp
              with_reducible rfl
             rotate_left
             ·simp only [Act.put, List.setIfInBounds_toArray, List.set_cons_zero, List.set_cons_succ, i64_w, i32_w]
              rfl
             refine pure_ (i := 5) (N := some 21) (v := ?_) (a' := ?_) #[true, true, true, false, true, true, false, false, false, false] rfl rfl (any_of HT_.out (by kernel_rfl)) (fun _ _ _ h => h) (Or.inl ⟨by rfl, ?_⟩) ?_ ?_
             rotate_left
             ·intro w'
              go_simp
              with_reducible rfl
             rotate_left
             ·simp only [Act.put, List.setIfInBounds_toArray, List.set_cons_zero, List.set_cons_succ, i64_w, i32_w]
              rfl
             refine take_ (i := 3) (N := some 19) (v := ?_) (a' := ?_) #[true, true, true, true, true, true, false, false, false, false] rfl rfl (take_ofW HT_.out HW_.out (by kernel_rfl)) (fun _ _ _ h => h) (Or.inl ⟨by rfl, ?_⟩) hHeld ?_ ?_
             rotate_left
             ·intro w' _
              go_simp
              with_reducible rfl
             rotate_left
             ·simp only [Act.put, List.setIfInBounds_toArray, List.set_cons_zero, List.set_cons_succ, i64_w, i32_w]
              rfl
             refine take_ (i := 6) (N := some 22) (v := ?_) (a' := ?_) #[true, true, true, true, true, true, true, false, false, false] rfl rfl (take_ofW HT_.out HW_.out (by kernel_rfl)) (fun _ _ _ h => h) (Or.inl ⟨by rfl, ?_⟩) hHeld ?_ ?_
             rotate_left
             ·intro w' _
              go_simp
              with_reducible rfl
             rotate_left
             ·simp only [Act.put, List.setIfInBounds_toArray, List.set_cons_zero, List.set_cons_succ, i64_w, i32_w]
              rfl
             refine one_ (i := 7) (N := some 23) #[true, true, true, true, true, true, true, true, false, false] rfl rfl (one_of HT_.out (by kernel_rfl)) (by decide) (fun K hK => ?_)
             refine Kd.R_lit_step (Kd.int .u8) _ 5 ?hg (N := 23) ?hd (xs := ([bt (⟨#[48, 49, 50, 51, 52, 53, 54, 55, 56, 57, 97, 98, 99, 100, 101, 102]⟩ : ByteArray) (ji10), bt (⟨#[48, 49, 50, 51, 52, 53, 54, 55, 56, 57, 97, 98, 99, 100, 101, 102]⟩ : ByteArray) (Go.bits .and .u8 (rd l0 x12_1) 15)] : List Int)) (inner := [.int .u8 (bt (⟨#[48, 49, 50, 51, 52, 53, 54, 55, 56, 57, 97, 98, 99, 100, 101, 102]⟩ : ByteArray) (ji10)), .int .u8 (bt (⟨#[48, 49, 50, 51, 52, 53, 54, 55, 56, 57, 97, 98, 99, 100, 101, 102]⟩ : ByteArray) (Go.bits .and .u8 (rd l0 x12_1) 15))]) (ok := fun _ => True) (okp := fun _ => True) ?hr ?hp (fun _ hk => hk) trivial (Below.refl _ _) (Nat.le_refl _) (by simp) ?_; (case hd => rfl); (case hg => rfl); (case hr => first | (go_simp; done) | (go_simp; rfl)); (case hp => exact (Reps.one (show Kd.M (Kd.int .u8) _ _ _ (bt (⟨#[48, 49, 50, 51, 52, 53, 54, 55, 56, 57, 97, 98, 99, 100, 101, 102]⟩ : ByteArray) (ji10)) [.int .u8 (bt (⟨#[48, 49, 50, 51, 52, 53, 54, 55, 56, 57, 97, 98, 99, 100, 101, 102]⟩ : ByteArray) (ji10))] from rfl) (Reps.one (show Kd.M (Kd.int .u8) _ _ _ (bt (⟨#[48, 49, 50, 51, 52, 53, 54, 55, 56, 57, 97, 98, 99, 100, 101, 102]⟩ : ByteArray) (Go.bits .and .u8 (rd l0 x12_1) 15)) [.int .u8 (bt (⟨#[48, 49, 50, 51, 52, 53, 54, 55, 56, 57, 97, 98, 99, 100, 101, 102]⟩ : ByteArray) (Go.bits .and .u8 (rd l0 x12_1) 15))] from rfl) (Reps.none _ _))))
             intro v129 w19 ho20 hb hg_ hnew_
             clear hg_ hnew_
             (first | rw [← Ny128.out] at ho20 | (simp only [Int.reduceToNat] at ho20; rw [← Ny128.out] at ho20))
             have n0_ := Aside0.mk (Kd.R_elder' (by (with_reducible repeat (first | apply Kd.R_alloc | apply Kd.R_drewN | apply Kd.R_drew)); exact HO_3.out) (Kd.R_base ho20) hb)
             have n1_ := Aside0.mk (Kd.R_lower (Kd.R_new' ho20 (Kd.R_lt (by (with_reducible repeat (first | apply Kd.R_alloc | apply Kd.R_drewN | apply Kd.R_drew)); exact HO_3.out))) (below_size (by repeat (first | (with_reducible first | exact HB.out | apply below_alloc | apply pw_below_drewN | apply below_drew1) | exact HB.out))))
             have n2_ := Aside0.mk (below_step (by repeat (first | (with_reducible first | exact HB.out | apply below_alloc | apply pw_below_drewN | apply below_drew1) | exact HB.out)) hb)
             clear HO_3
             clear HB
             have HO_3 := n0_
             have HO130 := n1_
             have HB := n2_
             clear n0_ n1_ n2_
             clear hb ho20
             obtain ⟨Ao22, co22, eo22⟩ := Kd.R_slice HO130.out
             (first | subst eo22 | (injection eo22 with f1_ f2_ f3_; have f4_ := f1_.symm; have f5_ := f3_.symm; clear f1_ f2_ f3_; subst f4_; subst f5_))
             refine hK.out _ _ trivial (fun hHeld => ?_)
             clear hK K
             refine norm_ (a' := ?_) ?_ ?_
             rotate_left
             ·show Act.put _ (some 23) _ = _
              simp only [Act.put, List.setIfInBounds_toArray, List.set_cons_zero, List.set_cons_succ, i64_w, i32_w]
              rfl
             refine one_ (i := 8) (N := some 24) #[true, true, true, true, true, true, true, true, true, false] rfl rfl (one_of HT_.out (by kernel_rfl)) (by decide) (fun K hK => ?_)
             refine Kd.R_append_rows_step (Kd.int .u8) (w0 := w) w.heap.size (by rfl) (.tmp 16) (.tmp 23) 59 5 (.int .u8 0) 1 rfl Tryz.underlying59 info5 rfl (by decide) (by omega) u3 x3_1 y128 _ _ _ (fun k_ => some k_ ≠ (.slice Ao22 y128.length co22 : Value).ownBlock) (fun _ => False) rfl rfl ?aO ?aR (fun _ _ h => h) (fun _ h => h.elim) ?aF ?aB ?aS ?aL ?_
             (case aR => repeat (first | exact (Kd.R_reads' HO130.out).2.2 | (with_reducible refine Kd.C_alloc ?_ _) | (with_reducible refine Kd.C_drewN ?_ _) | (with_reducible refine Kd.C_drew ?_)))
             (case aB => exact (by repeat (first | (with_reducible first | exact HB.out | apply below_alloc | apply pw_below_drewN | apply below_drew1) | exact HB.out)))
             (case aF => exact (fun k_ hk => Kd.fresh' (Kd.R_lt (by (with_reducible repeat (first | apply Kd.R_alloc | apply Kd.R_drewN | apply Kd.R_drew)); exact HO130.out)) k_ hk))
             (case aO => exact (by (with_reducible repeat (first | apply Kd.R_alloc | apply Kd.R_drewN | apply Kd.R_drew)); exact Kd.R_mono HO_3.out (fun _ hk => hk.2)))
             (case aS => exact (below_size (by repeat (first | (with_reducible first | exact HB.out | apply below_alloc | apply pw_below_drewN | apply below_drew1) | exact HB.out))))
             (case aL => have := LMc17.out; omega)
             intro v132 w21 ho hb hg hat
             rw [← Ny131.out] at ho
             have n0_ := Aside0.mk (Kd.R_after (ok := (fun _ => True)) (by (with_reducible repeat (first | apply Kd.R_alloc | apply Kd.R_drewN | apply Kd.R_drew)); exact HO130.out) hg hat)
             have n1_ := Aside0.mk (hb)
             have n2_ := Aside0.mk (ho)
             clear HO130
             clear HB
             clear HO_3
             have HO130 := n0_
             have HB := n1_
             have HO133 := n2_
             clear n0_ n1_ n2_
             clear ho hb hg hat
             refine hK.out _ _ trivial (fun hHeld => ?_)
             clear hK K
             refine norm_ (a' := ?_) ?_ ?_
             rotate_left
             ·show Act.put _ (some 24) _ = _
              simp only [Act.put, List.setIfInBounds_toArray, List.set_cons_zero, List.set_cons_succ, i64_w, i32_w]
              rfl
             refine pure_ (i := 9) (N := some 3) (v := ?_) (a' := ?_) #[true, true, true, true, true, true, true, true, true, true] rfl rfl (any_of HT_.out (by kernel_rfl)) (fun _ _ _ h => h) (Or.inl ⟨by rfl, ?_⟩) ?_ ?_
             rotate_left
             ·intro w'
              go_simp
              with_reducible rfl
             rotate_left
             ·simp only [Act.put, List.setIfInBounds_toArray, List.set_cons_zero, List.set_cons_succ, i64_w, i32_w]
              rfl
             refine done_ (done_of HT_.out (by kernel_rfl)) ?_
             try go_wp2
             go_roundg k1
             case measure => have := HK1.out; omega
             case rel => exact ⟨(y131), (wrap64 (x12_1 + 1)), (by first | rfl | (simp; done) | (simp [*]; done)), H', ⟨by have := HK1.out; omega⟩, ⟨by (with_reducible repeat (first | apply Kd.R_alloc | apply Kd.R_drewN | apply Kd.R_drew)); exact Kd.R_mono HO133.out (fun _ hk => trivial)⟩, ⟨by repeat (first | (with_reducible first | exact HB.out | apply below_alloc | apply pw_below_drewN | apply below_drew1) | exact HB.out)⟩⟩
            ·rw [if_neg c17] at H
             exact absurd H (by simp)
           ·rw [if_neg c15] at H
            exact absurd H (by simp)
          ·rw [if_neg c14] at H
           exact absurd H (by simp)
         ·rw [if_neg c12] at H
          exact absurd H (by simp)
        ·rw [if_neg c11] at H
         exact absurd H (by simp)
       ·rw [if_neg c9] at H
        exact absurd H (by simp)
      ·rw [if_neg c8] at H
       exact absurd H (by simp)
     ·rw [if_neg c7] at H
      have c7b0 : decide (x12_1 < (l0.length : Int)) = false := decide_eq_false c7
      clear c7
      obtain rfl := Option.some.inj H
      have hcv23 := own_string (P := Tryz.prog) Tryz.underlying59 Tryz.underlying5 Tryz.underlying9 (Kd.own_of_R HO_3.out)
      have hcw24 := fun nq_ => own_string (P := Tryz.prog) Tryz.underlying59 Tryz.underlying5 Tryz.underlying9 (Kd.own_of_R (Kd.R_drewN HO_3.out nq_))
      go_wp2
      go_ret
      exact ⟨by first | rfl | (simp [errW_none, errW_some] <;> rfl) | (simp only [← hji2]; first | rfl | (simp [errW_none, errW_some] <;> rfl)) | (simp [*, errW_none, errW_some] <;> rfl), by repeat (first | (with_reducible first | exact HB.out | apply below_alloc | apply pw_below_drewN | apply below_drew1) | exact HB.out)⟩
  ·rw [if_neg c4] at H
   exact absurd H (by simp)
 ·rw [if_neg c3] at H
  exact absurd H (by simp)

end Go.Proofs.YtkbmbancfbfddaaGreatDoor.X
