-- Written by wip/xprint.py for this seat
import Derived.Test.YtkbmbancfbfddaaGreatDoorX0
import Derived.Test.YtkbmbancfbfddaaGreatDoorX3
namespace Go.Proofs.YtkbmbancfbfddaaGreatDoor.X
open Go.RowKit Go.Proofs.YtkbmbancfbfddaaGreatDoorW.PrintWords Go.Proofs.YtkbmbancfbfddaaGreatDoorW.PrintLast Go.Proofs.YtkbmbancfbfddaaGreatDoorW.PrintMore
attribute [local go_sem] max2_int min2_int max_two min_two max_three min_three max_four min_four   -- for this text's walks alone
set_option linter.unusedVariables false
set_option linter.unusedSimpArgs false

def strconv_FormatInt.f (a0 a1 : Int) : Option ByteArray := if a1 = 10 ∧ -9223372036854775808 ≤ a0 ∧ a0 ≤ 9223372036854775807 then some ⟨(Lib.itoa a0).toArray⟩ else none
theorem strconv_FormatInt.calls (a0 a1 : Int) (r : ByteArray) (w : World) (hT_ : PowIs w) (h : strconv_FormatInt.f a0 a1 = some r) :
    Calls Tryz.prog 25 #[.int .i64 a0, .int .i64 a1] w fun e w' => e = .returned (.string r) ∧ Below w.heap.size w w' := by
  unfold strconv_FormatInt.f at h
  by_cases hc : a1 = 10 ∧ -9223372036854775808 ≤ a0 ∧ a0 ≤ 9223372036854775807
  · rw [if_pos hc] at h
    obtain rfl := Option.some.inj h
    obtain ⟨rfl, h0, h1⟩ := hc
    exact formatInt a0 h0 h1 w hT_
  · rw [if_neg hc] at h
    cases h

mutual
def bare_decimal.j0 : Nat → Int → ByteArray → Option (ByteArray)
  | 0, _, _ => none
  | k + 1, x0, x3 => (strconv_FormatInt.f (wrap64 (1000 + (Int.tmod x0 1000))) 10).bind fun t121 => (if 1 ≤ (t121.size : Int) then (bare_decimal.l0 k x0 x3 (t121.extract 1 t121.size)) else (none))
def bare_decimal.l0 : Nat → Int → ByteArray → ByteArray → Option (ByteArray)
  | 0, _, _, _ => none
  | k + 1, x0, x3, x4 => if (x4.size : Int) > 1 then (if 0 ≤ (wrap64 ((x4.size : Int) - 1)) then (if (wrap64 ((x4.size : Int) - 1)) < (x4.size : Int) then (if (bt x4 (wrap64 ((x4.size : Int) - 1))) = 48 then (if (wrap64 ((x4.size : Int) - 1)) ≤ (x4.size : Int) then (bare_decimal.l0 k x0 x3 (x4.extract 0 ((wrap64 ((x4.size : Int) - 1)) : Int).toNat)) else (none)) else ((strconv_FormatInt.f (wrap64 (Int.tdiv x0 1000)) 10).bind fun t122 => (if x3.size + t122.size ≤ 9223372036854775807 then (if (x3 ++ t122).size + 1 ≤ 9223372036854775807 then (if ((x3 ++ t122) ++ (⟨#[46]⟩ : ByteArray)).size + x4.size ≤ 9223372036854775807 then (some (((x3 ++ t122) ++ (⟨#[46]⟩ : ByteArray)) ++ x4)) else (none)) else (none)) else (none)))) else (none)) else (none)) else ((strconv_FormatInt.f (wrap64 (Int.tdiv x0 1000)) 10).bind fun t123 => (if x3.size + t123.size ≤ 9223372036854775807 then (if (x3 ++ t123).size + 1 ≤ 9223372036854775807 then (if ((x3 ++ t123) ++ (⟨#[46]⟩ : ByteArray)).size + x4.size ≤ 9223372036854775807 then (some (((x3 ++ t123) ++ (⟨#[46]⟩ : ByteArray)) ++ x4)) else (none)) else (none)) else (none)))
end
def bare_decimal.f (k : Nat) (a0 : Int) : Option (ByteArray) := if a0 < 0 then (bare_decimal.j0 k (wrap64 (-a0)) (⟨#[45]⟩ : ByteArray)) else (bare_decimal.j0 k a0 (⟨#[]⟩ : ByteArray))
theorem bare_decimal.mono_l : ∀ k, (∀ y0 y1, LeO (bare_decimal.j0 k y0 y1) (bare_decimal.j0 (k + 1) y0 y1)) ∧ (∀ y0 y1 y2, LeO (bare_decimal.l0 k y0 y1 y2) (bare_decimal.l0 (k + 1) y0 y1 y2))
  | 0 => ⟨fun _ _ r h => by simp [bare_decimal.j0] at h, fun _ _ _ r h => by simp [bare_decimal.l0] at h⟩
  | k + 1 => by
    obtain ⟨ih0, ih1⟩ := bare_decimal.mono_l k
    refine ⟨?_, ?_⟩
    · intro y0 y1
      unfold bare_decimal.j0
      repeat' first
      | (with_reducible exact ih0 _ _)
      | (with_reducible exact ih1 _ _ _)
      | (with_reducible exact LeO.refl _)
      | (with_reducible exact LeO.none _)
      | (with_reducible refine LeO.ite ?_ ?_)
      | (with_reducible refine LeO.bind ?_ (fun _ => ?_))
      | exact ih0 _ _
      | exact ih1 _ _ _
      | exact LeO.none _
      | refine LeO.ite ?_ ?_
      | refine LeO.bind ?_ (fun _ => ?_)
    · intro y0 y1 y2
      unfold bare_decimal.l0
      repeat' first
      | (with_reducible exact ih0 _ _)
      | (with_reducible exact ih1 _ _ _)
      | (with_reducible exact LeO.refl _)
      | (with_reducible exact LeO.none _)
      | (with_reducible refine LeO.ite ?_ ?_)
      | (with_reducible refine LeO.bind ?_ (fun _ => ?_))
      | exact ih0 _ _
      | exact ih1 _ _ _
      | exact LeO.none _
      | refine LeO.ite ?_ ?_
      | refine LeO.bind ?_ (fun _ => ?_)
theorem bare_decimal.mono : ∀ a0 k, LeO (bare_decimal.f k a0) (bare_decimal.f (k + 1) a0) := by
  intro a0 k
  obtain ⟨ih0, ih1⟩ := bare_decimal.mono_l k
  unfold bare_decimal.f
  repeat' first
      | (with_reducible exact ih0 _ _)
      | (with_reducible exact ih1 _ _ _)
      | (with_reducible exact LeO.refl _)
      | (with_reducible exact LeO.none _)
      | (with_reducible refine LeO.ite ?_ ?_)
      | (with_reducible refine LeO.bind ?_ (fun _ => ?_))
      | exact ih0 _ _
      | exact ih1 _ _ _
      | exact LeO.none _
      | refine LeO.ite ?_ ?_
      | refine LeO.bind ?_ (fun _ => ?_)
set_option maxHeartbeats 8000000 in
set_option maxRecDepth 100000 in
theorem bare_decimal.calls (k : Nat) (a0 : Int) (r : ByteArray) (w : World) (hT_ : PowIs w) (h : bare_decimal.f k a0 = some r) :
    Calls Tryz.prog 26 #[.int .i64 a0] w fun e w' => e = .returned (.string r) ∧ Below w.heap.size w w' := by
  have HT0_ := Aside0.mk hT_
  clear hT_
  have HB := Aside0.mk (Below.refl w.heap.size w)
  have H : (if a0 < 0 then (bare_decimal.j0 k (wrap64 (-a0)) (⟨#[45]⟩ : ByteArray)) else (bare_decimal.j0 k a0 (⟨#[]⟩ : ByteArray))) = some r := h
  clear h
  have HC2 := Aside0.mk H
  clear H
  go_enter Tryz.func26, Tryz.ntmps26
  go_upto_if 6 with (fail)
  go_cut [0, 3] (fun v0 v3 wc => ∃ (kq : Nat) (x0_1 : Int) (x3_1 : ByteArray), v0 = .int .i64 x0_1 ∧ v3 = .string x3_1 ∧ Aside0 (bare_decimal.j0 kq x0_1 x3_1 = some r) ∧ Aside0 (kq ≤ k) ∧ Aside0 (Below w.heap.size w wc))
  case first =>
    have H := HC2.out
    clear HC2
    by_cases c3 : a0 < 0
    · rw [if_pos c3] at H
      have c3b0 : decide (a0 < 0) = true := decide_eq_true c3
      clear c3
      (first | rw [c3b0] | (simp only [i64_w, i32_w]; rw [c3b0]) | skip)
      have H' := Aside0.mk H
      clear H
      go_wp2
      go_meet
      case rel => exact ⟨_, (wrap64 (-a0)), ((⟨#[45]⟩ : ByteArray)), (by first | rfl | (simp; done) | (simp [*]; done)), (by first | rfl | (simp; done) | (simp [*]; done)), H', ⟨by first | omega | exact Nat.le_refl _⟩, ⟨by repeat (first | (with_reducible first | exact HB.out | apply below_alloc | apply pw_below_drewN | apply below_drew1) | exact HB.out)⟩⟩
    · rw [if_neg c3] at H
      have c3b0 : decide (a0 < 0) = false := decide_eq_false c3
      clear c3
      (first | rw [c3b0] | (simp only [i64_w, i32_w]; rw [c3b0]) | skip)
      have H' := Aside0.mk H
      clear H
      go_wp2
      go_meet
      case rel => exact ⟨_, (a0), ((⟨#[]⟩ : ByteArray)), (by first | rfl | (simp; done) | (simp [*]; done)), (by first | rfl | (simp; done) | (simp [*]; done)), H', ⟨by first | omega | exact Nat.le_refl _⟩, ⟨by repeat (first | (with_reducible first | exact HB.out | apply below_alloc | apply pw_below_drewN | apply below_drew1) | exact HB.out)⟩⟩
  case rest =>
    clear HC2
    try clear c2
    try clear p2
    try clear c3
    try clear c3b0
    obtain ⟨kq, x0_1, x3_1, rfl, rfl, HA, HJ1, HB⟩ := hcut
    cases kq with
    | zero => exact absurd HA.out (by simp [bare_decimal.j0])
    | succ kj1 =>
      have H := HA.out
      clear HA
      simp only [bare_decimal.j0] at H
      replace H := Option.bind_eq_some_iff.mp H
      obtain ⟨t121, A40, H⟩ := H
      replace H : (if 1 ≤ (t121.size : Int) then (bare_decimal.l0 kj1 x0_1 x3_1 (t121.extract 1 t121.size)) else (none)) = some r := H
      have A4 := Aside0.mk A40
      clear A40
      by_cases c5 : 1 ≤ (t121.size : Int)
      · rw [if_pos c5] at H
        have c5b0 := eq_true c5
        have c5b1 : decide (1 ≤ (t121.size : Int)) = true := decide_eq_true c5
        clear c5
        have H' := Aside0.mk H
        clear H
        go_wp2_with (first | ((with_reducible refine gate_callee (f := 25) rfl ?_); refine goesL_ (some 12) rfl rfl Tryz.func25 (by kernel_rfl) rfl #[.int .i64 (wrap64 (1000 + (Int.tmod x0_1 1000))), .int .i64 10] rfl (by (try simp only [List.map_toArray, List.map_cons, List.map_nil]); first | done | rfl | (simp only [List.length_drop, List.length_take]; rfl)) ?_; (with_reducible refine (strconv_FormatInt.calls (wrap64 (1000 + (Int.tmod x0_1 1000))) 10 t121 _ ?tabT_ A4.out).mono ?_); (case tabT_ => exact PowIs.below HT0_.out (by repeat (first | (with_reducible first | exact HB.out | apply below_alloc | apply pw_below_drewN | apply below_drew1) | exact HB.out))); rintro e w6 ⟨rfl, hb⟩; refine ⟨_, rfl, ?_⟩; have n0_ := Aside0.mk (below_step (by repeat (first | (with_reducible first | exact HB.out | apply below_alloc | apply pw_below_drewN | apply below_drew1) | exact HB.out)) hb); clear HB; have HB := n0_; clear n0_; (try clear hb); (try clear hb2); (try clear hk); (try clear hi)))
        go_loopg [4] kj1 (fun kq v4 w' => ∃ (x4_2 : ByteArray), v4 = .string x4_2 ∧ Aside0 (bare_decimal.l0 kq x0_1 x3_1 x4_2 = some r) ∧ Aside0 (kq ≤ kj1) ∧ Aside0 (Below w.heap.size w w'))
        case atStart => exact ⟨(t121.extract 1 t121.size), (by first | rfl | (simp; done) | (simp [*]; done)), H', ⟨Nat.le_refl _⟩, ⟨by repeat (first | (with_reducible first | exact HB.out | apply below_alloc | apply pw_below_drewN | apply below_drew1) | exact HB.out)⟩⟩
        case round =>
          clear H'
          try clear c2
          try clear p2
          try clear c3
          try clear c3b0
          try clear c5
          try clear c5b0
          try clear c5b1
          try clear p6
          try clear p2
          obtain ⟨x4_2, rfl, HA, HK2, HB⟩ := hrel
          cases gk with
          | zero => exact absurd HA.out (by simp [bare_decimal.l0])
          | succ k2 =>
            have H := HA.out
            clear HA
            simp only [bare_decimal.l0] at H
            by_cases c7 : (x4_2.size : Int) > 1
            · rw [if_pos c7] at H
              have c7b0 : decide (1 < (x4_2.size : Int)) = true := decide_eq_true c7
              have c7b1 : decide (1 < x4_2.size) = true := decide_eq_true (by omega)
              clear c7
              obtain ⟨ji8, hji8⟩ : ∃ j_ : Int, (wrap64 ((x4_2.size : Int) - 1)) = j_ := ⟨_, rfl⟩
              replace H : (if 0 ≤ (ji8) then (if (ji8) < (x4_2.size : Int) then (if (bt x4_2 (ji8)) = 48 then (if (ji8) ≤ (x4_2.size : Int) then (bare_decimal.l0 k2 x0_1 x3_1 (x4_2.extract 0 ((ji8) : Int).toNat)) else (none)) else ((strconv_FormatInt.f (wrap64 (Int.tdiv x0_1 1000)) 10).bind fun t122 => (if x3_1.size + t122.size ≤ 9223372036854775807 then (if (x3_1 ++ t122).size + 1 ≤ 9223372036854775807 then (if ((x3_1 ++ t122) ++ (⟨#[46]⟩ : ByteArray)).size + x4_2.size ≤ 9223372036854775807 then (some (((x3_1 ++ t122) ++ (⟨#[46]⟩ : ByteArray)) ++ x4_2)) else (none)) else (none)) else (none)))) else (none)) else (none)) = some r := by first | (rw [hji8] at H; exact H) | (simp only [hji8] at H ⊢; exact H)
              have hji8w : (IntKind.i64.wrap ((x4_2.size : Int) - 1)) = ji8 := (i64_w _).trans hji8
              by_cases c9 : 0 ≤ (ji8)
              · rw [if_pos c9] at H
                have c9b0 : decide (0 ≤ (ji8)) = true := decide_eq_true c9
                clear c9
                by_cases c10 : (ji8) < (x4_2.size : Int)
                · rw [if_pos c10] at H
                  have c10b0 : decide ((ji8) < (x4_2.size : Int)) = true := decide_eq_true c10
                  clear c10
                  by_cases c12 : (bt x4_2 (ji8)) = 48
                  · rw [if_pos c12] at H
                    have c12b0 : ((bt x4_2 (ji8)) == 48) = true := beq_iff_eq.mpr c12
                    have c12b1 : ((bt x4_2 (ji8)) != 48) = false := bne_eq_false_iff_eq.mpr c12
                    clear c12
                    have c13b0 := eq_true (of_decide_eq_true (by first | (with_reducible assumption) | assumption) : 0 ≤ (ji8))
                    by_cases c14 : (ji8) ≤ (x4_2.size : Int)
                    · rw [if_pos c14] at H
                      have c14b0 := eq_true c14
                      have c14b1 : decide ((ji8) ≤ (x4_2.size : Int)) = true := decide_eq_true c14
                      clear c14
                      have H' := Aside0.mk H
                      clear H
                      have p11 : 0 ≤ ((ji8) : Int) := of_decide_eq_true (by first | (with_reducible assumption) | assumption)
                      have q11 : (ji8) < (x4_2.size : Int) := of_decide_eq_true (by first | (with_reducible assumption) | assumption)
                      have hx11 := bt_at x4_2 (ji8)
                      replace p11 := eq_true p11
                      replace q11 := eq_true q11
                      go_wp2
                      go_roundg k2
                      case measure => have := HJ1.out; have := HK2.out; omega
                      case rel => exact ⟨(x4_2.extract 0 ((ji8) : Int).toNat), (by first | rfl | (simp; done) | (simp only [← hji8] <;> (first | rfl | simp)) | (simp [*]; done)), H', ⟨by have := HJ1.out; have := HK2.out; omega⟩, ⟨by repeat (first | (with_reducible first | exact HB.out | apply below_alloc | apply pw_below_drewN | apply below_drew1) | exact HB.out)⟩⟩
                    · rw [if_neg c14] at H
                      exact absurd H (by simp)
                  · rw [if_neg c12] at H
                    have c12b0 : ((bt x4_2 (ji8)) == 48) = false := beq_eq_false_iff_ne.mpr c12
                    have c12b1 : ((bt x4_2 (ji8)) != 48) = true := bne_iff_ne.mpr c12
                    replace H := Option.bind_eq_some_iff.mp H
                    obtain ⟨t122, A150, H⟩ := H
                    replace H : (if x3_1.size + t122.size ≤ 9223372036854775807 then (if (x3_1 ++ t122).size + 1 ≤ 9223372036854775807 then (if ((x3_1 ++ t122) ++ (⟨#[46]⟩ : ByteArray)).size + x4_2.size ≤ 9223372036854775807 then (some (((x3_1 ++ t122) ++ (⟨#[46]⟩ : ByteArray)) ++ x4_2)) else (none)) else (none)) else (none)) = some r := H
                    have A15 := Aside0.mk A150
                    clear A150
                    by_cases c16 : x3_1.size + t122.size ≤ 9223372036854775807
                    · rw [if_pos c16] at H
                      have c16b0 := eq_true c16
                      have c16b1 : decide (x3_1.size + t122.size ≤ 9223372036854775807) = true := decide_eq_true c16
                      try have c16b2 : (9223372036854775807 < x3_1.size + t122.size) = False := eq_false (Nat.not_lt.2 c16)
                      by_cases c17 : (x3_1 ++ t122).size + 1 ≤ 9223372036854775807
                      · rw [if_pos c17] at H
                        have c17b0 := eq_true c17
                        have c17b1 : decide ((x3_1 ++ t122).size + 1 ≤ 9223372036854775807) = true := decide_eq_true c17
                        try have c17b2 : (9223372036854775807 < (x3_1 ++ t122).size + 1) = False := eq_false (Nat.not_lt.2 c17)
                        try (have c17b3 := c17b2; simp only [ByteArray.size_append] at c17b3)
                        by_cases c18 : ((x3_1 ++ t122) ++ (⟨#[46]⟩ : ByteArray)).size + x4_2.size ≤ 9223372036854775807
                        · rw [if_pos c18] at H
                          have c18b0 := eq_true c18
                          have c18b1 : decide (((x3_1 ++ t122) ++ (⟨#[46]⟩ : ByteArray)).size + x4_2.size ≤ 9223372036854775807) = true := decide_eq_true c18
                          try have c18b2 : (9223372036854775807 < ((x3_1 ++ t122) ++ (⟨#[46]⟩ : ByteArray)).size + x4_2.size) = False := eq_false (Nat.not_lt.2 c18)
                          try (have c18b3 := c18b2; simp only [ByteArray.size_append, show (⟨#[46]⟩ : ByteArray).size = 1 from rfl] at c18b3)
                          obtain rfl := Option.some.inj H
                          have p11 : 0 ≤ ((ji8) : Int) := of_decide_eq_true (by first | (with_reducible assumption) | assumption)
                          have q11 : (ji8) < (x4_2.size : Int) := of_decide_eq_true (by first | (with_reducible assumption) | assumption)
                          have hx11 := bt_at x4_2 (ji8)
                          replace p11 := eq_true p11
                          replace q11 := eq_true q11
                          go_wp2_with (first | ((with_reducible refine gate_callee (f := 25) rfl ?_); refine goesL_ (some 33) rfl rfl Tryz.func25 (by kernel_rfl) rfl #[.int .i64 (wrap64 (Int.tdiv x0_1 1000)), .int .i64 10] rfl (by (try simp only [List.map_toArray, List.map_cons, List.map_nil]); first | done | rfl | (simp only [List.length_drop, List.length_take]; rfl)) ?_; (with_reducible refine (strconv_FormatInt.calls (wrap64 (Int.tdiv x0_1 1000)) 10 t122 _ ?tabT_ A15.out).mono ?_); (case tabT_ => exact PowIs.below HT0_.out (by repeat (first | (with_reducible first | exact HB.out | apply below_alloc | apply pw_below_drewN | apply below_drew1) | exact HB.out))); rintro e w19 ⟨rfl, hb⟩; refine ⟨_, rfl, ?_⟩; have n0_ := Aside0.mk (below_step (by repeat (first | (with_reducible first | exact HB.out | apply below_alloc | apply pw_below_drewN | apply below_drew1) | exact HB.out)) hb); clear HB; have HB := n0_; clear n0_; (try clear hb); (try clear hb2); (try clear hk); (try clear hi)))
                          go_ret
                          exact ⟨by first | rfl | (simp [errW_none, errW_some] <;> rfl) | (simp only [← hji8]; first | rfl | (simp [errW_none, errW_some] <;> rfl)) | (simp [*, errW_none, errW_some] <;> rfl), by repeat (first | (with_reducible first | exact HB.out | apply below_alloc | apply pw_below_drewN | apply below_drew1) | exact HB.out)⟩
                        · rw [if_neg c18] at H
                          exact absurd H (by simp)
                      · rw [if_neg c17] at H
                        exact absurd H (by simp)
                    · rw [if_neg c16] at H
                      exact absurd H (by simp)
                · rw [if_neg c10] at H
                  exact absurd H (by simp)
              · rw [if_neg c9] at H
                exact absurd H (by simp)
            · rw [if_neg c7] at H
              have c7b0 : decide (1 < (x4_2.size : Int)) = false := decide_eq_false c7
              have c7b1 : decide (1 < x4_2.size) = false := decide_eq_false (by omega)
              clear c7
              replace H := Option.bind_eq_some_iff.mp H
              obtain ⟨t123, A200, H⟩ := H
              replace H : (if x3_1.size + t123.size ≤ 9223372036854775807 then (if (x3_1 ++ t123).size + 1 ≤ 9223372036854775807 then (if ((x3_1 ++ t123) ++ (⟨#[46]⟩ : ByteArray)).size + x4_2.size ≤ 9223372036854775807 then (some (((x3_1 ++ t123) ++ (⟨#[46]⟩ : ByteArray)) ++ x4_2)) else (none)) else (none)) else (none)) = some r := H
              have A20 := Aside0.mk A200
              clear A200
              by_cases c21 : x3_1.size + t123.size ≤ 9223372036854775807
              · rw [if_pos c21] at H
                have c21b0 := eq_true c21
                have c21b1 : decide (x3_1.size + t123.size ≤ 9223372036854775807) = true := decide_eq_true c21
                try have c21b2 : (9223372036854775807 < x3_1.size + t123.size) = False := eq_false (Nat.not_lt.2 c21)
                by_cases c22 : (x3_1 ++ t123).size + 1 ≤ 9223372036854775807
                · rw [if_pos c22] at H
                  have c22b0 := eq_true c22
                  have c22b1 : decide ((x3_1 ++ t123).size + 1 ≤ 9223372036854775807) = true := decide_eq_true c22
                  try have c22b2 : (9223372036854775807 < (x3_1 ++ t123).size + 1) = False := eq_false (Nat.not_lt.2 c22)
                  try (have c22b3 := c22b2; simp only [ByteArray.size_append] at c22b3)
                  by_cases c23 : ((x3_1 ++ t123) ++ (⟨#[46]⟩ : ByteArray)).size + x4_2.size ≤ 9223372036854775807
                  · rw [if_pos c23] at H
                    have c23b0 := eq_true c23
                    have c23b1 : decide (((x3_1 ++ t123) ++ (⟨#[46]⟩ : ByteArray)).size + x4_2.size ≤ 9223372036854775807) = true := decide_eq_true c23
                    try have c23b2 : (9223372036854775807 < ((x3_1 ++ t123) ++ (⟨#[46]⟩ : ByteArray)).size + x4_2.size) = False := eq_false (Nat.not_lt.2 c23)
                    try (have c23b3 := c23b2; simp only [ByteArray.size_append, show (⟨#[46]⟩ : ByteArray).size = 1 from rfl] at c23b3)
                    obtain rfl := Option.some.inj H
                    go_wp2_with (first | ((with_reducible refine gate_callee (f := 25) rfl ?_); refine goesL_ (some 33) rfl rfl Tryz.func25 (by kernel_rfl) rfl #[.int .i64 (wrap64 (Int.tdiv x0_1 1000)), .int .i64 10] rfl (by (try simp only [List.map_toArray, List.map_cons, List.map_nil]); first | done | rfl | (simp only [List.length_drop, List.length_take]; rfl)) ?_; (with_reducible refine (strconv_FormatInt.calls (wrap64 (Int.tdiv x0_1 1000)) 10 t123 _ ?tabT_ A20.out).mono ?_); (case tabT_ => exact PowIs.below HT0_.out (by repeat (first | (with_reducible first | exact HB.out | apply below_alloc | apply pw_below_drewN | apply below_drew1) | exact HB.out))); rintro e w24 ⟨rfl, hb⟩; refine ⟨_, rfl, ?_⟩; have n0_ := Aside0.mk (below_step (by repeat (first | (with_reducible first | exact HB.out | apply below_alloc | apply pw_below_drewN | apply below_drew1) | exact HB.out)) hb); clear HB; have HB := n0_; clear n0_; (try clear hb); (try clear hb2); (try clear hk); (try clear hi)))
                    go_ret
                    exact ⟨by first | rfl | (simp [errW_none, errW_some] <;> rfl) | (simp [*, errW_none, errW_some] <;> rfl), by repeat (first | (with_reducible first | exact HB.out | apply below_alloc | apply pw_below_drewN | apply below_drew1) | exact HB.out)⟩
                  · rw [if_neg c23] at H
                    exact absurd H (by simp)
                · rw [if_neg c22] at H
                  exact absurd H (by simp)
              · rw [if_neg c21] at H
                exact absurd H (by simp)
      · rw [if_neg c5] at H
        exact absurd H (by simp)

-- USES pergola/bare.Check
-- USES pergola/bare.decimal
-- USES strconv.FormatInt
def bare_Print.f (k : Nat) (a0_0 : Int) (a0_1 : Int) (a0_2 : ByteArray) : Option (ByteArray × Int) :=
  (bare_Check.f k a0_0 a0_1 a0_2).bind fun e => if e = 0 then
    (if a0_0 = 1 then (strconv_FormatInt.f a0_1 10).bind fun t => some (t, 0)
     else if a0_0 = 2 then (bare_decimal.f k a0_1).bind fun t => some (t, 0)
     else if a0_0 = 3 ∨ a0_0 = 5 ∨ a0_0 = 8 then none
     else if a0_0 = 6 then ((strconv_FormatInt.f a0_1 10).bind fun t => if (⟨#[63]⟩ : ByteArray).size + t.size ≤ 9223372036854775807 then some ((⟨#[63]⟩ : ByteArray) ++ t, 0) else none)
     else if a0_0 = 7 then ((strconv_FormatInt.f a0_1 10).bind fun t => if (⟨#[64]⟩ : ByteArray).size + t.size ≤ 9223372036854775807 then some ((⟨#[64]⟩ : ByteArray) ++ t, 0) else none)
     else some (a0_2, 0)) else some (⟨#[]⟩, e)
theorem bare_Print.mono : ∀ a0_0 a0_1 a0_2 k, LeO (bare_Print.f k a0_0 a0_1 a0_2) (bare_Print.f (k + 1) a0_0 a0_1 a0_2) := by
  intro a0_0 a0_1 a0_2 k
  unfold bare_Print.f
  refine LeO.bind (bare_Check.mono _ _ _ _) (fun _ => ?_)
  refine LeO.ite ?_ (LeO.refl _)
  refine LeO.ite (LeO.refl _) ?_
  refine LeO.ite (LeO.bind (bare_decimal.mono _ _) (fun _ => LeO.refl _)) (LeO.refl _)
set_option maxHeartbeats 4000000 in
set_option maxRecDepth 100000 in
theorem bare_Print.calls (k : Nat) (a0_0 : Int) (a0_1 : Int) (a0_2 : ByteArray) (r1 : ByteArray) (r2 : Int) (w : World) (hT_ : PowIs w) (hU_ : Utf8Is w) (h : bare_Print.f k a0_0 a0_1 a0_2 = some (r1, r2)) :
    Calls Tryz.prog 10 #[.agg #[.int .i64 a0_0, .int .i64 a0_1, .string a0_2]] w fun e w' => e = .returned (.tuple #[.string r1, .int .i64 r2]) ∧ Below w.heap.size w w' := by
  have HT0_ := Aside0.mk hT_
  have HU0_ := Aside0.mk hU_
  clear hT_ hU_
  unfold bare_Print.f at h
  replace h := Option.bind_eq_some_iff.mp h
  obtain ⟨e, he, h⟩ := h
  have HC := Aside0.mk (fun w (hw : Utf8Is w) => bare_Check.calls k a0_0 a0_1 a0_2 e w hw he)
  clear he
  by_cases h0 : e = 0
  · rw [if_pos h0] at h
    subst h0
    by_cases h1 : a0_0 = 1
    · rw [if_pos h1] at h
      subst h1
      replace h := Option.bind_eq_some_iff.mp h
      obtain ⟨t, ht, h⟩ := h
      obtain ⟨rfl, rfl⟩ : t = r1 ∧ 0 = r2 := by simpa using h
      have HF := Aside0.mk ht
      clear h ht
      go_enter Tryz.func10, Tryz.ntmps10
      go_upto_region 1 with (fail)
      obtain ⟨hx1, hb1⟩ := alloc1 w (.cells #[.int .i64 1, .int .i64 a0_1, .string a0_2] 24)
      have HB1 := Aside0.mk hb1
      have HT1 := Aside0.mk (HT0_.out.below hb1)
      have HU1 := Aside0.mk (HU0_.out.below hb1)
      have c0 : (w.alloc (Obj.cells #[.int .i64 1, .int .i64 a0_1, .string a0_2] 24)).cell? ⟨w.heap.size, 0, none⟩ = some (.int .i64 1) := (blk_cell hx1 0).trans rfl
      have c1 : (w.alloc (Obj.cells #[.int .i64 1, .int .i64 a0_1, .string a0_2] 24)).cell? ⟨w.heap.size, 1, none⟩ = some (.int .i64 a0_1) := (blk_cell hx1 1).trans rfl
      have c2 : (w.alloc (Obj.cells #[.int .i64 1, .int .i64 a0_1, .string a0_2] 24)).cell? ⟨w.heap.size, 2, none⟩ = some (.string a0_2) := (blk_cell hx1 2).trans rfl
      clear hx1 hb1
      generalize w.alloc (Obj.cells #[.int .i64 1, .int .i64 a0_1, .string a0_2] 24) = w1 at *
      go_wp2_with (first | (go_at_call 13; refine (HC.out _ HU1.out).mono ?_; rintro e w2 ⟨rfl, hb2⟩; have HB2 := Aside0.mk (below_then HB1.out HB1.out.size hb2); have HT2 := Aside0.mk (HT1.out.below hb2); have d0 := cell_more hb2 c0; have d1 := cell_more hb2 c1; have d2 := cell_more hb2 c2; clear hb2 c0 c1 c2 HB1 HT1) | (go_at_call 25; refine (strconv_FormatInt.calls _ _ _ _ HT2.out HF.out).mono ?_; rintro e w3 ⟨rfl, hb3⟩; have HB3 := Aside0.mk (below_then HB2.out HB2.out.size hb3); clear hb3))
      go_ret2
      exact ⟨by first | rfl | (simp; done) | (simp [*]; done), HB3.out⟩
    rw [if_neg h1] at h
    by_cases h2 : a0_0 = 2
    · rw [if_pos h2] at h
      subst h2
      replace h := Option.bind_eq_some_iff.mp h
      obtain ⟨t, ht, h⟩ := h
      obtain ⟨rfl, rfl⟩ : t = r1 ∧ 0 = r2 := by simpa using h
      have HF := Aside0.mk ht
      clear h ht
      go_enter Tryz.func10, Tryz.ntmps10
      go_upto_region 1 with (fail)
      obtain ⟨hx1, hb1⟩ := alloc1 w (.cells #[.int .i64 2, .int .i64 a0_1, .string a0_2] 24)
      have HB1 := Aside0.mk hb1
      have HT1 := Aside0.mk (HT0_.out.below hb1)
      have HU1 := Aside0.mk (HU0_.out.below hb1)
      have c0 : (w.alloc (Obj.cells #[.int .i64 2, .int .i64 a0_1, .string a0_2] 24)).cell? ⟨w.heap.size, 0, none⟩ = some (.int .i64 2) := (blk_cell hx1 0).trans rfl
      have c1 : (w.alloc (Obj.cells #[.int .i64 2, .int .i64 a0_1, .string a0_2] 24)).cell? ⟨w.heap.size, 1, none⟩ = some (.int .i64 a0_1) := (blk_cell hx1 1).trans rfl
      have c2 : (w.alloc (Obj.cells #[.int .i64 2, .int .i64 a0_1, .string a0_2] 24)).cell? ⟨w.heap.size, 2, none⟩ = some (.string a0_2) := (blk_cell hx1 2).trans rfl
      clear hx1 hb1
      generalize w.alloc (Obj.cells #[.int .i64 2, .int .i64 a0_1, .string a0_2] 24) = w1 at *
      go_wp2_with (first | (go_at_call 13; refine (HC.out _ HU1.out).mono ?_; rintro e w2 ⟨rfl, hb2⟩; have HB2 := Aside0.mk (below_then HB1.out HB1.out.size hb2); have HT2 := Aside0.mk (HT1.out.below hb2); have d0 := cell_more hb2 c0; have d1 := cell_more hb2 c1; have d2 := cell_more hb2 c2; clear hb2 c0 c1 c2 HB1 HT1) | (go_at_call 26; refine (bare_decimal.calls k _ _ _ HT2.out HF.out).mono ?_; rintro e w3 ⟨rfl, hb3⟩; have HB3 := Aside0.mk (below_then HB2.out HB2.out.size hb3); clear hb3))
      go_ret2
      exact ⟨by first | rfl | (simp; done) | (simp [*]; done), HB3.out⟩
    rw [if_neg h2] at h
    by_cases h3 : a0_0 = 3 ∨ a0_0 = 5 ∨ a0_0 = 8
    · rw [if_pos h3] at h
      cases h
    rw [if_neg h3] at h
    by_cases h6 : a0_0 = 6
    · rw [if_pos h6] at h
      subst h6
      replace h := Option.bind_eq_some_iff.mp h
      obtain ⟨t, ht, h⟩ := h
      by_cases hz : (⟨#[63]⟩ : ByteArray).size + t.size ≤ 9223372036854775807
      · rw [if_pos hz] at h
        obtain ⟨rfl, rfl⟩ : (⟨#[63]⟩ : ByteArray) ++ t = r1 ∧ 0 = r2 := by simpa using h
        have HF := Aside0.mk ht
        have hz2 : (9223372036854775807 < (⟨#[63]⟩ : ByteArray).size + t.size) = False := eq_false (Nat.not_lt.2 hz)
        clear h ht
        go_enter Tryz.func10, Tryz.ntmps10
        go_upto_region 1 with (fail)
        obtain ⟨hx1, hb1⟩ := alloc1 w (.cells #[.int .i64 6, .int .i64 a0_1, .string a0_2] 24)
        have HB1 := Aside0.mk hb1
        have HT1 := Aside0.mk (HT0_.out.below hb1)
        have HU1 := Aside0.mk (HU0_.out.below hb1)
        have c0 : (w.alloc (Obj.cells #[.int .i64 6, .int .i64 a0_1, .string a0_2] 24)).cell? ⟨w.heap.size, 0, none⟩ = some (.int .i64 6) := (blk_cell hx1 0).trans rfl
        have c1 : (w.alloc (Obj.cells #[.int .i64 6, .int .i64 a0_1, .string a0_2] 24)).cell? ⟨w.heap.size, 1, none⟩ = some (.int .i64 a0_1) := (blk_cell hx1 1).trans rfl
        have c2 : (w.alloc (Obj.cells #[.int .i64 6, .int .i64 a0_1, .string a0_2] 24)).cell? ⟨w.heap.size, 2, none⟩ = some (.string a0_2) := (blk_cell hx1 2).trans rfl
        clear hx1 hb1
        generalize w.alloc (Obj.cells #[.int .i64 6, .int .i64 a0_1, .string a0_2] 24) = w1 at *
        go_wp2_with (first | (go_at_call 13; refine (HC.out _ HU1.out).mono ?_; rintro e w2 ⟨rfl, hb2⟩; have HB2 := Aside0.mk (below_then HB1.out HB1.out.size hb2); have HT2 := Aside0.mk (HT1.out.below hb2); have d0 := cell_more hb2 c0; have d1 := cell_more hb2 c1; have d2 := cell_more hb2 c2; clear hb2 c0 c1 c2 HB1 HT1) | (go_at_call 25; refine (strconv_FormatInt.calls _ _ _ _ HT2.out HF.out).mono ?_; rintro e w3 ⟨rfl, hb3⟩; have HB3 := Aside0.mk (below_then HB2.out HB2.out.size hb3); clear hb3))
        go_ret2
        exact ⟨by first | rfl | (simp; done) | (simp [*]; done), HB3.out⟩
      · rw [if_neg hz] at h
        cases h
    rw [if_neg h6] at h
    by_cases h7 : a0_0 = 7
    · rw [if_pos h7] at h
      subst h7
      replace h := Option.bind_eq_some_iff.mp h
      obtain ⟨t, ht, h⟩ := h
      by_cases hz : (⟨#[64]⟩ : ByteArray).size + t.size ≤ 9223372036854775807
      · rw [if_pos hz] at h
        obtain ⟨rfl, rfl⟩ : (⟨#[64]⟩ : ByteArray) ++ t = r1 ∧ 0 = r2 := by simpa using h
        have HF := Aside0.mk ht
        have hz2 : (9223372036854775807 < (⟨#[64]⟩ : ByteArray).size + t.size) = False := eq_false (Nat.not_lt.2 hz)
        clear h ht
        go_enter Tryz.func10, Tryz.ntmps10
        go_upto_region 1 with (fail)
        obtain ⟨hx1, hb1⟩ := alloc1 w (.cells #[.int .i64 7, .int .i64 a0_1, .string a0_2] 24)
        have HB1 := Aside0.mk hb1
        have HT1 := Aside0.mk (HT0_.out.below hb1)
        have HU1 := Aside0.mk (HU0_.out.below hb1)
        have c0 : (w.alloc (Obj.cells #[.int .i64 7, .int .i64 a0_1, .string a0_2] 24)).cell? ⟨w.heap.size, 0, none⟩ = some (.int .i64 7) := (blk_cell hx1 0).trans rfl
        have c1 : (w.alloc (Obj.cells #[.int .i64 7, .int .i64 a0_1, .string a0_2] 24)).cell? ⟨w.heap.size, 1, none⟩ = some (.int .i64 a0_1) := (blk_cell hx1 1).trans rfl
        have c2 : (w.alloc (Obj.cells #[.int .i64 7, .int .i64 a0_1, .string a0_2] 24)).cell? ⟨w.heap.size, 2, none⟩ = some (.string a0_2) := (blk_cell hx1 2).trans rfl
        clear hx1 hb1
        generalize w.alloc (Obj.cells #[.int .i64 7, .int .i64 a0_1, .string a0_2] 24) = w1 at *
        go_wp2_with (first | (go_at_call 13; refine (HC.out _ HU1.out).mono ?_; rintro e w2 ⟨rfl, hb2⟩; have HB2 := Aside0.mk (below_then HB1.out HB1.out.size hb2); have HT2 := Aside0.mk (HT1.out.below hb2); have d0 := cell_more hb2 c0; have d1 := cell_more hb2 c1; have d2 := cell_more hb2 c2; clear hb2 c0 c1 c2 HB1 HT1) | (go_at_call 25; refine (strconv_FormatInt.calls _ _ _ _ HT2.out HF.out).mono ?_; rintro e w3 ⟨rfl, hb3⟩; have HB3 := Aside0.mk (below_then HB2.out HB2.out.size hb3); clear hb3))
        go_ret2
        exact ⟨by first | rfl | (simp; done) | (simp [*]; done), HB3.out⟩
      · rw [if_neg hz] at h
        cases h
    rw [if_neg h7] at h
    obtain ⟨rfl, rfl⟩ : a0_2 = r1 ∧ 0 = r2 := by simpa using h
    have b1 : (a0_0 == 1) = false := by simp [h1]
    have b2 : (a0_0 == 2) = false := by simp [h2]
    have b3 : (a0_0 == 3) = false := by simp; omega
    have b5 : (a0_0 == 5) = false := by simp; omega
    have b6 : (a0_0 == 6) = false := by simp [h6]
    have b7 : (a0_0 == 7) = false := by simp [h7]
    have b8 : (a0_0 == 8) = false := by simp; omega
    clear h h1 h2 h3 h6 h7
    go_enter Tryz.func10, Tryz.ntmps10
    go_upto_region 1 with (fail)
    obtain ⟨hx1, hb1⟩ := alloc1 w (.cells #[.int .i64 a0_0, .int .i64 a0_1, .string a0_2] 24)
    have HB1 := Aside0.mk hb1
    have HT1 := Aside0.mk (HT0_.out.below hb1)
    have HU1 := Aside0.mk (HU0_.out.below hb1)
    have c0 : (w.alloc (Obj.cells #[.int .i64 a0_0, .int .i64 a0_1, .string a0_2] 24)).cell? ⟨w.heap.size, 0, none⟩ = some (.int .i64 a0_0) := (blk_cell hx1 0).trans rfl
    have c1 : (w.alloc (Obj.cells #[.int .i64 a0_0, .int .i64 a0_1, .string a0_2] 24)).cell? ⟨w.heap.size, 1, none⟩ = some (.int .i64 a0_1) := (blk_cell hx1 1).trans rfl
    have c2 : (w.alloc (Obj.cells #[.int .i64 a0_0, .int .i64 a0_1, .string a0_2] 24)).cell? ⟨w.heap.size, 2, none⟩ = some (.string a0_2) := (blk_cell hx1 2).trans rfl
    clear hx1 hb1
    generalize w.alloc (Obj.cells #[.int .i64 a0_0, .int .i64 a0_1, .string a0_2] 24) = w1 at *
    go_wp2_with (first | (go_at_call 13; refine (HC.out _ HU1.out).mono ?_; rintro e w2 ⟨rfl, hb2⟩; have HB2 := Aside0.mk (below_then HB1.out HB1.out.size hb2); have HT2 := Aside0.mk (HT1.out.below hb2); have d0 := cell_more hb2 c0; have d1 := cell_more hb2 c1; have d2 := cell_more hb2 c2; clear hb2 c0 c1 c2 HB1 HT1))
    go_ret2
    exact ⟨by first | rfl | (simp; done) | (simp [*]; done), HB2.out⟩
  · rw [if_neg h0] at h
    obtain ⟨rfl, rfl⟩ : (⟨#[]⟩ : ByteArray) = r1 ∧ e = r2 := by simpa using h
    have h0b : (e != 0) = true := by simp [h0]
    clear h h0
    go_enter Tryz.func10, Tryz.ntmps10
    go_upto_region 1 with (fail)
    obtain ⟨hx1, hb1⟩ := alloc1 w (.cells #[.int .i64 a0_0, .int .i64 a0_1, .string a0_2] 24)
    have HB1 := Aside0.mk hb1
    have HT1 := Aside0.mk (HT0_.out.below hb1)
    have HU1 := Aside0.mk (HU0_.out.below hb1)
    have c0 : (w.alloc (Obj.cells #[.int .i64 a0_0, .int .i64 a0_1, .string a0_2] 24)).cell? ⟨w.heap.size, 0, none⟩ = some (.int .i64 a0_0) := (blk_cell hx1 0).trans rfl
    have c1 : (w.alloc (Obj.cells #[.int .i64 a0_0, .int .i64 a0_1, .string a0_2] 24)).cell? ⟨w.heap.size, 1, none⟩ = some (.int .i64 a0_1) := (blk_cell hx1 1).trans rfl
    have c2 : (w.alloc (Obj.cells #[.int .i64 a0_0, .int .i64 a0_1, .string a0_2] 24)).cell? ⟨w.heap.size, 2, none⟩ = some (.string a0_2) := (blk_cell hx1 2).trans rfl
    clear hx1 hb1
    generalize w.alloc (Obj.cells #[.int .i64 a0_0, .int .i64 a0_1, .string a0_2] 24) = w1 at *
    go_wp2_with (first | (go_at_call 13; refine (HC.out _ HU1.out).mono ?_; rintro e w2 ⟨rfl, hb2⟩; have HB2 := Aside0.mk (below_then HB1.out HB1.out.size hb2); have HT2 := Aside0.mk (HT1.out.below hb2); have d0 := cell_more hb2 c0; have d1 := cell_more hb2 c1; have d2 := cell_more hb2 c2; clear hb2 c0 c1 c2 HB1 HT1))
    go_ret2
    exact ⟨by first | rfl | (simp; done) | (simp [*]; done), HB2.out⟩

def pergolalaw09_num.f (a0 : Int) : Option (Int) := some a0
set_option maxHeartbeats 8000000 in
set_option maxRecDepth 100000 in
theorem pergolalaw09_num.calls (a0 : Int) (r : Int) (w : World) (h : pergolalaw09_num.f a0 = some r) :
    Calls Tryz.prog 11 #[.int .i64 a0] w fun e w' => e = .returned (.int .i64 r) ∧ Drawn0 w w' := by
  have H : (some a0) = some r := h
  clear h
  obtain rfl := Option.some.inj H
  go_enter Tryz.func11, Tryz.ntmps11
  go_wp2
  go_ret
  exact ⟨by first | rfl | (simp; done) | (simp [*]; done), by repeat (first | exact Drawn0.refl _ | apply Drawn0.step)⟩

end Go.Proofs.YtkbmbancfbfddaaGreatDoor.X
