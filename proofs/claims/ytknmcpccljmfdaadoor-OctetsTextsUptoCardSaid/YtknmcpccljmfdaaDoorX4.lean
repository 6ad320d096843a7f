-- Written by wip/xprint.py for this seat
import Derived.Test.YtknmcpccljmfdaaDoorX0
namespace Go.Proofs.YtknmcpccljmfdaaDoor.X
open Go.RowKit Go.Proofs.YtknmcpccljmfdaaDoorW.PrintWords Go.Proofs.YtknmcpccljmfdaaDoorW.PrintLast Go.Proofs.YtknmcpccljmfdaaDoorW.PrintMore
attribute [local go_sem] max2_int min2_int max_two min_two max_three min_three max_four min_four   -- for this text's walks alone
set_option linter.unusedVariables false
set_option linter.unusedSimpArgs false

/-! ### strings_trimLeftByte: function 35 -/
def strings_trimLeftByte.l0 : Nat → ByteArray → Int → Option (ByteArray)
  | 0, _, _ => none
  | k + 1, x0, x1 => if (x0.size : Int) > 0 then (if 0 < (x0.size : Int) then (if (bt x0 0) = x1 then (if 1 ≤ (x0.size : Int) then (strings_trimLeftByte.l0 k (x0.extract 1 x0.size) x1) else (none)) else (some x0)) else (none)) else (some x0)
def strings_trimLeftByte.f (k : Nat) (a0 : ByteArray) (a1 : Int) : Option (ByteArray) := strings_trimLeftByte.l0 k a0 a1
theorem strings_trimLeftByte.mono_l : ∀ k, (∀ y0 y1, LeO (strings_trimLeftByte.l0 k y0 y1) (strings_trimLeftByte.l0 (k + 1) y0 y1))
  | 0 => fun _ _ r h => by simp [strings_trimLeftByte.l0] at h
  | k + 1 => by
    have ih0 := strings_trimLeftByte.mono_l k
    · intro y0 y1
      unfold strings_trimLeftByte.l0
      repeat' first
      | (with_reducible exact ih0 _ _)
      | (with_reducible exact LeO.refl _)
      | (with_reducible exact LeO.none _)
      | (with_reducible refine LeO.ite ?_ ?_)
      | (with_reducible refine LeO.bind ?_ (fun _ => ?_))
      | exact ih0 _ _
      | exact LeO.none _
      | refine LeO.ite ?_ ?_
      | refine LeO.bind ?_ (fun _ => ?_)
theorem strings_trimLeftByte.mono : ∀ a0 a1 k, LeO (strings_trimLeftByte.f k a0 a1) (strings_trimLeftByte.f (k + 1) a0 a1) := by
  intro a0 a1 k
  have ih0 := strings_trimLeftByte.mono_l k
  unfold strings_trimLeftByte.f
  repeat' first
      | (with_reducible exact ih0 _ _)
      | (with_reducible exact LeO.refl _)
      | (with_reducible exact LeO.none _)
      | (with_reducible refine LeO.ite ?_ ?_)
      | (with_reducible refine LeO.bind ?_ (fun _ => ?_))
      | exact ih0 _ _
      | exact LeO.none _
      | refine LeO.ite ?_ ?_
      | refine LeO.bind ?_ (fun _ => ?_)
set_option maxHeartbeats 8000000 in
set_option maxRecDepth 100000 in
theorem strings_trimLeftByte.calls (k : Nat) (a0 : ByteArray) (a1 : Int) (r : ByteArray) (w : World) (h : strings_trimLeftByte.f k a0 a1 = some r) :
    Calls Tryd.prog 35 #[.string a0, .int .u8 a1] w fun e w' => e = .returned (.string r) ∧ Drawn0 w w' := by
  have H : (strings_trimLeftByte.l0 k a0 a1) = some r := h
  clear h
  have H' := Aside0.mk H
  clear H
  go_enter Tryd.func35, Tryd.ntmps35
  go_wp2
  go_loopg [0] k (fun kq v0 w' => ∃ (x0_1 : ByteArray), v0 = .string x0_1 ∧ Aside0 (strings_trimLeftByte.l0 kq x0_1 a1 = some r) ∧ Aside0 (kq ≤ k) ∧ Drawn0 w w')
  case atStart => exact ⟨(a0), (by first | rfl | (simp; done) | (simp [*]; done)), H', ⟨Nat.le_refl _⟩, by repeat (first | exact Drawn0.refl _ | apply Drawn0.step)⟩
  case round =>
    clear H'
    try clear p2
    obtain ⟨x0_1, rfl, HA, HK1, ⟨m1, rfl⟩⟩ := hrel
    cases gk with
    | zero => exact absurd HA.out (by simp [strings_trimLeftByte.l0])
    | succ k1 =>
      have H := HA.out
      clear HA
      simp only [strings_trimLeftByte.l0] at H
      by_cases c3 : (x0_1.size : Int) > 0
      · rw [if_pos c3] at H
        have c3b0 : decide (0 < (x0_1.size : Int)) = true := decide_eq_true c3
        have c3b1 : decide (0 < x0_1.size) = true := decide_eq_true (by omega)
        clear c3
        by_cases c4 : 0 < (x0_1.size : Int)
        · rw [if_pos c4] at H
          have c4b0 : decide (0 < (x0_1.size : Int)) = true := decide_eq_true c4
          have c4b1 : decide (0 < x0_1.size) = true := decide_eq_true (by omega)
          clear c4
          by_cases c6 : (bt x0_1 0) = a1
          · rw [if_pos c6] at H
            have c6b0 : ((bt x0_1 0) == a1) = true := beq_iff_eq.mpr c6
            have c6b1 : ((bt x0_1 0) != a1) = false := bne_eq_false_iff_eq.mpr c6
            clear c6
            by_cases c7 : 1 ≤ (x0_1.size : Int)
            · rw [if_pos c7] at H
              have c7b0 := eq_true c7
              have c7b1 : decide (1 ≤ (x0_1.size : Int)) = true := decide_eq_true c7
              clear c7
              have H' := Aside0.mk H
              clear H
              have p5 : 0 ≤ (0 : Int) := (by omega)
              have q5 : 0 < x0_1.size := (by have : (0 : Int) < (x0_1.size : Int) := of_decide_eq_true (by first | (with_reducible assumption) | assumption); omega)
              have hx5 : ∀ h : 0 < x0_1.size, ((x0_1[0]'h).toNat : Int) = bt x0_1 0 := bt_at x0_1 0
              clear p5
              have qi5 : (0 < (x0_1.size : Int)) = True := eq_true (of_decide_eq_true (by first | (with_reducible assumption) | assumption))
              replace q5 := eq_true q5
              go_wp2
              go_roundg k1
              case measure => have := HK1.out; omega
              case rel => exact ⟨(x0_1.extract 1 x0_1.size), (by first | rfl | (simp; done) | (simp [*]; done)), H', ⟨by have := HK1.out; omega⟩, by repeat (first | exact Drawn0.refl _ | apply Drawn0.step)⟩
            · rw [if_neg c7] at H
              exact absurd H (by simp)
          · rw [if_neg c6] at H
            have c6b0 : ((bt x0_1 0) == a1) = false := beq_eq_false_iff_ne.mpr c6
            have c6b1 : ((bt x0_1 0) != a1) = true := bne_iff_ne.mpr c6
            obtain rfl := Option.some.inj H
            have p5 : 0 ≤ (0 : Int) := (by omega)
            have q5 : 0 < x0_1.size := (by have : (0 : Int) < (x0_1.size : Int) := of_decide_eq_true (by first | (with_reducible assumption) | assumption); omega)
            have hx5 : ∀ h : 0 < x0_1.size, ((x0_1[0]'h).toNat : Int) = bt x0_1 0 := bt_at x0_1 0
            clear p5
            have qi5 : (0 < (x0_1.size : Int)) = True := eq_true (of_decide_eq_true (by first | (with_reducible assumption) | assumption))
            replace q5 := eq_true q5
            go_wp2
            go_ret
            exact ⟨by first | rfl | (simp; done) | (simp [*]; done), by repeat (first | exact Drawn0.refl _ | apply Drawn0.step)⟩
        · rw [if_neg c4] at H
          exact absurd H (by simp)
      · rw [if_neg c3] at H
        have c3b0 : decide (0 < (x0_1.size : Int)) = false := decide_eq_false c3
        have c3b1 : decide (0 < x0_1.size) = false := decide_eq_false (by omega)
        clear c3
        obtain rfl := Option.some.inj H
        go_wp2
        go_ret
        exact ⟨by first | rfl | (simp; done) | (simp [*]; done), by repeat (first | exact Drawn0.refl _ | apply Drawn0.step)⟩

/-! ### strings_trimRightByte: function 36 -/
def strings_trimRightByte.l0 : Nat → ByteArray → Int → Option (ByteArray)
  | 0, _, _ => none
  | k + 1, x0, x1 => if (x0.size : Int) > 0 then (if 0 ≤ (wrap64 ((x0.size : Int) - 1)) then (if (wrap64 ((x0.size : Int) - 1)) < (x0.size : Int) then (if (bt x0 (wrap64 ((x0.size : Int) - 1))) = x1 then (if (wrap64 ((x0.size : Int) - 1)) ≤ (x0.size : Int) then (strings_trimRightByte.l0 k (x0.extract 0 ((wrap64 ((x0.size : Int) - 1)) : Int).toNat) x1) else (none)) else (some x0)) else (none)) else (none)) else (some x0)
def strings_trimRightByte.f (k : Nat) (a0 : ByteArray) (a1 : Int) : Option (ByteArray) := strings_trimRightByte.l0 k a0 a1
theorem strings_trimRightByte.mono_l : ∀ k, (∀ y0 y1, LeO (strings_trimRightByte.l0 k y0 y1) (strings_trimRightByte.l0 (k + 1) y0 y1))
  | 0 => fun _ _ r h => by simp [strings_trimRightByte.l0] at h
  | k + 1 => by
    have ih0 := strings_trimRightByte.mono_l k
    · intro y0 y1
      unfold strings_trimRightByte.l0
      repeat' first
      | (with_reducible exact ih0 _ _)
      | (with_reducible exact LeO.refl _)
      | (with_reducible exact LeO.none _)
      | (with_reducible refine LeO.ite ?_ ?_)
      | (with_reducible refine LeO.bind ?_ (fun _ => ?_))
      | exact ih0 _ _
      | exact LeO.none _
      | refine LeO.ite ?_ ?_
      | refine LeO.bind ?_ (fun _ => ?_)
theorem strings_trimRightByte.mono : ∀ a0 a1 k, LeO (strings_trimRightByte.f k a0 a1) (strings_trimRightByte.f (k + 1) a0 a1) := by
  intro a0 a1 k
  have ih0 := strings_trimRightByte.mono_l k
  unfold strings_trimRightByte.f
  repeat' first
      | (with_reducible exact ih0 _ _)
      | (with_reducible exact LeO.refl _)
      | (with_reducible exact LeO.none _)
      | (with_reducible refine LeO.ite ?_ ?_)
      | (with_reducible refine LeO.bind ?_ (fun _ => ?_))
      | exact ih0 _ _
      | exact LeO.none _
      | refine LeO.ite ?_ ?_
      | refine LeO.bind ?_ (fun _ => ?_)
set_option maxHeartbeats 8000000 in
set_option maxRecDepth 100000 in
theorem strings_trimRightByte.calls (k : Nat) (a0 : ByteArray) (a1 : Int) (r : ByteArray) (w : World) (h : strings_trimRightByte.f k a0 a1 = some r) :
    Calls Tryd.prog 36 #[.string a0, .int .u8 a1] w fun e w' => e = .returned (.string r) ∧ Drawn0 w w' := by
  have H : (strings_trimRightByte.l0 k a0 a1) = some r := h
  clear h
  have H' := Aside0.mk H
  clear H
  go_enter Tryd.func36, Tryd.ntmps36
  go_wp2
  go_loopg [0] k (fun kq v0 w' => ∃ (x0_1 : ByteArray), v0 = .string x0_1 ∧ Aside0 (strings_trimRightByte.l0 kq x0_1 a1 = some r) ∧ Aside0 (kq ≤ k) ∧ Drawn0 w w')
  case atStart => exact ⟨(a0), (by first | rfl | (simp; done) | (simp [*]; done)), H', ⟨Nat.le_refl _⟩, by repeat (first | exact Drawn0.refl _ | apply Drawn0.step)⟩
  case round =>
    clear H'
    try clear p2
    obtain ⟨x0_1, rfl, HA, HK1, ⟨m1, rfl⟩⟩ := hrel
    cases gk with
    | zero => exact absurd HA.out (by simp [strings_trimRightByte.l0])
    | succ k1 =>
      have H := HA.out
      clear HA
      simp only [strings_trimRightByte.l0] at H
      by_cases c3 : (x0_1.size : Int) > 0
      · rw [if_pos c3] at H
        have c3b0 : decide (0 < (x0_1.size : Int)) = true := decide_eq_true c3
        have c3b1 : decide (0 < x0_1.size) = true := decide_eq_true (by omega)
        clear c3
        obtain ⟨ji4, hji4⟩ : ∃ j_ : Int, (wrap64 ((x0_1.size : Int) - 1)) = j_ := ⟨_, rfl⟩
        replace H : (if 0 ≤ (ji4) then (if (ji4) < (x0_1.size : Int) then (if (bt x0_1 (ji4)) = a1 then (if (ji4) ≤ (x0_1.size : Int) then (strings_trimRightByte.l0 k1 (x0_1.extract 0 ((ji4) : Int).toNat) a1) else (none)) else (some x0_1)) else (none)) else (none)) = some r := by first | (rw [hji4] at H; exact H) | (simp only [hji4] at H ⊢; exact H)
        have hji4w : (IntKind.i64.wrap ((x0_1.size : Int) - 1)) = ji4 := (i64_w _).trans hji4
        by_cases c5 : 0 ≤ (ji4)
        · rw [if_pos c5] at H
          have c5b0 : decide (0 ≤ (ji4)) = true := decide_eq_true c5
          clear c5
          by_cases c6 : (ji4) < (x0_1.size : Int)
          · rw [if_pos c6] at H
            have c6b0 : decide ((ji4) < (x0_1.size : Int)) = true := decide_eq_true c6
            clear c6
            by_cases c8 : (bt x0_1 (ji4)) = a1
            · rw [if_pos c8] at H
              have c8b0 : ((bt x0_1 (ji4)) == a1) = true := beq_iff_eq.mpr c8
              have c8b1 : ((bt x0_1 (ji4)) != a1) = false := bne_eq_false_iff_eq.mpr c8
              clear c8
              have c9b0 := eq_true (of_decide_eq_true (by first | (with_reducible assumption) | assumption) : 0 ≤ (ji4))
              by_cases c10 : (ji4) ≤ (x0_1.size : Int)
              · rw [if_pos c10] at H
                have c10b0 := eq_true c10
                have c10b1 : decide ((ji4) ≤ (x0_1.size : Int)) = true := decide_eq_true c10
                clear c10
                have H' := Aside0.mk H
                clear H
                have p7 : 0 ≤ ((ji4) : Int) := of_decide_eq_true (by first | (with_reducible assumption) | assumption)
                have q7 : (ji4) < (x0_1.size : Int) := of_decide_eq_true (by first | (with_reducible assumption) | assumption)
                have hx7 := bt_at x0_1 (ji4)
                replace p7 := eq_true p7
                replace q7 := eq_true q7
                go_wp2
                go_roundg k1
                case measure => have := HK1.out; omega
                case rel => exact ⟨(x0_1.extract 0 ((ji4) : Int).toNat), (by first | rfl | (simp; done) | (simp only [← hji4] <;> (first | rfl | simp)) | (simp [*]; done)), H', ⟨by have := HK1.out; omega⟩, by repeat (first | exact Drawn0.refl _ | apply Drawn0.step)⟩
              · rw [if_neg c10] at H
                exact absurd H (by simp)
            · rw [if_neg c8] at H
              have c8b0 : ((bt x0_1 (ji4)) == a1) = false := beq_eq_false_iff_ne.mpr c8
              have c8b1 : ((bt x0_1 (ji4)) != a1) = true := bne_iff_ne.mpr c8
              obtain rfl := Option.some.inj H
              have p7 : 0 ≤ ((ji4) : Int) := of_decide_eq_true (by first | (with_reducible assumption) | assumption)
              have q7 : (ji4) < (x0_1.size : Int) := of_decide_eq_true (by first | (with_reducible assumption) | assumption)
              have hx7 := bt_at x0_1 (ji4)
              replace p7 := eq_true p7
              replace q7 := eq_true q7
              go_wp2
              go_ret
              exact ⟨by first | rfl | (simp; done) | (simp only [← hji4] <;> (first | rfl | simp)) | (simp [*]; done), by repeat (first | exact Drawn0.refl _ | apply Drawn0.step)⟩
          · rw [if_neg c6] at H
            exact absurd H (by simp)
        · rw [if_neg c5] at H
          exact absurd H (by simp)
      · rw [if_neg c3] at H
        have c3b0 : decide (0 < (x0_1.size : Int)) = false := decide_eq_false c3
        have c3b1 : decide (0 < x0_1.size) = false := decide_eq_false (by omega)
        clear c3
        obtain rfl := Option.some.inj H
        go_wp2
        go_ret
        exact ⟨by first | rfl | (simp; done) | (simp [*]; done), by repeat (first | exact Drawn0.refl _ | apply Drawn0.step)⟩

-- NOT PRINTED: function 37 (strings_makeASCIISet)

-- NOT PRINTED: function 45 (strings_asciiSet_contains)

-- NOT PRINTED: function 38 (strings_trimLeftASCII)

-- NOT PRINTED: function 39 (strings_trimRightASCII)

-- NOT PRINTED: function 49 (utf8_decodeRuneInStringSlow)

-- NOT PRINTED: function 46 (utf8_DecodeRuneInString)

/-! ### utf8_ValidRune: function 52 -/
def utf8_ValidRune.j0 : Nat → Int → Bool → Option (Bool)
  | 0, _, _ => none
  | k + 1, x0, x3 => if x3 = true then (some true) else (if 57343 < x0 then (if x0 ≤ 1114111 then (some true) else (some false)) else (some false))
def utf8_ValidRune.f (k : Nat) (a0 : Int) : Option (Bool) := if 0 ≤ a0 then (utf8_ValidRune.j0 k a0 (decide (a0 < 55296))) else (utf8_ValidRune.j0 k a0 false)
theorem utf8_ValidRune.mono_l : ∀ k, (∀ y0 y1, LeO (utf8_ValidRune.j0 k y0 y1) (utf8_ValidRune.j0 (k + 1) y0 y1))
  | 0 => fun _ _ r h => by simp [utf8_ValidRune.j0] at h
  | k + 1 => by
    have ih0 := utf8_ValidRune.mono_l k
    · intro y0 y1
      unfold utf8_ValidRune.j0
      repeat' first
      | (with_reducible exact ih0 _ _)
      | (with_reducible exact LeO.refl _)
      | (with_reducible exact LeO.none _)
      | (with_reducible refine LeO.ite ?_ ?_)
      | (with_reducible refine LeO.bind ?_ (fun _ => ?_))
      | exact ih0 _ _
      | exact LeO.none _
      | refine LeO.ite ?_ ?_
      | refine LeO.bind ?_ (fun _ => ?_)
theorem utf8_ValidRune.mono : ∀ a0 k, LeO (utf8_ValidRune.f k a0) (utf8_ValidRune.f (k + 1) a0) := by
  intro a0 k
  have ih0 := utf8_ValidRune.mono_l k
  unfold utf8_ValidRune.f
  repeat' first
      | (with_reducible exact ih0 _ _)
      | (with_reducible exact LeO.refl _)
      | (with_reducible exact LeO.none _)
      | (with_reducible refine LeO.ite ?_ ?_)
      | (with_reducible refine LeO.bind ?_ (fun _ => ?_))
      | exact ih0 _ _
      | exact LeO.none _
      | refine LeO.ite ?_ ?_
      | refine LeO.bind ?_ (fun _ => ?_)
set_option maxHeartbeats 8000000 in
set_option maxRecDepth 100000 in
theorem utf8_ValidRune.calls (k : Nat) (a0 : Int) (r : Bool) (w : World) (h : utf8_ValidRune.f k a0 = some r) :
    Calls Tryd.prog 52 #[.int .i32 a0] w fun e w' => e = .returned (.bool r) ∧ Drawn0 w w' := by
  have H : (if 0 ≤ a0 then (utf8_ValidRune.j0 k a0 (decide (a0 < 55296))) else (utf8_ValidRune.j0 k a0 false)) = some r := h
  clear h
  have HC2 := Aside0.mk H
  clear H
  go_enter Tryd.func52, Tryd.ntmps52
  go_upto_region 1 with (fail)
  go_cut [3] (fun v3 wc => ∃ (kq : Nat) (x3_1 : Bool), v3 = .bool x3_1 ∧ Aside0 (utf8_ValidRune.j0 kq a0 x3_1 = some r) ∧ Aside0 (kq ≤ k) ∧ Drawn0 w wc)
  case first =>
    have H := HC2.out
    clear HC2
    by_cases c3 : 0 ≤ a0
    · rw [if_pos c3] at H
      have c3b0 : decide (0 ≤ a0) = true := decide_eq_true c3
      clear c3
      (first | rw [c3b0] | (simp only [i64_w, i32_w]; rw [c3b0]) | skip)
      have H' := Aside0.mk H
      clear H
      go_wp2
      go_meet
      case rel => exact ⟨_, (decide (a0 < 55296)), (by first | rfl | (simp; done) | (simp [*]; done)), H', ⟨by first | omega | exact Nat.le_refl _⟩, by repeat (first | exact Drawn0.refl _ | apply Drawn0.step)⟩
    · rw [if_neg c3] at H
      have c3b0 : decide (0 ≤ a0) = false := decide_eq_false c3
      clear c3
      (first | rw [c3b0] | (simp only [i64_w, i32_w]; rw [c3b0]) | skip)
      have H' := Aside0.mk H
      clear H
      go_wp2
      go_meet
      case rel => exact ⟨_, (false), (by first | rfl | (simp; done) | (simp [*]; done)), H', ⟨by first | omega | exact Nat.le_refl _⟩, by repeat (first | exact Drawn0.refl _ | apply Drawn0.step)⟩
  case rest =>
    clear HC2
    try clear p2
    try clear c3
    try clear c3b0
    obtain ⟨kq, x3_1, rfl, HA, HJ1, ⟨mc1, rfl⟩⟩ := hcut
    cases kq with
    | zero => exact absurd HA.out (by simp [utf8_ValidRune.j0])
    | succ kj1 =>
      have H := HA.out
      clear HA
      simp only [utf8_ValidRune.j0] at H
      by_cases c4 : x3_1 = true
      · subst c4
        have H1 : (some true) = some r := by rw [if_pos rfl] at H; exact H
        clear H
        have H := H1
        clear H1
        obtain rfl := Option.some.inj H
        go_wp2
        go_ret
        exact ⟨by first | rfl | (simp; done) | (simp [*]; done), by repeat (first | exact Drawn0.refl _ | apply Drawn0.step)⟩
      · replace c4 := Bool.eq_false_iff.mpr c4
        subst c4
        have H1 : (if 57343 < a0 then (if a0 ≤ 1114111 then (some true) else (some false)) else (some false)) = some r := by rw [if_neg (show ¬ (false = true) by decide)] at H; exact H
        clear H
        have H := H1
        clear H1
        by_cases c5 : 57343 < a0
        · rw [if_pos c5] at H
          have c5b0 : decide (57343 < a0) = true := decide_eq_true c5
          clear c5
          by_cases c6 : a0 ≤ 1114111
          · rw [if_pos c6] at H
            have c6b0 : decide (a0 ≤ 1114111) = true := decide_eq_true c6
            clear c6
            obtain rfl := Option.some.inj H
            go_wp2
            go_ret
            exact ⟨by first | rfl | (simp; done) | (simp [*]; done), by repeat (first | exact Drawn0.refl _ | apply Drawn0.step)⟩
          · rw [if_neg c6] at H
            have c6b0 : decide (a0 ≤ 1114111) = false := decide_eq_false c6
            clear c6
            obtain rfl := Option.some.inj H
            go_wp2
            go_ret
            exact ⟨by first | rfl | (simp; done) | (simp [*]; done), by repeat (first | exact Drawn0.refl _ | apply Drawn0.step)⟩
        · rw [if_neg c5] at H
          have c5b0 : decide (57343 < a0) = false := decide_eq_false c5
          clear c5
          obtain rfl := Option.some.inj H
          go_wp2
          go_ret
          exact ⟨by first | rfl | (simp; done) | (simp [*]; done), by repeat (first | exact Drawn0.refl _ | apply Drawn0.step)⟩

/-! ### bytealg_Cutover: function 53 -/
def bytealg_Cutover.f (a0 : Int) : Option (Int) := some (wrap64 (Int.tdiv (wrap64 (a0 + 16)) 8))
set_option maxHeartbeats 8000000 in
set_option maxRecDepth 100000 in
theorem bytealg_Cutover.calls (a0 : Int) (r : Int) (w : World) (h : bytealg_Cutover.f a0 = some r) :
    Calls Tryd.prog 53 #[.int .i64 a0] w fun e w' => e = .returned (.int .i64 r) ∧ Drawn0 w w' := by
  have H : (some (wrap64 (Int.tdiv (wrap64 (a0 + 16)) 8))) = some r := h
  clear h
  obtain rfl := Option.some.inj H
  go_enter Tryd.func53, Tryd.ntmps53
  go_wp2
  go_ret
  exact ⟨by first | rfl | (simp; done) | (simp [*]; done), by repeat (first | exact Drawn0.refl _ | apply Drawn0.step)⟩

-- NOT PRINTED: function 54 (bytealg_IndexString)

-- NOT PRINTED: function 50 (strings_IndexRune)

-- NOT PRINTED: function 47 (strings_ContainsRune)

-- NOT PRINTED: function 40 (strings_trimLeftUnicode)

/-! ### utf8_RuneStart: function 51 -/
def utf8_RuneStart.f (a0 : Int) : Option (Bool) := some ((Go.bits .and .u8 a0 192) != 128)
set_option maxHeartbeats 8000000 in
set_option maxRecDepth 100000 in
theorem utf8_RuneStart.calls (a0 : Int) (r : Bool) (w : World) (h : utf8_RuneStart.f a0 = some r) :
    Calls Tryd.prog 51 #[.int .u8 a0] w fun e w' => e = .returned (.bool r) ∧ Drawn0 w w' := by
  have H : (some ((Go.bits .and .u8 a0 192) != 128)) = some r := h
  clear h
  obtain rfl := Option.some.inj H
  go_enter Tryd.func51, Tryd.ntmps51
  go_wp2
  go_ret
  exact ⟨by first | rfl | (simp; done) | (simp [*]; done), by repeat (first | exact Drawn0.refl _ | apply Drawn0.step)⟩

-- NOT PRINTED: function 48 (utf8_DecodeLastRuneInString)

-- NOT PRINTED: function 41 (strings_trimRightUnicode)

/-! ### given: strings.Trim -/
def strings_Trim.f (a0 a1 : ByteArray) : Option ByteArray := if a0.size ≤ 9223372036854775807 ∧ 2 ≤ a1.size ∧ a1.size < 1000 ∧ a1.data.toList.all (fun b => decide (b.toNat < 128)) = true then some ⟨(Lib.trimS a0.data.toList a1.data.toList).toArray⟩ else none
theorem byte_row (t : ByteArray) (i : Nat) (h : i < t.size) : t.data.toList[i]? = some (t[i]'h) := Lib.data_getElem? t i h
theorem row_extract (t : ByteArray) (a b : Nat) : (t.extract a b).data.toList = (t.data.toList.drop a).take (b - a) := by
  have := congrArg (fun x : ByteArray => x.data.toList) (Lib.extract_mk t.data.toList a b)
  rw [Lib.mk_data] at this
  simp only [] at this
  exact this
theorem trimL_step (t : ByteArray) (cs : List UInt8) (h0 : 0 < t.size) (h : cs.contains (t[0]'h0) = true) : Lib.trimLeftS (t.extract 1 t.size).data.toList cs = Lib.trimLeftS t.data.toList cs := by
  have h1 := byte_row t 0 h0
  have hl : t.data.toList.length = t.size := (Lib.size_eq t).symm
  rw [row_extract, List.take_of_length_le (by rw [List.length_drop]; omega)]
  match hm : t.data.toList, h1 with
  | a :: l, h1 =>
    obtain rfl : a = t[0]'h0 := by simpa using h1
    simp only [List.drop_succ_cons, List.drop_zero, Lib.trimLeftS, List.dropWhile_cons, h, if_true]
theorem trimL_stop (t : ByteArray) (cs : List UInt8) (h0 : 0 < t.size) (h : cs.contains (t[0]'h0) = false) : Lib.trimLeftS t.data.toList cs = t.data.toList := by
  have h1 := byte_row t 0 h0
  match hm : t.data.toList, h1 with
  | a :: l, h1 =>
    obtain rfl : a = t[0]'h0 := by simpa using h1
    simp only [Lib.trimLeftS, List.dropWhile_cons, h]
    rfl
theorem row_last (t : ByteArray) (h0 : 0 < t.size) : t.data.toList = t.data.toList.take (t.size - 1) ++ [t[t.size - 1]'(by omega)] := by
  have h1 := byte_row t (t.size - 1) (by omega)
  have hl : t.data.toList.length = t.size := (Lib.size_eq t).symm
  have h2 := List.take_succ_eq_append_getElem (l := t.data.toList) (i := t.size - 1) (by omega)
  rw [List.getElem?_eq_getElem (by omega)] at h1
  rw [Option.some.inj h1, Nat.sub_add_cancel h0, List.take_of_length_le (by omega)] at h2
  exact h2
theorem trimR_step (t : ByteArray) (cs : List UInt8) (h0 : 0 < t.size) (h : cs.contains (t[t.size - 1]'(by omega)) = true) : Lib.trimRightS (t.extract 0 (t.size - 1)).data.toList cs = Lib.trimRightS t.data.toList cs := by
  rw [row_extract, List.drop_zero, Nat.sub_zero]
  conv => rhs; rw [row_last t h0]
  simp only [Lib.trimRightS, List.reverse_append, List.reverse_singleton, List.singleton_append, List.dropWhile_cons, h, if_true]
theorem trimR_stop (t : ByteArray) (cs : List UInt8) (h0 : 0 < t.size) (h : cs.contains (t[t.size - 1]'(by omega)) = false) : Lib.trimRightS t.data.toList cs = t.data.toList := by
  conv => lhs; rw [row_last t h0]
  simp only [Lib.trimRightS, List.reverse_append, List.reverse_singleton, List.singleton_append, List.dropWhile_cons, h]
  conv => rhs; rw [row_last t h0]
  simp
theorem row_empty (t : ByteArray) (h : ¬ 0 < t.size) : t.data.toList = [] := List.eq_nil_of_length_eq_zero (by rw [← Lib.size_eq]; omega)
set_option maxHeartbeats 2000000 in
theorem strings_trimLeftASCII.calls (s : ByteArray) (b : Nat) (cs : List UInt8) (w : World) (hset : ∀ x : UInt8, w.cell? ⟨b, x.toNat, none⟩ = some (.bool (cs.contains x))) :
    Calls Tryd.prog 38 #[.string s, .pointer (some ⟨b, 0, none⟩)] w fun e w' => e = .returned (.string ⟨(Lib.trimLeftS s.data.toList cs).toArray⟩) ∧ w' = w := by
  have HS := Aside0.mk hset
  clear hset
  go_enter Tryd.func38, Tryd.ntmps38
  go_wp2
  go_loop [0] (fun v => ∃ t : ByteArray, v = .string t ∧ Aside0 (Lib.trimLeftS t.data.toList cs = Lib.trimLeftS s.data.toList cs)) (fun v => Lib.strSize v)
  case atStart => exact ⟨s, rfl, ⟨rfl⟩⟩
  case round =>
    obtain ⟨t, rfl, HT⟩ := hrel
    by_cases h0 : 0 < t.size
    · have hcx := HS.out (t[0]'h0)
      have H1 := Aside0.mk (trimL_step t cs h0)
      have H2 := Aside0.mk (trimL_stop t cs h0)
      have hsz : (t.extract 1 t.size).size = t.size - 1 := by simp [ByteArray.size_extract]
      cases hin : cs.contains (t[0]'h0) <;> rw [hin] at hcx
      · have H2' := Aside0.mk (H2.out hin)
        clear hin H1 H2 hsz
        go_wp2_with (go_at_call 45; refine (Tryd.asciiSet_contains _ (t[0]'h0) _ _ hcx).mono ?_; rintro e w' ⟨rfl, hw⟩; rw [hw])
        go_ret
        refine ⟨?_, rfl⟩
        show Ending.returned (Value.string t) = _
        rw [← HT.out, H2'.out, Lib.mk_data]
      · have H1' := Aside0.mk (H1.out hin)
        clear hin H1 H2
        generalize ht2 : t.extract 1 t.size = t2 at *
        go_wp2_with (go_at_call 45; refine (Tryd.asciiSet_contains _ (t[0]'h0) _ _ hcx).mono ?_; rintro e w' ⟨rfl, hw⟩; rw [hw])
        refine ⟨⟨t2, rfl, ⟨H1'.out.trans HT.out⟩⟩, ?_⟩
        show Lib.strSize (Value.string t2) < Lib.strSize (Value.string t)
        rw [Lib.strSize_string, Lib.strSize_string]
        omega
    · go_wp2
      go_ret
      refine ⟨?_, rfl⟩
      have h2 := HT.out
      rw [row_empty t h0, Lib.trimLeftS_nil] at h2
      show Ending.returned (Value.string t) = _
      rw [← h2, ← row_empty t h0, Lib.mk_data]
set_option maxHeartbeats 2000000 in
theorem strings_trimRightASCII.calls (s : ByteArray) (b : Nat) (cs : List UInt8) (w : World) (hs : s.size ≤ 9223372036854775807) (hset : ∀ x : UInt8, w.cell? ⟨b, x.toNat, none⟩ = some (.bool (cs.contains x))) :
    Calls Tryd.prog 39 #[.string s, .pointer (some ⟨b, 0, none⟩)] w fun e w' => e = .returned (.string ⟨(Lib.trimRightS s.data.toList cs).toArray⟩) ∧ w' = w := by
  have HS := Aside0.mk hset
  clear hset
  go_enter Tryd.func39, Tryd.ntmps39
  go_wp2
  go_loop [0] (fun v => ∃ t : ByteArray, v = .string t ∧ t.size ≤ s.size ∧ Aside0 (Lib.trimRightS t.data.toList cs = Lib.trimRightS s.data.toList cs)) (fun v => Lib.strSize v)
  case atStart => exact ⟨s, rfl, Nat.le_refl _, ⟨rfl⟩⟩
  case round =>
    obtain ⟨t, rfl, hle, HT⟩ := hrel
    by_cases h0 : 0 < t.size
    · have hwr : ((t.size : Int) - 1 + 9223372036854775808) % 18446744073709551616 - 9223372036854775808 = ((t.size - 1 : Nat) : Int) := by omega
      have h1 : t.size - 1 < t.size := by omega
      have hcx := HS.out (t[t.size - 1]'h1)
      have H1 := Aside0.mk (trimR_step t cs h0)
      have H2 := Aside0.mk (trimR_stop t cs h0)
      have hsz : (t.extract 0 (t.size - 1)).size = t.size - 1 := by simp [ByteArray.size_extract]
      cases hin : cs.contains (t[t.size - 1]'h1) <;> rw [hin] at hcx
      · have H2' := Aside0.mk (H2.out hin)
        clear hin H1 H2 hsz
        go_wp2_with (go_at_call 45; refine (Tryd.asciiSet_contains _ (t[t.size - 1]'h1) _ _ hcx).mono ?_; rintro e w' ⟨rfl, hw⟩; rw [hw])
        go_ret
        refine ⟨?_, rfl⟩
        show Ending.returned (Value.string t) = _
        rw [← HT.out, H2'.out, Lib.mk_data]
      · have H1' := Aside0.mk (H1.out hin)
        clear hin H1 H2
        generalize ht2 : t.extract 0 (t.size - 1) = t2 at *
        go_wp2_with (go_at_call 45; refine (Tryd.asciiSet_contains _ (t[t.size - 1]'h1) _ _ hcx).mono ?_; rintro e w' ⟨rfl, hw⟩; rw [hw])
        refine ⟨⟨t2, rfl, by omega, ⟨H1'.out.trans HT.out⟩⟩, ?_⟩
        show Lib.strSize (Value.string t2) < Lib.strSize (Value.string t)
        rw [Lib.strSize_string, Lib.strSize_string]
        omega
    · go_wp2
      go_ret
      refine ⟨?_, rfl⟩
      have h2 := HT.out
      rw [row_empty t h0, Lib.trimRightS_nil] at h2
      show Ending.returned (Value.string t) = _
      rw [← h2, ← row_empty t h0, Lib.mk_data]
set_option maxHeartbeats 4000000 in
theorem strings_Trim.calls (a0 a1 : ByteArray) (r : ByteArray) (w : World) (h : strings_Trim.f a0 a1 = some r) :
    Calls Tryd.prog 29 #[.string a0, .string a1] w fun e w' => e = .returned (.string r) ∧ Below w.heap.size w w' := by
  unfold strings_Trim.f at h
  by_cases hc : a0.size ≤ 9223372036854775807 ∧ 2 ≤ a1.size ∧ a1.size < 1000 ∧ a1.data.toList.all (fun b => decide (b.toNat < 128)) = true
  · rw [if_pos hc] at h
    obtain rfl := Option.some.inj h
    clear h
    obtain ⟨hs, h2, hcs, hall⟩ := hc
    by_cases he : 0 < a0.size
    · have hv : ∀ w, (zeroValue 47).run Tryd.prog w = .ok (.agg (Array.replicate 256 (.bool false))) w := (zero_of_info (P := Tryd.prog) (n := 256) (by kernel_rfl)).1
      have hM := Tryd.strings_makeASCIISet hv a1 w (by omega) (fun j b hb => of_decide_eq_true (List.all_eq_true.1 hall b (List.mem_of_getElem? hb)))
      clear hall
      have hemp : ∀ t : ByteArray, 0 < t.size → t.toList.isEmpty = false := fun t ht => by
        rw [Lib.toList_data]
        cases h : t.data.toList with
        | nil => have := Lib.size_eq t; rw [h, List.length_nil] at this; omega
        | cons _ _ => rfl
      have hemp1 := hemp a1 (by omega)
      have hemp0 := hemp a0 he
      clear hemp
      have hn1 : ((a1.size : Int) == 1) = false := beq_eq_false_iff_ne.2 (by omega)
      generalize hcl : a1.data.toList = cl at *
      have hsc : (storeCells ⟨w.heap.size + 1, 0, none⟩ (Lib.setCells cl).toList 0).run Tryd.prog ((w.alloc (.cells (Lib.setCells cl) 47)).alloc (.cells (Array.replicate 256 (.bool false)) 47)) = .ok () ((w.alloc (.cells (Lib.setCells cl) 47)).alloc (.cells (Lib.setCells cl) 47)) := by
        have := run_storeCells_new (P := Tryd.prog) (w.alloc (.cells (Lib.setCells cl) 47)) 47 (Array.replicate 256 (.bool false)) (Lib.setCells cl) (by rw [Lib.setCells_size]; kernel_rfl) (by rw [Lib.setCells_size, Array.size_replicate]) (Lib.setCells_one _)
        simpa using this
      have hsz := Lib.setCells_size cl
      have hcellAt : ∀ x : UInt8, ((w.alloc (.cells (Lib.setCells cl) 47)).alloc (.cells (Lib.setCells cl) 47)).cell? ⟨w.heap.size + 1, x.toNat, none⟩ = some (.bool (cl.contains x)) := fun x => by
        rw [World.cell?_alloc_at _ _ _ _ (by simp), Lib.setCells_at]
      have HC : Aside (∀ (q : Nat) (x : UInt8), (((w.alloc (.cells (Lib.setCells cl) 47)).alloc (.cells (Lib.setCells cl) 47)).drewN q).cell? ⟨w.heap.size + 1, x.toNat, none⟩ = some (.bool (cl.contains x))) := fun q x => by simpa using hcellAt x
      clear hcellAt
      have HL := Aside0.mk hcl
      clear hcl
      go_enter Tryd.func29, Tryd.ntmps29
      go_wp2_with (first
        | (go_at_call 37; refine hM.mono ?_; rintro e w' ⟨rfl, hw⟩; rw [hw])
        | (go_at_call 39; refine (strings_trimRightASCII.calls a0 (w.heap.size + 1) cl _ hs (HC.out 0)).mono ?_; rintro e w' ⟨rfl, hw⟩; rw [hw])
        | (go_at_call 38; refine (strings_trimLeftASCII.calls _ (w.heap.size + 1) cl _ (HC.out 0)).mono ?_; rintro e w' ⟨rfl, hw⟩; rw [hw]))
      go_ret
      refine ⟨rfl, ?_⟩
      exact (((Below.refl _ _).alloc (Nat.le_refl _) _).alloc (by simp) _).trans ⟨rfl, rfl, rfl, Nat.le_refl _, fun _ _ => rfl⟩
    · have hl := row_empty a0 he
      have hem : a0.toList.isEmpty = true := by rw [Lib.toList_data, hl]; rfl
      have hr : (⟨(Lib.trimS a0.data.toList a1.data.toList).toArray⟩ : ByteArray) = a0 := by
        rw [hl]
        show (⟨([] : List UInt8).toArray⟩ : ByteArray) = a0
        rw [← hl, Lib.mk_data]
      rw [hr]
      clear hr hl hall
      go_enter Tryd.func29, Tryd.ntmps29
      go_wp2
      go_ret
      exact ⟨rfl, Below.refl _ _⟩
  · rw [if_neg hc] at h
    cases h

/-! ### octets_Strip: function 9 -/
def octets_Strip.f (a0 : ByteArray) : Option (ByteArray) := (strings_Trim.f a0 (⟨#[9, 10, 12, 13, 32]⟩ : ByteArray)).bind fun t162 => (some t162)
set_option maxHeartbeats 8000000 in
set_option maxRecDepth 100000 in
theorem octets_Strip.calls (a0 : ByteArray) (r : ByteArray) (w : World) (h : octets_Strip.f a0 = some r) :
    Calls Tryd.prog 9 #[.string a0] w fun e w' => e = .returned (.string r) ∧ Below w.heap.size w w' := by
  have HB := Aside0.mk (Below.refl w.heap.size w)
  have H : ((strings_Trim.f a0 (⟨#[9, 10, 12, 13, 32]⟩ : ByteArray)).bind fun t162 => (some t162)) = some r := h
  clear h
  replace H := Option.bind_eq_some_iff.mp H
  obtain ⟨t162, A20, H⟩ := H
  replace H : (some t162) = some r := H
  have A2 := Aside0.mk A20
  clear A20
  obtain rfl := Option.some.inj H
  go_enter Tryd.func9, Tryd.ntmps9
  go_wp2_with (first | ((with_reducible refine gate_callee (f := 29) rfl ?_); refine goesL_ (some 4) rfl rfl Tryd.func29 (by kernel_rfl) rfl #[.string a0, .string (⟨#[9, 10, 12, 13, 32]⟩ : ByteArray)] rfl (by (try simp only [List.map_toArray, List.map_cons, List.map_nil]); first | done | rfl | (simp only [List.length_drop, List.length_take]; rfl)) ?_; (with_reducible refine (strings_Trim.calls a0 (⟨#[9, 10, 12, 13, 32]⟩ : ByteArray) t162 _ A2.out).mono ?_); rintro e w3 ⟨rfl, hb⟩; refine ⟨_, rfl, ?_⟩; have n0_ := Aside0.mk (below_step (by repeat (first | (with_reducible first | exact HB.out | apply below_alloc | apply pw_below_drewN | apply below_drew1) | exact HB.out)) hb); clear HB; have HB := n0_; clear n0_; (try clear hb); (try clear hb2); (try clear hk); (try clear hi)))
  go_ret
  exact ⟨by first | rfl | (simp [errW_none, errW_some] <;> rfl) | (simp [*, errW_none, errW_some] <;> rfl), by repeat (first | (with_reducible first | exact HB.out | apply below_alloc | apply pw_below_drewN | apply below_drew1) | exact HB.out)⟩

/-! ### octets_Trim: function 10 -/
def octets_Trim.f (a0 : ByteArray) : Option (ByteArray) := (strings_Trim.f a0 (⟨#[9, 32]⟩ : ByteArray)).bind fun t163 => (some t163)
set_option maxHeartbeats 8000000 in
set_option maxRecDepth 100000 in
theorem octets_Trim.calls (a0 : ByteArray) (r : ByteArray) (w : World) (h : octets_Trim.f a0 = some r) :
    Calls Tryd.prog 10 #[.string a0] w fun e w' => e = .returned (.string r) ∧ Below w.heap.size w w' := by
  have HB := Aside0.mk (Below.refl w.heap.size w)
  have H : ((strings_Trim.f a0 (⟨#[9, 32]⟩ : ByteArray)).bind fun t163 => (some t163)) = some r := h
  clear h
  replace H := Option.bind_eq_some_iff.mp H
  obtain ⟨t163, A20, H⟩ := H
  replace H : (some t163) = some r := H
  have A2 := Aside0.mk A20
  clear A20
  obtain rfl := Option.some.inj H
  go_enter Tryd.func10, Tryd.ntmps10
  go_wp2_with (first | ((with_reducible refine gate_callee (f := 29) rfl ?_); refine goesL_ (some 4) rfl rfl Tryd.func29 (by kernel_rfl) rfl #[.string a0, .string (⟨#[9, 32]⟩ : ByteArray)] rfl (by (try simp only [List.map_toArray, List.map_cons, List.map_nil]); first | done | rfl | (simp only [List.length_drop, List.length_take]; rfl)) ?_; (with_reducible refine (strings_Trim.calls a0 (⟨#[9, 32]⟩ : ByteArray) t163 _ A2.out).mono ?_); rintro e w3 ⟨rfl, hb⟩; refine ⟨_, rfl, ?_⟩; have n0_ := Aside0.mk (below_step (by repeat (first | (with_reducible first | exact HB.out | apply below_alloc | apply pw_below_drewN | apply below_drew1) | exact HB.out)) hb); clear HB; have HB := n0_; clear n0_; (try clear hb); (try clear hb2); (try clear hk); (try clear hi)))
  go_ret
  exact ⟨by first | rfl | (simp [errW_none, errW_some] <;> rfl) | (simp [*, errW_none, errW_some] <;> rfl), by repeat (first | (with_reducible first | exact HB.out | apply below_alloc | apply pw_below_drewN | apply below_drew1) | exact HB.out)⟩

/-! ### given: pergola/octets.turned -/
def turn1 (a b c : Int) : Int := if a ≤ c then (if c ≤ b then Go.bits .xor .u8 c 32 else c) else c
def octets_turned.f (a0 : ByteArray) (a1 a2 : Int) : Option ByteArray := if a0.size ≤ 9223372036854775807 then some (strOfNums ((bytesOf a0).map (turn1 a1 a2))) else none
theorem turned_at (xs : List Int) (a b : Int) (k : Nat) (hk : k < xs.length) : ((xs.take k).map (turn1 a b) ++ xs.drop k).getD k 0 = xs.getD k 0 := by
  have hm : min k xs.length = k := Nat.min_eq_left (Nat.le_of_lt hk)
  rw [List.getD_eq_getElem?_getD, List.getElem?_append_right (by simp [hm]), List.getD_eq_getElem?_getD]
  simp [hm]
theorem turned_step (xs : List Int) (a b : Int) (k : Nat) (hk : k < xs.length) : ((xs.take k).map (turn1 a b) ++ xs.drop k).set k (turn1 a b (xs.getD k 0)) = (xs.take (k + 1)).map (turn1 a b) ++ xs.drop (k + 1) := by
  have hm : min k xs.length = k := Nat.min_eq_left (Nat.le_of_lt hk)
  rw [List.set_append_right _ _ (by simp [hm]), List.take_succ_eq_append_getElem hk, List.map_append]
  simp only [List.length_map, List.length_take, hm, Nat.sub_self]
  rw [List.drop_eq_getElem_cons hk, List.set_cons_zero, List.append_assoc]
  simp [List.getD_eq_getElem?_getD, List.getElem?_eq_getElem hk]
theorem turned_skip (xs : List Int) (a b : Int) (k : Nat) (hk : k < xs.length) (h : turn1 a b (xs.getD k 0) = xs.getD k 0) : (xs.take k).map (turn1 a b) ++ xs.drop k = (xs.take (k + 1)).map (turn1 a b) ++ xs.drop (k + 1) := by
  have e : turn1 a b xs[k] = xs[k] := by simpa [List.getD_eq_getElem?_getD, List.getElem?_eq_getElem hk] using h
  rw [List.take_succ_eq_append_getElem hk, List.map_append, List.drop_eq_getElem_cons hk]
  simp [e]
set_option maxHeartbeats 1000000 in
theorem octets_turned.calls (a0 : ByteArray) (a1 a2 : Int) (r : ByteArray) (w : World) (h : octets_turned.f a0 a1 a2 = some r) :
    Calls Tryd.prog 30 #[.string a0, .int .u8 a1, .int .u8 a2] w fun e w' => e = .returned (.string r) ∧ Below w.heap.size w w' := by
  unfold octets_turned.f at h
  by_cases hs : a0.size ≤ 9223372036854775807
  · rw [if_pos hs] at h
    obtain rfl := Option.some.inj h
    clear h
    have kb := fun W => print_bytes (P := Tryd.prog) 9 25 5 Tryd.underlying9 Tryd.underlying25 Tryd.underlying5 a0 W
    go_enter Tryd.func30, Tryd.ntmps30
    go_wp2
    have hl := bytesOf_length a0
    generalize hbs : bytesOf a0 = bs at *
    have HM : Marked (Lib.bytesWorld w 5 a0) 5 w.heap.size bs := by rw [← hbs]; exact Marked.new w 5 a0
    have HB : Below w.heap.size w (Lib.bytesWorld w 5 a0) := bytes_below (Below.refl _ _) (Nat.le_refl _) _ _
    clear kb
    go_loopw [14] (fun v14 wr => ∃ k : Nat, v14 = .int .i64 k ∧ k ≤ a0.size ∧ Marked wr 5 w.heap.size ((bs.take k).map (turn1 a1 a2) ++ bs.drop k) ∧ Below w.heap.size w wr) (fun v14 _ => a0.size - (intOf v14).toNat)
    case atStart => exact ⟨0, rfl, Nat.zero_le _, by simpa using HM, HB⟩
    case round =>
      clear HM HB
      obtain ⟨k, rfl, hk, hm, hb⟩ := hrel
      have HL := Aside0.mk hl
      have HBS := Aside0.mk hbs
      clear hl hbs
      by_cases hlt : k < a0.size
      · have hkb : k < bs.length := by rw [HL.out]; exact hlt
        obtain ⟨hc, hf⟩ := hm.get k (by simp; omega)
        rw [turned_at bs a1 a2 k hkb] at hc
        have hset := hm.set k (turn1 a1 a2 (bs.getD k 0))
        rw [turned_step bs a1 a2 k hkb] at hset
        have hskip := turned_skip bs a1 a2 k hkb
        have hbw := Marked.write hb (Nat.le_refl _) k (.int .u8 (turn1 a1 a2 (bs.getD k 0)))
        generalize bs.getD k 0 = c at *
        by_cases t1 : a1 ≤ c
        · by_cases t2 : c ≤ a2
          · have e : turn1 a1 a2 c = Go.bits .xor .u8 c 32 := by unfold turn1; rw [if_pos t1, if_pos t2]
            rw [e] at hset hbw
            clear e
            have HM := Aside0.mk hm
            have HS := Aside0.mk hset
            clear hm hset hskip
            go_wp2
            exact ⟨⟨k + 1, by go_num, by omega, HS.out, hbw⟩, by simp [intOf]; omega⟩
          · have hm2 := hm
            rw [hskip (by unfold turn1; rw [if_pos t1, if_neg t2])] at hm2
            have HM := Aside0.mk hm2
            clear hm hset hskip hbw hm2
            go_wp2
            exact ⟨⟨k + 1, by go_num, by omega, HM.out, hb⟩, by simp [intOf]; omega⟩
        · have hm2 := hm
          rw [hskip (by unfold turn1; rw [if_neg t1])] at hm2
          have HM := Aside0.mk hm2
          clear hm hset hskip hbw hm2
          go_wp2
          exact ⟨⟨k + 1, by go_num, by omega, HM.out, hb⟩, by simp [intOf]; omega⟩
      · obtain rfl : k = a0.size := by omega
        rw [List.take_of_length_le (by rw [HL.out]; omega), List.drop_of_length_le (by rw [HL.out]; omega), List.append_nil] at hm
        have hcv := fun n => Marked.string (P := Tryd.prog) (src := 25) (dst := 9) hm Tryd.underlying25 Tryd.underlying5 Tryd.underlying9 a0.size n (by rw [List.length_map]; exact HL.out)
        have HM := Aside0.mk hm
        clear hm
        go_wp2
        go_ret
        exact ⟨by rw [HBS.out]; rfl, hb⟩
  · rw [if_neg hs] at h
    cases h

/-! ### octets_Lower: function 11 -/
def octets_Lower.f (a0 : ByteArray) : Option (ByteArray) := (octets_turned.f a0 65 90).bind fun t164 => (some t164)
set_option maxHeartbeats 8000000 in
set_option maxRecDepth 100000 in
theorem octets_Lower.calls (a0 : ByteArray) (r : ByteArray) (w : World) (h : octets_Lower.f a0 = some r) :
    Calls Tryd.prog 11 #[.string a0] w fun e w' => e = .returned (.string r) ∧ Below w.heap.size w w' := by
  have HB := Aside0.mk (Below.refl w.heap.size w)
  have H : ((octets_turned.f a0 65 90).bind fun t164 => (some t164)) = some r := h
  clear h
  replace H := Option.bind_eq_some_iff.mp H
  obtain ⟨t164, A20, H⟩ := H
  replace H : (some t164) = some r := H
  have A2 := Aside0.mk A20
  clear A20
  obtain rfl := Option.some.inj H
  go_enter Tryd.func11, Tryd.ntmps11
  go_wp2_with (first | ((with_reducible refine gate_callee (f := 30) rfl ?_); refine goesL_ (some 4) rfl rfl Tryd.func30 (by kernel_rfl) rfl #[.string a0, .int .u8 65, .int .u8 90] rfl (by (try simp only [List.map_toArray, List.map_cons, List.map_nil]); first | done | rfl | (simp only [List.length_drop, List.length_take]; rfl)) ?_; (with_reducible refine (octets_turned.calls a0 65 90 t164 _ A2.out).mono ?_); rintro e w3 ⟨rfl, hb⟩; refine ⟨_, rfl, ?_⟩; have n0_ := Aside0.mk (below_step (by repeat (first | (with_reducible first | exact HB.out | apply below_alloc | apply pw_below_drewN | apply below_drew1) | exact HB.out)) hb); clear HB; have HB := n0_; clear n0_; (try clear hb); (try clear hb2); (try clear hk); (try clear hi)))
  go_ret
  exact ⟨by first | rfl | (simp [errW_none, errW_some] <;> rfl) | (simp [*, errW_none, errW_some] <;> rfl), by repeat (first | (with_reducible first | exact HB.out | apply below_alloc | apply pw_below_drewN | apply below_drew1) | exact HB.out)⟩

/-! ### octets_Upper: function 12 -/
def octets_Upper.f (a0 : ByteArray) : Option (ByteArray) := (octets_turned.f a0 97 122).bind fun t165 => (some t165)
set_option maxHeartbeats 8000000 in
set_option maxRecDepth 100000 in
theorem octets_Upper.calls (a0 : ByteArray) (r : ByteArray) (w : World) (h : octets_Upper.f a0 = some r) :
    Calls Tryd.prog 12 #[.string a0] w fun e w' => e = .returned (.string r) ∧ Below w.heap.size w w' := by
  have HB := Aside0.mk (Below.refl w.heap.size w)
  have H : ((octets_turned.f a0 97 122).bind fun t165 => (some t165)) = some r := h
  clear h
  replace H := Option.bind_eq_some_iff.mp H
  obtain ⟨t165, A20, H⟩ := H
  replace H : (some t165) = some r := H
  have A2 := Aside0.mk A20
  clear A20
  obtain rfl := Option.some.inj H
  go_enter Tryd.func12, Tryd.ntmps12
  go_wp2_with (first | ((with_reducible refine gate_callee (f := 30) rfl ?_); refine goesL_ (some 4) rfl rfl Tryd.func30 (by kernel_rfl) rfl #[.string a0, .int .u8 97, .int .u8 122] rfl (by (try simp only [List.map_toArray, List.map_cons, List.map_nil]); first | done | rfl | (simp only [List.length_drop, List.length_take]; rfl)) ?_; (with_reducible refine (octets_turned.calls a0 97 122 t165 _ A2.out).mono ?_); rintro e w3 ⟨rfl, hb⟩; refine ⟨_, rfl, ?_⟩; have n0_ := Aside0.mk (below_step (by repeat (first | (with_reducible first | exact HB.out | apply below_alloc | apply pw_below_drewN | apply below_drew1) | exact HB.out)) hb); clear HB; have HB := n0_; clear n0_; (try clear hb); (try clear hb2); (try clear hk); (try clear hi)))
  go_ret
  exact ⟨by first | rfl | (simp [errW_none, errW_some] <;> rfl) | (simp [*, errW_none, errW_some] <;> rfl), by repeat (first | (with_reducible first | exact HB.out | apply below_alloc | apply pw_below_drewN | apply below_drew1) | exact HB.out)⟩

end Go.Proofs.YtknmcpccljmfdaaDoor.X
