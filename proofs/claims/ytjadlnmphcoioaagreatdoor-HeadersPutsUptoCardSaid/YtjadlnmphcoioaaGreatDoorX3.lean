-- Written by wip/xprint.py for this seat
import Derived.Test.YtjadlnmphcoioaaGreatDoorX0
import Derived.Test.YtjadlnmphcoioaaGreatDoorX2
namespace Go.Proofs.YtjadlnmphcoioaaGreatDoor.X
open Go.RowKit Go.Proofs.YtjadlnmphcoioaaGreatDoorW.PrintWords Go.Proofs.YtjadlnmphcoioaaGreatDoorW.PrintLast Go.Proofs.YtjadlnmphcoioaaGreatDoorW.PrintMore
attribute [local go_sem] max2_int min2_int max_two min_two max_three min_three max_four min_four   -- for this text's walks alone
set_option linter.unusedVariables false
set_option linter.unusedSimpArgs false

/-! ### octets_IsToken: function 97 -/
def octets_IsToken.l0 : Nat → ByteArray → Int → Int → Option (Bool)
 | 0, _, _, _ => none
 | k + 1, x0, x7, x8 => if x8 < x7 then (if 0 ≤ x8 then (if x8 < (x0.size : Int) then (if (Go.bits .or .u8 (bt x0 x8) 32) ≥ 97 then (if ((Go.bits .or .u8 (bt x0 x8) 32) ≤ 122) then (octets_IsToken.l0 k x0 x7 (wrap64 (x8 + 1))) else (if (bt x0 x8) < 48 then ((strings_IndexByte.f (⟨#[33, 35, 36, 37, 38, 39, 42, 43, 45, 46, 94, 95, 96, 124, 126]⟩ : ByteArray) (bt x0 x8)).bind fun t108 => (if t108 < 0 then (some false) else (octets_IsToken.l0 k x0 x7 (wrap64 (x8 + 1))))) else (if (bt x0 x8) > 57 then ((strings_IndexByte.f (⟨#[33, 35, 36, 37, 38, 39, 42, 43, 45, 46, 94, 95, 96, 124, 126]⟩ : ByteArray) (bt x0 x8)).bind fun t109 => (if t109 < 0 then (some false) else (octets_IsToken.l0 k x0 x7 (wrap64 (x8 + 1))))) else (octets_IsToken.l0 k x0 x7 (wrap64 (x8 + 1)))))) else (if (bt x0 x8) < 48 then ((strings_IndexByte.f (⟨#[33, 35, 36, 37, 38, 39, 42, 43, 45, 46, 94, 95, 96, 124, 126]⟩ : ByteArray) (bt x0 x8)).bind fun t110 => (if t110 < 0 then (some false) else (octets_IsToken.l0 k x0 x7 (wrap64 (x8 + 1))))) else (if (bt x0 x8) > 57 then ((strings_IndexByte.f (⟨#[33, 35, 36, 37, 38, 39, 42, 43, 45, 46, 94, 95, 96, 124, 126]⟩ : ByteArray) (bt x0 x8)).bind fun t111 => (if t111 < 0 then (some false) else (octets_IsToken.l0 k x0 x7 (wrap64 (x8 + 1))))) else (octets_IsToken.l0 k x0 x7 (wrap64 (x8 + 1)))))) else (none)) else (none)) else (some (!x0.toList.isEmpty))
def octets_IsToken.f (k : Nat) (a0 : ByteArray) : Option (Bool) := octets_IsToken.l0 k a0 (a0.size : Int) 0
theorem octets_IsToken.mono_l : ∀ k, (∀ y0 y1 y2, LeO (octets_IsToken.l0 k y0 y1 y2) (octets_IsToken.l0 (k + 1) y0 y1 y2))
 | 0 => fun _ _ _ r h => by simp [octets_IsToken.l0] at h
 | k + 1 => by
  have ih0 := octets_IsToken.mono_l k
  ·intro y0 y1 y2
   unfold octets_IsToken.l0
   repeat' first
   | (with_reducible exact ih0 _ _ _)
   | (with_reducible exact LeO.refl _)
   | (with_reducible exact LeO.none _)
   | (with_reducible refine LeO.ite ?_ ?_)
   | (with_reducible refine LeO.bind ?_ (fun _ => ?_))
   | exact ih0 _ _ _
   | exact LeO.none _
   | refine LeO.ite ?_ ?_
   | refine LeO.bind ?_ (fun _ => ?_)
theorem octets_IsToken.mono : ∀ a0 k, LeO (octets_IsToken.f k a0) (octets_IsToken.f (k + 1) a0) := by
 intro a0 k
 have ih0 := octets_IsToken.mono_l k
 unfold octets_IsToken.f
 repeat' first
   | (with_reducible exact ih0 _ _ _)
   | (with_reducible exact LeO.refl _)
   | (with_reducible exact LeO.none _)
   | (with_reducible refine LeO.ite ?_ ?_)
   | (with_reducible refine LeO.bind ?_ (fun _ => ?_))
   | exact ih0 _ _ _
   | exact LeO.none _
   | refine LeO.ite ?_ ?_
   | refine LeO.bind ?_ (fun _ => ?_)
set_option maxHeartbeats 8000000 in
set_option maxRecDepth 100000 in
theorem octets_IsToken.calls (k : Nat) (a0 : ByteArray) (r : Bool) (w : World) (h : octets_IsToken.f k a0 = some r) :
  Calls Tryz.prog 97 #[.string a0] w fun e w' => e = .returned (.bool r) ∧ Drawn0 w w' := by
 have H : (octets_IsToken.l0 k a0 (a0.size : Int) 0) = some r := h
 clear h
 have H' := Aside0.mk H
 clear H
 go_enter Tryz.func97, Tryz.ntmps97
 go_wp2
 go_loopg [8] k (fun kq v8 w' => ∃ (x8_1 : Int), v8 = .int .i64 x8_1 ∧ Aside0 (octets_IsToken.l0 kq a0 (a0.size : Int) x8_1 = some r) ∧ Aside0 (kq ≤ k) ∧ Drawn0 w w')
 case atStart => exact ⟨(0), (by first | rfl | (simp; done) | (simp [*]; done)), H', ⟨Nat.le_refl _⟩, by repeat (first | exact Drawn0.refl _ | apply Drawn0.step)⟩
 case round =>
  clear H'
  obtain ⟨x8_1, rfl, HA, HK1, ⟨m1, rfl⟩⟩ := hrel
  cases gk with
  | zero => exact absurd HA.out (by simp [octets_IsToken.l0])
  | succ k1 =>
   have H := HA.out
   clear HA
   simp only [octets_IsToken.l0] at H
   by_cases c2 : x8_1 < (a0.size : Int)
   ·rw [if_pos c2] at H
    have c2b0 : decide (x8_1 < (a0.size : Int)) = true := decide_eq_true c2
    clear c2
    by_cases c3 : 0 ≤ x8_1
    ·rw [if_pos c3] at H
     have c3b0 : decide (0 ≤ x8_1) = true := decide_eq_true c3
     clear c3
     by_cases c4 : x8_1 < (a0.size : Int)
     ·rw [if_pos c4] at H
      have c4b0 : decide (x8_1 < (a0.size : Int)) = true := decide_eq_true c4
      clear c4
      by_cases c6 : (Go.bits .or .u8 (bt a0 x8_1) 32) ≥ 97
      ·rw [if_pos c6] at H
       have c6b0 : decide (97 ≤ (Go.bits .or .u8 (bt a0 x8_1) 32)) = true := decide_eq_true c6
       clear c6
       by_cases c7 : ((Go.bits .or .u8 (bt a0 x8_1) 32) ≤ 122)
       ·rw [if_pos c7] at H
        have c7b0 : decide ((Go.bits .or .u8 (bt a0 x8_1) 32) ≤ 122) = true := decide_eq_true c7
        clear c7
        have H' := Aside0.mk H
        clear H
        have p5 : 0 ≤ (x8_1 : Int) := of_decide_eq_true (by first | (with_reducible assumption) | assumption)
        have q5 : x8_1 < (a0.size : Int) := of_decide_eq_true (by first | (with_reducible assumption) | assumption)
        have hx5 := bt_at a0 x8_1
        replace p5 := eq_true p5
        replace q5 := eq_true q5
        go_wp2
        go_roundg k1
        case measure => have := HK1.out; omega
        case rel => exact ⟨(wrap64 (x8_1 + 1)), (by first | rfl | (simp; done) | (simp [*]; done)), H', ⟨by have := HK1.out; omega⟩, by repeat (first | exact Drawn0.refl _ | apply Drawn0.step)⟩
       ·rw [if_neg c7] at H
        have c7b0 : decide ((Go.bits .or .u8 (bt a0 x8_1) 32) ≤ 122) = false := decide_eq_false c7
        clear c7
        by_cases c8 : (bt a0 x8_1) < 48
        ·rw [if_pos c8] at H
         have c8b0 : decide ((bt a0 x8_1) < 48) = true := decide_eq_true c8
         clear c8
         replace H := Option.bind_eq_some_iff.mp H
         obtain ⟨t108, A90, H⟩ := H
         replace H : (if t108 < 0 then (some false) else (octets_IsToken.l0 k1 a0 (a0.size : Int) (wrap64 (x8_1 + 1)))) = some r := H
         have A9 := Aside0.mk A90
         clear A90
         by_cases c10 : t108 < 0
         ·rw [if_pos c10] at H
          have c10b0 : decide (t108 < 0) = true := decide_eq_true c10
          clear c10
          obtain rfl := Option.some.inj H
          have p5 : 0 ≤ (x8_1 : Int) := of_decide_eq_true (by first | (with_reducible assumption) | assumption)
          have q5 : x8_1 < (a0.size : Int) := of_decide_eq_true (by first | (with_reducible assumption) | assumption)
          have hx5 := bt_at a0 x8_1
          replace p5 := eq_true p5
          replace q5 := eq_true q5
          go_wp2_with (first | (go_at_call 134; (with_reducible refine (strings_IndexByte.calls (⟨#[33, 35, 36, 37, 38, 39, 42, 43, 45, 46, 94, 95, 96, 124, 126]⟩ : ByteArray) (bt a0 x8_1) t108 _ A9.out).mono ?_); rintro e w' ⟨rfl, ⟨nd, rfl⟩⟩))
          go_ret
          exact ⟨by first | rfl | (simp; done) | (simp [*]; done), by repeat (first | exact Drawn0.refl _ | apply Drawn0.step)⟩
         ·rw [if_neg c10] at H
          have c10b0 : decide (t108 < 0) = false := decide_eq_false c10
          clear c10
          have H' := Aside0.mk H
          clear H
          have p5 : 0 ≤ (x8_1 : Int) := of_decide_eq_true (by first | (with_reducible assumption) | assumption)
          have q5 : x8_1 < (a0.size : Int) := of_decide_eq_true (by first | (with_reducible assumption) | assumption)
          have hx5 := bt_at a0 x8_1
          replace p5 := eq_true p5
          replace q5 := eq_true q5
          go_wp2_with (first | (go_at_call 134; (with_reducible refine (strings_IndexByte.calls (⟨#[33, 35, 36, 37, 38, 39, 42, 43, 45, 46, 94, 95, 96, 124, 126]⟩ : ByteArray) (bt a0 x8_1) t108 _ A9.out).mono ?_); rintro e w' ⟨rfl, ⟨nd, rfl⟩⟩))
          go_roundg k1
          case measure => have := HK1.out; omega
          case rel => exact ⟨(wrap64 (x8_1 + 1)), (by first | rfl | (simp; done) | (simp [*]; done)), H', ⟨by have := HK1.out; omega⟩, by repeat (first | exact Drawn0.refl _ | apply Drawn0.step)⟩
        ·rw [if_neg c8] at H
         have c8b0 : decide ((bt a0 x8_1) < 48) = false := decide_eq_false c8
         clear c8
         by_cases c11 : (bt a0 x8_1) > 57
         ·rw [if_pos c11] at H
          have c11b0 : decide (57 < (bt a0 x8_1)) = true := decide_eq_true c11
          clear c11
          replace H := Option.bind_eq_some_iff.mp H
          obtain ⟨t109, A120, H⟩ := H
          replace H : (if t109 < 0 then (some false) else (octets_IsToken.l0 k1 a0 (a0.size : Int) (wrap64 (x8_1 + 1)))) = some r := H
          have A12 := Aside0.mk A120
          clear A120
          by_cases c13 : t109 < 0
          ·rw [if_pos c13] at H
           have c13b0 : decide (t109 < 0) = true := decide_eq_true c13
           clear c13
           obtain rfl := Option.some.inj H
           have p5 : 0 ≤ (x8_1 : Int) := of_decide_eq_true (by first | (with_reducible assumption) | assumption)
           have q5 : x8_1 < (a0.size : Int) := of_decide_eq_true (by first | (with_reducible assumption) | assumption)
           have hx5 := bt_at a0 x8_1
           replace p5 := eq_true p5
           replace q5 := eq_true q5
           go_wp2_with (first | (go_at_call 134; (with_reducible refine (strings_IndexByte.calls (⟨#[33, 35, 36, 37, 38, 39, 42, 43, 45, 46, 94, 95, 96, 124, 126]⟩ : ByteArray) (bt a0 x8_1) t109 _ A12.out).mono ?_); rintro e w' ⟨rfl, ⟨nd, rfl⟩⟩))
           go_ret
           exact ⟨by first | rfl | (simp; done) | (simp [*]; done), by repeat (first | exact Drawn0.refl _ | apply Drawn0.step)⟩
          ·rw [if_neg c13] at H
           have c13b0 : decide (t109 < 0) = false := decide_eq_false c13
           clear c13
           have H' := Aside0.mk H
           clear H
           have p5 : 0 ≤ (x8_1 : Int) := of_decide_eq_true (by first | (with_reducible assumption) | assumption)
           have q5 : x8_1 < (a0.size : Int) := of_decide_eq_true (by first | (with_reducible assumption) | assumption)
           have hx5 := bt_at a0 x8_1
           replace p5 := eq_true p5
           replace q5 := eq_true q5
           go_wp2_with (first | (go_at_call 134; (with_reducible refine (strings_IndexByte.calls (⟨#[33, 35, 36, 37, 38, 39, 42, 43, 45, 46, 94, 95, 96, 124, 126]⟩ : ByteArray) (bt a0 x8_1) t109 _ A12.out).mono ?_); rintro e w' ⟨rfl, ⟨nd, rfl⟩⟩))
           go_roundg k1
           case measure => have := HK1.out; omega
           case rel => exact ⟨(wrap64 (x8_1 + 1)), (by first | rfl | (simp; done) | (simp [*]; done)), H', ⟨by have := HK1.out; omega⟩, by repeat (first | exact Drawn0.refl _ | apply Drawn0.step)⟩
         ·rw [if_neg c11] at H
          have c11b0 : decide (57 < (bt a0 x8_1)) = false := decide_eq_false c11
          clear c11
          have H' := Aside0.mk H
          clear H
          have p5 : 0 ≤ (x8_1 : Int) := of_decide_eq_true (by first | (with_reducible assumption) | assumption)
          have q5 : x8_1 < (a0.size : Int) := of_decide_eq_true (by first | (with_reducible assumption) | assumption)
          have hx5 := bt_at a0 x8_1
          replace p5 := eq_true p5
          replace q5 := eq_true q5
          go_wp2
          go_roundg k1
          case measure => have := HK1.out; omega
          case rel => exact ⟨(wrap64 (x8_1 + 1)), (by first | rfl | (simp; done) | (simp [*]; done)), H', ⟨by have := HK1.out; omega⟩, by repeat (first | exact Drawn0.refl _ | apply Drawn0.step)⟩
      ·rw [if_neg c6] at H
       have c6b0 : decide (97 ≤ (Go.bits .or .u8 (bt a0 x8_1) 32)) = false := decide_eq_false c6
       clear c6
       by_cases c14 : (bt a0 x8_1) < 48
       ·rw [if_pos c14] at H
        have c14b0 : decide ((bt a0 x8_1) < 48) = true := decide_eq_true c14
        clear c14
        replace H := Option.bind_eq_some_iff.mp H
        obtain ⟨t110, A150, H⟩ := H
        replace H : (if t110 < 0 then (some false) else (octets_IsToken.l0 k1 a0 (a0.size : Int) (wrap64 (x8_1 + 1)))) = some r := H
        have A15 := Aside0.mk A150
        clear A150
        by_cases c16 : t110 < 0
        ·rw [if_pos c16] at H
         have c16b0 : decide (t110 < 0) = true := decide_eq_true c16
         clear c16
         obtain rfl := Option.some.inj H
         have p5 : 0 ≤ (x8_1 : Int) := of_decide_eq_true (by first | (with_reducible assumption) | assumption)
         have q5 : x8_1 < (a0.size : Int) := of_decide_eq_true (by first | (with_reducible assumption) | assumption)
         have hx5 := bt_at a0 x8_1
         replace p5 := eq_true p5
         replace q5 := eq_true q5
         go_wp2_with (first | (go_at_call 134; (with_reducible refine (strings_IndexByte.calls (⟨#[33, 35, 36, 37, 38, 39, 42, 43, 45, 46, 94, 95, 96, 124, 126]⟩ : ByteArray) (bt a0 x8_1) t110 _ A15.out).mono ?_); rintro e w' ⟨rfl, ⟨nd, rfl⟩⟩))
         go_ret
         exact ⟨by first | rfl | (simp; done) | (simp [*]; done), by repeat (first | exact Drawn0.refl _ | apply Drawn0.step)⟩
        ·rw [if_neg c16] at H
         have c16b0 : decide (t110 < 0) = false := decide_eq_false c16
         clear c16
         have H' := Aside0.mk H
         clear H
         have p5 : 0 ≤ (x8_1 : Int) := of_decide_eq_true (by first | (with_reducible assumption) | assumption)
         have q5 : x8_1 < (a0.size : Int) := of_decide_eq_true (by first | (with_reducible assumption) | assumption)
         have hx5 := bt_at a0 x8_1
         replace p5 := eq_true p5
         replace q5 := eq_true q5
         go_wp2_with (first | (go_at_call 134; (with_reducible refine (strings_IndexByte.calls (⟨#[33, 35, 36, 37, 38, 39, 42, 43, 45, 46, 94, 95, 96, 124, 126]⟩ : ByteArray) (bt a0 x8_1) t110 _ A15.out).mono ?_); rintro e w' ⟨rfl, ⟨nd, rfl⟩⟩))
         go_roundg k1
         case measure => have := HK1.out; omega
         case rel => exact ⟨(wrap64 (x8_1 + 1)), (by first | rfl | (simp; done) | (simp [*]; done)), H', ⟨by have := HK1.out; omega⟩, by repeat (first | exact Drawn0.refl _ | apply Drawn0.step)⟩
       ·rw [if_neg c14] at H
        have c14b0 : decide ((bt a0 x8_1) < 48) = false := decide_eq_false c14
        clear c14
        by_cases c17 : (bt a0 x8_1) > 57
        ·rw [if_pos c17] at H
         have c17b0 : decide (57 < (bt a0 x8_1)) = true := decide_eq_true c17
         clear c17
         replace H := Option.bind_eq_some_iff.mp H
         obtain ⟨t111, A180, H⟩ := H
         replace H : (if t111 < 0 then (some false) else (octets_IsToken.l0 k1 a0 (a0.size : Int) (wrap64 (x8_1 + 1)))) = some r := H
         have A18 := Aside0.mk A180
         clear A180
         by_cases c19 : t111 < 0
         ·rw [if_pos c19] at H
          have c19b0 : decide (t111 < 0) = true := decide_eq_true c19
          clear c19
          obtain rfl := Option.some.inj H
          have p5 : 0 ≤ (x8_1 : Int) := of_decide_eq_true (by first | (with_reducible assumption) | assumption)
          have q5 : x8_1 < (a0.size : Int) := of_decide_eq_true (by first | (with_reducible assumption) | assumption)
          have hx5 := bt_at a0 x8_1
          replace p5 := eq_true p5
          replace q5 := eq_true q5
          go_wp2_with (first | (go_at_call 134; (with_reducible refine (strings_IndexByte.calls (⟨#[33, 35, 36, 37, 38, 39, 42, 43, 45, 46, 94, 95, 96, 124, 126]⟩ : ByteArray) (bt a0 x8_1) t111 _ A18.out).mono ?_); rintro e w' ⟨rfl, ⟨nd, rfl⟩⟩))
          go_ret
          exact ⟨by first | rfl | (simp; done) | (simp [*]; done), by repeat (first | exact Drawn0.refl _ | apply Drawn0.step)⟩
         ·rw [if_neg c19] at H
          have c19b0 : decide (t111 < 0) = false := decide_eq_false c19
          clear c19
          have H' := Aside0.mk H
          clear H
          have p5 : 0 ≤ (x8_1 : Int) := of_decide_eq_true (by first | (with_reducible assumption) | assumption)
          have q5 : x8_1 < (a0.size : Int) := of_decide_eq_true (by first | (with_reducible assumption) | assumption)
          have hx5 := bt_at a0 x8_1
          replace p5 := eq_true p5
          replace q5 := eq_true q5
          go_wp2_with (first | (go_at_call 134; (with_reducible refine (strings_IndexByte.calls (⟨#[33, 35, 36, 37, 38, 39, 42, 43, 45, 46, 94, 95, 96, 124, 126]⟩ : ByteArray) (bt a0 x8_1) t111 _ A18.out).mono ?_); rintro e w' ⟨rfl, ⟨nd, rfl⟩⟩))
          go_roundg k1
          case measure => have := HK1.out; omega
          case rel => exact ⟨(wrap64 (x8_1 + 1)), (by first | rfl | (simp; done) | (simp [*]; done)), H', ⟨by have := HK1.out; omega⟩, by repeat (first | exact Drawn0.refl _ | apply Drawn0.step)⟩
        ·rw [if_neg c17] at H
         have c17b0 : decide (57 < (bt a0 x8_1)) = false := decide_eq_false c17
         clear c17
         have H' := Aside0.mk H
         clear H
         have p5 : 0 ≤ (x8_1 : Int) := of_decide_eq_true (by first | (with_reducible assumption) | assumption)
         have q5 : x8_1 < (a0.size : Int) := of_decide_eq_true (by first | (with_reducible assumption) | assumption)
         have hx5 := bt_at a0 x8_1
         replace p5 := eq_true p5
         replace q5 := eq_true q5
         go_wp2
         go_roundg k1
         case measure => have := HK1.out; omega
         case rel => exact ⟨(wrap64 (x8_1 + 1)), (by first | rfl | (simp; done) | (simp [*]; done)), H', ⟨by have := HK1.out; omega⟩, by repeat (first | exact Drawn0.refl _ | apply Drawn0.step)⟩
     ·rw [if_neg c4] at H
      exact absurd H (by simp)
    ·rw [if_neg c3] at H
     exact absurd H (by simp)
   ·rw [if_neg c2] at H
    have c2b0 : decide (x8_1 < (a0.size : Int)) = false := decide_eq_false c2
    clear c2
    obtain rfl := Option.some.inj H
    go_wp2
    go_ret
    exact ⟨by first | rfl | (simp; done) | (simp [*]; done), by repeat (first | exact Drawn0.refl _ | apply Drawn0.step)⟩

/-! ### given: strings.ContainsAny -/
def strings_ContainsAny.f (a0 a1 : ByteArray) : Option Bool := if a0.size < 4294967281 ∧ a1 = crlf0 then some (Lib.containsAny a0.data.toList crlf0.data.toList) else none
theorem strings_ContainsAny.calls (a0 a1 : ByteArray) (r : Bool) (w : World) (h : strings_ContainsAny.f a0 a1 = some r) :
  Calls Tryz.prog 98 #[.string a0, .string a1] w fun e w' => e = .returned (.bool r) ∧ Below w.heap.size w w' := by
 unfold strings_ContainsAny.f at h
 by_cases hc : a0.size < 4294967281 ∧ a1 = crlf0
 ·rw [if_pos hc] at h
  obtain rfl := Option.some.inj h
  obtain ⟨hs, rfl⟩ := hc
  exact strings_ContainsAny.crlf a0 w hs
 ·rw [if_neg hc] at h
  cases h

/-! ### given: strings.Trim -/
def strings_Trim.f (a0 a1 : ByteArray) : Option ByteArray := if a0.size ≤ 9223372036854775807 ∧ 2 ≤ a1.size ∧ a1.size < 1000 ∧ a1.data.toList.all (fun b => decide (b.toNat < 128)) = true then some ⟨(Lib.trimS a0.data.toList a1.data.toList).toArray⟩ else none
theorem byte_row (t : ByteArray) (i : Nat) (h : i < t.size) : t.data.toList[i]? = some (t[i]'h) := Lib.data_getElem? t i h
theorem row_extract (t : ByteArray) (a b : Nat) : (t.extract a b).data.toList = (t.data.toList.drop a).take (b - a) := by
 have := congrArg (fun x : ByteArray => x.data.toList) (Lib.extract_mk t.data.toList a b)
 rw [Lib.mk_data] at this
 simp only [] at this
 exact this
theorem trimL_step (t : ByteArray) (cs : List UInt8) (h0 : 0 < t.size) (h : cs.contains (t[0]'h0) = true) : Lib.trimLeftS (t.extract 1 t.size).data.toList cs = Lib.trimLeftS t.data.toList cs := by
 have h1 := byte_row t 0 h0
 have hl : t.data.toList.length = t.size := (Lib.size_eq t).symm
 rw [row_extract, List.take_of_length_le (by rw [List.length_drop]; omega)]
 match hm : t.data.toList, h1 with
 | a :: l, h1 =>
  obtain rfl : a = t[0]'h0 := by simpa using h1
  simp only [List.drop_succ_cons, List.drop_zero, Lib.trimLeftS, List.dropWhile_cons, h, if_true]
theorem trimL_stop (t : ByteArray) (cs : List UInt8) (h0 : 0 < t.size) (h : cs.contains (t[0]'h0) = false) : Lib.trimLeftS t.data.toList cs = t.data.toList := by
 have h1 := byte_row t 0 h0
 match hm : t.data.toList, h1 with
 | a :: l, h1 =>
  obtain rfl : a = t[0]'h0 := by simpa using h1
  simp only [Lib.trimLeftS, List.dropWhile_cons, h]
  rfl
theorem row_last (t : ByteArray) (h0 : 0 < t.size) : t.data.toList = t.data.toList.take (t.size - 1) ++ [t[t.size - 1]'(by omega)] := by
 have h1 := byte_row t (t.size - 1) (by omega)
 have hl : t.data.toList.length = t.size := (Lib.size_eq t).symm
 have h2 := List.take_succ_eq_append_getElem (l := t.data.toList) (i := t.size - 1) (by omega)
 rw [List.getElem?_eq_getElem (by omega)] at h1
 rw [Option.some.inj h1, Nat.sub_add_cancel h0, List.take_of_length_le (by omega)] at h2
 exact h2
theorem trimR_step (t : ByteArray) (cs : List UInt8) (h0 : 0 < t.size) (h : cs.contains (t[t.size - 1]'(by omega)) = true) : Lib.trimRightS (t.extract 0 (t.size - 1)).data.toList cs = Lib.trimRightS t.data.toList cs := by
 rw [row_extract, List.drop_zero, Nat.sub_zero]
 conv => rhs; rw [row_last t h0]
 simp only [Lib.trimRightS, List.reverse_append, List.reverse_singleton, List.singleton_append, List.dropWhile_cons, h, if_true]
theorem trimR_stop (t : ByteArray) (cs : List UInt8) (h0 : 0 < t.size) (h : cs.contains (t[t.size - 1]'(by omega)) = false) : Lib.trimRightS t.data.toList cs = t.data.toList := by
 conv => lhs; rw [row_last t h0]
 simp only [Lib.trimRightS, List.reverse_append, List.reverse_singleton, List.singleton_append, List.dropWhile_cons, h]
 conv => rhs; rw [row_last t h0]
 simp
theorem row_empty (t : ByteArray) (h : ¬ 0 < t.size) : t.data.toList = [] := List.eq_nil_of_length_eq_zero (by rw [← Lib.size_eq]; omega)
set_option maxHeartbeats 2000000 in
theorem strings_trimLeftASCII.calls (s : ByteArray) (b : Nat) (cs : List UInt8) (w : World) (hset : ∀ x : UInt8, w.cell? ⟨b, x.toNat, none⟩ = some (.bool (cs.contains x))) :
  Calls Tryz.prog 111 #[.string s, .pointer (some ⟨b, 0, none⟩)] w fun e w' => e = .returned (.string ⟨(Lib.trimLeftS s.data.toList cs).toArray⟩) ∧ w' = w := by
 have HS := Aside0.mk hset
 clear hset
 go_enter Tryz.func111, Tryz.ntmps111
 go_wp2
 go_loop [0] (fun v => ∃ t : ByteArray, v = .string t ∧ Aside0 (Lib.trimLeftS t.data.toList cs = Lib.trimLeftS s.data.toList cs)) (fun v => Lib.strSize v)
 case atStart => exact ⟨s, rfl, ⟨rfl⟩⟩
 case round =>
  obtain ⟨t, rfl, HT⟩ := hrel
  by_cases h0 : 0 < t.size
  ·have hcx := HS.out (t[0]'h0)
   have H1 := Aside0.mk (trimL_step t cs h0)
   have H2 := Aside0.mk (trimL_stop t cs h0)
   have hsz : (t.extract 1 t.size).size = t.size - 1 := by simp [ByteArray.size_extract]
   cases hin : cs.contains (t[0]'h0) <;> rw [hin] at hcx
   ·have H2' := Aside0.mk (H2.out hin)
    clear hin H1 H2 hsz
    go_wp2_with (go_at_call 150; refine (Tryz.asciiSet_contains _ (t[0]'h0) _ _ hcx).mono ?_; rintro e w' ⟨rfl, hw⟩; rw [hw])
    go_ret
    refine ⟨?_, rfl⟩
    show Ending.returned (Value.string t) = _
    rw [← HT.out, H2'.out, Lib.mk_data]
   ·have H1' := Aside0.mk (H1.out hin)
    clear hin H1 H2
    generalize ht2 : t.extract 1 t.size = t2 at *
    go_wp2_with (go_at_call 150; refine (Tryz.asciiSet_contains _ (t[0]'h0) _ _ hcx).mono ?_; rintro e w' ⟨rfl, hw⟩; rw [hw])
    refine ⟨⟨t2, rfl, ⟨H1'.out.trans HT.out⟩⟩, ?_⟩
    show Lib.strSize (Value.string t2) < Lib.strSize (Value.string t)
    rw [Lib.strSize_string, Lib.strSize_string]
    omega
  ·go_wp2
   go_ret
   refine ⟨?_, rfl⟩
   have h2 := HT.out
   rw [row_empty t h0, Lib.trimLeftS_nil] at h2
   show Ending.returned (Value.string t) = _
   rw [← h2, ← row_empty t h0, Lib.mk_data]
set_option maxHeartbeats 2000000 in
theorem strings_trimRightASCII.calls (s : ByteArray) (b : Nat) (cs : List UInt8) (w : World) (hs : s.size ≤ 9223372036854775807) (hset : ∀ x : UInt8, w.cell? ⟨b, x.toNat, none⟩ = some (.bool (cs.contains x))) :
  Calls Tryz.prog 112 #[.string s, .pointer (some ⟨b, 0, none⟩)] w fun e w' => e = .returned (.string ⟨(Lib.trimRightS s.data.toList cs).toArray⟩) ∧ w' = w := by
 have HS := Aside0.mk hset
 clear hset
 go_enter Tryz.func112, Tryz.ntmps112
 go_wp2
 go_loop [0] (fun v => ∃ t : ByteArray, v = .string t ∧ t.size ≤ s.size ∧ Aside0 (Lib.trimRightS t.data.toList cs = Lib.trimRightS s.data.toList cs)) (fun v => Lib.strSize v)
 case atStart => exact ⟨s, rfl, Nat.le_refl _, ⟨rfl⟩⟩
 case round =>
  obtain ⟨t, rfl, hle, HT⟩ := hrel
  by_cases h0 : 0 < t.size
  ·have hwr : ((t.size : Int) - 1 + 9223372036854775808) % 18446744073709551616 - 9223372036854775808 = ((t.size - 1 : Nat) : Int) := by omega
   have h1 : t.size - 1 < t.size := by omega
   have hcx := HS.out (t[t.size - 1]'h1)
   have H1 := Aside0.mk (trimR_step t cs h0)
   have H2 := Aside0.mk (trimR_stop t cs h0)
   have hsz : (t.extract 0 (t.size - 1)).size = t.size - 1 := by simp [ByteArray.size_extract]
   cases hin : cs.contains (t[t.size - 1]'h1) <;> rw [hin] at hcx
   ·have H2' := Aside0.mk (H2.out hin)
    clear hin H1 H2 hsz
    go_wp2_with (go_at_call 150; refine (Tryz.asciiSet_contains _ (t[t.size - 1]'h1) _ _ hcx).mono ?_; rintro e w' ⟨rfl, hw⟩; rw [hw])
    go_ret
    refine ⟨?_, rfl⟩
    show Ending.returned (Value.string t) = _
    rw [← HT.out, H2'.out, Lib.mk_data]
   ·have H1' := Aside0.mk (H1.out hin)
    clear hin H1 H2
    generalize ht2 : t.extract 0 (t.size - 1) = t2 at *
    go_wp2_with (go_at_call 150; refine (Tryz.asciiSet_contains _ (t[t.size - 1]'h1) _ _ hcx).mono ?_; rintro e w' ⟨rfl, hw⟩; rw [hw])
    refine ⟨⟨t2, rfl, by omega, ⟨H1'.out.trans HT.out⟩⟩, ?_⟩
    show Lib.strSize (Value.string t2) < Lib.strSize (Value.string t)
    rw [Lib.strSize_string, Lib.strSize_string]
    omega
  ·go_wp2
   go_ret
   refine ⟨?_, rfl⟩
   have h2 := HT.out
   rw [row_empty t h0, Lib.trimRightS_nil] at h2
   show Ending.returned (Value.string t) = _
   rw [← h2, ← row_empty t h0, Lib.mk_data]
set_option maxHeartbeats 4000000 in
theorem strings_Trim.calls (a0 a1 : ByteArray) (r : ByteArray) (w : World) (h : strings_Trim.f a0 a1 = some r) :
  Calls Tryz.prog 69 #[.string a0, .string a1] w fun e w' => e = .returned (.string r) ∧ Below w.heap.size w w' := by
 unfold strings_Trim.f at h
 by_cases hc : a0.size ≤ 9223372036854775807 ∧ 2 ≤ a1.size ∧ a1.size < 1000 ∧ a1.data.toList.all (fun b => decide (b.toNat < 128)) = true
 ·rw [if_pos hc] at h
  obtain rfl := Option.some.inj h
  clear h
  obtain ⟨hs, h2, hcs, hall⟩ := hc
  by_cases he : 0 < a0.size
  ·have hv : ∀ w, (zeroValue 174).run Tryz.prog w = .ok (.agg (Array.replicate 256 (.bool false))) w := (zero_of_info (P := Tryz.prog) (n := 256) (by kernel_rfl)).1
   have hM := Tryz.strings_makeASCIISet hv a1 w (by omega) (fun j b hb => of_decide_eq_true (List.all_eq_true.1 hall b (List.mem_of_getElem? hb)))
   clear hall
   have hemp : ∀ t : ByteArray, 0 < t.size → t.toList.isEmpty = false := fun t ht => by
    rw [Lib.toList_data]
    cases h : t.data.toList with
    | nil => have := Lib.size_eq t; rw [h, List.length_nil] at this; omega
    | cons _ _ => rfl
   have hemp1 := hemp a1 (by omega)
   have hemp0 := hemp a0 he
   clear hemp
   have hn1 : ((a1.size : Int) == 1) = false := beq_eq_false_iff_ne.2 (by omega)
   generalize hcl : a1.data.toList = cl at *
   have hsc : (storeCells ⟨w.heap.size + 1, 0, none⟩ (Lib.setCells cl).toList 0).run Tryz.prog ((w.alloc (.cells (Lib.setCells cl) 174)).alloc (.cells (Array.replicate 256 (.bool false)) 174)) = .ok () ((w.alloc (.cells (Lib.setCells cl) 174)).alloc (.cells (Lib.setCells cl) 174)) := by
    have := run_storeCells_new (P := Tryz.prog) (w.alloc (.cells (Lib.setCells cl) 174)) 174 (Array.replicate 256 (.bool false)) (Lib.setCells cl) (by rw [Lib.setCells_size]; kernel_rfl) (by rw [Lib.setCells_size, Array.size_replicate]) (Lib.setCells_one _)
    simpa using this
   have hsz := Lib.setCells_size cl
   have hcellAt : ∀ x : UInt8, ((w.alloc (.cells (Lib.setCells cl) 174)).alloc (.cells (Lib.setCells cl) 174)).cell? ⟨w.heap.size + 1, x.toNat, none⟩ = some (.bool (cl.contains x)) := fun x => by
    rw [World.cell?_alloc_at _ _ _ _ (by simp), Lib.setCells_at]
   have HC : Aside (∀ (q : Nat) (x : UInt8), (((w.alloc (.cells (Lib.setCells cl) 174)).alloc (.cells (Lib.setCells cl) 174)).drewN q).cell? ⟨w.heap.size + 1, x.toNat, none⟩ = some (.bool (cl.contains x))) := fun q x => by simpa using hcellAt x
   clear hcellAt
   have HL := Aside0.mk hcl
   clear hcl
   go_enter Tryz.func69, Tryz.ntmps69
   go_wp2_with (first
    | (go_at_call 110; refine hM.mono ?_; rintro e w' ⟨rfl, hw⟩; rw [hw])
    | (go_at_call 112; refine (strings_trimRightASCII.calls a0 (w.heap.size + 1) cl _ hs (HC.out 0)).mono ?_; rintro e w' ⟨rfl, hw⟩; rw [hw])
    | (go_at_call 111; refine (strings_trimLeftASCII.calls _ (w.heap.size + 1) cl _ (HC.out 0)).mono ?_; rintro e w' ⟨rfl, hw⟩; rw [hw]))
   go_ret
   refine ⟨rfl, ?_⟩
   exact (((Below.refl _ _).alloc (Nat.le_refl _) _).alloc (by simp) _).trans ⟨rfl, rfl, rfl, Nat.le_refl _, fun _ _ => rfl⟩
  ·have hl := row_empty a0 he
   have hem : a0.toList.isEmpty = true := by rw [Lib.toList_data, hl]; rfl
   have hr : (⟨(Lib.trimS a0.data.toList a1.data.toList).toArray⟩ : ByteArray) = a0 := by
    rw [hl]
    show (⟨([] : List UInt8).toArray⟩ : ByteArray) = a0
    rw [← hl, Lib.mk_data]
   rw [hr]
   clear hr hl hall
   go_enter Tryz.func69, Tryz.ntmps69
   go_wp2
   go_ret
   exact ⟨rfl, Below.refl _ _⟩
 ·rw [if_neg hc] at h
  cases h

/-! ### octets_Trim: function 99 -/
def octets_Trim.f (a0 : ByteArray) : Option (ByteArray) := (strings_Trim.f a0 (⟨#[9, 32]⟩ : ByteArray)).bind fun t112 => (some t112)
set_option maxHeartbeats 8000000 in
set_option maxRecDepth 100000 in
theorem octets_Trim.calls (a0 : ByteArray) (r : ByteArray) (w : World) (h : octets_Trim.f a0 = some r) :
  Calls Tryz.prog 99 #[.string a0] w fun e w' => e = .returned (.string r) ∧ Below w.heap.size w w' := by
 have HB := Aside0.mk (Below.refl w.heap.size w)
 have H : ((strings_Trim.f a0 (⟨#[9, 32]⟩ : ByteArray)).bind fun t112 => (some t112)) = some r := h
 clear h
 replace H := Option.bind_eq_some_iff.mp H
 obtain ⟨t112, A20, H⟩ := H
 replace H : (some t112) = some r := H
 have A2 := Aside0.mk A20
 clear A20
 obtain rfl := Option.some.inj H
 go_enter Tryz.func99, Tryz.ntmps99
 go_wp2_with (first | ((with_reducible refine gate_callee (f := 69) rfl ?_); refine goesL_ (some 4) rfl rfl Tryz.func69 (by kernel_rfl) rfl #[.string a0, .string (⟨#[9, 32]⟩ : ByteArray)] rfl (by (try simp only [List.map_toArray, List.map_cons, List.map_nil]); first | done | rfl | (simp only [List.length_drop, List.length_take]; rfl)) ?_; (with_reducible refine (strings_Trim.calls a0 (⟨#[9, 32]⟩ : ByteArray) t112 _ A2.out).mono ?_); rintro e w3 ⟨rfl, hb⟩; refine ⟨_, rfl, ?_⟩; have n0_ := Aside0.mk (below_step (by repeat (first | (with_reducible first | exact HB.out | apply below_alloc | apply pw_below_drewN | apply below_drew1) | exact HB.out)) hb); clear HB; have HB := n0_; clear n0_; (try clear hb); (try clear hb2); (try clear hk); (try clear hi)))
 go_ret
 exact ⟨by first | rfl | (simp [errW_none, errW_some] <;> rfl) | (simp [*, errW_none, errW_some] <;> rfl), by repeat (first | (with_reducible first | exact HB.out | apply below_alloc | apply pw_below_drewN | apply below_drew1) | exact HB.out)⟩

end Go.Proofs.YtjadlnmphcoioaaGreatDoor.X
