-- Written by wip/xprint.py for this seat
import Derived.Test.YtknmcpccljmfdaaX0
import Derived.Test.YtknmcpccljmfdaaX5
import Derived.Test.YtknmcpccljmfdaaX6
import Derived.Test.YtknmcpccljmfdaaX7
namespace Go.Proofs.Ytknmcpccljmfdaa.X
open Go.RowKit Go.Proofs.YtknmcpccljmfdaaW.PrintWords Go.Proofs.YtknmcpccljmfdaaW.PrintLast Go.Proofs.YtknmcpccljmfdaaW.PrintMore
attribute [local go_sem] max2_int min2_int max_two min_two max_three min_three max_four min_four   -- for this text's walks alone
set_option linter.unusedVariables false
set_option linter.unusedSimpArgs false

attribute [local go_sem high] eqA127 eqA129 eqA135
/-! ### pergolaplain_SamePieces: function 50 -/
def pergolaplain_SamePieces.l0 : Nat → List (S127) → List (S127) → Int → Option (Bool)
  | 0, _, _, _ => none
  | k + 1, x0, x1, x5 => if x5 < (x0.length : Int) then (if 0 ≤ x5 then (if x5 < (x1.length : Int) then (if (!(((rd_T127 x0 x5).f0) == ((rd_T127 x1 x5).f0)) || (!(((rd_T127 x0 x5).f1) == ((rd_T127 x1 x5).f1)) || (!(((rd_T127 x0 x5).f2) == ((rd_T127 x1 x5).f2)) || (!(((rd_T127 x0 x5).f3) == ((rd_T127 x1 x5).f3)))))) = true then (some false) else (pergolaplain_SamePieces.l0 k x0 x1 (wrap64 (x5 + 1)))) else (none)) else (none)) else (some true)
def pergolaplain_SamePieces.f (k : Nat) (l0 : List (S127)) (l1 : List (S127)) : Option (Bool) := if (l0.length : Int) = (l1.length : Int) then (pergolaplain_SamePieces.l0 k l0 l1 0) else (some false)
theorem pergolaplain_SamePieces.mono_l : ∀ k, (∀ y0 y1 y2, LeO (pergolaplain_SamePieces.l0 k y0 y1 y2) (pergolaplain_SamePieces.l0 (k + 1) y0 y1 y2))
  | 0 => fun _ _ _ r h => by simp [pergolaplain_SamePieces.l0] at h
  | k + 1 => by
    have ih0 := pergolaplain_SamePieces.mono_l k
    · intro y0 y1 y2
      unfold pergolaplain_SamePieces.l0
      repeat' first
      | (with_reducible exact ih0 _ _ _)
      | (with_reducible exact LeO.refl _)
      | (with_reducible exact LeO.none _)
      | (with_reducible refine LeO.ite ?_ ?_)
      | (with_reducible refine LeO.bind ?_ (fun _ => ?_))
      | exact ih0 _ _ _
      | exact LeO.none _
      | refine LeO.ite ?_ ?_
      | refine LeO.bind ?_ (fun _ => ?_)
theorem pergolaplain_SamePieces.mono : ∀ a0 a1 k, LeO (pergolaplain_SamePieces.f k a0 a1) (pergolaplain_SamePieces.f (k + 1) a0 a1) := by
  intro a0 a1 k
  have ih0 := pergolaplain_SamePieces.mono_l k
  unfold pergolaplain_SamePieces.f
  repeat' first
      | (with_reducible exact ih0 _ _ _)
      | (with_reducible exact LeO.refl _)
      | (with_reducible exact LeO.none _)
      | (with_reducible refine LeO.ite ?_ ?_)
      | (with_reducible refine LeO.bind ?_ (fun _ => ?_))
      | exact ih0 _ _ _
      | exact LeO.none _
      | refine LeO.ite ?_ ?_
      | refine LeO.bind ?_ (fun _ => ?_)
set_option maxHeartbeats 8000000 in
set_option maxRecDepth 100000 in
theorem pergolaplain_SamePieces.calls (k : Nat) (A0 : Option Addr) (c0 : Nat) (l0 : List (S127)) (A1 : Option Addr) (c1 : Nat) (l1 : List (S127)) (r : Bool) (w : World) (hr0 : Kd.C k127 w A0 l0.length l0) (hc0 : l0.length ≤ c0) (hr1 : Kd.C k127 w A1 l1.length l1) (hc1 : l1.length ≤ c1) (h : pergolaplain_SamePieces.f k l0 l1 = some r) :
    Calls Try.prog 50 #[.slice A0 l0.length c0, .slice A1 l1.length c1] w fun e w' => e = .returned (.bool r) ∧ Drawn0 w w' := by
  have hu127 := Try.underlying127
  have HR0 := Aside0.mk hr0
  have HC0 := Aside0.mk hc0
  clear hr0 hc0
  have HR1 := Aside0.mk hr1
  have HC1 := Aside0.mk hc1
  clear hr1 hc1
  have H : (if (l0.length : Int) = (l1.length : Int) then (pergolaplain_SamePieces.l0 k l0 l1 0) else (some false)) = some r := h
  clear h
  by_cases c3 : (l0.length : Int) = (l1.length : Int)
  · rw [if_pos c3] at H
    have c3b0 : ((l0.length : Int) == (l1.length : Int)) = true := beq_iff_eq.mpr c3
    have c3b1 : ((l0.length : Int) != (l1.length : Int)) = false := bne_eq_false_iff_eq.mpr c3
    have c3b2 : (l0.length == l1.length) = true := by first | simpa using c3 | (simp at c3 ⊢; omega)
    clear c3
    have H' := Aside0.mk H
    clear H
    go_enter Try.func50, Try.ntmps50
    go_wp2
    repeat (go_quiet (fail); try go_wp2)
    go_loopg [5] k (fun kq v5 w' => ∃ (x5_1 : Int), v5 = .int .i64 x5_1 ∧ Aside0 (pergolaplain_SamePieces.l0 kq l0 l1 x5_1 = some r) ∧ Aside0 (kq ≤ k) ∧ Drawn0 w w')
    case atStart => exact ⟨(0), (by first | rfl | (simp; done) | (simp [*]; done)), H', ⟨Nat.le_refl _⟩, by repeat (first | exact Drawn0.refl _ | apply Drawn0.step)⟩
    case round =>
      clear H'
      try clear c1
      try clear p2
      try clear c3
      try clear c3b0
      try clear c3b1
      try clear c3b2
      obtain ⟨x5_1, rfl, HA, HK1, ⟨m1, rfl⟩⟩ := hrel
      cases gk with
      | zero => exact absurd HA.out (by simp [pergolaplain_SamePieces.l0])
      | succ k1 =>
        have H := HA.out
        clear HA
        simp only [pergolaplain_SamePieces.l0] at H
        by_cases c4 : x5_1 < (l0.length : Int)
        · rw [if_pos c4] at H
          have c4b0 : decide (x5_1 < (l0.length : Int)) = true := decide_eq_true c4
          clear c4
          by_cases c5 : 0 ≤ x5_1
          · rw [if_pos c5] at H
            have c5b0 : decide (0 ≤ x5_1) = true := decide_eq_true c5
            clear c5
            by_cases c6 : x5_1 < (l1.length : Int)
            · rw [if_pos c6] at H
              have c6b0 : decide (x5_1 < (l1.length : Int)) = true := decide_eq_true c6
              clear c6
              by_cases c7 : (!(((rd_T127 l0 x5_1).f0) == ((rd_T127 l1 x5_1).f0)) || (!(((rd_T127 l0 x5_1).f1) == ((rd_T127 l1 x5_1).f1)) || (!(((rd_T127 l0 x5_1).f2) == ((rd_T127 l1 x5_1).f2)) || (!(((rd_T127 l0 x5_1).f3) == ((rd_T127 l1 x5_1).f3)))))) = true
              · rw [if_pos c7] at H
                have c7b0 : (!(((rd_T127 l0 x5_1).f0) == ((rd_T127 l1 x5_1).f0)) || (!(((rd_T127 l0 x5_1).f1) == ((rd_T127 l1 x5_1).f1)) || (!(((rd_T127 l0 x5_1).f2) == ((rd_T127 l1 x5_1).f2)) || (!(((rd_T127 l0 x5_1).f3) == ((rd_T127 l1 x5_1).f3)))))) = true := c7
                clear c7
                obtain rfl := Option.some.inj H
                have p226 : 0 ≤ (x5_1 : Int) := of_decide_eq_true (by first | (with_reducible assumption) | assumption)
                have q226 : x5_1 < (l0.length : Int) := of_decide_eq_true (by first | (with_reducible assumption) | assumption)
                obtain ⟨ad226, e226, hx226_0, hx226_1, hx226_2, hx226_3⟩ := at_T127 HR0.out x5_1 p226 q226
                cases e226
                replace p226 := eq_true p226
                replace q226 := eq_true q226
                have p227 : 0 ≤ (x5_1 : Int) := of_decide_eq_true (by first | (with_reducible assumption) | assumption)
                have q227 : x5_1 < (l1.length : Int) := of_decide_eq_true (by first | (with_reducible assumption) | assumption)
                obtain ⟨ad227, e227, hx227_0, hx227_1, hx227_2, hx227_3⟩ := at_T127 HR1.out x5_1 p227 q227
                cases e227
                replace p227 := eq_true p227
                replace q227 := eq_true q227
                go_wp2
                repeat (go_quiet (fail); try go_wp2)
                go_ret
                exact ⟨by first | rfl | (simp; done) | (simp [*]; done), by repeat (first | exact Drawn0.refl _ | apply Drawn0.step)⟩
              · rw [if_neg c7] at H
                have c7b0 : (!(((rd_T127 l0 x5_1).f0) == ((rd_T127 l1 x5_1).f0)) || (!(((rd_T127 l0 x5_1).f1) == ((rd_T127 l1 x5_1).f1)) || (!(((rd_T127 l0 x5_1).f2) == ((rd_T127 l1 x5_1).f2)) || (!(((rd_T127 l0 x5_1).f3) == ((rd_T127 l1 x5_1).f3)))))) = false := by simpa using c7
                clear c7
                have H' := Aside0.mk H
                clear H
                have p226 : 0 ≤ (x5_1 : Int) := of_decide_eq_true (by first | (with_reducible assumption) | assumption)
                have q226 : x5_1 < (l0.length : Int) := of_decide_eq_true (by first | (with_reducible assumption) | assumption)
                obtain ⟨ad226, e226, hx226_0, hx226_1, hx226_2, hx226_3⟩ := at_T127 HR0.out x5_1 p226 q226
                cases e226
                replace p226 := eq_true p226
                replace q226 := eq_true q226
                have p227 : 0 ≤ (x5_1 : Int) := of_decide_eq_true (by first | (with_reducible assumption) | assumption)
                have q227 : x5_1 < (l1.length : Int) := of_decide_eq_true (by first | (with_reducible assumption) | assumption)
                obtain ⟨ad227, e227, hx227_0, hx227_1, hx227_2, hx227_3⟩ := at_T127 HR1.out x5_1 p227 q227
                cases e227
                replace p227 := eq_true p227
                replace q227 := eq_true q227
                go_wp2
                repeat (go_quiet (fail); try go_wp2)
                go_roundg k1
                case measure => have := HK1.out; omega
                case rel => exact ⟨(wrap64 (x5_1 + 1)), (by first | rfl | (simp; done) | (simp [*]; done)), H', ⟨by have := HK1.out; omega⟩, by repeat (first | exact Drawn0.refl _ | apply Drawn0.step)⟩
            · rw [if_neg c6] at H
              exact absurd H (by simp)
          · rw [if_neg c5] at H
            exact absurd H (by simp)
        · rw [if_neg c4] at H
          have c4b0 : decide (x5_1 < (l0.length : Int)) = false := decide_eq_false c4
          clear c4
          obtain rfl := Option.some.inj H
          go_wp2
          repeat (go_quiet (fail); try go_wp2)
          go_ret
          exact ⟨by first | rfl | (simp; done) | (simp [*]; done), by repeat (first | exact Drawn0.refl _ | apply Drawn0.step)⟩
  · rw [if_neg c3] at H
    have c3b0 : ((l0.length : Int) == (l1.length : Int)) = false := beq_eq_false_iff_ne.mpr c3
    have c3b1 : ((l0.length : Int) != (l1.length : Int)) = true := bne_iff_ne.mpr c3
    have c3b2 : (l0.length == l1.length) = false := by first | simpa using c3 | (simp at c3 ⊢; omega)
    obtain rfl := Option.some.inj H
    go_enter Try.func50, Try.ntmps50
    go_wp2
    repeat (go_quiet (fail); try go_wp2)
    go_ret
    exact ⟨by first | rfl | (simp; done) | (simp [*]; done), by repeat (first | exact Drawn0.refl _ | apply Drawn0.step)⟩

/-! ### pergolaplain_SameSettings: function 51 -/
def pergolaplain_SameSettings.l0 : Nat → List (S129) → List (S129) → Int → Option (Bool)
  | 0, _, _, _ => none
  | k + 1, x0, x1, x5 => if x5 < (x0.length : Int) then (if 0 ≤ x5 then (if x5 < (x1.length : Int) then (if (!(((rd_T129 x0 x5).f0) == ((rd_T129 x1 x5).f0)) || ((!(((rd_T129 x0 x5).f1.f0) == ((rd_T129 x1 x5).f1.f0)) || (!(((rd_T129 x0 x5).f1.f1) == ((rd_T129 x1 x5).f1.f1)) || (!((((rd_T129 x0 x5).f1.f2).toList) == (((rd_T129 x1 x5).f1.f2).toList))))))) = true then (some false) else (pergolaplain_SameSettings.l0 k x0 x1 (wrap64 (x5 + 1)))) else (none)) else (none)) else (some true)
def pergolaplain_SameSettings.f (k : Nat) (l0 : List (S129)) (l1 : List (S129)) : Option (Bool) := if (l0.length : Int) = (l1.length : Int) then (pergolaplain_SameSettings.l0 k l0 l1 0) else (some false)
theorem pergolaplain_SameSettings.mono_l : ∀ k, (∀ y0 y1 y2, LeO (pergolaplain_SameSettings.l0 k y0 y1 y2) (pergolaplain_SameSettings.l0 (k + 1) y0 y1 y2))
  | 0 => fun _ _ _ r h => by simp [pergolaplain_SameSettings.l0] at h
  | k + 1 => by
    have ih0 := pergolaplain_SameSettings.mono_l k
    · intro y0 y1 y2
      unfold pergolaplain_SameSettings.l0
      repeat' first
      | (with_reducible exact ih0 _ _ _)
      | (with_reducible exact LeO.refl _)
      | (with_reducible exact LeO.none _)
      | (with_reducible refine LeO.ite ?_ ?_)
      | (with_reducible refine LeO.bind ?_ (fun _ => ?_))
      | exact ih0 _ _ _
      | exact LeO.none _
      | refine LeO.ite ?_ ?_
      | refine LeO.bind ?_ (fun _ => ?_)
theorem pergolaplain_SameSettings.mono : ∀ a0 a1 k, LeO (pergolaplain_SameSettings.f k a0 a1) (pergolaplain_SameSettings.f (k + 1) a0 a1) := by
  intro a0 a1 k
  have ih0 := pergolaplain_SameSettings.mono_l k
  unfold pergolaplain_SameSettings.f
  repeat' first
      | (with_reducible exact ih0 _ _ _)
      | (with_reducible exact LeO.refl _)
      | (with_reducible exact LeO.none _)
      | (with_reducible refine LeO.ite ?_ ?_)
      | (with_reducible refine LeO.bind ?_ (fun _ => ?_))
      | exact ih0 _ _ _
      | exact LeO.none _
      | refine LeO.ite ?_ ?_
      | refine LeO.bind ?_ (fun _ => ?_)
set_option maxHeartbeats 8000000 in
set_option maxRecDepth 100000 in
theorem pergolaplain_SameSettings.calls (k : Nat) (A0 : Option Addr) (c0 : Nat) (l0 : List (S129)) (A1 : Option Addr) (c1 : Nat) (l1 : List (S129)) (r : Bool) (w : World) (hr0 : Kd.C k129 w A0 l0.length l0) (hc0 : l0.length ≤ c0) (hr1 : Kd.C k129 w A1 l1.length l1) (hc1 : l1.length ≤ c1) (h : pergolaplain_SameSettings.f k l0 l1 = some r) :
    Calls Try.prog 51 #[.slice A0 l0.length c0, .slice A1 l1.length c1] w fun e w' => e = .returned (.bool r) ∧ Drawn0 w w' := by
  have hu129 := Try.underlying129
  have HR0 := Aside0.mk hr0
  have HC0 := Aside0.mk hc0
  clear hr0 hc0
  have HR1 := Aside0.mk hr1
  have HC1 := Aside0.mk hc1
  clear hr1 hc1
  have H : (if (l0.length : Int) = (l1.length : Int) then (pergolaplain_SameSettings.l0 k l0 l1 0) else (some false)) = some r := h
  clear h
  by_cases c3 : (l0.length : Int) = (l1.length : Int)
  · rw [if_pos c3] at H
    have c3b0 : ((l0.length : Int) == (l1.length : Int)) = true := beq_iff_eq.mpr c3
    have c3b1 : ((l0.length : Int) != (l1.length : Int)) = false := bne_eq_false_iff_eq.mpr c3
    have c3b2 : (l0.length == l1.length) = true := by first | simpa using c3 | (simp at c3 ⊢; omega)
    clear c3
    have H' := Aside0.mk H
    clear H
    go_enter Try.func51, Try.ntmps51
    go_wp2
    repeat (go_quiet (fail); try go_wp2)
    go_loopg [5] k (fun kq v5 w' => ∃ (x5_1 : Int), v5 = .int .i64 x5_1 ∧ Aside0 (pergolaplain_SameSettings.l0 kq l0 l1 x5_1 = some r) ∧ Aside0 (kq ≤ k) ∧ Drawn0 w w')
    case atStart => exact ⟨(0), (by first | rfl | (simp; done) | (simp [*]; done)), H', ⟨Nat.le_refl _⟩, by repeat (first | exact Drawn0.refl _ | apply Drawn0.step)⟩
    case round =>
      clear H'
      try clear c1
      try clear p2
      try clear c3
      try clear c3b0
      try clear c3b1
      try clear c3b2
      obtain ⟨x5_1, rfl, HA, HK1, ⟨m1, rfl⟩⟩ := hrel
      cases gk with
      | zero => exact absurd HA.out (by simp [pergolaplain_SameSettings.l0])
      | succ k1 =>
        have H := HA.out
        clear HA
        simp only [pergolaplain_SameSettings.l0] at H
        by_cases c4 : x5_1 < (l0.length : Int)
        · rw [if_pos c4] at H
          have c4b0 : decide (x5_1 < (l0.length : Int)) = true := decide_eq_true c4
          clear c4
          by_cases c5 : 0 ≤ x5_1
          · rw [if_pos c5] at H
            have c5b0 : decide (0 ≤ x5_1) = true := decide_eq_true c5
            clear c5
            by_cases c6 : x5_1 < (l1.length : Int)
            · rw [if_pos c6] at H
              have c6b0 : decide (x5_1 < (l1.length : Int)) = true := decide_eq_true c6
              clear c6
              by_cases c7 : (!(((rd_T129 l0 x5_1).f0) == ((rd_T129 l1 x5_1).f0)) || ((!(((rd_T129 l0 x5_1).f1.f0) == ((rd_T129 l1 x5_1).f1.f0)) || (!(((rd_T129 l0 x5_1).f1.f1) == ((rd_T129 l1 x5_1).f1.f1)) || (!((((rd_T129 l0 x5_1).f1.f2).toList) == (((rd_T129 l1 x5_1).f1.f2).toList))))))) = true
              · rw [if_pos c7] at H
                have c7b0 : (!(((rd_T129 l0 x5_1).f0) == ((rd_T129 l1 x5_1).f0)) || ((!(((rd_T129 l0 x5_1).f1.f0) == ((rd_T129 l1 x5_1).f1.f0)) || (!(((rd_T129 l0 x5_1).f1.f1) == ((rd_T129 l1 x5_1).f1.f1)) || (!((((rd_T129 l0 x5_1).f1.f2).toList) == (((rd_T129 l1 x5_1).f1.f2).toList))))))) = true := c7
                clear c7
                obtain rfl := Option.some.inj H
                have p228 : 0 ≤ (x5_1 : Int) := of_decide_eq_true (by first | (with_reducible assumption) | assumption)
                have q228 : x5_1 < (l0.length : Int) := of_decide_eq_true (by first | (with_reducible assumption) | assumption)
                obtain ⟨ad228, e228, hx228_0, hx228_1, hx228_2, hx228_3⟩ := at_T129 HR0.out x5_1 p228 q228
                cases e228
                replace p228 := eq_true p228
                replace q228 := eq_true q228
                have p229 : 0 ≤ (x5_1 : Int) := of_decide_eq_true (by first | (with_reducible assumption) | assumption)
                have q229 : x5_1 < (l1.length : Int) := of_decide_eq_true (by first | (with_reducible assumption) | assumption)
                obtain ⟨ad229, e229, hx229_0, hx229_1, hx229_2, hx229_3⟩ := at_T129 HR1.out x5_1 p229 q229
                cases e229
                replace p229 := eq_true p229
                replace q229 := eq_true q229
                go_wp2
                repeat (go_quiet (fail); try go_wp2)
                go_ret
                exact ⟨by first | rfl | (simp; done) | (simp [*]; done), by repeat (first | exact Drawn0.refl _ | apply Drawn0.step)⟩
              · rw [if_neg c7] at H
                have c7b0 : (!(((rd_T129 l0 x5_1).f0) == ((rd_T129 l1 x5_1).f0)) || ((!(((rd_T129 l0 x5_1).f1.f0) == ((rd_T129 l1 x5_1).f1.f0)) || (!(((rd_T129 l0 x5_1).f1.f1) == ((rd_T129 l1 x5_1).f1.f1)) || (!((((rd_T129 l0 x5_1).f1.f2).toList) == (((rd_T129 l1 x5_1).f1.f2).toList))))))) = false := by simpa using c7
                clear c7
                have H' := Aside0.mk H
                clear H
                have p228 : 0 ≤ (x5_1 : Int) := of_decide_eq_true (by first | (with_reducible assumption) | assumption)
                have q228 : x5_1 < (l0.length : Int) := of_decide_eq_true (by first | (with_reducible assumption) | assumption)
                obtain ⟨ad228, e228, hx228_0, hx228_1, hx228_2, hx228_3⟩ := at_T129 HR0.out x5_1 p228 q228
                cases e228
                replace p228 := eq_true p228
                replace q228 := eq_true q228
                have p229 : 0 ≤ (x5_1 : Int) := of_decide_eq_true (by first | (with_reducible assumption) | assumption)
                have q229 : x5_1 < (l1.length : Int) := of_decide_eq_true (by first | (with_reducible assumption) | assumption)
                obtain ⟨ad229, e229, hx229_0, hx229_1, hx229_2, hx229_3⟩ := at_T129 HR1.out x5_1 p229 q229
                cases e229
                replace p229 := eq_true p229
                replace q229 := eq_true q229
                go_wp2
                repeat (go_quiet (fail); try go_wp2)
                go_roundg k1
                case measure => have := HK1.out; omega
                case rel => exact ⟨(wrap64 (x5_1 + 1)), (by first | rfl | (simp; done) | (simp [*]; done)), H', ⟨by have := HK1.out; omega⟩, by repeat (first | exact Drawn0.refl _ | apply Drawn0.step)⟩
            · rw [if_neg c6] at H
              exact absurd H (by simp)
          · rw [if_neg c5] at H
            exact absurd H (by simp)
        · rw [if_neg c4] at H
          have c4b0 : decide (x5_1 < (l0.length : Int)) = false := decide_eq_false c4
          clear c4
          obtain rfl := Option.some.inj H
          go_wp2
          repeat (go_quiet (fail); try go_wp2)
          go_ret
          exact ⟨by first | rfl | (simp; done) | (simp [*]; done), by repeat (first | exact Drawn0.refl _ | apply Drawn0.step)⟩
  · rw [if_neg c3] at H
    have c3b0 : ((l0.length : Int) == (l1.length : Int)) = false := beq_eq_false_iff_ne.mpr c3
    have c3b1 : ((l0.length : Int) != (l1.length : Int)) = true := bne_iff_ne.mpr c3
    have c3b2 : (l0.length == l1.length) = false := by first | simpa using c3 | (simp at c3 ⊢; omega)
    obtain rfl := Option.some.inj H
    go_enter Try.func51, Try.ntmps51
    go_wp2
    repeat (go_quiet (fail); try go_wp2)
    go_ret
    exact ⟨by first | rfl | (simp; done) | (simp [*]; done), by repeat (first | exact Drawn0.refl _ | apply Drawn0.step)⟩

-- NOT PRINTED: function 52 (pergolaplain_SameGrants)

/-! ### pergolaplain_SameFeatures: function 53 -/
def pergolaplain_SameFeatures.l0 : Nat → List (S135) → List (S135) → Int → Option (Bool)
  | 0, _, _, _ => none
  | k + 1, x0, x1, x5 => if x5 < (x0.length : Int) then (if 0 ≤ x5 then (if x5 < (x1.length : Int) then (if (!((((rd_T135 x0 x5).f0).toList) == (((rd_T135 x1 x5).f0).toList)) || (!(((rd_T135 x0 x5).f1) == ((rd_T135 x1 x5).f1)) || (!(((rd_T135 x0 x5).f2) == ((rd_T135 x1 x5).f2)) || (!(((rd_T135 x0 x5).f3) == ((rd_T135 x1 x5).f3)))))) = true then (some false) else (pergolaplain_SameFeatures.l0 k x0 x1 (wrap64 (x5 + 1)))) else (none)) else (none)) else (some true)
def pergolaplain_SameFeatures.f (k : Nat) (l0 : List (S135)) (l1 : List (S135)) : Option (Bool) := if (l0.length : Int) = (l1.length : Int) then (pergolaplain_SameFeatures.l0 k l0 l1 0) else (some false)
theorem pergolaplain_SameFeatures.mono_l : ∀ k, (∀ y0 y1 y2, LeO (pergolaplain_SameFeatures.l0 k y0 y1 y2) (pergolaplain_SameFeatures.l0 (k + 1) y0 y1 y2))
  | 0 => fun _ _ _ r h => by simp [pergolaplain_SameFeatures.l0] at h
  | k + 1 => by
    have ih0 := pergolaplain_SameFeatures.mono_l k
    · intro y0 y1 y2
      unfold pergolaplain_SameFeatures.l0
      repeat' first
      | (with_reducible exact ih0 _ _ _)
      | (with_reducible exact LeO.refl _)
      | (with_reducible exact LeO.none _)
      | (with_reducible refine LeO.ite ?_ ?_)
      | (with_reducible refine LeO.bind ?_ (fun _ => ?_))
      | exact ih0 _ _ _
      | exact LeO.none _
      | refine LeO.ite ?_ ?_
      | refine LeO.bind ?_ (fun _ => ?_)
theorem pergolaplain_SameFeatures.mono : ∀ a0 a1 k, LeO (pergolaplain_SameFeatures.f k a0 a1) (pergolaplain_SameFeatures.f (k + 1) a0 a1) := by
  intro a0 a1 k
  have ih0 := pergolaplain_SameFeatures.mono_l k
  unfold pergolaplain_SameFeatures.f
  repeat' first
      | (with_reducible exact ih0 _ _ _)
      | (with_reducible exact LeO.refl _)
      | (with_reducible exact LeO.none _)
      | (with_reducible refine LeO.ite ?_ ?_)
      | (with_reducible refine LeO.bind ?_ (fun _ => ?_))
      | exact ih0 _ _ _
      | exact LeO.none _
      | refine LeO.ite ?_ ?_
      | refine LeO.bind ?_ (fun _ => ?_)
set_option maxHeartbeats 8000000 in
set_option maxRecDepth 100000 in
theorem pergolaplain_SameFeatures.calls (k : Nat) (A0 : Option Addr) (c0 : Nat) (l0 : List (S135)) (A1 : Option Addr) (c1 : Nat) (l1 : List (S135)) (r : Bool) (w : World) (hr0 : Kd.C k135 w A0 l0.length l0) (hc0 : l0.length ≤ c0) (hr1 : Kd.C k135 w A1 l1.length l1) (hc1 : l1.length ≤ c1) (h : pergolaplain_SameFeatures.f k l0 l1 = some r) :
    Calls Try.prog 53 #[.slice A0 l0.length c0, .slice A1 l1.length c1] w fun e w' => e = .returned (.bool r) ∧ Drawn0 w w' := by
  have hu135 := Try.underlying135
  have HR0 := Aside0.mk hr0
  have HC0 := Aside0.mk hc0
  clear hr0 hc0
  have HR1 := Aside0.mk hr1
  have HC1 := Aside0.mk hc1
  clear hr1 hc1
  have H : (if (l0.length : Int) = (l1.length : Int) then (pergolaplain_SameFeatures.l0 k l0 l1 0) else (some false)) = some r := h
  clear h
  by_cases c3 : (l0.length : Int) = (l1.length : Int)
  · rw [if_pos c3] at H
    have c3b0 : ((l0.length : Int) == (l1.length : Int)) = true := beq_iff_eq.mpr c3
    have c3b1 : ((l0.length : Int) != (l1.length : Int)) = false := bne_eq_false_iff_eq.mpr c3
    have c3b2 : (l0.length == l1.length) = true := by first | simpa using c3 | (simp at c3 ⊢; omega)
    clear c3
    have H' := Aside0.mk H
    clear H
    go_enter Try.func53, Try.ntmps53
    go_wp2
    repeat (go_quiet (fail); try go_wp2)
    go_loopg [5] k (fun kq v5 w' => ∃ (x5_1 : Int), v5 = .int .i64 x5_1 ∧ Aside0 (pergolaplain_SameFeatures.l0 kq l0 l1 x5_1 = some r) ∧ Aside0 (kq ≤ k) ∧ Drawn0 w w')
    case atStart => exact ⟨(0), (by first | rfl | (simp; done) | (simp [*]; done)), H', ⟨Nat.le_refl _⟩, by repeat (first | exact Drawn0.refl _ | apply Drawn0.step)⟩
    case round =>
      clear H'
      try clear c1
      try clear p2
      try clear c3
      try clear c3b0
      try clear c3b1
      try clear c3b2
      obtain ⟨x5_1, rfl, HA, HK1, ⟨m1, rfl⟩⟩ := hrel
      cases gk with
      | zero => exact absurd HA.out (by simp [pergolaplain_SameFeatures.l0])
      | succ k1 =>
        have H := HA.out
        clear HA
        simp only [pergolaplain_SameFeatures.l0] at H
        by_cases c4 : x5_1 < (l0.length : Int)
        · rw [if_pos c4] at H
          have c4b0 : decide (x5_1 < (l0.length : Int)) = true := decide_eq_true c4
          clear c4
          by_cases c5 : 0 ≤ x5_1
          · rw [if_pos c5] at H
            have c5b0 : decide (0 ≤ x5_1) = true := decide_eq_true c5
            clear c5
            by_cases c6 : x5_1 < (l1.length : Int)
            · rw [if_pos c6] at H
              have c6b0 : decide (x5_1 < (l1.length : Int)) = true := decide_eq_true c6
              clear c6
              by_cases c7 : (!((((rd_T135 l0 x5_1).f0).toList) == (((rd_T135 l1 x5_1).f0).toList)) || (!(((rd_T135 l0 x5_1).f1) == ((rd_T135 l1 x5_1).f1)) || (!(((rd_T135 l0 x5_1).f2) == ((rd_T135 l1 x5_1).f2)) || (!(((rd_T135 l0 x5_1).f3) == ((rd_T135 l1 x5_1).f3)))))) = true
              · rw [if_pos c7] at H
                have c7b0 : (!((((rd_T135 l0 x5_1).f0).toList) == (((rd_T135 l1 x5_1).f0).toList)) || (!(((rd_T135 l0 x5_1).f1) == ((rd_T135 l1 x5_1).f1)) || (!(((rd_T135 l0 x5_1).f2) == ((rd_T135 l1 x5_1).f2)) || (!(((rd_T135 l0 x5_1).f3) == ((rd_T135 l1 x5_1).f3)))))) = true := c7
                clear c7
                obtain rfl := Option.some.inj H
                have p230 : 0 ≤ (x5_1 : Int) := of_decide_eq_true (by first | (with_reducible assumption) | assumption)
                have q230 : x5_1 < (l0.length : Int) := of_decide_eq_true (by first | (with_reducible assumption) | assumption)
                obtain ⟨ad230, e230, hx230_0, hx230_1, hx230_2, hx230_3⟩ := at_T135 HR0.out x5_1 p230 q230
                cases e230
                replace p230 := eq_true p230
                replace q230 := eq_true q230
                have p231 : 0 ≤ (x5_1 : Int) := of_decide_eq_true (by first | (with_reducible assumption) | assumption)
                have q231 : x5_1 < (l1.length : Int) := of_decide_eq_true (by first | (with_reducible assumption) | assumption)
                obtain ⟨ad231, e231, hx231_0, hx231_1, hx231_2, hx231_3⟩ := at_T135 HR1.out x5_1 p231 q231
                cases e231
                replace p231 := eq_true p231
                replace q231 := eq_true q231
                go_wp2
                repeat (go_quiet (fail); try go_wp2)
                go_ret
                exact ⟨by first | rfl | (simp; done) | (simp [*]; done), by repeat (first | exact Drawn0.refl _ | apply Drawn0.step)⟩
              · rw [if_neg c7] at H
                have c7b0 : (!((((rd_T135 l0 x5_1).f0).toList) == (((rd_T135 l1 x5_1).f0).toList)) || (!(((rd_T135 l0 x5_1).f1) == ((rd_T135 l1 x5_1).f1)) || (!(((rd_T135 l0 x5_1).f2) == ((rd_T135 l1 x5_1).f2)) || (!(((rd_T135 l0 x5_1).f3) == ((rd_T135 l1 x5_1).f3)))))) = false := by simpa using c7
                clear c7
                have H' := Aside0.mk H
                clear H
                have p230 : 0 ≤ (x5_1 : Int) := of_decide_eq_true (by first | (with_reducible assumption) | assumption)
                have q230 : x5_1 < (l0.length : Int) := of_decide_eq_true (by first | (with_reducible assumption) | assumption)
                obtain ⟨ad230, e230, hx230_0, hx230_1, hx230_2, hx230_3⟩ := at_T135 HR0.out x5_1 p230 q230
                cases e230
                replace p230 := eq_true p230
                replace q230 := eq_true q230
                have p231 : 0 ≤ (x5_1 : Int) := of_decide_eq_true (by first | (with_reducible assumption) | assumption)
                have q231 : x5_1 < (l1.length : Int) := of_decide_eq_true (by first | (with_reducible assumption) | assumption)
                obtain ⟨ad231, e231, hx231_0, hx231_1, hx231_2, hx231_3⟩ := at_T135 HR1.out x5_1 p231 q231
                cases e231
                replace p231 := eq_true p231
                replace q231 := eq_true q231
                go_wp2
                repeat (go_quiet (fail); try go_wp2)
                go_roundg k1
                case measure => have := HK1.out; omega
                case rel => exact ⟨(wrap64 (x5_1 + 1)), (by first | rfl | (simp; done) | (simp [*]; done)), H', ⟨by have := HK1.out; omega⟩, by repeat (first | exact Drawn0.refl _ | apply Drawn0.step)⟩
            · rw [if_neg c6] at H
              exact absurd H (by simp)
          · rw [if_neg c5] at H
            exact absurd H (by simp)
        · rw [if_neg c4] at H
          have c4b0 : decide (x5_1 < (l0.length : Int)) = false := decide_eq_false c4
          clear c4
          obtain rfl := Option.some.inj H
          go_wp2
          repeat (go_quiet (fail); try go_wp2)
          go_ret
          exact ⟨by first | rfl | (simp; done) | (simp [*]; done), by repeat (first | exact Drawn0.refl _ | apply Drawn0.step)⟩
  · rw [if_neg c3] at H
    have c3b0 : ((l0.length : Int) == (l1.length : Int)) = false := beq_eq_false_iff_ne.mpr c3
    have c3b1 : ((l0.length : Int) != (l1.length : Int)) = true := bne_iff_ne.mpr c3
    have c3b2 : (l0.length == l1.length) = false := by first | simpa using c3 | (simp at c3 ⊢; omega)
    obtain rfl := Option.some.inj H
    go_enter Try.func53, Try.ntmps53
    go_wp2
    repeat (go_quiet (fail); try go_wp2)
    go_ret
    exact ⟨by first | rfl | (simp; done) | (simp [*]; done), by repeat (first | exact Drawn0.refl _ | apply Drawn0.step)⟩

-- NOT PRINTED: function 21 (pergolaplain_Given_Intact)

-- NOT PRINTED: function 4 (pergolalaw01_OctetsDigits)

/-! ### given: pergola/octets.Bytes -/
-- INFO 5
def octets_Bytes.l0 : Nat → ByteArray → Nat → List Int → Option (List Int × Int × Int)
  | 0, _, _, _ => none
  | k + 1, s, pos, out => if pos < s.size then (if 255 < (Utf8.decode s pos).1 then some ([], 4, (pos : Int)) else (if out.length < 140737488355328 then octets_Bytes.l0 k s (pos + (Utf8.decode s pos).2) (out ++ [((Utf8.decode s pos).1 : Int)]) else none)) else some (out, 0, 0)
def octets_Bytes.f (k : Nat) (a0 : ByteArray) : Option (List Int × Int × Int) := if a0.size ≤ 9223372036854775807 then octets_Bytes.l0 k a0 0 [] else none
theorem octets_Bytes.mono_l : ∀ k s pos out, LeO (octets_Bytes.l0 k s pos out) (octets_Bytes.l0 (k + 1) s pos out) := by
  intro k
  induction k with
  | zero => intro s pos out; exact LeO.none _
  | succ k ih =>
    intro s pos out
    unfold octets_Bytes.l0
    exact LeO.ite (LeO.ite (LeO.refl _) (LeO.ite (ih _ _ _) (LeO.none _))) (LeO.refl _)
theorem octets_Bytes.mono : ∀ a0 k, LeO (octets_Bytes.f k a0) (octets_Bytes.f (k + 1) a0) := fun a0 k => by
  unfold octets_Bytes.f
  exact LeO.ite (octets_Bytes.mono_l k _ _ _) (LeO.refl _)
set_option maxHeartbeats 2000000 in
theorem octets_Bytes.calls (k : Nat) (a0 : ByteArray) (r1 : List Int) (r2 : Int) (r3 : Int) (w : World) (h : octets_Bytes.f k a0 = some (r1, r2, r3)) :
    Calls Try.prog 22 #[.string a0] w fun e w' => ∃ v0_ : Value, e = .returned (.tuple #[v0_, .int .i64 r2, .int .i64 r3]) ∧ Kd.R (Kd.int .u8) 5 w' w.heap.size (fun _ => True) v0_ r1 ∧ Below w.heap.size w w' := by
  unfold octets_Bytes.f at h
  by_cases hs : a0.size ≤ 9223372036854775807
  · rw [if_pos hs] at h
    have H := Aside0.mk h
    clear h
    go_enter Try.func22, Try.ntmps22
    go_wp2
    have hit : (w.iter a0 0).heap[w.heap.size]? = some (.stringIter a0 0) := World.iter_heap w a0 0
    have HB : Below w.heap.size w (w.iter a0 0) := below_alloc (Below.refl _ _) _
    go_loopg [5] k (fun kq v5 wr => ∃ (pos : Nat) (out : List Int), Aside0 (octets_Bytes.l0 kq a0 pos out = some (r1, r2, r3)) ∧ Aside0 (kq ≤ k) ∧ Aside0 (wr.heap[w.heap.size]? = some (.stringIter a0 pos)) ∧ Aside0 (Kd.R (Kd.int .u8) 5 wr w.heap.size (fun b => b ≠ w.heap.size) v5 out) ∧ Aside0 (Below w.heap.size w wr))
    case atStart => exact ⟨0, [], H, ⟨Nat.le_refl _⟩, ⟨hit⟩, ⟨Kd.R_nil _ _ _ _ _⟩, ⟨HB⟩⟩
    case round =>
      clear hit HB H
      obtain ⟨pos, out, HA, HK, HI, HO, HB⟩ := hrel
      cases gk with
      | zero => exact absurd HA.out (by simp [octets_Bytes.l0])
      | succ k1 =>
        have h := HA.out
        clear HA
        simp only [octets_Bytes.l0] at h
        by_cases hlt : pos < a0.size
        · rw [if_pos hlt] at h
          have hnx := fun ty => Lib.run_next_any_at (P := Try.prog) wr w.heap.size a0 pos ty HI.out hlt
          have hle := decode_le a0 pos
          have HI2 := Aside0.mk (Lib.iterAt_heap wr w.heap.size a0 pos (pos + (Utf8.decode a0 pos).2) HI.out)
          have HB2 := Aside0.mk (Lib.below_iterAt HB.out (Nat.le_refl _) a0 (pos + (Utf8.decode a0 pos).2))
          have HO2 := Aside0.mk (Kd.R_step (w1 := wr.iterAt w.heap.size a0 (pos + (Utf8.decode a0 pos).2)) HO.out (fun b hb _ => Lib.iterAt_other wr w.heap.size b a0 _ hb))
          clear HI HB HO
          generalize (Utf8.decode a0 pos).1 = n at *
          generalize (pos + (Utf8.decode a0 pos).2) = pos2 at *
          generalize wr.iterAt w.heap.size a0 pos2 = w2 at *
          by_cases h255 : 255 < n
          · rw [if_pos h255] at h
            obtain ⟨rfl, rfl, rfl⟩ : [] = r1 ∧ 4 = r2 ∧ (pos : Int) = r3 := by simpa using h
            clear h
            go_wp2
            go_ret3
            exact ⟨_, by first | rfl | (simp; done) | (simp [*]; done), Kd.R_nil _ _ _ _ _, HB2.out⟩
          · rw [if_neg h255] at h
            by_cases hlim : out.length < 140737488355328
            · rw [if_pos hlim] at h
              have H := Aside0.mk h
              clear h
              go_wp2_with (first | ((with_reducible refine gate_builtin (b := .append) (xs := #[.tmp 17, .tmp 20]) rfl ?_); at_builtin; refine Kd.R_append (Kd.int .u8) (w0 := w) w.heap.size rfl (.tmp 17) (.tmp 20) 22 5 (.int .u8 0) 1 rfl Try.underlying22 info5 rfl (by decide) (by omega) u5 out (n : Int) [.int .u8 (n : Int)] (fun b => b ≠ w.heap.size) (fun _ => False) rfl rfl ?aP (fun _ hk => hk.elim) ?aF ?aO ?aB ?aS ?aL ?_; (case aP => exact rfl); (case aB => exact HB2.out); (case aF => exact (fun b hb => by have := blk_lt HI2.out; omega)); (case aO => exact HO2.out); (case aS => exact below_size HB2.out); (case aL => omega); intro v1 w3 ho hb hg hat; have n0_ := Aside0.mk hb; have n1_ := Aside0.mk ho; have n2_ := Aside0.mk ((hg.block _ (blk_lt HI2.out) (fun e => HO2.out.1 _ e.symm rfl)).trans HI2.out); clear ho hb hg hat HB2 HO2 HI2))
              go_roundg k1
              case measure => have := HK.out; omega
              case rel => exact ⟨pos2, out ++ [(n : Int)], H, ⟨by have := HK.out; omega⟩, n2_, n1_, n0_⟩
            · rw [if_neg hlim] at h
              cases h
        · rw [if_neg hlt] at h
          have hnx := fun ty => Lib.run_next_end_at (P := Try.prog) wr w.heap.size a0 pos ty HI.out hlt
          obtain ⟨rfl, rfl, rfl⟩ : out = r1 ∧ 0 = r2 ∧ 0 = r3 := by simpa using h
          clear h
          go_wp2
          go_ret3
          exact ⟨_, by first | rfl | (simp; done) | (simp [*]; done), Kd.R_mono HO.out (fun _ _ => trivial), HB.out⟩
  · rw [if_neg hs] at h
    cases h

end Go.Proofs.Ytknmcpccljmfdaa.X
