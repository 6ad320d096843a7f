-- Written by wip/xprint.py for this seat
import Derived.Test.YtknmcpccljmfdaaX0
namespace Go.Proofs.Ytknmcpccljmfdaa.X
open Go.RowKit Go.Proofs.YtknmcpccljmfdaaW.PrintWords Go.Proofs.YtknmcpccljmfdaaW.PrintLast Go.Proofs.YtknmcpccljmfdaaW.PrintMore
attribute [local go_sem] max2_int min2_int max_two min_two max_three min_three max_four min_four   -- for this text's walks alone
set_option linter.unusedVariables false
set_option linter.unusedSimpArgs false

/-! ### pergolaplain_SameBytes: function 19 -/
def pergolaplain_SameBytes.l0 : Nat → List Int → List Int → Int → Option (Bool)
  | 0, _, _, _ => none
  | k + 1, x0, x1, x5 => if x5 < (x0.length : Int) then (if 0 ≤ x5 then (if x5 < (x1.length : Int) then (if (rd x0 x5) = (rd x1 x5) then (pergolaplain_SameBytes.l0 k x0 x1 (wrap64 (x5 + 1))) else (some false)) else (none)) else (none)) else (some true)
def pergolaplain_SameBytes.f (k : Nat) (l0 : List Int) (l1 : List Int) : Option (Bool) := if (l0.length : Int) = (l1.length : Int) then (pergolaplain_SameBytes.l0 k l0 l1 0) else (some false)
theorem pergolaplain_SameBytes.mono_l : ∀ k, (∀ y0 y1 y2, LeO (pergolaplain_SameBytes.l0 k y0 y1 y2) (pergolaplain_SameBytes.l0 (k + 1) y0 y1 y2))
  | 0 => fun _ _ _ r h => by simp [pergolaplain_SameBytes.l0] at h
  | k + 1 => by
    have ih0 := pergolaplain_SameBytes.mono_l k
    · intro y0 y1 y2
      unfold pergolaplain_SameBytes.l0
      repeat' first
      | (with_reducible exact ih0 _ _ _)
      | (with_reducible exact LeO.refl _)
      | (with_reducible exact LeO.none _)
      | (with_reducible refine LeO.ite ?_ ?_)
      | (with_reducible refine LeO.bind ?_ (fun _ => ?_))
      | exact ih0 _ _ _
      | exact LeO.none _
      | refine LeO.ite ?_ ?_
      | refine LeO.bind ?_ (fun _ => ?_)
theorem pergolaplain_SameBytes.mono : ∀ a0 a1 k, LeO (pergolaplain_SameBytes.f k a0 a1) (pergolaplain_SameBytes.f (k + 1) a0 a1) := by
  intro a0 a1 k
  have ih0 := pergolaplain_SameBytes.mono_l k
  unfold pergolaplain_SameBytes.f
  repeat' first
      | (with_reducible exact ih0 _ _ _)
      | (with_reducible exact LeO.refl _)
      | (with_reducible exact LeO.none _)
      | (with_reducible refine LeO.ite ?_ ?_)
      | (with_reducible refine LeO.bind ?_ (fun _ => ?_))
      | exact ih0 _ _ _
      | exact LeO.none _
      | refine LeO.ite ?_ ?_
      | refine LeO.bind ?_ (fun _ => ?_)
set_option maxHeartbeats 8000000 in
set_option maxRecDepth 100000 in
theorem pergolaplain_SameBytes.calls (k : Nat) (A0 : Option Addr) (c0 : Nat) (l0 : List Int) (A1 : Option Addr) (c1 : Nat) (l1 : List Int) (r : Bool) (w : World) (hr0 : Kd.C (Kd.int .u8) w A0 l0.length l0) (hc0 : l0.length ≤ c0) (hr1 : Kd.C (Kd.int .u8) w A1 l1.length l1) (hc1 : l1.length ≤ c1) (h : pergolaplain_SameBytes.f k l0 l1 = some r) :
    Calls Try.prog 19 #[.slice A0 l0.length c0, .slice A1 l1.length c1] w fun e w' => e = .returned (.bool r) ∧ Drawn0 w w' := by
  have HR0 := Aside0.mk hr0
  have HC0 := Aside0.mk hc0
  clear hr0 hc0
  have HR1 := Aside0.mk hr1
  have HC1 := Aside0.mk hc1
  clear hr1 hc1
  have H : (if (l0.length : Int) = (l1.length : Int) then (pergolaplain_SameBytes.l0 k l0 l1 0) else (some false)) = some r := h
  clear h
  by_cases c3 : (l0.length : Int) = (l1.length : Int)
  · rw [if_pos c3] at H
    have c3b0 : ((l0.length : Int) == (l1.length : Int)) = true := beq_iff_eq.mpr c3
    have c3b1 : ((l0.length : Int) != (l1.length : Int)) = false := bne_eq_false_iff_eq.mpr c3
    have c3b2 : (l0.length == l1.length) = true := by first | simpa using c3 | (simp at c3 ⊢; omega)
    clear c3
    have H' := Aside0.mk H
    clear H
    go_enter Try.func19, Try.ntmps19
    go_wp2
    repeat (go_quiet (fail); try go_wp2)
    go_loopg [5] k (fun kq v5 w' => ∃ (x5_1 : Int), v5 = .int .i64 x5_1 ∧ Aside0 (pergolaplain_SameBytes.l0 kq l0 l1 x5_1 = some r) ∧ Aside0 (kq ≤ k) ∧ Drawn0 w w')
    case atStart => exact ⟨(0), (by first | rfl | (simp; done) | (simp [*]; done)), H', ⟨Nat.le_refl _⟩, by repeat (first | exact Drawn0.refl _ | apply Drawn0.step)⟩
    case round =>
      clear H'
      try clear c1
      try clear p2
      try clear c3
      try clear c3b0
      try clear c3b1
      try clear c3b2
      obtain ⟨x5_1, rfl, HA, HK1, ⟨m1, rfl⟩⟩ := hrel
      cases gk with
      | zero => exact absurd HA.out (by simp [pergolaplain_SameBytes.l0])
      | succ k1 =>
        have H := HA.out
        clear HA
        simp only [pergolaplain_SameBytes.l0] at H
        by_cases c4 : x5_1 < (l0.length : Int)
        · rw [if_pos c4] at H
          have c4b0 : decide (x5_1 < (l0.length : Int)) = true := decide_eq_true c4
          clear c4
          by_cases c5 : 0 ≤ x5_1
          · rw [if_pos c5] at H
            have c5b0 : decide (0 ≤ x5_1) = true := decide_eq_true c5
            clear c5
            by_cases c6 : x5_1 < (l1.length : Int)
            · rw [if_pos c6] at H
              have c6b0 : decide (x5_1 < (l1.length : Int)) = true := decide_eq_true c6
              clear c6
              by_cases c7 : (rd l0 x5_1) = (rd l1 x5_1)
              · rw [if_pos c7] at H
                have c7b0 : ((rd l0 x5_1) == (rd l1 x5_1)) = true := beq_iff_eq.mpr c7
                have c7b1 : ((rd l0 x5_1) != (rd l1 x5_1)) = false := bne_eq_false_iff_eq.mpr c7
                clear c7
                have H' := Aside0.mk H
                clear H
                have p206 : 0 ≤ (x5_1 : Int) := of_decide_eq_true (by first | (with_reducible assumption) | assumption)
                have q206 : x5_1 < (l0.length : Int) := of_decide_eq_true (by first | (with_reducible assumption) | assumption)
                obtain ⟨ad206, e206, hx206_0⟩ := Kd.at_int HR0.out x5_1 p206 q206
                cases e206
                replace p206 := eq_true p206
                replace q206 := eq_true q206
                have p207 : 0 ≤ (x5_1 : Int) := of_decide_eq_true (by first | (with_reducible assumption) | assumption)
                have q207 : x5_1 < (l1.length : Int) := of_decide_eq_true (by first | (with_reducible assumption) | assumption)
                obtain ⟨ad207, e207, hx207_0⟩ := Kd.at_int HR1.out x5_1 p207 q207
                cases e207
                replace p207 := eq_true p207
                replace q207 := eq_true q207
                go_wp2
                repeat (go_quiet (fail); try go_wp2)
                go_roundg k1
                case measure => have := HK1.out; omega
                case rel => exact ⟨(wrap64 (x5_1 + 1)), (by first | rfl | (simp; done) | (simp [*]; done)), H', ⟨by have := HK1.out; omega⟩, by repeat (first | exact Drawn0.refl _ | apply Drawn0.step)⟩
              · rw [if_neg c7] at H
                have c7b0 : ((rd l0 x5_1) == (rd l1 x5_1)) = false := beq_eq_false_iff_ne.mpr c7
                have c7b1 : ((rd l0 x5_1) != (rd l1 x5_1)) = true := bne_iff_ne.mpr c7
                obtain rfl := Option.some.inj H
                have p206 : 0 ≤ (x5_1 : Int) := of_decide_eq_true (by first | (with_reducible assumption) | assumption)
                have q206 : x5_1 < (l0.length : Int) := of_decide_eq_true (by first | (with_reducible assumption) | assumption)
                obtain ⟨ad206, e206, hx206_0⟩ := Kd.at_int HR0.out x5_1 p206 q206
                cases e206
                replace p206 := eq_true p206
                replace q206 := eq_true q206
                have p207 : 0 ≤ (x5_1 : Int) := of_decide_eq_true (by first | (with_reducible assumption) | assumption)
                have q207 : x5_1 < (l1.length : Int) := of_decide_eq_true (by first | (with_reducible assumption) | assumption)
                obtain ⟨ad207, e207, hx207_0⟩ := Kd.at_int HR1.out x5_1 p207 q207
                cases e207
                replace p207 := eq_true p207
                replace q207 := eq_true q207
                go_wp2
                repeat (go_quiet (fail); try go_wp2)
                go_ret
                exact ⟨by first | rfl | (simp; done) | (simp [*]; done), by repeat (first | exact Drawn0.refl _ | apply Drawn0.step)⟩
            · rw [if_neg c6] at H
              exact absurd H (by simp)
          · rw [if_neg c5] at H
            exact absurd H (by simp)
        · rw [if_neg c4] at H
          have c4b0 : decide (x5_1 < (l0.length : Int)) = false := decide_eq_false c4
          clear c4
          obtain rfl := Option.some.inj H
          go_wp2
          repeat (go_quiet (fail); try go_wp2)
          go_ret
          exact ⟨by first | rfl | (simp; done) | (simp [*]; done), by repeat (first | exact Drawn0.refl _ | apply Drawn0.step)⟩
  · rw [if_neg c3] at H
    have c3b0 : ((l0.length : Int) == (l1.length : Int)) = false := beq_eq_false_iff_ne.mpr c3
    have c3b1 : ((l0.length : Int) != (l1.length : Int)) = true := bne_iff_ne.mpr c3
    have c3b2 : (l0.length == l1.length) = false := by first | simpa using c3 | (simp at c3 ⊢; omega)
    obtain rfl := Option.some.inj H
    go_enter Try.func19, Try.ntmps19
    go_wp2
    repeat (go_quiet (fail); try go_wp2)
    go_ret
    exact ⟨by first | rfl | (simp; done) | (simp [*]; done), by repeat (first | exact Drawn0.refl _ | apply Drawn0.step)⟩

/-! ### given: (*pergola/pergolaplain.Given).Intact -/
-- USES pergola/pergolaplain.SameBytes
theorem pergolaplain_Given_Intact.same_l (l : List Int) (hl : l.length ≤ 140737488355328) : ∀ (m j : Nat), j + m = l.length → ∀ k, m + 1 ≤ k → pergolaplain_SameBytes.l0 k l l j = some true := by
  intro m
  induction m with
  | zero =>
    intro j hj k hk
    obtain ⟨k, rfl⟩ : ∃ k', k = k' + 1 := ⟨k - 1, by omega⟩
    rw [pergolaplain_SameBytes.l0, if_neg (by omega)]
  | succ m ih =>
    intro j hj k hk
    obtain ⟨k, rfl⟩ : ∃ k', k = k' + 1 := ⟨k - 1, by omega⟩
    rw [pergolaplain_SameBytes.l0, if_pos (by omega), if_pos (by omega), if_pos (by omega), if_pos rfl, show wrap64 ((j : Int) + 1) = ((j + 1 : Nat) : Int) by unfold wrap64; omega]
    exact ih (j + 1) (by omega) k (by omega)
theorem pergolaplain_Given_Intact.same (l : List Int) (hl : l.length ≤ 140737488355328) : pergolaplain_SameBytes.f (l.length + 1) l l = some true := by
  unfold pergolaplain_SameBytes.f
  rw [if_pos rfl]
  exact pergolaplain_Given_Intact.same_l l hl l.length 0 (by omega) _ (by omega)
set_option maxHeartbeats 8000000 in
set_option maxRecDepth 100000 in
theorem pergolaplain_Given_Intact.calls (g : Nat) (w : World) (hg : GivIs w g) :
    Calls Try.prog 21 #[.pointer (some ⟨g, 0, none⟩)] w fun e w' => e = .returned (.bool true) ∧ Below w.heap.size w w' := by
  obtain ⟨A0, A1, c0, c1, xss, hx0, hx1, hr0, hr1, hl, hn, hz⟩ := hg
  have HR0 := Aside0.mk hr0
  have HR1 := Aside0.mk hr1
  have HL := Aside0.mk hl
  have HN := Aside0.mk hn
  clear hr0 hr1 hl hn
  have hz1 := hz 2 (by omega) (by omega)
  have hz2 := hz 4 (by omega) (by omega)
  have hz3 := hz 6 (by omega) (by omega)
  have hz4 := hz 8 (by omega) (by omega)
  have hz5 := hz 10 (by omega) (by omega)
  have hz6 := hz 12 (by omega) (by omega)
  have hz7 := hz 14 (by omega) (by omega)
  have hz8 := hz 16 (by omega) (by omega)
  have hz9 := hz 18 (by omega) (by omega)
  have hz10 := hz 20 (by omega) (by omega)
  have hz11 := hz 22 (by omega) (by omega)
  have hz12 := hz 24 (by omega) (by omega)
  have hz13 := hz 26 (by omega) (by omega)
  have hz14 := hz 28 (by omega) (by omega)
  have hz15 := hz 30 (by omega) (by omega)
  clear hz
  go_enter Try.func21, Try.ntmps21
  go_wp2
  go_loopw [3] (fun v3 w' => ∃ (i : Int), v3 = .int .i64 i ∧ 0 ≤ i ∧ i ≤ (xss.length : Int) ∧ Drawn0 w w') (fun v3 _ => xss.length - (intOf v3).toNat)
  case atStart => exact ⟨0, rfl, Int.le_refl _, by omega, Drawn0.refl _⟩
  case round =>
    obtain ⟨i, rfl, hi0, hi, ⟨m1, rfl⟩⟩ := hrel
    have hn := HN.out
    by_cases c3 : i < (xss.length : Int)
    · have c3b0 : decide (i < (xss.length : Int)) = true := decide_eq_true (by omega)
      have p232 : 0 ≤ i := hi0
      have q232 : i < (xss.length : Int) := c3
      obtain ⟨ad232, A232, c232, e232, hx232, hl232, hi232⟩ := at_LL HR0.out i p232 q232
      cases e232
      obtain ⟨ad233, A233, c233, e233, hx233, hl233, hi233⟩ := at_LL HR1.out i p232 q232
      cases e233
      have HI0 := Aside0.mk hi232
      have HC0 := Aside0.mk hl232
      have HI1 := Aside0.mk hi233
      have HC1 := Aside0.mk hl233
      clear hi232 hl232 hi233 hl233
      have hlen : (rdLL xss i).length ≤ 140737488355328 := by
        unfold rdLL
        rw [List.getD_eq_getElem?_getD, List.getElem?_eq_getElem (show i.toNat < xss.length by omega)]
        exact HL.out _ (List.getElem_mem _)
      have HS := Aside0.mk (pergolaplain_Given_Intact.same (rdLL xss i) hlen)
      clear hlen
      have hi9 : i + 1 ≤ 140737488355328 := by omega
      replace p232 := eq_true p232
      replace q232 := eq_true q232
      go_wp2_with (first | (go_at_call 19; (with_reducible refine (pergolaplain_SameBytes.calls _ _ _ (rdLL xss i) _ _ (rdLL xss i) true _ ?side1 ?side2 ?side3 ?side4 HS.out).mono ?_); (case side1 => repeat (first | exact HI0.out | (with_reducible refine Kd.C_alloc ?_ _) | (with_reducible refine Kd.C_drewN ?_ _) | (with_reducible refine Kd.C_drew ?_))); (case side2 => exact HC0.out); (case side3 => repeat (first | exact HI1.out | (with_reducible refine Kd.C_alloc ?_ _) | (with_reducible refine Kd.C_drewN ?_ _) | (with_reducible refine Kd.C_drew ?_))); (case side4 => exact HC1.out); rintro e w' ⟨rfl, ⟨nd, rfl⟩⟩; (try first | exact ⟨rfl, _, World.drewN_drewN _ _ _⟩ | exact ⟨rfl, _, Eq.trans (World.drewN_drewN _ _ _) (congrArg (World.drewN _) (Nat.add_assoc _ _ _))⟩)))
      repeat (go_quiet (first | (go_at_call 19; (with_reducible refine (pergolaplain_SameBytes.calls _ _ _ (rdLL xss i) _ _ (rdLL xss i) true _ ?side1 ?side2 ?side3 ?side4 HS.out).mono ?_); (case side1 => repeat (first | exact HI0.out | (with_reducible refine Kd.C_alloc ?_ _) | (with_reducible refine Kd.C_drewN ?_ _) | (with_reducible refine Kd.C_drew ?_))); (case side2 => exact HC0.out); (case side3 => repeat (first | exact HI1.out | (with_reducible refine Kd.C_alloc ?_ _) | (with_reducible refine Kd.C_drewN ?_ _) | (with_reducible refine Kd.C_drew ?_))); (case side4 => exact HC1.out); rintro e w' ⟨rfl, ⟨nd, rfl⟩⟩; (try first | exact ⟨rfl, _, World.drewN_drewN _ _ _⟩ | exact ⟨rfl, _, Eq.trans (World.drewN_drewN _ _ _) (congrArg (World.drewN _) (Nat.add_assoc _ _ _))⟩))); try go_wp2_with (first | (go_at_call 19; (with_reducible refine (pergolaplain_SameBytes.calls _ _ _ (rdLL xss i) _ _ (rdLL xss i) true _ ?side1 ?side2 ?side3 ?side4 HS.out).mono ?_); (case side1 => repeat (first | exact HI0.out | (with_reducible refine Kd.C_alloc ?_ _) | (with_reducible refine Kd.C_drewN ?_ _) | (with_reducible refine Kd.C_drew ?_))); (case side2 => exact HC0.out); (case side3 => repeat (first | exact HI1.out | (with_reducible refine Kd.C_alloc ?_ _) | (with_reducible refine Kd.C_drewN ?_ _) | (with_reducible refine Kd.C_drew ?_))); (case side4 => exact HC1.out); rintro e w' ⟨rfl, ⟨nd, rfl⟩⟩; (try first | exact ⟨rfl, _, World.drewN_drewN _ _ _⟩ | exact ⟨rfl, _, Eq.trans (World.drewN_drewN _ _ _) (congrArg (World.drewN _) (Nat.add_assoc _ _ _))⟩))))
      exact ⟨⟨i + 1, by first | rfl | (simp; done) | (simp [*]; done), by omega, by omega, by repeat (first | exact Drawn0.refl _ | apply Drawn0.step)⟩, by simp only [intOf]; omega⟩
    · have c3b0 : decide (i < (xss.length : Int)) = false := decide_eq_false (by omega)
      have HD := Drawn0.mk (w := w) (w' := w.drewN m1) ⟨m1, rfl⟩
      go_wp2
      go_loop [4] (fun v => v = .int .i64 0) (fun _ => 0)
      case atStart => rfl
      case round =>
        subst hrel
        go_wp2
        go_loop [5] (fun v => v = .int .i64 0) (fun _ => 0)
        case atStart => rfl
        case round =>
          subst hrel
          go_wp2
          go_loop [6] (fun v => v = .int .i64 0) (fun _ => 0)
          case atStart => rfl
          case round =>
            subst hrel
            go_wp2
            go_loop [7] (fun v => v = .int .i64 0) (fun _ => 0)
            case atStart => rfl
            case round =>
              subst hrel
              go_wp2
              go_loop [8] (fun v => v = .int .i64 0) (fun _ => 0)
              case atStart => rfl
              case round =>
                subst hrel
                go_wp2
                go_loop [9] (fun v => v = .int .i64 0) (fun _ => 0)
                case atStart => rfl
                case round =>
                  subst hrel
                  go_wp2
                  go_loop [10] (fun v => v = .int .i64 0) (fun _ => 0)
                  case atStart => rfl
                  case round =>
                    subst hrel
                    go_wp2
                    go_loop [11] (fun v => v = .int .i64 0) (fun _ => 0)
                    case atStart => rfl
                    case round =>
                      subst hrel
                      go_wp2
                      go_loop [12] (fun v => v = .int .i64 0) (fun _ => 0)
                      case atStart => rfl
                      case round =>
                        subst hrel
                        go_wp2
                        go_loop [13] (fun v => v = .int .i64 0) (fun _ => 0)
                        case atStart => rfl
                        case round =>
                          subst hrel
                          go_wp2
                          go_loop [14] (fun v => v = .int .i64 0) (fun _ => 0)
                          case atStart => rfl
                          case round =>
                            subst hrel
                            go_wp2
                            go_loop [15] (fun v => v = .int .i64 0) (fun _ => 0)
                            case atStart => rfl
                            case round =>
                              subst hrel
                              go_wp2
                              go_loop [16] (fun v => v = .int .i64 0) (fun _ => 0)
                              case atStart => rfl
                              case round =>
                                subst hrel
                                go_wp2
                                go_loop [17] (fun v => v = .int .i64 0) (fun _ => 0)
                                case atStart => rfl
                                case round =>
                                  subst hrel
                                  go_wp2
                                  go_loop [18] (fun v => v = .int .i64 0) (fun _ => 0)
                                  case atStart => rfl
                                  case round =>
                                    subst hrel
                                    go_wp2
                                    go_ret
                                    exact ⟨by first | rfl | (simp; done) | (simp [*]; done), by repeat (first | exact HD.below | apply below_alloc | apply pw_below_drewN | apply below_drew1)⟩

end Go.Proofs.Ytknmcpccljmfdaa.X
