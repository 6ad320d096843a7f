-- Written by wip/xprint.py for this seat
import Derived.Test.YtlaiggkgflbjhaaDoorXWFlg
import Derived.Test.YtlaiggkgflbjhaaDoorX0
import Derived.Test.YtlaiggkgflbjhaaDoorX1
import Derived.Test.YtlaiggkgflbjhaaDoorX10
namespace Go.Proofs.YtlaiggkgflbjhaaDoor.X
open Go.RowKit Go.Proofs.YtlaiggkgflbjhaaDoorW.PrintWords Go.Proofs.YtlaiggkgflbjhaaDoorW.PrintLast Go.Proofs.YtlaiggkgflbjhaaDoorW.PrintMore
attribute [local go_sem] max2_int min2_int max_two min_two max_three min_three max_four min_four   -- for this text's walks alone
set_option linter.unusedVariables false
set_option linter.unusedSimpArgs false

/-! ### pergolaref17_Check: function 26 -/
def pergolaref17_Check.f (a0 : Int) : Option (Int) := if a0 > 65535 then (some 171) else (some 0)
set_option maxHeartbeats 8000000 in
set_option maxRecDepth 100000 in
theorem pergolaref17_Check.calls (a0 : Int) (r : Int) (w : World) (h : pergolaref17_Check.f a0 = some r) :
    Calls Tryd.prog 26 #[.int .u32 a0] w fun e w' => e = .returned (.int .i64 r) ∧ Drawn0 w w' := by
  have H : (if a0 > 65535 then (some 171) else (some 0)) = some r := h
  clear h
  by_cases c2 : a0 > 65535
  · rw [if_pos c2] at H
    have c2b0 : decide (65535 < a0) = true := decide_eq_true c2
    clear c2
    obtain rfl := Option.some.inj H
    go_enter Tryd.func26, Tryd.ntmps26
    go_wp2
    go_ret
    exact ⟨by first | rfl | (simp; done) | (simp [*]; done), by repeat (first | exact Drawn0.refl _ | apply Drawn0.step)⟩
  · rw [if_neg c2] at H
    have c2b0 : decide (65535 < a0) = false := decide_eq_false c2
    clear c2
    obtain rfl := Option.some.inj H
    go_enter Tryd.func26, Tryd.ntmps26
    go_wp2
    go_ret
    exact ⟨by first | rfl | (simp; done) | (simp [*]; done), by repeat (first | exact Drawn0.refl _ | apply Drawn0.step)⟩

/-! ### pergolaref17_pick: function 45 -/
mutual
def pergolaref17_pick.l0 : Nat → Int → Int → Int → List (S93) → Int → Option (List ByteArray × Bool)
  | 0, _, _, _, _, _ => none
  | k + 1, x0, x1, x3, x10, x11 => if x11 < (x10.length : Int) then (if 0 ≤ x11 then ((pergolaref17_off.f k x0 ((rd_T93 x10 x11).f0) ((rd_T93 x10 x11).f1)).bind fun t310 => (if (Go.bits .and .u32 t310 x1) = x1 then ((pergolaref17_pick.f k t310 x1 (wrap64 (x11 + 1)) (wrap64 (x3 - 1))).bind fun bt311 => (if bt311.2 = true then ((some (([(rd_T93 x10 x11).f0] : List ByteArray) : List ByteArray)).bind fun y316 => (if y316.length + bt311.1.length < 8796093022208 then (some ((y316 ++ bt311.1), true)) else (none))) else (pergolaref17_pick.l0 k x0 x1 x3 x10 (wrap64 (x11 + 1))))) else (pergolaref17_pick.l0 k x0 x1 x3 x10 (wrap64 (x11 + 1))))) else (none)) else (some (([] : List ByteArray), false))
def pergolaref17_pick.f : Nat → Int → Int → Int → Int → Option (List ByteArray × Bool)
  | 0, _, _, _, _ => none
  | k + 1, a0, a1, a2, a3 => if a3 = 0 then (some (([] : List ByteArray), (a0 == a1))) else ((pergolaref17_Rows.f).bind fun t306 => (pergolaref17_pick.l0 k a0 a1 a3 t306 a2))
end
theorem pergolaref17_pick.mono_l : ∀ k, (∀ y0 y1 y2 y3, LeO (pergolaref17_pick.f k y0 y1 y2 y3) (pergolaref17_pick.f (k + 1) y0 y1 y2 y3)) ∧ (∀ y0 y1 y2 y3 y4, LeO (pergolaref17_pick.l0 k y0 y1 y2 y3 y4) (pergolaref17_pick.l0 (k + 1) y0 y1 y2 y3 y4))
  | 0 => ⟨fun _ _ _ _ r h => by simp [pergolaref17_pick.f] at h, fun _ _ _ _ _ r h => by simp [pergolaref17_pick.l0] at h⟩
  | k + 1 => by
    obtain ⟨ih0, ih1⟩ := pergolaref17_pick.mono_l k
    refine ⟨?_, ?_⟩
    · intro y0 y1 y2 y3
      unfold pergolaref17_pick.f
      repeat' first
      | (with_reducible exact ih0 _ _ _ _)
      | (with_reducible exact ih1 _ _ _ _ _)
      | (with_reducible exact pergolaref17_off.mono _ _ _ _)
      | (with_reducible exact LeO.refl _)
      | (with_reducible exact LeO.none _)
      | (with_reducible refine LeO.ite ?_ ?_)
      | (with_reducible refine LeO.bind ?_ (fun _ => ?_))
      | exact ih0 _ _ _ _
      | exact ih1 _ _ _ _ _
      | exact pergolaref17_off.mono _ _ _ _
      | exact LeO.none _
      | refine LeO.ite ?_ ?_
      | refine LeO.bind ?_ (fun _ => ?_)
    · intro y0 y1 y2 y3 y4
      unfold pergolaref17_pick.l0
      repeat' first
      | (with_reducible exact ih0 _ _ _ _)
      | (with_reducible exact ih1 _ _ _ _ _)
      | (with_reducible exact pergolaref17_off.mono _ _ _ _)
      | (with_reducible exact LeO.refl _)
      | (with_reducible exact LeO.none _)
      | (with_reducible refine LeO.ite ?_ ?_)
      | (with_reducible refine LeO.bind ?_ (fun _ => ?_))
      | exact ih0 _ _ _ _
      | exact ih1 _ _ _ _ _
      | exact pergolaref17_off.mono _ _ _ _
      | exact LeO.none _
      | refine LeO.ite ?_ ?_
      | refine LeO.bind ?_ (fun _ => ?_)
theorem pergolaref17_pick.mono : ∀ a0 a1 a2 a3 k, LeO (pergolaref17_pick.f k a0 a1 a2 a3) (pergolaref17_pick.f (k + 1) a0 a1 a2 a3) := by
  intro a0 a1 a2 a3 k
  obtain ⟨ih0, ih1⟩ := pergolaref17_pick.mono_l k
  exact ih0 a0 a1 a2 a3
set_option maxHeartbeats 8000000 in
set_option maxRecDepth 100000 in
theorem pergolaref17_pick.calls (k : Nat) : ∀ (a0 : Int) (a1 : Int) (a2 : Int) (a3 : Int) (r1 : List ByteArray) (r2 : Bool) (w : World) (h : pergolaref17_pick.f k a0 a1 a2 a3 = some (r1, r2)),
    Calls Tryd.prog 45 #[.int .u32 a0, .int .u32 a1, .int .i64 a2, .int .i64 a3] w fun e w' => ∃ v0_ : Value, e = .returned (.tuple #[v0_, .bool r2]) ∧ Kd.R Kd.string 9 w' w.heap.size (fun _ => True) v0_ r1 ∧ Below w.heap.size w w' := by
  induction k using Nat.strongRecOn with
  | _ k ih =>
  intro a0 a1 a2 a3 r1 r2 w h
  cases k with
  | zero => exact absurd h (by simp [pergolaref17_pick.f])
  | succ k =>
  simp only [pergolaref17_pick.f] at h
  have hu93 := Tryd.underlying93
  have HB := Aside0.mk (Below.refl w.heap.size w)
  have H : (if a3 = 0 then (some (([] : List ByteArray), (a0 == a1))) else ((pergolaref17_Rows.f).bind fun t306 => (pergolaref17_pick.l0 k a0 a1 a3 t306 a2))) = some (r1, r2) := h
  clear h
  by_cases c5 : a3 = 0
  · rw [if_pos c5] at H
    have c5b0 : (a3 == 0) = true := beq_iff_eq.mpr c5
    have c5b1 : (a3 != 0) = false := bne_eq_false_iff_eq.mpr c5
    clear c5
    simp only [Option.some.injEq, Prod.mk.injEq] at H
    obtain ⟨rfl, rfl⟩ := H
    go_enter Tryd.func45, Tryd.ntmps45
    go_wp2
    go_ret2
    exact ⟨_, by first | rfl | (simp [errW_none, errW_some] <;> rfl) | (simp [*, errW_none, errW_some] <;> rfl), by first | exact Kd.R_nil _ _ _ _ _ | exact Kd.N_nil _ _ _ _ _ | exact Kd.V_nil _ _ _ _ _ | exact Kd.Q_nil _ _ _ _ _ | exact Kd.S_nil _ _ _ _ _, by repeat (first | (with_reducible first | exact HB.out | apply below_alloc | apply pw_below_drewN | apply below_drew1) | exact HB.out)⟩
  · rw [if_neg c5] at H
    have c5b0 : (a3 == 0) = false := beq_eq_false_iff_ne.mpr c5
    have c5b1 : (a3 != 0) = true := bne_iff_ne.mpr c5
    replace H := Option.bind_eq_some_iff.mp H
    obtain ⟨t306, A60, H⟩ := H
    replace H : (pergolaref17_pick.l0 k a0 a1 a3 t306 a2) = some (r1, r2) := H
    have A6 := Aside0.mk A60
    clear A60
    have H' := Aside0.mk H
    clear H
    go_enter Tryd.func45, Tryd.ntmps45
    go_wp2_with (first | ((with_reducible refine gate_callee (f := 40) rfl ?_); refine goesL_ (some 21) rfl rfl Tryd.func40 (by kernel_rfl) rfl #[] rfl (by (try simp only [List.map_toArray, List.map_cons, List.map_nil]); first | done | rfl | (simp only [List.length_drop, List.length_take]; rfl)) ?_; (with_reducible refine (pergolaref17_Rows.calls  t306 _ A6.out).mono ?_); rintro e w7 ⟨v307, rfl, ho0, hb⟩; refine ⟨_, rfl, ?_⟩; have n0_ := Aside0.mk (Kd.N_lower (Kd.N_mono (ok' := fun k_ => True) ho0 (fun k_ hk_ => trivial)) (below_size (by repeat (first | (with_reducible first | exact HB.out | apply below_alloc | apply pw_below_drewN | apply below_drew1) | exact HB.out)))); have n1_ := Aside0.mk (below_step (by repeat (first | (with_reducible first | exact HB.out | apply below_alloc | apply pw_below_drewN | apply below_drew1) | exact HB.out)) hb); clear HB; have HO308 := n0_; have HB := n1_; clear n0_ n1_; (try clear hb); (try clear hb2); (try clear hk); (try clear hi); (try clear ho0)))
    go_loopg [11] k (fun kq v11 w' => ∃ (x11_1 : Int), v11 = .int .i64 x11_1 ∧ Aside0 (pergolaref17_pick.l0 kq a0 a1 a3 t306 x11_1 = some (r1, r2)) ∧ Aside0 (kq ≤ k) ∧ Aside0 (Kd.N k93 93 w' w.heap.size (fun _ => True) v307 t306) ∧ Aside0 (Below w.heap.size w w'))
    case atStart => exact ⟨(a2), (by first | rfl | (simp; done) | (simp [*]; done)), H', ⟨Nat.le_refl _⟩, ⟨by (with_reducible repeat (first | apply Kd.N_alloc | apply Kd.N_drewN | apply Kd.N_drew)); exact HO308.out⟩, ⟨by repeat (first | (with_reducible first | exact HB.out | apply below_alloc | apply pw_below_drewN | apply below_drew1) | exact HB.out)⟩⟩
    case round =>
      clear H'
      try clear p2
      try clear c4
      try clear c5
      try clear c5b0
      try clear c5b1
      obtain ⟨x11_1, rfl, HA, HK1, HO_10, HB⟩ := hrel
      cases gk with
      | zero => exact absurd HA.out (by simp [pergolaref17_pick.l0])
      | succ k1 =>
        have H := HA.out
        clear HA
        simp only [pergolaref17_pick.l0] at H
        by_cases c8 : x11_1 < (t306.length : Int)
        · rw [if_pos c8] at H
          have c8b0 : decide (x11_1 < (t306.length : Int)) = true := decide_eq_true c8
          clear c8
          by_cases c9 : 0 ≤ x11_1
          · rw [if_pos c9] at H
            have c9b0 : decide (0 ≤ x11_1) = true := decide_eq_true c9
            clear c9
            replace H := Option.bind_eq_some_iff.mp H
            obtain ⟨t310, A100, H⟩ := H
            replace H : (if (Go.bits .and .u32 t310 a1) = a1 then ((pergolaref17_pick.f k1 t310 a1 (wrap64 (x11_1 + 1)) (wrap64 (a3 - 1))).bind fun bt311 => (if bt311.2 = true then ((some (([(rd_T93 t306 x11_1).f0] : List ByteArray) : List ByteArray)).bind fun y316 => (if y316.length + bt311.1.length < 8796093022208 then (some ((y316 ++ bt311.1), true)) else (none))) else (pergolaref17_pick.l0 k1 a0 a1 a3 t306 (wrap64 (x11_1 + 1))))) else (pergolaref17_pick.l0 k1 a0 a1 a3 t306 (wrap64 (x11_1 + 1)))) = some (r1, r2) := H
            have A10 := Aside0.mk A100
            clear A100
            by_cases c11 : (Go.bits .and .u32 t310 a1) = a1
            · rw [if_pos c11] at H
              have c11b0 : ((Go.bits .and .u32 t310 a1) == a1) = true := beq_iff_eq.mpr c11
              have c11b1 : ((Go.bits .and .u32 t310 a1) != a1) = false := bne_eq_false_iff_eq.mpr c11
              clear c11
              replace H := Option.bind_eq_some_iff.mp H
              obtain ⟨⟨t311, t312⟩, A120, H⟩ := H
              replace H : (if t312 = true then ((some (([(rd_T93 t306 x11_1).f0] : List ByteArray) : List ByteArray)).bind fun y316 => (if y316.length + t311.length < 8796093022208 then (some ((y316 ++ t311), true)) else (none))) else (pergolaref17_pick.l0 k1 a0 a1 a3 t306 (wrap64 (x11_1 + 1)))) = some (r1, r2) := H
              have A12 := Aside0.mk A120
              clear A120
              by_cases c13 : t312 = true
              · subst c13
                have H1 : ((some (([(rd_T93 t306 x11_1).f0] : List ByteArray) : List ByteArray)).bind fun y316 => (if y316.length + t311.length < 8796093022208 then (some ((y316 ++ t311), true)) else (none))) = some (r1, r2) := by rw [if_pos rfl] at H; exact H
                clear H
                have H := H1
                clear H1
                obtain ⟨y316, hy316⟩ : ∃ y_ : List ByteArray, y_ = (([(rd_T93 t306 x11_1).f0] : List ByteArray)) := ⟨_, rfl⟩
                replace H : (if y316.length + t311.length < 8796093022208 then (some ((y316 ++ t311), true)) else (none)) = some (r1, r2) := by first | (rw [hy316]; with_reducible exact H) | (have H2_ := (Option.bind_some _ _).symm.trans H; rw [hy316]; with_reducible exact H2_) | (have H2_ := (Option.bind_some _ _).symm.trans H; with_reducible exact H2_) | with_reducible exact H | (rw [hy316]; exact H) | exact H
                have Ny316 := Aside0.mk hy316
                clear hy316
                by_cases c14 : y316.length + t311.length < 8796093022208
                · rw [if_pos c14] at H
                  have LMc14 := Aside0.mk c14
                  clear c14
                  obtain ⟨y319, hy319⟩ : ∃ y_ : List ByteArray, y_ = (y316 ++ t311) := ⟨_, rfl⟩
                  replace H : (some (y319, true)) = some (r1, r2) := by first | (rw [hy319]; with_reducible exact H) | (have H2_ := (Option.bind_some _ _).symm.trans H; rw [hy319]; with_reducible exact H2_) | (have H2_ := (Option.bind_some _ _).symm.trans H; with_reducible exact H2_) | with_reducible exact H | (rw [hy319]; exact H) | exact H
                  have Ny319 := Aside0.mk hy319
                  clear hy319
                  simp only [Option.some.injEq, Prod.mk.injEq] at H
                  obtain ⟨rfl, rfl⟩ := H
                  obtain ⟨Ao15, co15, eo15⟩ := Kd.N_slice HO_10.out
                  subst eo15
                  have p309 : 0 ≤ (x11_1 : Int) := of_decide_eq_true (by first | (with_reducible assumption) | assumption)
                  have q309 : x11_1 < (t306.length : Int) := of_decide_eq_true (by first | (with_reducible assumption) | assumption)
                  obtain ⟨ad309, A309_1, c309_1, e309, hx309_0, hx309_1, hl309_1, hi309_1⟩ := at_T93 (Kd.N_reads' HO_10.out).2.2 x11_1 p309 q309
                  cases e309
                  obtain ⟨ce309, hce309, hMe309, hcc309⟩ := Kd.N_get HO_10.out z93 x11_1 p309 (by first | exact q309 | exact of_decide_eq_true (by first | (with_reducible assumption) | assumption) | (have e_ := (Kd.N_reads' HO_10.out).1; omega))
                  obtain ⟨ua309_1, uc309_1, rfl, ul309_1, ge309_1⟩ := k93_openF hMe309
                  have hv309_1 := hcc309 1 _ rfl
                  rw [add_field _ _ 1 (by omega)] at hv309_1
                  replace hv309_1 := Option.some.inj (hv309_1.symm.trans hx309_1)
                  injection hv309_1 with hva_ hvn_ hvc_
                  rw [hva_] at ge309_1
                  rw [hvc_] at ul309_1
                  have HL309_1 := Aside0.mk (show Kd.V (Kd.int .i64) 3 _ w.heap.size _ _ ((rd_T93 t306 x11_1).f1) from Kd.V_mk ul309_1 ge309_1)
                  clear hva_ hvn_ hvc_ ge309_1 ul309_1
                  clear hcc309 hce309
                  have HR309_1 := Aside0.mk hi309_1
                  have HC309_1 := Aside0.mk hl309_1
                  clear hi309_1 hl309_1
                  replace p309 := eq_true p309
                  replace q309 := eq_true q309
                  go_wp2_with (first | ((with_reducible refine gate_callee (f := 42) rfl ?_); refine goesL_ (some 34) rfl rfl Tryd.func42 (by kernel_rfl) rfl #[.int .u32 a0, .agg #[.string ((rd_T93 t306 x11_1).f0), .slice A309_1 ((rd_T93 t306 x11_1).f1).length c309_1]] rfl (by (try simp only [List.map_toArray, List.map_cons, List.map_nil]); first | done | rfl | (simp only [List.length_drop, List.length_take]; rfl)) ?_; (with_reducible refine (pergolaref17_off.calls k1 a0 ((rd_T93 t306 x11_1).f0) _ _ ((rd_T93 t306 x11_1).f1) t310 _ ?side1 ?side2 A10.out).mono ?_); (case side1 => repeat (first | exact (by repeat (first | (with_reducible exact HR309_1.out) | (with_reducible refine Kd.C_alloc ?_ _) | (with_reducible refine Kd.C_drewN ?_ _) | (with_reducible refine Kd.C_drew ?_) | exact HR309_1.out)) | (with_reducible refine Kd.C_alloc ?_ _) | (with_reducible refine Kd.C_drewN ?_ _) | (with_reducible refine Kd.C_drew ?_))); (case side2 => exact HC309_1.out); rintro e w16 ⟨rfl, hb⟩; refine ⟨_, rfl, ?_⟩; have n0_ := Aside0.mk (Kd.N_below (by (with_reducible repeat (first | apply Kd.N_alloc | apply Kd.N_drewN | apply Kd.N_drew)); exact HO_10.out) hb); have n1_ := Aside0.mk (Kd.V_below (by (with_reducible repeat (first | apply Kd.V_alloc | apply Kd.V_drewN | apply Kd.V_drew)); exact HL309_1.out) hb); have n2_ := Aside0.mk (Kd.C_below (by repeat (first | (with_reducible exact HR309_1.out) | (with_reducible refine Kd.C_alloc ?_ _) | (with_reducible refine Kd.C_drewN ?_ _) | (with_reducible refine Kd.C_drew ?_) | exact HR309_1.out)) hb); have n3_ := Aside0.mk (below_step (by repeat (first | (with_reducible first | exact HB.out | apply below_alloc | apply pw_below_drewN | apply below_drew1) | exact HB.out)) hb); clear HO_10; clear HL309_1; clear HR309_1; clear HB; have HO_10 := n0_; have HL309_1 := n1_; have HR309_1 := n2_; have HB := n3_; clear n0_ n1_ n2_ n3_; (try clear hb); (try clear hb2); (try clear hk); (try clear hi)) | ((with_reducible refine gate_callee (f := 45) rfl ?_); refine goesL_ (some 47) rfl rfl Tryd.func45 (by kernel_rfl) rfl #[.int .u32 t310, .int .u32 a1, .int .i64 (wrap64 (x11_1 + 1)), .int .i64 (wrap64 (a3 - 1))] rfl (by (try simp only [List.map_toArray, List.map_cons, List.map_nil]); first | done | rfl | (simp only [List.length_drop, List.length_take]; rfl)) ?_; (with_reducible refine (ih k1 (by have := HK1.out; omega) t310 a1 (wrap64 (x11_1 + 1)) (wrap64 (a3 - 1)) t311 true _ A12.out).mono ?_); rintro e w17 ⟨v313, rfl, ho0, hb⟩; refine ⟨_, rfl, ?_⟩; have n0_ := Aside0.mk (Kd.N_elder' (by (with_reducible repeat (first | apply Kd.N_alloc | apply Kd.N_drewN | apply Kd.N_drew)); exact HO_10.out) (Kd.R_base ho0) hb); have n1_ := Aside0.mk (Kd.V_elder' (by (with_reducible repeat (first | apply Kd.V_alloc | apply Kd.V_drewN | apply Kd.V_drew)); exact HL309_1.out) (Kd.R_base ho0) hb); have n2_ := Aside0.mk (Kd.R_lower ho0 (below_size (by repeat (first | (with_reducible first | exact HB.out | apply below_alloc | apply pw_below_drewN | apply below_drew1) | exact HB.out)))); have n3_ := Aside0.mk (Kd.C_below (by repeat (first | (with_reducible exact HR309_1.out) | (with_reducible refine Kd.C_alloc ?_ _) | (with_reducible refine Kd.C_drewN ?_ _) | (with_reducible refine Kd.C_drew ?_) | exact HR309_1.out)) hb); have n4_ := Aside0.mk (below_step (by repeat (first | (with_reducible first | exact HB.out | apply below_alloc | apply pw_below_drewN | apply below_drew1) | exact HB.out)) hb); clear HO_10; clear HL309_1; clear HR309_1; clear HB; have HO_10 := n0_; have HL309_1 := n1_; have HO314 := n2_; have HR309_1 := n3_; have HB := n4_; clear n0_ n1_ n2_ n3_ n4_; (try clear hb); (try clear hb2); (try clear hk); (try clear hi); (try clear ho0); have p315 : 0 ≤ (x11_1 : Int) := of_decide_eq_true (by first | (with_reducible assumption) | assumption); have q315 : x11_1 < (t306.length : Int) := of_decide_eq_true (by first | (with_reducible assumption) | assumption); obtain ⟨ad315, A315_1, c315_1, e315, hx315_0, hx315_1, hl315_1, hi315_1⟩ := at_T93 (Kd.N_reads' HO_10.out).2.2 x11_1 p315 q315; obtain rfl : ad309 = ad315 := (by injection e315); obtain ⟨ce315, hce315, hMe315, hcc315⟩ := Kd.N_get HO_10.out z93 x11_1 p315 (by first | exact q315 | exact of_decide_eq_true (by first | (with_reducible assumption) | assumption) | (have e_ := (Kd.N_reads' HO_10.out).1; omega)); obtain ⟨ua315_1, uc315_1, rfl, ul315_1, ge315_1⟩ := k93_openF hMe315; have hv315_1 := hcc315 1 _ rfl; rw [add_field _ _ 1 (by omega)] at hv315_1; replace hv315_1 := Option.some.inj (hv315_1.symm.trans hx315_1); injection hv315_1 with hva_ hvn_ hvc_; rw [hva_] at ge315_1; rw [hvc_] at ul315_1; have HL315_1 := Aside0.mk (show Kd.V (Kd.int .i64) 3 _ w.heap.size _ _ ((rd_T93 t306 x11_1).f1) from Kd.V_mk ul315_1 ge315_1); clear hva_ hvn_ hvc_ ge315_1 ul315_1; clear hcc315 hce315; have HR315_1 := Aside0.mk hi315_1; have HC315_1 := Aside0.mk hl315_1; clear hi315_1 hl315_1; replace p315 := eq_true p315; replace q315 := eq_true q315) | ((with_reducible refine gate_dst (N := 56) rfl ?_); refine Kd.R_lit Kd.string _ 9 ?hg (N := 56) ?hd (xs := ([(rd_T93 t306 x11_1).f0] : List ByteArray)) (inner := [.string ((rd_T93 t306 x11_1).f0)]) (ok := fun _ => True) (okp := fun _ => True) ?hr ?hp (fun _ hk => hk) trivial (Below.refl _ _) (Nat.le_refl _) (by simp) ?_; (case hd => rfl); (case hg => rfl); (case hr => first | (go_simp; done) | (go_simp; rfl)); (case hp => exact (Reps.one (show Kd.M Kd.string _ _ _ ((rd_T93 t306 x11_1).f0) [.string ((rd_T93 t306 x11_1).f0)] from rfl) (Reps.none _ _))); intro v317 w18 ho19 hb hg_ hnew_; clear hg_ hnew_; (first | rw [← Ny316.out] at ho19 | (simp only [Int.reduceToNat] at ho19; rw [← Ny316.out] at ho19)); have n0_ := Aside0.mk (Kd.N_elder' (by (with_reducible repeat (first | apply Kd.N_alloc | apply Kd.N_drewN | apply Kd.N_drew)); exact HO_10.out) (Kd.R_base ho19) hb); have n1_ := Aside0.mk (Kd.V_elder' (by (with_reducible repeat (first | apply Kd.V_alloc | apply Kd.V_drewN | apply Kd.V_drew)); exact HL309_1.out) (Kd.R_base ho19) hb); have n2_ := Aside0.mk (Kd.R_elder' (by (with_reducible repeat (first | apply Kd.R_alloc | apply Kd.R_drewN | apply Kd.R_drew)); exact HO314.out) (Kd.R_base ho19) hb); have n3_ := Aside0.mk (Kd.V_elder' (by (with_reducible repeat (first | apply Kd.V_alloc | apply Kd.V_drewN | apply Kd.V_drew)); exact HL315_1.out) (Kd.R_base ho19) hb); have n4_ := Aside0.mk (Kd.R_lower (Kd.R_new' ho19 (Kd.R_lt (by (with_reducible repeat (first | apply Kd.R_alloc | apply Kd.R_drewN | apply Kd.R_drew)); exact HO314.out))) (below_size (by repeat (first | (with_reducible first | exact HB.out | apply below_alloc | apply pw_below_drewN | apply below_drew1) | exact HB.out)))); have n5_ := Aside0.mk (Kd.C_below (by repeat (first | (with_reducible exact HR309_1.out) | (with_reducible refine Kd.C_alloc ?_ _) | (with_reducible refine Kd.C_drewN ?_ _) | (with_reducible refine Kd.C_drew ?_) | exact HR309_1.out)) hb); have n6_ := Aside0.mk (Kd.C_below (by repeat (first | (with_reducible exact HR315_1.out) | (with_reducible refine Kd.C_alloc ?_ _) | (with_reducible refine Kd.C_drewN ?_ _) | (with_reducible refine Kd.C_drew ?_) | exact HR315_1.out)) hb); have n7_ := Aside0.mk (below_step (by repeat (first | (with_reducible first | exact HB.out | apply below_alloc | apply pw_below_drewN | apply below_drew1) | exact HB.out)) hb); clear HO_10; clear HL309_1; clear HO314; clear HL315_1; clear HR309_1; clear HR315_1; clear HB; have HO_10 := n0_; have HL309_1 := n1_; have HO314 := n2_; have HL315_1 := n3_; have HO318 := n4_; have HR309_1 := n5_; have HR315_1 := n6_; have HB := n7_; clear n0_ n1_ n2_ n3_ n4_ n5_ n6_ n7_; clear hb ho19; obtain ⟨Ao21, co21, eo21⟩ := Kd.R_slice HO314.out; subst eo21) | ((with_reducible refine gate_builtin (b := .append) (xs := #[.tmp 57, .tmp 58]) rfl ?_); at_builtin; refine Kd.R_append_rows Kd.string (w0 := w) w.heap.size rfl (.tmp 57) (.tmp 58) 29 9 (.string ⟨#[]⟩) 16 rfl Tryd.underlying29 info9 rfl (by decide) (by omega) v317 y316 t311 _ _ _ (fun k_ => some k_ ≠ (.slice Ao21 t311.length co21 : Value).ownBlock) (fun _ => False) rfl rfl ?aO ?aR (fun _ _ h => h) (fun _ h => h.elim) ?aF ?aB ?aS ?aL ?_; (case aR => repeat (first | exact (Kd.R_reads' HO314.out).2.2 | (with_reducible refine Kd.C_alloc ?_ _) | (with_reducible refine Kd.C_drewN ?_ _) | (with_reducible refine Kd.C_drew ?_))); (case aB => exact (by repeat (first | (with_reducible first | exact HB.out | apply below_alloc | apply pw_below_drewN | apply below_drew1) | exact HB.out))); (case aF => exact (fun k_ hk => Kd.fresh' (Kd.R_lt (by (with_reducible repeat (first | apply Kd.R_alloc | apply Kd.R_drewN | apply Kd.R_drew)); exact HO314.out)) k_ hk)); (case aO => exact (by (with_reducible repeat (first | apply Kd.R_alloc | apply Kd.R_drewN | apply Kd.R_drew)); exact Kd.R_mono HO318.out (fun _ hk => hk.2))); (case aS => exact (below_size (by repeat (first | (with_reducible first | exact HB.out | apply below_alloc | apply pw_below_drewN | apply below_drew1) | exact HB.out)))); (case aL => have := LMc14.out; omega); intro v320 w20 ho hb hg hat; rw [← Ny319.out] at ho; have n0_ := Aside0.mk (Kd.N_afterv (ok := (fun k_ => some k_ ≠ (.slice Ao21 t311.length co21 : Value).ownBlock)) (by (with_reducible repeat (first | apply Kd.N_alloc | apply Kd.N_drewN | apply Kd.N_drew)); exact Kd.N_mono HO_10.out (fun _ hk => ⟨hk.1.2, hk.2⟩)) hg hat); have n1_ := Aside0.mk (Kd.V_afterv (ok := (fun k_ => some k_ ≠ (.slice (some ad309) t306.length co15 : Value).ownBlock ∧ some k_ ≠ (.slice Ao21 t311.length co21 : Value).ownBlock)) (by (with_reducible repeat (first | apply Kd.V_alloc | apply Kd.V_drewN | apply Kd.V_drew)); exact Kd.V_mono HL309_1.out (fun _ hk => ⟨⟨hk.1.1.2, hk.1.2⟩, hk.2⟩)) hg hat); have n2_ := Aside0.mk (Kd.R_after (ok := (fun _ => True)) (by (with_reducible repeat (first | apply Kd.R_alloc | apply Kd.R_drewN | apply Kd.R_drew)); exact HO314.out) hg hat); have n3_ := Aside0.mk (Kd.V_afterv (ok := (fun k_ => some k_ ≠ (.slice (some ad309) t306.length co15 : Value).ownBlock ∧ some k_ ≠ (.slice Ao21 t311.length co21 : Value).ownBlock)) (by (with_reducible repeat (first | apply Kd.V_alloc | apply Kd.V_drewN | apply Kd.V_drew)); exact Kd.V_mono HL315_1.out (fun _ hk => ⟨⟨hk.1.2, hk.1.1.2⟩, hk.2⟩)) hg hat); have n4_ := Aside0.mk (hb); have n5_ := Aside0.mk (ho); clear HO_10; clear HL309_1; clear HO314; clear HL315_1; clear HB; clear HO318; have HO_10 := n0_; have HL309_1 := n1_; have HO314 := n2_; have HL315_1 := n3_; have HB := n4_; have HO321 := n5_; clear n0_ n1_ n2_ n3_ n4_ n5_; clear ho hb hg hat))
                  go_ret2
                  exact ⟨_, by first | rfl | (simp [errW_none, errW_some] <;> rfl) | (simp [*, errW_none, errW_some] <;> rfl), by (with_reducible repeat (first | apply Kd.R_alloc | apply Kd.R_drewN | apply Kd.R_drew)); exact Kd.R_mono HO321.out (fun _ hk => trivial), by repeat (first | (with_reducible first | exact HB.out | apply below_alloc | apply pw_below_drewN | apply below_drew1) | exact HB.out)⟩
                · rw [if_neg c14] at H
                  exact absurd H (by simp)
              · replace c13 := Bool.eq_false_iff.mpr c13
                subst c13
                have H1 : (pergolaref17_pick.l0 k1 a0 a1 a3 t306 (wrap64 (x11_1 + 1))) = some (r1, r2) := by rw [if_neg (show ¬ (false = true) by decide)] at H; exact H
                clear H
                have H := H1
                clear H1
                have H' := Aside0.mk H
                clear H
                obtain ⟨Ao22, co22, eo22⟩ := Kd.N_slice HO_10.out
                subst eo22
                have p309 : 0 ≤ (x11_1 : Int) := of_decide_eq_true (by first | (with_reducible assumption) | assumption)
                have q309 : x11_1 < (t306.length : Int) := of_decide_eq_true (by first | (with_reducible assumption) | assumption)
                obtain ⟨ad309, A309_1, c309_1, e309, hx309_0, hx309_1, hl309_1, hi309_1⟩ := at_T93 (Kd.N_reads' HO_10.out).2.2 x11_1 p309 q309
                cases e309
                obtain ⟨ce309, hce309, hMe309, hcc309⟩ := Kd.N_get HO_10.out z93 x11_1 p309 (by first | exact q309 | exact of_decide_eq_true (by first | (with_reducible assumption) | assumption) | (have e_ := (Kd.N_reads' HO_10.out).1; omega))
                obtain ⟨ua309_1, uc309_1, rfl, ul309_1, ge309_1⟩ := k93_openF hMe309
                have hv309_1 := hcc309 1 _ rfl
                rw [add_field _ _ 1 (by omega)] at hv309_1
                replace hv309_1 := Option.some.inj (hv309_1.symm.trans hx309_1)
                injection hv309_1 with hva_ hvn_ hvc_
                rw [hva_] at ge309_1
                rw [hvc_] at ul309_1
                have HL309_1 := Aside0.mk (show Kd.V (Kd.int .i64) 3 _ w.heap.size _ _ ((rd_T93 t306 x11_1).f1) from Kd.V_mk ul309_1 ge309_1)
                clear hva_ hvn_ hvc_ ge309_1 ul309_1
                clear hcc309 hce309
                have HR309_1 := Aside0.mk hi309_1
                have HC309_1 := Aside0.mk hl309_1
                clear hi309_1 hl309_1
                replace p309 := eq_true p309
                replace q309 := eq_true q309
                go_wp2_with (first | ((with_reducible refine gate_callee (f := 42) rfl ?_); refine goesL_ (some 34) rfl rfl Tryd.func42 (by kernel_rfl) rfl #[.int .u32 a0, .agg #[.string ((rd_T93 t306 x11_1).f0), .slice A309_1 ((rd_T93 t306 x11_1).f1).length c309_1]] rfl (by (try simp only [List.map_toArray, List.map_cons, List.map_nil]); first | done | rfl | (simp only [List.length_drop, List.length_take]; rfl)) ?_; (with_reducible refine (pergolaref17_off.calls k1 a0 ((rd_T93 t306 x11_1).f0) _ _ ((rd_T93 t306 x11_1).f1) t310 _ ?side1 ?side2 A10.out).mono ?_); (case side1 => repeat (first | exact (by repeat (first | (with_reducible exact HR309_1.out) | (with_reducible refine Kd.C_alloc ?_ _) | (with_reducible refine Kd.C_drewN ?_ _) | (with_reducible refine Kd.C_drew ?_) | exact HR309_1.out)) | (with_reducible refine Kd.C_alloc ?_ _) | (with_reducible refine Kd.C_drewN ?_ _) | (with_reducible refine Kd.C_drew ?_))); (case side2 => exact HC309_1.out); rintro e w23 ⟨rfl, hb⟩; refine ⟨_, rfl, ?_⟩; have n0_ := Aside0.mk (Kd.N_below (by (with_reducible repeat (first | apply Kd.N_alloc | apply Kd.N_drewN | apply Kd.N_drew)); exact HO_10.out) hb); have n1_ := Aside0.mk (Kd.V_below (by (with_reducible repeat (first | apply Kd.V_alloc | apply Kd.V_drewN | apply Kd.V_drew)); exact HL309_1.out) hb); have n2_ := Aside0.mk (Kd.C_below (by repeat (first | (with_reducible exact HR309_1.out) | (with_reducible refine Kd.C_alloc ?_ _) | (with_reducible refine Kd.C_drewN ?_ _) | (with_reducible refine Kd.C_drew ?_) | exact HR309_1.out)) hb); have n3_ := Aside0.mk (below_step (by repeat (first | (with_reducible first | exact HB.out | apply below_alloc | apply pw_below_drewN | apply below_drew1) | exact HB.out)) hb); clear HO_10; clear HL309_1; clear HR309_1; clear HB; have HO_10 := n0_; have HL309_1 := n1_; have HR309_1 := n2_; have HB := n3_; clear n0_ n1_ n2_ n3_; (try clear hb); (try clear hb2); (try clear hk); (try clear hi)) | ((with_reducible refine gate_callee (f := 45) rfl ?_); refine goesL_ (some 47) rfl rfl Tryd.func45 (by kernel_rfl) rfl #[.int .u32 t310, .int .u32 a1, .int .i64 (wrap64 (x11_1 + 1)), .int .i64 (wrap64 (a3 - 1))] rfl (by (try simp only [List.map_toArray, List.map_cons, List.map_nil]); first | done | rfl | (simp only [List.length_drop, List.length_take]; rfl)) ?_; (with_reducible refine (ih k1 (by have := HK1.out; omega) t310 a1 (wrap64 (x11_1 + 1)) (wrap64 (a3 - 1)) t311 false _ A12.out).mono ?_); rintro e w24 ⟨v313, rfl, ho0, hb⟩; refine ⟨_, rfl, ?_⟩; have n0_ := Aside0.mk (Kd.N_elder' (by (with_reducible repeat (first | apply Kd.N_alloc | apply Kd.N_drewN | apply Kd.N_drew)); exact HO_10.out) (Kd.R_base ho0) hb); have n1_ := Aside0.mk (Kd.V_elder' (by (with_reducible repeat (first | apply Kd.V_alloc | apply Kd.V_drewN | apply Kd.V_drew)); exact HL309_1.out) (Kd.R_base ho0) hb); have n2_ := Aside0.mk (Kd.R_lower ho0 (below_size (by repeat (first | (with_reducible first | exact HB.out | apply below_alloc | apply pw_below_drewN | apply below_drew1) | exact HB.out)))); have n3_ := Aside0.mk (Kd.C_below (by repeat (first | (with_reducible exact HR309_1.out) | (with_reducible refine Kd.C_alloc ?_ _) | (with_reducible refine Kd.C_drewN ?_ _) | (with_reducible refine Kd.C_drew ?_) | exact HR309_1.out)) hb); have n4_ := Aside0.mk (below_step (by repeat (first | (with_reducible first | exact HB.out | apply below_alloc | apply pw_below_drewN | apply below_drew1) | exact HB.out)) hb); clear HO_10; clear HL309_1; clear HR309_1; clear HB; have HO_10 := n0_; have HL309_1 := n1_; have HO314 := n2_; have HR309_1 := n3_; have HB := n4_; clear n0_ n1_ n2_ n3_ n4_; (try clear hb); (try clear hb2); (try clear hk); (try clear hi); (try clear ho0)))
                go_roundg k1
                case measure => have := HK1.out; omega
                case rel => exact ⟨(wrap64 (x11_1 + 1)), (by first | rfl | (simp; done) | (simp [*]; done)), H', ⟨by have := HK1.out; omega⟩, ⟨by (with_reducible repeat (first | apply Kd.N_alloc | apply Kd.N_drewN | apply Kd.N_drew)); exact Kd.N_mono HO_10.out (fun _ hk => trivial)⟩, ⟨by repeat (first | (with_reducible first | exact HB.out | apply below_alloc | apply pw_below_drewN | apply below_drew1) | exact HB.out)⟩⟩
            · rw [if_neg c11] at H
              have c11b0 : ((Go.bits .and .u32 t310 a1) == a1) = false := beq_eq_false_iff_ne.mpr c11
              have c11b1 : ((Go.bits .and .u32 t310 a1) != a1) = true := bne_iff_ne.mpr c11
              have H' := Aside0.mk H
              clear H
              obtain ⟨Ao25, co25, eo25⟩ := Kd.N_slice HO_10.out
              subst eo25
              have p309 : 0 ≤ (x11_1 : Int) := of_decide_eq_true (by first | (with_reducible assumption) | assumption)
              have q309 : x11_1 < (t306.length : Int) := of_decide_eq_true (by first | (with_reducible assumption) | assumption)
              obtain ⟨ad309, A309_1, c309_1, e309, hx309_0, hx309_1, hl309_1, hi309_1⟩ := at_T93 (Kd.N_reads' HO_10.out).2.2 x11_1 p309 q309
              cases e309
              obtain ⟨ce309, hce309, hMe309, hcc309⟩ := Kd.N_get HO_10.out z93 x11_1 p309 (by first | exact q309 | exact of_decide_eq_true (by first | (with_reducible assumption) | assumption) | (have e_ := (Kd.N_reads' HO_10.out).1; omega))
              obtain ⟨ua309_1, uc309_1, rfl, ul309_1, ge309_1⟩ := k93_openF hMe309
              have hv309_1 := hcc309 1 _ rfl
              rw [add_field _ _ 1 (by omega)] at hv309_1
              replace hv309_1 := Option.some.inj (hv309_1.symm.trans hx309_1)
              injection hv309_1 with hva_ hvn_ hvc_
              rw [hva_] at ge309_1
              rw [hvc_] at ul309_1
              have HL309_1 := Aside0.mk (show Kd.V (Kd.int .i64) 3 _ w.heap.size _ _ ((rd_T93 t306 x11_1).f1) from Kd.V_mk ul309_1 ge309_1)
              clear hva_ hvn_ hvc_ ge309_1 ul309_1
              clear hcc309 hce309
              have HR309_1 := Aside0.mk hi309_1
              have HC309_1 := Aside0.mk hl309_1
              clear hi309_1 hl309_1
              replace p309 := eq_true p309
              replace q309 := eq_true q309
              go_wp2_with (first | ((with_reducible refine gate_callee (f := 42) rfl ?_); refine goesL_ (some 34) rfl rfl Tryd.func42 (by kernel_rfl) rfl #[.int .u32 a0, .agg #[.string ((rd_T93 t306 x11_1).f0), .slice A309_1 ((rd_T93 t306 x11_1).f1).length c309_1]] rfl (by (try simp only [List.map_toArray, List.map_cons, List.map_nil]); first | done | rfl | (simp only [List.length_drop, List.length_take]; rfl)) ?_; (with_reducible refine (pergolaref17_off.calls k1 a0 ((rd_T93 t306 x11_1).f0) _ _ ((rd_T93 t306 x11_1).f1) t310 _ ?side1 ?side2 A10.out).mono ?_); (case side1 => repeat (first | exact (by repeat (first | (with_reducible exact HR309_1.out) | (with_reducible refine Kd.C_alloc ?_ _) | (with_reducible refine Kd.C_drewN ?_ _) | (with_reducible refine Kd.C_drew ?_) | exact HR309_1.out)) | (with_reducible refine Kd.C_alloc ?_ _) | (with_reducible refine Kd.C_drewN ?_ _) | (with_reducible refine Kd.C_drew ?_))); (case side2 => exact HC309_1.out); rintro e w26 ⟨rfl, hb⟩; refine ⟨_, rfl, ?_⟩; have n0_ := Aside0.mk (Kd.N_below (by (with_reducible repeat (first | apply Kd.N_alloc | apply Kd.N_drewN | apply Kd.N_drew)); exact HO_10.out) hb); have n1_ := Aside0.mk (Kd.V_below (by (with_reducible repeat (first | apply Kd.V_alloc | apply Kd.V_drewN | apply Kd.V_drew)); exact HL309_1.out) hb); have n2_ := Aside0.mk (Kd.C_below (by repeat (first | (with_reducible exact HR309_1.out) | (with_reducible refine Kd.C_alloc ?_ _) | (with_reducible refine Kd.C_drewN ?_ _) | (with_reducible refine Kd.C_drew ?_) | exact HR309_1.out)) hb); have n3_ := Aside0.mk (below_step (by repeat (first | (with_reducible first | exact HB.out | apply below_alloc | apply pw_below_drewN | apply below_drew1) | exact HB.out)) hb); clear HO_10; clear HL309_1; clear HR309_1; clear HB; have HO_10 := n0_; have HL309_1 := n1_; have HR309_1 := n2_; have HB := n3_; clear n0_ n1_ n2_ n3_; (try clear hb); (try clear hb2); (try clear hk); (try clear hi)))
              go_roundg k1
              case measure => have := HK1.out; omega
              case rel => exact ⟨(wrap64 (x11_1 + 1)), (by first | rfl | (simp; done) | (simp [*]; done)), H', ⟨by have := HK1.out; omega⟩, ⟨by (with_reducible repeat (first | apply Kd.N_alloc | apply Kd.N_drewN | apply Kd.N_drew)); exact HO_10.out⟩, ⟨by repeat (first | (with_reducible first | exact HB.out | apply below_alloc | apply pw_below_drewN | apply below_drew1) | exact HB.out)⟩⟩
          · rw [if_neg c9] at H
            exact absurd H (by simp)
        · rw [if_neg c8] at H
          have c8b0 : decide (x11_1 < (t306.length : Int)) = false := decide_eq_false c8
          clear c8
          simp only [Option.some.injEq, Prod.mk.injEq] at H
          obtain ⟨rfl, rfl⟩ := H
          obtain ⟨Ao27, co27, eo27⟩ := Kd.N_slice HO_10.out
          subst eo27
          go_wp2
          go_ret2
          exact ⟨_, by first | rfl | (simp [errW_none, errW_some] <;> rfl) | (simp [*, errW_none, errW_some] <;> rfl), by first | exact Kd.R_nil _ _ _ _ _ | exact Kd.N_nil _ _ _ _ _ | exact Kd.V_nil _ _ _ _ _ | exact Kd.Q_nil _ _ _ _ _ | exact Kd.S_nil _ _ _ _ _, by repeat (first | (with_reducible first | exact HB.out | apply below_alloc | apply pw_below_drewN | apply below_drew1) | exact HB.out)⟩

/-! ### pergolaref17_Print: function 21 -/
mutual
def pergolaref17_Print.l0 : Nat → Int → Int → Option (ByteArray × Int)
  | 0, _, _ => none
  | k + 1, x0, x4 => (pergolaref17_Rows.f).bind fun t323 => (if x4 ≤ (t323.length : Int) then ((pergolaref17_pick.f k 65535 x0 0 x4).bind fun bt326 => (if bt326.2 = true then (pergolaref17_Print.l1 k bt326.1 (⟨#[]⟩ : ByteArray) 0) else (pergolaref17_Print.l0 k x0 (wrap64 (x4 + 1))))) else (some ((⟨#[]⟩ : ByteArray), 1)))
def pergolaref17_Print.l1 : Nat → List ByteArray → ByteArray → Int → Option (ByteArray × Int)
  | 0, _, _, _ => none
  | k + 1, x5, x7, x8 => if x8 < (x5.length : Int) then (if x8 > 0 then (if x7.size + 1 ≤ 9223372036854775807 then (if 0 ≤ x8 then (if (x7 ++ (⟨#[32]⟩ : ByteArray)).size + (rdOf ByteArray.empty x5 x8).size ≤ 9223372036854775807 then (pergolaref17_Print.l1 k x5 ((x7 ++ (⟨#[32]⟩ : ByteArray)) ++ (rdOf ByteArray.empty x5 x8)) (wrap64 (x8 + 1))) else (none)) else (none)) else (none)) else (if 0 ≤ x8 then (if x7.size + (rdOf ByteArray.empty x5 x8).size ≤ 9223372036854775807 then (pergolaref17_Print.l1 k x5 (x7 ++ (rdOf ByteArray.empty x5 x8)) (wrap64 (x8 + 1))) else (none)) else (none))) else (some (x7, 0))
end
def pergolaref17_Print.f (k : Nat) (a0 : Int) : Option (ByteArray × Int) := (pergolaref17_Check.f a0).bind fun t322 => (if t322 = 0 then (pergolaref17_Print.l0 k a0 0) else (some ((⟨#[]⟩ : ByteArray), 171)))
theorem pergolaref17_Print.mono_l : ∀ k, (∀ y0 y1, LeO (pergolaref17_Print.l0 k y0 y1) (pergolaref17_Print.l0 (k + 1) y0 y1)) ∧ (∀ y0 y1 y2, LeO (pergolaref17_Print.l1 k y0 y1 y2) (pergolaref17_Print.l1 (k + 1) y0 y1 y2))
  | 0 => ⟨fun _ _ r h => by simp [pergolaref17_Print.l0] at h, fun _ _ _ r h => by simp [pergolaref17_Print.l1] at h⟩
  | k + 1 => by
    obtain ⟨ih0, ih1⟩ := pergolaref17_Print.mono_l k
    refine ⟨?_, ?_⟩
    · intro y0 y1
      unfold pergolaref17_Print.l0
      repeat' first
      | (with_reducible exact ih0 _ _)
      | (with_reducible exact ih1 _ _ _)
      | (with_reducible exact pergolaref17_pick.mono _ _ _ _ _)
      | (with_reducible exact LeO.refl _)
      | (with_reducible exact LeO.none _)
      | (with_reducible refine LeO.ite ?_ ?_)
      | (with_reducible refine LeO.bind ?_ (fun _ => ?_))
      | exact ih0 _ _
      | exact ih1 _ _ _
      | exact pergolaref17_pick.mono _ _ _ _ _
      | exact LeO.none _
      | refine LeO.ite ?_ ?_
      | refine LeO.bind ?_ (fun _ => ?_)
    · intro y0 y1 y2
      unfold pergolaref17_Print.l1
      repeat' first
      | (with_reducible exact ih0 _ _)
      | (with_reducible exact ih1 _ _ _)
      | (with_reducible exact pergolaref17_pick.mono _ _ _ _ _)
      | (with_reducible exact LeO.refl _)
      | (with_reducible exact LeO.none _)
      | (with_reducible refine LeO.ite ?_ ?_)
      | (with_reducible refine LeO.bind ?_ (fun _ => ?_))
      | exact ih0 _ _
      | exact ih1 _ _ _
      | exact pergolaref17_pick.mono _ _ _ _ _
      | exact LeO.none _
      | refine LeO.ite ?_ ?_
      | refine LeO.bind ?_ (fun _ => ?_)
theorem pergolaref17_Print.mono : ∀ a0 k, LeO (pergolaref17_Print.f k a0) (pergolaref17_Print.f (k + 1) a0) := by
  intro a0 k
  obtain ⟨ih0, ih1⟩ := pergolaref17_Print.mono_l k
  unfold pergolaref17_Print.f
  repeat' first
      | (with_reducible exact ih0 _ _)
      | (with_reducible exact ih1 _ _ _)
      | (with_reducible exact pergolaref17_pick.mono _ _ _ _ _)
      | (with_reducible exact LeO.refl _)
      | (with_reducible exact LeO.none _)
      | (with_reducible refine LeO.ite ?_ ?_)
      | (with_reducible refine LeO.bind ?_ (fun _ => ?_))
      | exact ih0 _ _
      | exact ih1 _ _ _
      | exact pergolaref17_pick.mono _ _ _ _ _
      | exact LeO.none _
      | refine LeO.ite ?_ ?_
      | refine LeO.bind ?_ (fun _ => ?_)
set_option maxHeartbeats 8000000 in
set_option maxRecDepth 100000 in
theorem pergolaref17_Print.calls (k : Nat) (a0 : Int) (r1 : ByteArray) (r2 : Int) (w : World) (h : pergolaref17_Print.f k a0 = some (r1, r2)) :
    Calls Tryd.prog 21 #[.int .u32 a0] w fun e w' => e = .returned (.tuple #[.string r1, .int .i64 r2]) ∧ Below w.heap.size w w' := by
  have HB := Aside0.mk (Below.refl w.heap.size w)
  have H : ((pergolaref17_Check.f a0).bind fun t322 => (if t322 = 0 then (pergolaref17_Print.l0 k a0 0) else (some ((⟨#[]⟩ : ByteArray), 171)))) = some (r1, r2) := h
  clear h
  replace H := Option.bind_eq_some_iff.mp H
  obtain ⟨t322, A20, H⟩ := H
  replace H : (if t322 = 0 then (pergolaref17_Print.l0 k a0 0) else (some ((⟨#[]⟩ : ByteArray), 171))) = some (r1, r2) := H
  have A2 := Aside0.mk A20
  clear A20
  by_cases c3 : t322 = 0
  · rw [if_pos c3] at H
    have c3b0 : (t322 == 0) = true := beq_iff_eq.mpr c3
    have c3b1 : (t322 != 0) = false := bne_eq_false_iff_eq.mpr c3
    clear c3
    have H' := Aside0.mk H
    clear H
    go_enter Tryd.func21, Tryd.ntmps21
    go_wp2_with (first | ((with_reducible refine gate_callee (f := 26) rfl ?_); refine goesL_ (some 10) rfl rfl Tryd.func26 (by kernel_rfl) rfl #[.int .u32 a0] rfl (by (try simp only [List.map_toArray, List.map_cons, List.map_nil]); first | done | rfl | (simp only [List.length_drop, List.length_take]; rfl)) ?_; (with_reducible refine (pergolaref17_Check.calls a0 t322 _ A2.out).mono ?_); rintro e w' ⟨rfl, ⟨nd, rfl⟩⟩; refine ⟨_, rfl, ?_⟩))
    go_loopg [4] k (fun kq v4 w' => ∃ (x4_1 : Int), v4 = .int .i64 x4_1 ∧ Aside0 (pergolaref17_Print.l0 kq a0 x4_1 = some (r1, r2)) ∧ Aside0 (kq ≤ k) ∧ Aside0 (Below w.heap.size w w'))
    case atStart => exact ⟨(0), (by first | rfl | (simp; done) | (simp [*]; done)), H', ⟨Nat.le_refl _⟩, ⟨by repeat (first | (with_reducible first | exact HB.out | apply below_alloc | apply pw_below_drewN | apply below_drew1) | exact HB.out)⟩⟩
    case round =>
      clear H'
      try clear c2
      try clear p2
      try clear c3
      try clear c3b0
      try clear c3b1
      obtain ⟨x4_1, rfl, HA, HK1, HB⟩ := hrel
      cases gk with
      | zero => exact absurd HA.out (by simp [pergolaref17_Print.l0])
      | succ k1 =>
        have H := HA.out
        clear HA
        simp only [pergolaref17_Print.l0] at H
        replace H := Option.bind_eq_some_iff.mp H
        obtain ⟨t323, A40, H⟩ := H
        replace H : (if x4_1 ≤ (t323.length : Int) then ((pergolaref17_pick.f k1 65535 a0 0 x4_1).bind fun bt326 => (if bt326.2 = true then (pergolaref17_Print.l1 k1 bt326.1 (⟨#[]⟩ : ByteArray) 0) else (pergolaref17_Print.l0 k1 a0 (wrap64 (x4_1 + 1))))) else (some ((⟨#[]⟩ : ByteArray), 1))) = some (r1, r2) := H
        have A4 := Aside0.mk A40
        clear A40
        by_cases c5 : x4_1 ≤ (t323.length : Int)
        · rw [if_pos c5] at H
          have c5b0 : decide (x4_1 ≤ (t323.length : Int)) = true := decide_eq_true c5
          clear c5
          replace H := Option.bind_eq_some_iff.mp H
          obtain ⟨⟨t326, t327⟩, A60, H⟩ := H
          replace H : (if t327 = true then (pergolaref17_Print.l1 k1 t326 (⟨#[]⟩ : ByteArray) 0) else (pergolaref17_Print.l0 k1 a0 (wrap64 (x4_1 + 1)))) = some (r1, r2) := H
          have A6 := Aside0.mk A60
          clear A60
          by_cases c7 : t327 = true
          · subst c7
            have H1 : (pergolaref17_Print.l1 k1 t326 (⟨#[]⟩ : ByteArray) 0) = some (r1, r2) := by rw [if_pos rfl] at H; exact H
            clear H
            have H := H1
            clear H1
            have H' := Aside0.mk H
            clear H
            go_wp2_with (first | ((with_reducible refine gate_callee (f := 40) rfl ?_); refine goesL_ (some 13) rfl rfl Tryd.func40 (by kernel_rfl) rfl #[] rfl (by (try simp only [List.map_toArray, List.map_cons, List.map_nil]); first | done | rfl | (simp only [List.length_drop, List.length_take]; rfl)) ?_; (with_reducible refine (pergolaref17_Rows.calls  t323 _ A4.out).mono ?_); rintro e w8 ⟨v324, rfl, ho0, hb⟩; refine ⟨_, rfl, ?_⟩; have n0_ := Aside0.mk (Kd.N_lower (Kd.N_mono (ok' := fun k_ => True) ho0 (fun k_ hk_ => trivial)) (below_size (by repeat (first | (with_reducible first | exact HB.out | apply below_alloc | apply pw_below_drewN | apply below_drew1) | exact HB.out)))); have n1_ := Aside0.mk (below_step (by repeat (first | (with_reducible first | exact HB.out | apply below_alloc | apply pw_below_drewN | apply below_drew1) | exact HB.out)) hb); clear HB; have HO325 := n0_; have HB := n1_; clear n0_ n1_; (try clear hb); (try clear hb2); (try clear hk); (try clear hi); (try clear ho0); obtain ⟨Ao9, co9, eo9⟩ := Kd.N_slice HO325.out; subst eo9) | ((with_reducible refine gate_callee (f := 45) rfl ?_); refine goesL_ (some 21) rfl rfl Tryd.func45 (by kernel_rfl) rfl #[.int .u32 65535, .int .u32 a0, .int .i64 0, .int .i64 x4_1] rfl (by (try simp only [List.map_toArray, List.map_cons, List.map_nil]); first | done | rfl | (simp only [List.length_drop, List.length_take]; rfl)) ?_; (with_reducible refine (pergolaref17_pick.calls k1 65535 a0 0 x4_1 t326 true _ A6.out).mono ?_); rintro e w10 ⟨v328, rfl, ho0, hb⟩; refine ⟨_, rfl, ?_⟩; have n0_ := Aside0.mk (Kd.N_elder' (by (with_reducible repeat (first | apply Kd.N_alloc | apply Kd.N_drewN | apply Kd.N_drew)); exact HO325.out) (Kd.R_base ho0) hb); have n1_ := Aside0.mk (Kd.R_lower ho0 (below_size (by repeat (first | (with_reducible first | exact HB.out | apply below_alloc | apply pw_below_drewN | apply below_drew1) | exact HB.out)))); have n2_ := Aside0.mk (below_step (by repeat (first | (with_reducible first | exact HB.out | apply below_alloc | apply pw_below_drewN | apply below_drew1) | exact HB.out)) hb); clear HO325; clear HB; have HO325 := n0_; have HO329 := n1_; have HB := n2_; clear n0_ n1_ n2_; (try clear hb); (try clear hb2); (try clear hk); (try clear hi); (try clear ho0)))
            go_loopg [7, 8] k1 (fun kq v7 v8 w' => ∃ (x7_2 : ByteArray) (x8_2 : Int), v7 = .string x7_2 ∧ v8 = .int .i64 x8_2 ∧ Aside0 (pergolaref17_Print.l1 kq t326 x7_2 x8_2 = some (r1, r2)) ∧ Aside0 (kq ≤ k1) ∧ Aside0 (Kd.R Kd.string 9 w' w.heap.size (fun _ => True) v328 t326) ∧ Aside0 (Below w.heap.size w w'))
            case atStart => exact ⟨((⟨#[]⟩ : ByteArray)), (0), (by first | rfl | (simp; done) | (simp [*]; done)), (by first | rfl | (simp; done) | (simp [*]; done)), H', ⟨Nat.le_refl _⟩, ⟨by (with_reducible repeat (first | apply Kd.R_alloc | apply Kd.R_drewN | apply Kd.R_drew)); exact HO329.out⟩, ⟨by repeat (first | (with_reducible first | exact HB.out | apply below_alloc | apply pw_below_drewN | apply below_drew1) | exact HB.out)⟩⟩
            case round =>
              clear H'
              try clear c2
              try clear p2
              try clear c3
              try clear c3b0
              try clear c3b1
              try clear c4
              try clear c5
              try clear c5b0
              try clear p6
              try clear c7
              try clear p2
              obtain ⟨x7_2, x8_2, rfl, rfl, HA, HK2, HO_5, HB⟩ := hrel
              cases gk with
              | zero => exact absurd HA.out (by simp [pergolaref17_Print.l1])
              | succ k2 =>
                have H := HA.out
                clear HA
                simp only [pergolaref17_Print.l1] at H
                by_cases c11 : x8_2 < (t326.length : Int)
                · rw [if_pos c11] at H
                  have c11b0 : decide (x8_2 < (t326.length : Int)) = true := decide_eq_true c11
                  clear c11
                  by_cases c12 : x8_2 > 0
                  · rw [if_pos c12] at H
                    have c12b0 : decide (0 < x8_2) = true := decide_eq_true c12
                    clear c12
                    by_cases c13 : x7_2.size + 1 ≤ 9223372036854775807
                    · rw [if_pos c13] at H
                      have c13b0 := eq_true c13
                      have c13b1 : decide (x7_2.size + 1 ≤ 9223372036854775807) = true := decide_eq_true c13
                      try have c13b2 : (9223372036854775807 < x7_2.size + 1) = False := eq_false (Nat.not_lt.2 c13)
                      by_cases c14 : 0 ≤ x8_2
                      · rw [if_pos c14] at H
                        have c14b0 : decide (0 ≤ x8_2) = true := decide_eq_true c14
                        clear c14
                        by_cases c15 : (x7_2 ++ (⟨#[32]⟩ : ByteArray)).size + (rdOf ByteArray.empty t326 x8_2).size ≤ 9223372036854775807
                        · rw [if_pos c15] at H
                          have c15b0 := eq_true c15
                          have c15b1 : decide ((x7_2 ++ (⟨#[32]⟩ : ByteArray)).size + (rdOf ByteArray.empty t326 x8_2).size ≤ 9223372036854775807) = true := decide_eq_true c15
                          try have c15b2 : (9223372036854775807 < (x7_2 ++ (⟨#[32]⟩ : ByteArray)).size + (rdOf ByteArray.empty t326 x8_2).size) = False := eq_false (Nat.not_lt.2 c15)
                          try (have c15b3 := c15b2; simp only [ByteArray.size_append, show (⟨#[32]⟩ : ByteArray).size = 1 from rfl] at c15b3)
                          have H' := Aside0.mk H
                          clear H
                          obtain ⟨Ao16, co16, eo16⟩ := Kd.R_slice HO_5.out
                          subst eo16
                          have p330 : 0 ≤ (x8_2 : Int) := of_decide_eq_true (by first | (with_reducible assumption) | assumption)
                          have q330 : x8_2 < (t326.length : Int) := of_decide_eq_true (by first | (with_reducible assumption) | assumption)
                          obtain ⟨ad330, e330, hx330_0⟩ := Kd.at_string (Kd.R_reads' HO_5.out).2.2 x8_2 p330 q330
                          cases e330
                          replace p330 := eq_true p330
                          replace q330 := eq_true q330
                          go_wp2
                          go_roundg k2
                          case measure => have := HK1.out; have := HK2.out; omega
                          case rel => exact ⟨((x7_2 ++ (⟨#[32]⟩ : ByteArray)) ++ (rdOf ByteArray.empty t326 x8_2)), (wrap64 (x8_2 + 1)), (by first | rfl | (simp; done) | (simp [*]; done)), (by first | rfl | (simp; done) | (simp [*]; done)), H', ⟨by have := HK1.out; have := HK2.out; omega⟩, ⟨by (with_reducible repeat (first | apply Kd.R_alloc | apply Kd.R_drewN | apply Kd.R_drew)); exact HO_5.out⟩, ⟨by repeat (first | (with_reducible first | exact HB.out | apply below_alloc | apply pw_below_drewN | apply below_drew1) | exact HB.out)⟩⟩
                        · rw [if_neg c15] at H
                          exact absurd H (by simp)
                      · rw [if_neg c14] at H
                        exact absurd H (by simp)
                    · rw [if_neg c13] at H
                      exact absurd H (by simp)
                  · rw [if_neg c12] at H
                    have c12b0 : decide (0 < x8_2) = false := decide_eq_false c12
                    clear c12
                    by_cases c17 : 0 ≤ x8_2
                    · rw [if_pos c17] at H
                      have c17b0 : decide (0 ≤ x8_2) = true := decide_eq_true c17
                      clear c17
                      by_cases c18 : x7_2.size + (rdOf ByteArray.empty t326 x8_2).size ≤ 9223372036854775807
                      · rw [if_pos c18] at H
                        have c18b0 := eq_true c18
                        have c18b1 : decide (x7_2.size + (rdOf ByteArray.empty t326 x8_2).size ≤ 9223372036854775807) = true := decide_eq_true c18
                        try have c18b2 : (9223372036854775807 < x7_2.size + (rdOf ByteArray.empty t326 x8_2).size) = False := eq_false (Nat.not_lt.2 c18)
                        have H' := Aside0.mk H
                        clear H
                        obtain ⟨Ao19, co19, eo19⟩ := Kd.R_slice HO_5.out
                        subst eo19
                        have p331 : 0 ≤ (x8_2 : Int) := of_decide_eq_true (by first | (with_reducible assumption) | assumption)
                        have q331 : x8_2 < (t326.length : Int) := of_decide_eq_true (by first | (with_reducible assumption) | assumption)
                        obtain ⟨ad331, e331, hx331_0⟩ := Kd.at_string (Kd.R_reads' HO_5.out).2.2 x8_2 p331 q331
                        cases e331
                        replace p331 := eq_true p331
                        replace q331 := eq_true q331
                        go_wp2
                        go_roundg k2
                        case measure => have := HK1.out; have := HK2.out; omega
                        case rel => exact ⟨(x7_2 ++ (rdOf ByteArray.empty t326 x8_2)), (wrap64 (x8_2 + 1)), (by first | rfl | (simp; done) | (simp [*]; done)), (by first | rfl | (simp; done) | (simp [*]; done)), H', ⟨by have := HK1.out; have := HK2.out; omega⟩, ⟨by (with_reducible repeat (first | apply Kd.R_alloc | apply Kd.R_drewN | apply Kd.R_drew)); exact HO_5.out⟩, ⟨by repeat (first | (with_reducible first | exact HB.out | apply below_alloc | apply pw_below_drewN | apply below_drew1) | exact HB.out)⟩⟩
                      · rw [if_neg c18] at H
                        exact absurd H (by simp)
                    · rw [if_neg c17] at H
                      exact absurd H (by simp)
                · rw [if_neg c11] at H
                  have c11b0 : decide (x8_2 < (t326.length : Int)) = false := decide_eq_false c11
                  clear c11
                  simp only [Option.some.injEq, Prod.mk.injEq] at H
                  obtain ⟨rfl, rfl⟩ := H
                  obtain ⟨Ao20, co20, eo20⟩ := Kd.R_slice HO_5.out
                  subst eo20
                  go_wp2
                  go_ret2
                  exact ⟨by first | rfl | (simp [errW_none, errW_some] <;> rfl) | (simp [*, errW_none, errW_some] <;> rfl), by repeat (first | (with_reducible first | exact HB.out | apply below_alloc | apply pw_below_drewN | apply below_drew1) | exact HB.out)⟩
          · replace c7 := Bool.eq_false_iff.mpr c7
            subst c7
            have H1 : (pergolaref17_Print.l0 k1 a0 (wrap64 (x4_1 + 1))) = some (r1, r2) := by rw [if_neg (show ¬ (false = true) by decide)] at H; exact H
            clear H
            have H := H1
            clear H1
            have H' := Aside0.mk H
            clear H
            go_wp2_with (first | ((with_reducible refine gate_callee (f := 40) rfl ?_); refine goesL_ (some 13) rfl rfl Tryd.func40 (by kernel_rfl) rfl #[] rfl (by (try simp only [List.map_toArray, List.map_cons, List.map_nil]); first | done | rfl | (simp only [List.length_drop, List.length_take]; rfl)) ?_; (with_reducible refine (pergolaref17_Rows.calls  t323 _ A4.out).mono ?_); rintro e w21 ⟨v324, rfl, ho0, hb⟩; refine ⟨_, rfl, ?_⟩; have n0_ := Aside0.mk (Kd.N_lower (Kd.N_mono (ok' := fun k_ => True) ho0 (fun k_ hk_ => trivial)) (below_size (by repeat (first | (with_reducible first | exact HB.out | apply below_alloc | apply pw_below_drewN | apply below_drew1) | exact HB.out)))); have n1_ := Aside0.mk (below_step (by repeat (first | (with_reducible first | exact HB.out | apply below_alloc | apply pw_below_drewN | apply below_drew1) | exact HB.out)) hb); clear HB; have HO325 := n0_; have HB := n1_; clear n0_ n1_; (try clear hb); (try clear hb2); (try clear hk); (try clear hi); (try clear ho0); obtain ⟨Ao22, co22, eo22⟩ := Kd.N_slice HO325.out; subst eo22) | ((with_reducible refine gate_callee (f := 45) rfl ?_); refine goesL_ (some 21) rfl rfl Tryd.func45 (by kernel_rfl) rfl #[.int .u32 65535, .int .u32 a0, .int .i64 0, .int .i64 x4_1] rfl (by (try simp only [List.map_toArray, List.map_cons, List.map_nil]); first | done | rfl | (simp only [List.length_drop, List.length_take]; rfl)) ?_; (with_reducible refine (pergolaref17_pick.calls k1 65535 a0 0 x4_1 t326 false _ A6.out).mono ?_); rintro e w23 ⟨v328, rfl, ho0, hb⟩; refine ⟨_, rfl, ?_⟩; have n0_ := Aside0.mk (Kd.N_elder' (by (with_reducible repeat (first | apply Kd.N_alloc | apply Kd.N_drewN | apply Kd.N_drew)); exact HO325.out) (Kd.R_base ho0) hb); have n1_ := Aside0.mk (Kd.R_lower ho0 (below_size (by repeat (first | (with_reducible first | exact HB.out | apply below_alloc | apply pw_below_drewN | apply below_drew1) | exact HB.out)))); have n2_ := Aside0.mk (below_step (by repeat (first | (with_reducible first | exact HB.out | apply below_alloc | apply pw_below_drewN | apply below_drew1) | exact HB.out)) hb); clear HO325; clear HB; have HO325 := n0_; have HO329 := n1_; have HB := n2_; clear n0_ n1_ n2_; (try clear hb); (try clear hb2); (try clear hk); (try clear hi); (try clear ho0)))
            go_roundg k1
            case measure => have := HK1.out; omega
            case rel => exact ⟨(wrap64 (x4_1 + 1)), (by first | rfl | (simp; done) | (simp [*]; done)), H', ⟨by have := HK1.out; omega⟩, ⟨by repeat (first | (with_reducible first | exact HB.out | apply below_alloc | apply pw_below_drewN | apply below_drew1) | exact HB.out)⟩⟩
        · rw [if_neg c5] at H
          have c5b0 : decide (x4_1 ≤ (t323.length : Int)) = false := decide_eq_false c5
          clear c5
          simp only [Option.some.injEq, Prod.mk.injEq] at H
          obtain ⟨rfl, rfl⟩ := H
          go_wp2_with (first | ((with_reducible refine gate_callee (f := 40) rfl ?_); refine goesL_ (some 13) rfl rfl Tryd.func40 (by kernel_rfl) rfl #[] rfl (by (try simp only [List.map_toArray, List.map_cons, List.map_nil]); first | done | rfl | (simp only [List.length_drop, List.length_take]; rfl)) ?_; (with_reducible refine (pergolaref17_Rows.calls  t323 _ A4.out).mono ?_); rintro e w24 ⟨v324, rfl, ho0, hb⟩; refine ⟨_, rfl, ?_⟩; have n0_ := Aside0.mk (Kd.N_lower (Kd.N_mono (ok' := fun k_ => True) ho0 (fun k_ hk_ => trivial)) (below_size (by repeat (first | (with_reducible first | exact HB.out | apply below_alloc | apply pw_below_drewN | apply below_drew1) | exact HB.out)))); have n1_ := Aside0.mk (below_step (by repeat (first | (with_reducible first | exact HB.out | apply below_alloc | apply pw_below_drewN | apply below_drew1) | exact HB.out)) hb); clear HB; have HO325 := n0_; have HB := n1_; clear n0_ n1_; (try clear hb); (try clear hb2); (try clear hk); (try clear hi); (try clear ho0); obtain ⟨Ao25, co25, eo25⟩ := Kd.N_slice HO325.out; subst eo25))
          go_ret2
          exact ⟨by first | rfl | (simp [errW_none, errW_some] <;> rfl) | (simp [*, errW_none, errW_some] <;> rfl), by repeat (first | (with_reducible first | exact HB.out | apply below_alloc | apply pw_below_drewN | apply below_drew1) | exact HB.out)⟩
  · rw [if_neg c3] at H
    have c3b0 : (t322 == 0) = false := beq_eq_false_iff_ne.mpr c3
    have c3b1 : (t322 != 0) = true := bne_iff_ne.mpr c3
    simp only [Option.some.injEq, Prod.mk.injEq] at H
    obtain ⟨rfl, rfl⟩ := H
    go_enter Tryd.func21, Tryd.ntmps21
    go_wp2_with (first | ((with_reducible refine gate_callee (f := 26) rfl ?_); refine goesL_ (some 10) rfl rfl Tryd.func26 (by kernel_rfl) rfl #[.int .u32 a0] rfl (by (try simp only [List.map_toArray, List.map_cons, List.map_nil]); first | done | rfl | (simp only [List.length_drop, List.length_take]; rfl)) ?_; (with_reducible refine (pergolaref17_Check.calls a0 t322 _ A2.out).mono ?_); rintro e w' ⟨rfl, ⟨nd, rfl⟩⟩; refine ⟨_, rfl, ?_⟩))
    go_ret2
    exact ⟨by first | rfl | (simp [errW_none, errW_some] <;> rfl) | (simp [*, errW_none, errW_some] <;> rfl), by repeat (first | (with_reducible first | exact HB.out | apply below_alloc | apply pw_below_drewN | apply below_drew1) | exact HB.out)⟩

/-! ### pergolaref17_Join: function 22 -/
def pergolaref17_Join.f (a0 : Int) (a1 : Int) : Option (Int × Int) := (pergolaref17_Check.f a0).bind fun t332 => (if t332 = 0 then ((pergolaref17_Check.f a1).bind fun t333 => (if t333 = 0 then (some (Go.bits .or .u32 a0 a1, 0)) else (some (0, 171)))) else (some (0, 171)))
set_option maxHeartbeats 8000000 in
set_option maxRecDepth 100000 in
theorem pergolaref17_Join.calls (a0 : Int) (a1 : Int) (r1 : Int) (r2 : Int) (w : World) (h : pergolaref17_Join.f a0 a1 = some (r1, r2)) :
    Calls Tryd.prog 22 #[.int .u32 a0, .int .u32 a1] w fun e w' => e = .returned (.tuple #[.int .u32 r1, .int .i64 r2]) ∧ Drawn0 w w' := by
  have H : ((pergolaref17_Check.f a0).bind fun t332 => (if t332 = 0 then ((pergolaref17_Check.f a1).bind fun t333 => (if t333 = 0 then (some (Go.bits .or .u32 a0 a1, 0)) else (some (0, 171)))) else (some (0, 171)))) = some (r1, r2) := h
  clear h
  replace H := Option.bind_eq_some_iff.mp H
  obtain ⟨t332, A30, H⟩ := H
  replace H : (if t332 = 0 then ((pergolaref17_Check.f a1).bind fun t333 => (if t333 = 0 then (some (Go.bits .or .u32 a0 a1, 0)) else (some (0, 171)))) else (some (0, 171))) = some (r1, r2) := H
  have A3 := Aside0.mk A30
  clear A30
  by_cases c4 : t332 = 0
  · rw [if_pos c4] at H
    have c4b0 : (t332 == 0) = true := beq_iff_eq.mpr c4
    have c4b1 : (t332 != 0) = false := bne_eq_false_iff_eq.mpr c4
    clear c4
    replace H := Option.bind_eq_some_iff.mp H
    obtain ⟨t333, A50, H⟩ := H
    replace H : (if t333 = 0 then (some (Go.bits .or .u32 a0 a1, 0)) else (some (0, 171))) = some (r1, r2) := H
    have A5 := Aside0.mk A50
    clear A50
    by_cases c6 : t333 = 0
    · rw [if_pos c6] at H
      have c6b0 : (t333 == 0) = true := beq_iff_eq.mpr c6
      have c6b1 : (t333 != 0) = false := bne_eq_false_iff_eq.mpr c6
      clear c6
      simp only [Option.some.injEq, Prod.mk.injEq] at H
      obtain ⟨rfl, rfl⟩ := H
      go_enter Tryd.func22, Tryd.ntmps22
      go_wp2_with (first | ((with_reducible refine gate_callee (f := 26) rfl ?_); refine goesL_ (some 7) rfl rfl Tryd.func26 (by kernel_rfl) rfl #[.int .u32 a0] rfl (by (try simp only [List.map_toArray, List.map_cons, List.map_nil]); first | done | rfl | (simp only [List.length_drop, List.length_take]; rfl)) ?_; (with_reducible refine (pergolaref17_Check.calls a0 t332 _ A3.out).mono ?_); rintro e w' ⟨rfl, ⟨nd, rfl⟩⟩; refine ⟨_, rfl, ?_⟩) | (go_at_call 26; (with_reducible refine (pergolaref17_Check.calls a1 t333 _ A5.out).mono ?_); rintro e w' ⟨rfl, ⟨nd, rfl⟩⟩))
      go_ret2
      exact ⟨by first | rfl | (simp; done) | (simp [*]; done), by repeat (first | exact Drawn0.refl _ | apply Drawn0.step)⟩
    · rw [if_neg c6] at H
      have c6b0 : (t333 == 0) = false := beq_eq_false_iff_ne.mpr c6
      have c6b1 : (t333 != 0) = true := bne_iff_ne.mpr c6
      simp only [Option.some.injEq, Prod.mk.injEq] at H
      obtain ⟨rfl, rfl⟩ := H
      go_enter Tryd.func22, Tryd.ntmps22
      go_wp2_with (first | ((with_reducible refine gate_callee (f := 26) rfl ?_); refine goesL_ (some 7) rfl rfl Tryd.func26 (by kernel_rfl) rfl #[.int .u32 a0] rfl (by (try simp only [List.map_toArray, List.map_cons, List.map_nil]); first | done | rfl | (simp only [List.length_drop, List.length_take]; rfl)) ?_; (with_reducible refine (pergolaref17_Check.calls a0 t332 _ A3.out).mono ?_); rintro e w' ⟨rfl, ⟨nd, rfl⟩⟩; refine ⟨_, rfl, ?_⟩) | (go_at_call 26; (with_reducible refine (pergolaref17_Check.calls a1 t333 _ A5.out).mono ?_); rintro e w' ⟨rfl, ⟨nd, rfl⟩⟩))
      go_ret2
      exact ⟨by first | rfl | (simp; done) | (simp [*]; done), by repeat (first | exact Drawn0.refl _ | apply Drawn0.step)⟩
  · rw [if_neg c4] at H
    have c4b0 : (t332 == 0) = false := beq_eq_false_iff_ne.mpr c4
    have c4b1 : (t332 != 0) = true := bne_iff_ne.mpr c4
    simp only [Option.some.injEq, Prod.mk.injEq] at H
    obtain ⟨rfl, rfl⟩ := H
    go_enter Tryd.func22, Tryd.ntmps22
    go_wp2_with (first | ((with_reducible refine gate_callee (f := 26) rfl ?_); refine goesL_ (some 7) rfl rfl Tryd.func26 (by kernel_rfl) rfl #[.int .u32 a0] rfl (by (try simp only [List.map_toArray, List.map_cons, List.map_nil]); first | done | rfl | (simp only [List.length_drop, List.length_take]; rfl)) ?_; (with_reducible refine (pergolaref17_Check.calls a0 t332 _ A3.out).mono ?_); rintro e w' ⟨rfl, ⟨nd, rfl⟩⟩; refine ⟨_, rfl, ?_⟩))
    go_ret2
    exact ⟨by first | rfl | (simp; done) | (simp [*]; done), by repeat (first | exact Drawn0.refl _ | apply Drawn0.step)⟩

/-! ### given: pergola/sandbox.Names -/
-- USES pergola/sandbox.Check
-- INFO 9
def sandbox_Names.l0 : Nat → Int → List ByteArray → List ByteArray → Int → Option (List ByteArray × Int)
  | 0, _, _, _, _ => none
  | k + 1, x0, x5, x13, x14 => if x14 < 16 then (if 0 ≤ x14 then (if x14 < (x13.length : Int) then (if (Go.bits .and .u32 (shr .u32 x0 x14) 1) = 1 then (if x5.length < 8796093022208 then (sandbox_Names.l0 k x0 (x5 ++ [rdOf ByteArray.empty x13 x14]) x13 (wrap64 (x14 + 1))) else (none)) else (sandbox_Names.l0 k x0 x5 x13 (wrap64 (x14 + 1)))) else (none)) else (none)) else (some (x5, 0))
def sandbox_Names.f (k : Nat) (a0 : Int) : Option (List ByteArray × Int) := (sandbox_Check.f a0).bind fun t334 => (if t334 = 0 then (sandbox_Names.l0 k a0 ([] : List ByteArray) flgTab 0) else (some (([] : List ByteArray), t334)))
theorem sandbox_Names.mono_l : ∀ k, (∀ y0 y1 y2 y3, LeO (sandbox_Names.l0 k y0 y1 y2 y3) (sandbox_Names.l0 (k + 1) y0 y1 y2 y3))
  | 0 => fun _ _ _ _ r h => by simp [sandbox_Names.l0] at h
  | k + 1 => by
    have ih0 := sandbox_Names.mono_l k
    · intro y0 y1 y2 y3
      unfold sandbox_Names.l0
      repeat' first
      | (with_reducible exact ih0 _ _ _ _)
      | (with_reducible exact LeO.refl _)
      | (with_reducible exact LeO.none _)
      | (with_reducible refine LeO.ite ?_ ?_)
      | (with_reducible refine LeO.bind ?_ (fun _ => ?_))
      | exact ih0 _ _ _ _
      | exact LeO.none _
      | refine LeO.ite ?_ ?_
      | refine LeO.bind ?_ (fun _ => ?_)
theorem sandbox_Names.mono : ∀ a0 k, LeO (sandbox_Names.f k a0) (sandbox_Names.f (k + 1) a0) := by
  intro a0 k
  have ih0 := sandbox_Names.mono_l k
  unfold sandbox_Names.f
  repeat' first
      | (with_reducible exact ih0 _ _ _ _)
      | (with_reducible exact LeO.refl _)
      | (with_reducible exact LeO.none _)
      | (with_reducible refine LeO.ite ?_ ?_)
      | (with_reducible refine LeO.bind ?_ (fun _ => ?_))
      | exact ih0 _ _ _ _
      | exact LeO.none _
      | refine LeO.ite ?_ ?_
      | refine LeO.bind ?_ (fun _ => ?_)
set_option maxHeartbeats 8000000 in
set_option maxRecDepth 100000 in
theorem sandbox_Names.calls (k : Nat) (a0 : Int) (r1 : List ByteArray) (r2 : Int) (w : World) (hU_ : FlgIs w) (h : sandbox_Names.f k a0 = some (r1, r2)) :
    Calls Tryd.prog 23 #[.int .u32 a0] w fun e w' => ∃ v0_ : Value, e = .returned (.tuple #[v0_, .int .i64 r2]) ∧ Kd.R Kd.string 9 w' w.heap.size (fun _ => True) v0_ r1 ∧ Below w.heap.size w w' := by
  have HU0_ := Aside0.mk hU_
  clear hU_
  have HB := Aside0.mk (Below.refl w.heap.size w)
  have H : ((sandbox_Check.f a0).bind fun t334 => (if t334 = 0 then (sandbox_Names.l0 k a0 ([] : List ByteArray) flgTab 0) else (some (([] : List ByteArray), t334)))) = some (r1, r2) := h
  clear h
  replace H := Option.bind_eq_some_iff.mp H
  obtain ⟨t334, A30, H⟩ := H
  replace H : (if t334 = 0 then (sandbox_Names.l0 k a0 ([] : List ByteArray) flgTab 0) else (some (([] : List ByteArray), t334))) = some (r1, r2) := H
  have A3 := Aside0.mk A30
  clear A30
  by_cases c4 : t334 = 0
  · rw [if_pos c4] at H
    have c4b0 : (t334 == 0) = true := beq_iff_eq.mpr c4
    have c4b1 : (t334 != 0) = false := bne_eq_false_iff_eq.mpr c4
    clear c4
    have H' := Aside0.mk H
    clear H
    go_enter Tryd.func23, Tryd.ntmps23
    go_wp2_with (first | ((with_reducible refine gate_callee (f := 25) rfl ?_); refine goesL_ (some 9) rfl rfl Tryd.func25 (by kernel_rfl) rfl #[.int .u32 a0] rfl (by (try simp only [List.map_toArray, List.map_cons, List.map_nil]); first | done | rfl | (simp only [List.length_drop, List.length_take]; rfl)) ?_; (with_reducible refine (sandbox_Check.calls a0 t334 _ A3.out).mono ?_); rintro e w' ⟨rfl, ⟨nd, rfl⟩⟩; refine ⟨_, rfl, ?_⟩) | ((with_reducible refine gate_dst (N := 13) rfl ?_); refine flg_load_event rfl _ rfl rfl (FlgIs.below HU0_.out (by repeat (first | (with_reducible first | exact HB.out | apply below_alloc | apply pw_below_drewN | apply below_drew1) | exact HB.out))) ?_))
    go_loopg [5, 14] k (fun kq v5 v14 w' => ∃ (x5_1 : List ByteArray) (x14_1 : Int), v14 = .int .i64 x14_1 ∧ Aside0 (sandbox_Names.l0 kq a0 x5_1 flgTab x14_1 = some (r1, r2)) ∧ Aside0 (kq ≤ k) ∧ Aside0 (Kd.R Kd.string 9 w' w.heap.size (fun _ => True) v5 x5_1) ∧ Aside0 (Below w.heap.size w w'))
    case atStart => exact ⟨(([] : List ByteArray)), (0), (by first | rfl | (simp; done) | (simp [*]; done)), H', ⟨Nat.le_refl _⟩, ⟨by first | exact Kd.R_nil _ _ _ _ _ | exact Kd.N_nil _ _ _ _ _ | exact Kd.V_nil _ _ _ _ _ | exact Kd.Q_nil _ _ _ _ _ | exact Kd.S_nil _ _ _ _ _⟩, ⟨by repeat (first | (with_reducible first | exact HB.out | apply below_alloc | apply pw_below_drewN | apply below_drew1) | exact HB.out)⟩⟩
    case round =>
      clear H'
      try clear c1
      try clear c2
      try clear p2
      try clear c4
      try clear c4b0
      try clear c4b1
      obtain ⟨x5_1, x14_1, rfl, HA, HK1, HO_5, HB⟩ := hrel
      cases gk with
      | zero => exact absurd HA.out (by simp [sandbox_Names.l0])
      | succ k1 =>
        have H := HA.out
        clear HA
        simp only [sandbox_Names.l0] at H
        by_cases c5 : x14_1 < 16
        · rw [if_pos c5] at H
          have c5b0 : decide (x14_1 < 16) = true := decide_eq_true c5
          clear c5
          by_cases c6 : 0 ≤ x14_1
          · rw [if_pos c6] at H
            have c6b0 : decide (0 ≤ x14_1) = true := decide_eq_true c6
            clear c6
            by_cases c7 : x14_1 < (flgTab.length : Int)
            · rw [if_pos c7] at H
              have c7b0 : decide (x14_1 < (flgTab.length : Int)) = true := decide_eq_true c7
              clear c7
              have c8b0 := eq_true (of_decide_eq_true (by first | (with_reducible assumption) | assumption) : 0 ≤ x14_1)
              obtain ⟨ji9, hji9⟩ : ∃ j_ : Int, (shr .u32 a0 x14_1) = j_ := ⟨_, rfl⟩
              replace H : (if (Go.bits .and .u32 (ji9) 1) = 1 then (if x5_1.length < 8796093022208 then (sandbox_Names.l0 k1 a0 (x5_1 ++ [rdOf ByteArray.empty flgTab x14_1]) flgTab (wrap64 (x14_1 + 1))) else (none)) else (sandbox_Names.l0 k1 a0 x5_1 flgTab (wrap64 (x14_1 + 1)))) = some (r1, r2) := by first | (rw [hji9] at H; exact H) | (simp only [hji9] at H ⊢; exact H)
              have hji9_ : (a0 / 2 ^ min x14_1.toNat 32) = ji9 := hji9
              have hji9z : x14_1 ≤ 32 → (a0 / 2 ^ x14_1.toNat) = ji9 := shr_small hji9
              by_cases c10 : (Go.bits .and .u32 (ji9) 1) = 1
              · rw [if_pos c10] at H
                have c10b0 : ((Go.bits .and .u32 (ji9) 1) == 1) = true := beq_iff_eq.mpr c10
                have c10b1 : ((Go.bits .and .u32 (ji9) 1) != 1) = false := bne_eq_false_iff_eq.mpr c10
                clear c10
                by_cases c11 : x5_1.length < 8796093022208
                · rw [if_pos c11] at H
                  have LMc11 := Aside0.mk c11
                  clear c11
                  obtain ⟨y336, hy336⟩ : ∃ y_ : List ByteArray, y_ = (x5_1 ++ [rdOf ByteArray.empty flgTab x14_1]) := ⟨_, rfl⟩
                  replace H : (sandbox_Names.l0 k1 a0 y336 flgTab (wrap64 (x14_1 + 1))) = some (r1, r2) := by first | (rw [hy336]; with_reducible exact H) | (have H2_ := (Option.bind_some _ _).symm.trans H; rw [hy336]; with_reducible exact H2_) | (have H2_ := (Option.bind_some _ _).symm.trans H; with_reducible exact H2_) | with_reducible exact H | (rw [hy336]; exact H) | exact H
                  have Ny336 := Aside0.mk hy336
                  clear hy336
                  have H' := Aside0.mk H
                  clear H
                  have HP335 := Aside0.mk (show 0 ≤ x14_1 from of_decide_eq_true (by first | (with_reducible assumption) | assumption))
                  have HQ335 := Aside0.mk (show x14_1 < 16 from of_decide_eq_true c5b0)
                  go_wp2_with (first | ((with_reducible refine gate_dst (N := 17) rfl ?_); refine flg_idx_event rfl _ _ rfl rfl _ rfl HP335.out HQ335.out ?_) | ((with_reducible refine gate_builtin (b := .append) (xs := #[.tmp 23, .tmp 25]) rfl ?_); at_builtin; refine Kd.R_append Kd.string (w0 := w) w.heap.size rfl (.tmp 23) (.tmp 25) 29 9 (.string ⟨#[]⟩) 16 rfl Tryd.underlying29 info9 rfl (by decide) (by omega) u5 x5_1 (rdOf ByteArray.empty flgTab x14_1) [.string (rdOf ByteArray.empty flgTab x14_1)] (fun _ => True) (fun _ => False) rfl rfl ?aP (fun _ hk => hk.elim) ?aF ?aO ?aB ?aS ?aL ?_; (case aP => exact rfl); (case aB => exact (by repeat (first | (with_reducible first | exact HB.out | apply below_alloc | apply pw_below_drewN | apply below_drew1) | exact HB.out))); (case aF => exact (fun _ _ => trivial)); (case aO => exact (by (with_reducible repeat (first | apply Kd.R_alloc | apply Kd.R_drewN | apply Kd.R_drew)); exact HO_5.out)); (case aS => exact (below_size (by repeat (first | (with_reducible first | exact HB.out | apply below_alloc | apply pw_below_drewN | apply below_drew1) | exact HB.out)))); (case aL => have := LMc11.out; omega); intro v337 w12 ho hb hg hat; rw [← Ny336.out] at ho; have n0_ := Aside0.mk (hb); have n1_ := Aside0.mk (ho); clear HB; clear HO_5; have HB := n0_; have HO338 := n1_; clear n0_ n1_; clear ho hb hg hat))
                  go_roundg k1
                  case measure => have := HK1.out; omega
                  case rel => exact ⟨(y336), (wrap64 (x14_1 + 1)), (by first | rfl | (simp; done) | (simp [*]; done)), H', ⟨by have := HK1.out; omega⟩, ⟨by (with_reducible repeat (first | apply Kd.R_alloc | apply Kd.R_drewN | apply Kd.R_drew)); exact HO338.out⟩, ⟨by repeat (first | (with_reducible first | exact HB.out | apply below_alloc | apply pw_below_drewN | apply below_drew1) | exact HB.out)⟩⟩
                · rw [if_neg c11] at H
                  exact absurd H (by simp)
              · rw [if_neg c10] at H
                have c10b0 : ((Go.bits .and .u32 (ji9) 1) == 1) = false := beq_eq_false_iff_ne.mpr c10
                have c10b1 : ((Go.bits .and .u32 (ji9) 1) != 1) = true := bne_iff_ne.mpr c10
                have H' := Aside0.mk H
                clear H
                have HP335 := Aside0.mk (show 0 ≤ x14_1 from of_decide_eq_true (by first | (with_reducible assumption) | assumption))
                have HQ335 := Aside0.mk (show x14_1 < 16 from of_decide_eq_true c5b0)
                go_wp2_with (first | ((with_reducible refine gate_dst (N := 17) rfl ?_); refine flg_idx_event rfl _ _ rfl rfl _ rfl HP335.out HQ335.out ?_))
                go_roundg k1
                case measure => have := HK1.out; omega
                case rel => exact ⟨(x5_1), (wrap64 (x14_1 + 1)), (by first | rfl | (simp; done) | (simp [*]; done)), H', ⟨by have := HK1.out; omega⟩, ⟨by (with_reducible repeat (first | apply Kd.R_alloc | apply Kd.R_drewN | apply Kd.R_drew)); exact HO_5.out⟩, ⟨by repeat (first | (with_reducible first | exact HB.out | apply below_alloc | apply pw_below_drewN | apply below_drew1) | exact HB.out)⟩⟩
            · rw [if_neg c7] at H
              exact absurd H (by simp)
          · rw [if_neg c6] at H
            exact absurd H (by simp)
        · rw [if_neg c5] at H
          have c5b0 : decide (x14_1 < 16) = false := decide_eq_false c5
          clear c5
          simp only [Option.some.injEq, Prod.mk.injEq] at H
          obtain ⟨rfl, rfl⟩ := H
          go_wp2
          go_ret2
          exact ⟨_, by first | rfl | (simp [errW_none, errW_some] <;> rfl) | (simp [*, errW_none, errW_some] <;> rfl), by (with_reducible repeat (first | apply Kd.R_alloc | apply Kd.R_drewN | apply Kd.R_drew)); exact HO_5.out, by repeat (first | (with_reducible first | exact HB.out | apply below_alloc | apply pw_below_drewN | apply below_drew1) | exact HB.out)⟩
  · rw [if_neg c4] at H
    have c4b0 : (t334 == 0) = false := beq_eq_false_iff_ne.mpr c4
    have c4b1 : (t334 != 0) = true := bne_iff_ne.mpr c4
    simp only [Option.some.injEq, Prod.mk.injEq] at H
    obtain ⟨rfl, rfl⟩ := H
    go_enter Tryd.func23, Tryd.ntmps23
    go_wp2_with (first | ((with_reducible refine gate_callee (f := 25) rfl ?_); refine goesL_ (some 9) rfl rfl Tryd.func25 (by kernel_rfl) rfl #[.int .u32 a0] rfl (by (try simp only [List.map_toArray, List.map_cons, List.map_nil]); first | done | rfl | (simp only [List.length_drop, List.length_take]; rfl)) ?_; (with_reducible refine (sandbox_Check.calls a0 t334 _ A3.out).mono ?_); rintro e w' ⟨rfl, ⟨nd, rfl⟩⟩; refine ⟨_, rfl, ?_⟩))
    go_ret2
    exact ⟨_, by first | rfl | (simp [errW_none, errW_some] <;> rfl) | (simp [*, errW_none, errW_some] <;> rfl), by first | exact Kd.R_nil _ _ _ _ _ | exact Kd.N_nil _ _ _ _ _ | exact Kd.V_nil _ _ _ _ _ | exact Kd.Q_nil _ _ _ _ _ | exact Kd.S_nil _ _ _ _ _, by repeat (first | (with_reducible first | exact HB.out | apply below_alloc | apply pw_below_drewN | apply below_drew1) | exact HB.out)⟩

/-! ### pergolaref17_Name: function 46 -/
def pergolaref17_Name.f (a0 : Int) : Option (ByteArray) := (some (([(⟨#[102, 111, 114, 109, 115]⟩ : ByteArray), (⟨#[109, 111, 100, 97, 108, 115]⟩ : ByteArray), (⟨#[111, 114, 105, 101, 110, 116, 97, 116, 105, 111, 110]⟩ : ByteArray), (⟨#[112, 111, 105, 110, 116, 101, 114]⟩ : ByteArray), (⟨#[112, 111, 112, 117, 112, 115]⟩ : ByteArray), (⟨#[112, 114, 111, 112, 97, 103, 97, 116, 101, 115]⟩ : ByteArray), (⟨#[112, 114, 101, 115, 101, 110, 116, 97, 116, 105, 111, 110]⟩ : ByteArray), (⟨#[111, 114, 105, 103, 105, 110]⟩ : ByteArray), (⟨#[115, 99, 114, 105, 112, 116, 115]⟩ : ByteArray), (⟨#[102, 101, 97, 116, 117, 114, 101, 115]⟩ : ByteArray), (⟨#[115, 116, 111, 114, 97, 103, 101]⟩ : ByteArray), (⟨#[116, 111, 112]⟩ : ByteArray), (⟨#[116, 111, 112, 45, 117, 115, 101, 114]⟩ : ByteArray), (⟨#[112, 114, 111, 116, 111, 99, 111, 108, 115]⟩ : ByteArray), (⟨#[100, 111, 119, 110, 108, 111, 97, 100, 115]⟩ : ByteArray), (⟨#[110, 97, 118, 105, 103, 97, 116, 105, 111, 110]⟩ : ByteArray)] : List ByteArray) : List ByteArray)).bind fun y334 => (if 0 ≤ a0 then (if a0 < (y334.length : Int) then (some (rdOf ByteArray.empty y334 a0)) else (none)) else (none))
set_option maxHeartbeats 8000000 in
set_option maxRecDepth 100000 in
theorem pergolaref17_Name.calls (a0 : Int) (r : ByteArray) (w : World) (h : pergolaref17_Name.f a0 = some r) :
    Calls Tryd.prog 46 #[.int .i64 a0] w fun e w' => e = .returned (.string r) ∧ Below w.heap.size w w' := by
  have HB := Aside0.mk (Below.refl w.heap.size w)
  have H : ((some (([(⟨#[102, 111, 114, 109, 115]⟩ : ByteArray), (⟨#[109, 111, 100, 97, 108, 115]⟩ : ByteArray), (⟨#[111, 114, 105, 101, 110, 116, 97, 116, 105, 111, 110]⟩ : ByteArray), (⟨#[112, 111, 105, 110, 116, 101, 114]⟩ : ByteArray), (⟨#[112, 111, 112, 117, 112, 115]⟩ : ByteArray), (⟨#[112, 114, 111, 112, 97, 103, 97, 116, 101, 115]⟩ : ByteArray), (⟨#[112, 114, 101, 115, 101, 110, 116, 97, 116, 105, 111, 110]⟩ : ByteArray), (⟨#[111, 114, 105, 103, 105, 110]⟩ : ByteArray), (⟨#[115, 99, 114, 105, 112, 116, 115]⟩ : ByteArray), (⟨#[102, 101, 97, 116, 117, 114, 101, 115]⟩ : ByteArray), (⟨#[115, 116, 111, 114, 97, 103, 101]⟩ : ByteArray), (⟨#[116, 111, 112]⟩ : ByteArray), (⟨#[116, 111, 112, 45, 117, 115, 101, 114]⟩ : ByteArray), (⟨#[112, 114, 111, 116, 111, 99, 111, 108, 115]⟩ : ByteArray), (⟨#[100, 111, 119, 110, 108, 111, 97, 100, 115]⟩ : ByteArray), (⟨#[110, 97, 118, 105, 103, 97, 116, 105, 111, 110]⟩ : ByteArray)] : List ByteArray) : List ByteArray)).bind fun y334 => (if 0 ≤ a0 then (if a0 < (y334.length : Int) then (some (rdOf ByteArray.empty y334 a0)) else (none)) else (none))) = some r := h
  clear h
  obtain ⟨y334, hy334⟩ : ∃ y_ : List ByteArray, y_ = (([(⟨#[102, 111, 114, 109, 115]⟩ : ByteArray), (⟨#[109, 111, 100, 97, 108, 115]⟩ : ByteArray), (⟨#[111, 114, 105, 101, 110, 116, 97, 116, 105, 111, 110]⟩ : ByteArray), (⟨#[112, 111, 105, 110, 116, 101, 114]⟩ : ByteArray), (⟨#[112, 111, 112, 117, 112, 115]⟩ : ByteArray), (⟨#[112, 114, 111, 112, 97, 103, 97, 116, 101, 115]⟩ : ByteArray), (⟨#[112, 114, 101, 115, 101, 110, 116, 97, 116, 105, 111, 110]⟩ : ByteArray), (⟨#[111, 114, 105, 103, 105, 110]⟩ : ByteArray), (⟨#[115, 99, 114, 105, 112, 116, 115]⟩ : ByteArray), (⟨#[102, 101, 97, 116, 117, 114, 101, 115]⟩ : ByteArray), (⟨#[115, 116, 111, 114, 97, 103, 101]⟩ : ByteArray), (⟨#[116, 111, 112]⟩ : ByteArray), (⟨#[116, 111, 112, 45, 117, 115, 101, 114]⟩ : ByteArray), (⟨#[112, 114, 111, 116, 111, 99, 111, 108, 115]⟩ : ByteArray), (⟨#[100, 111, 119, 110, 108, 111, 97, 100, 115]⟩ : ByteArray), (⟨#[110, 97, 118, 105, 103, 97, 116, 105, 111, 110]⟩ : ByteArray)] : List ByteArray)) := ⟨_, rfl⟩
  replace H : (if 0 ≤ a0 then (if a0 < (y334.length : Int) then (some (rdOf ByteArray.empty y334 a0)) else (none)) else (none)) = some r := by first | (rw [hy334]; with_reducible exact H) | (have H2_ := (Option.bind_some _ _).symm.trans H; rw [hy334]; with_reducible exact H2_) | (have H2_ := (Option.bind_some _ _).symm.trans H; with_reducible exact H2_) | with_reducible exact H | (rw [hy334]; exact H) | exact H
  have Ny334 := Aside0.mk hy334
  clear hy334
  by_cases c2 : 0 ≤ a0
  · rw [if_pos c2] at H
    have c2b0 : decide (0 ≤ a0) = true := decide_eq_true c2
    clear c2
    by_cases c3 : a0 < (y334.length : Int)
    · rw [if_pos c3] at H
      have c3b0 : decide (a0 < (y334.length : Int)) = true := decide_eq_true c3
      clear c3
      obtain rfl := Option.some.inj H
      go_enter Tryd.func46, Tryd.ntmps46
      go_wp2_with (first | ((with_reducible refine gate_dst (N := 3) rfl ?_); refine Kd.R_lit Kd.string _ 9 ?hg (N := 3) ?hd (xs := ([(⟨#[102, 111, 114, 109, 115]⟩ : ByteArray), (⟨#[109, 111, 100, 97, 108, 115]⟩ : ByteArray), (⟨#[111, 114, 105, 101, 110, 116, 97, 116, 105, 111, 110]⟩ : ByteArray), (⟨#[112, 111, 105, 110, 116, 101, 114]⟩ : ByteArray), (⟨#[112, 111, 112, 117, 112, 115]⟩ : ByteArray), (⟨#[112, 114, 111, 112, 97, 103, 97, 116, 101, 115]⟩ : ByteArray), (⟨#[112, 114, 101, 115, 101, 110, 116, 97, 116, 105, 111, 110]⟩ : ByteArray), (⟨#[111, 114, 105, 103, 105, 110]⟩ : ByteArray), (⟨#[115, 99, 114, 105, 112, 116, 115]⟩ : ByteArray), (⟨#[102, 101, 97, 116, 117, 114, 101, 115]⟩ : ByteArray), (⟨#[115, 116, 111, 114, 97, 103, 101]⟩ : ByteArray), (⟨#[116, 111, 112]⟩ : ByteArray), (⟨#[116, 111, 112, 45, 117, 115, 101, 114]⟩ : ByteArray), (⟨#[112, 114, 111, 116, 111, 99, 111, 108, 115]⟩ : ByteArray), (⟨#[100, 111, 119, 110, 108, 111, 97, 100, 115]⟩ : ByteArray), (⟨#[110, 97, 118, 105, 103, 97, 116, 105, 111, 110]⟩ : ByteArray)] : List ByteArray)) (inner := [.string (⟨#[102, 111, 114, 109, 115]⟩ : ByteArray), .string (⟨#[109, 111, 100, 97, 108, 115]⟩ : ByteArray), .string (⟨#[111, 114, 105, 101, 110, 116, 97, 116, 105, 111, 110]⟩ : ByteArray), .string (⟨#[112, 111, 105, 110, 116, 101, 114]⟩ : ByteArray), .string (⟨#[112, 111, 112, 117, 112, 115]⟩ : ByteArray), .string (⟨#[112, 114, 111, 112, 97, 103, 97, 116, 101, 115]⟩ : ByteArray), .string (⟨#[112, 114, 101, 115, 101, 110, 116, 97, 116, 105, 111, 110]⟩ : ByteArray), .string (⟨#[111, 114, 105, 103, 105, 110]⟩ : ByteArray), .string (⟨#[115, 99, 114, 105, 112, 116, 115]⟩ : ByteArray), .string (⟨#[102, 101, 97, 116, 117, 114, 101, 115]⟩ : ByteArray), .string (⟨#[115, 116, 111, 114, 97, 103, 101]⟩ : ByteArray), .string (⟨#[116, 111, 112]⟩ : ByteArray), .string (⟨#[116, 111, 112, 45, 117, 115, 101, 114]⟩ : ByteArray), .string (⟨#[112, 114, 111, 116, 111, 99, 111, 108, 115]⟩ : ByteArray), .string (⟨#[100, 111, 119, 110, 108, 111, 97, 100, 115]⟩ : ByteArray), .string (⟨#[110, 97, 118, 105, 103, 97, 116, 105, 111, 110]⟩ : ByteArray)]) (ok := fun _ => True) (okp := fun _ => True) ?hr ?hp (fun _ hk => hk) trivial (Below.refl _ _) (Nat.le_refl _) (by simp) ?_; (case hd => rfl); (case hg => rfl); (case hr => first | (go_simp; done) | (go_simp; rfl)); (case hp => exact (Reps.one (show Kd.M Kd.string _ _ _ (⟨#[102, 111, 114, 109, 115]⟩ : ByteArray) [.string (⟨#[102, 111, 114, 109, 115]⟩ : ByteArray)] from rfl) (Reps.one (show Kd.M Kd.string _ _ _ (⟨#[109, 111, 100, 97, 108, 115]⟩ : ByteArray) [.string (⟨#[109, 111, 100, 97, 108, 115]⟩ : ByteArray)] from rfl) (Reps.one (show Kd.M Kd.string _ _ _ (⟨#[111, 114, 105, 101, 110, 116, 97, 116, 105, 111, 110]⟩ : ByteArray) [.string (⟨#[111, 114, 105, 101, 110, 116, 97, 116, 105, 111, 110]⟩ : ByteArray)] from rfl) (Reps.one (show Kd.M Kd.string _ _ _ (⟨#[112, 111, 105, 110, 116, 101, 114]⟩ : ByteArray) [.string (⟨#[112, 111, 105, 110, 116, 101, 114]⟩ : ByteArray)] from rfl) (Reps.one (show Kd.M Kd.string _ _ _ (⟨#[112, 111, 112, 117, 112, 115]⟩ : ByteArray) [.string (⟨#[112, 111, 112, 117, 112, 115]⟩ : ByteArray)] from rfl) (Reps.one (show Kd.M Kd.string _ _ _ (⟨#[112, 114, 111, 112, 97, 103, 97, 116, 101, 115]⟩ : ByteArray) [.string (⟨#[112, 114, 111, 112, 97, 103, 97, 116, 101, 115]⟩ : ByteArray)] from rfl) (Reps.one (show Kd.M Kd.string _ _ _ (⟨#[112, 114, 101, 115, 101, 110, 116, 97, 116, 105, 111, 110]⟩ : ByteArray) [.string (⟨#[112, 114, 101, 115, 101, 110, 116, 97, 116, 105, 111, 110]⟩ : ByteArray)] from rfl) (Reps.one (show Kd.M Kd.string _ _ _ (⟨#[111, 114, 105, 103, 105, 110]⟩ : ByteArray) [.string (⟨#[111, 114, 105, 103, 105, 110]⟩ : ByteArray)] from rfl) (Reps.one (show Kd.M Kd.string _ _ _ (⟨#[115, 99, 114, 105, 112, 116, 115]⟩ : ByteArray) [.string (⟨#[115, 99, 114, 105, 112, 116, 115]⟩ : ByteArray)] from rfl) (Reps.one (show Kd.M Kd.string _ _ _ (⟨#[102, 101, 97, 116, 117, 114, 101, 115]⟩ : ByteArray) [.string (⟨#[102, 101, 97, 116, 117, 114, 101, 115]⟩ : ByteArray)] from rfl) (Reps.one (show Kd.M Kd.string _ _ _ (⟨#[115, 116, 111, 114, 97, 103, 101]⟩ : ByteArray) [.string (⟨#[115, 116, 111, 114, 97, 103, 101]⟩ : ByteArray)] from rfl) (Reps.one (show Kd.M Kd.string _ _ _ (⟨#[116, 111, 112]⟩ : ByteArray) [.string (⟨#[116, 111, 112]⟩ : ByteArray)] from rfl) (Reps.one (show Kd.M Kd.string _ _ _ (⟨#[116, 111, 112, 45, 117, 115, 101, 114]⟩ : ByteArray) [.string (⟨#[116, 111, 112, 45, 117, 115, 101, 114]⟩ : ByteArray)] from rfl) (Reps.one (show Kd.M Kd.string _ _ _ (⟨#[112, 114, 111, 116, 111, 99, 111, 108, 115]⟩ : ByteArray) [.string (⟨#[112, 114, 111, 116, 111, 99, 111, 108, 115]⟩ : ByteArray)] from rfl) (Reps.one (show Kd.M Kd.string _ _ _ (⟨#[100, 111, 119, 110, 108, 111, 97, 100, 115]⟩ : ByteArray) [.string (⟨#[100, 111, 119, 110, 108, 111, 97, 100, 115]⟩ : ByteArray)] from rfl) (Reps.one (show Kd.M Kd.string _ _ _ (⟨#[110, 97, 118, 105, 103, 97, 116, 105, 111, 110]⟩ : ByteArray) [.string (⟨#[110, 97, 118, 105, 103, 97, 116, 105, 111, 110]⟩ : ByteArray)] from rfl) (Reps.none _ _)))))))))))))))))); intro v335 w4 ho5 hb hg_ hnew_; clear hg_ hnew_; (first | rw [← Ny334.out] at ho5 | (simp only [Int.reduceToNat] at ho5; rw [← Ny334.out] at ho5)); have n0_ := Aside0.mk (Kd.R_lower ho5 (below_size (by repeat (first | (with_reducible first | exact HB.out | apply below_alloc | apply pw_below_drewN | apply below_drew1) | exact HB.out)))); have n1_ := Aside0.mk (below_step (by repeat (first | (with_reducible first | exact HB.out | apply below_alloc | apply pw_below_drewN | apply below_drew1) | exact HB.out)) hb); clear HB; have HO336 := n0_; have HB := n1_; clear n0_ n1_; clear hb ho5; obtain ⟨Ao6, co6, eo6⟩ := Kd.R_slice HO336.out; subst eo6; have p337 : 0 ≤ (a0 : Int) := of_decide_eq_true (by first | (with_reducible assumption) | assumption); have q337 : a0 < (y334.length : Int) := of_decide_eq_true (by first | (with_reducible assumption) | assumption); obtain ⟨ad337, e337, hx337_0⟩ := Kd.at_string (Kd.R_reads' HO336.out).2.2 a0 p337 q337; cases e337; replace p337 := eq_true p337; replace q337 := eq_true q337))
      go_ret
      exact ⟨by first | rfl | (simp [errW_none, errW_some] <;> rfl) | (simp [*, errW_none, errW_some] <;> rfl), by repeat (first | (with_reducible first | exact HB.out | apply below_alloc | apply pw_below_drewN | apply below_drew1) | exact HB.out)⟩
    · rw [if_neg c3] at H
      exact absurd H (by simp)
  · rw [if_neg c2] at H
    exact absurd H (by simp)

end Go.Proofs.YtlaiggkgflbjhaaDoor.X
