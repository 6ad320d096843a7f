-- Written by wip/xprint.py for this seat
import Derived.Test.YtlaiggkgflbjhaaDoorX0
import Derived.Test.YtlaiggkgflbjhaaDoorX3
namespace Go.Proofs.YtlaiggkgflbjhaaDoor.X
open Go.RowKit Go.Proofs.YtlaiggkgflbjhaaDoorW.PrintWords Go.Proofs.YtlaiggkgflbjhaaDoorW.PrintLast Go.Proofs.YtlaiggkgflbjhaaDoorW.PrintMore
attribute [local go_sem] max2_int min2_int max_two min_two max_three min_three max_four min_four   -- for this text's walks alone
set_option linter.unusedVariables false
set_option linter.unusedSimpArgs false

/-! ### octets_Words: function 13 -/
mutual
def octets_Words.l0 : Nat → ByteArray → List ByteArray → Int → Int → Int → Option (List ByteArray)
  | 0, _, _, _, _, _ => none
  | k + 1, x0, x3, x4, x9, x10 => if x10 < x9 then (if x10 = (x0.size : Int) then (octets_Words.j1 k x0 x3 x4 x10 true x9 x10) else (if 0 ≤ x10 then (if x10 < (x0.size : Int) then ((strings_IndexByte.f (⟨#[9, 10, 12, 13, 32]⟩ : ByteArray) (bt x0 x10)).bind fun t104 => (octets_Words.j1 k x0 x3 x4 x10 (decide (t104 ≥ 0)) x9 x10)) else (none)) else (none))) else (some x3)
def octets_Words.j1 : Nat → ByteArray → List ByteArray → Int → Int → Bool → Int → Int → Option (List ByteArray)
  | 0, _, _, _, _, _, _, _ => none
  | k + 1, x0, x3, x4, x5, x6, x9, x10 => if x6 = true then (octets_Words.j2 k x0 x3 x4 x5 x6 x9 x10 (decide (x4 ≥ 0))) else (octets_Words.j2 k x0 x3 x4 x5 x6 x9 x10 false)
def octets_Words.j2 : Nat → ByteArray → List ByteArray → Int → Int → Bool → Int → Int → Bool → Option (List ByteArray)
  | 0, _, _, _, _, _, _, _, _ => none
  | k + 1, x0, x3, x4, x5, x6, x9, x10, x24 => if x24 = true then (if 0 ≤ x4 then (if x4 ≤ x5 then (if x5 ≤ (x0.size : Int) then (if x3.length < 8796093022208 then (octets_Words.l0 k x0 (x3 ++ [x0.extract (x4 : Int).toNat (x5 : Int).toNat]) (-1) x9 (wrap64 (x10 + 1))) else (none)) else (none)) else (none)) else (none)) else (if x6 = true then (octets_Words.l0 k x0 x3 x4 x9 (wrap64 (x10 + 1))) else (if x4 < 0 then (octets_Words.l0 k x0 x3 x5 x9 (wrap64 (x10 + 1))) else (octets_Words.l0 k x0 x3 x4 x9 (wrap64 (x10 + 1)))))
end
def octets_Words.f (k : Nat) (a0 : ByteArray) : Option (List ByteArray) := octets_Words.l0 k a0 ([] : List ByteArray) (-1) (wrap64 ((a0.size : Int) + 1)) 0
theorem octets_Words.mono_l : ∀ k, (∀ y0 y1 y2 y3 y4, LeO (octets_Words.l0 k y0 y1 y2 y3 y4) (octets_Words.l0 (k + 1) y0 y1 y2 y3 y4)) ∧ (∀ y0 y1 y2 y3 y4 y5 y6, LeO (octets_Words.j1 k y0 y1 y2 y3 y4 y5 y6) (octets_Words.j1 (k + 1) y0 y1 y2 y3 y4 y5 y6)) ∧ (∀ y0 y1 y2 y3 y4 y5 y6 y7, LeO (octets_Words.j2 k y0 y1 y2 y3 y4 y5 y6 y7) (octets_Words.j2 (k + 1) y0 y1 y2 y3 y4 y5 y6 y7))
  | 0 => ⟨fun _ _ _ _ _ r h => by simp [octets_Words.l0] at h, fun _ _ _ _ _ _ _ r h => by simp [octets_Words.j1] at h, fun _ _ _ _ _ _ _ _ r h => by simp [octets_Words.j2] at h⟩
  | k + 1 => by
    obtain ⟨ih0, ih1, ih2⟩ := octets_Words.mono_l k
    refine ⟨?_, ?_, ?_⟩
    · intro y0 y1 y2 y3 y4
      unfold octets_Words.l0
      repeat' first
      | (with_reducible exact ih0 _ _ _ _ _)
      | (with_reducible exact ih1 _ _ _ _ _ _ _)
      | (with_reducible exact ih2 _ _ _ _ _ _ _ _)
      | (with_reducible exact LeO.refl _)
      | (with_reducible exact LeO.none _)
      | (with_reducible refine LeO.ite ?_ ?_)
      | (with_reducible refine LeO.bind ?_ (fun _ => ?_))
      | exact ih0 _ _ _ _ _
      | exact ih1 _ _ _ _ _ _ _
      | exact ih2 _ _ _ _ _ _ _ _
      | exact LeO.none _
      | refine LeO.ite ?_ ?_
      | refine LeO.bind ?_ (fun _ => ?_)
    · intro y0 y1 y2 y3 y4 y5 y6
      unfold octets_Words.j1
      repeat' first
      | (with_reducible exact ih0 _ _ _ _ _)
      | (with_reducible exact ih1 _ _ _ _ _ _ _)
      | (with_reducible exact ih2 _ _ _ _ _ _ _ _)
      | (with_reducible exact LeO.refl _)
      | (with_reducible exact LeO.none _)
      | (with_reducible refine LeO.ite ?_ ?_)
      | (with_reducible refine LeO.bind ?_ (fun _ => ?_))
      | exact ih0 _ _ _ _ _
      | exact ih1 _ _ _ _ _ _ _
      | exact ih2 _ _ _ _ _ _ _ _
      | exact LeO.none _
      | refine LeO.ite ?_ ?_
      | refine LeO.bind ?_ (fun _ => ?_)
    · intro y0 y1 y2 y3 y4 y5 y6 y7
      unfold octets_Words.j2
      repeat' first
      | (with_reducible exact ih0 _ _ _ _ _)
      | (with_reducible exact ih1 _ _ _ _ _ _ _)
      | (with_reducible exact ih2 _ _ _ _ _ _ _ _)
      | (with_reducible exact LeO.refl _)
      | (with_reducible exact LeO.none _)
      | (with_reducible refine LeO.ite ?_ ?_)
      | (with_reducible refine LeO.bind ?_ (fun _ => ?_))
      | exact ih0 _ _ _ _ _
      | exact ih1 _ _ _ _ _ _ _
      | exact ih2 _ _ _ _ _ _ _ _
      | exact LeO.none _
      | refine LeO.ite ?_ ?_
      | refine LeO.bind ?_ (fun _ => ?_)
theorem octets_Words.mono : ∀ a0 k, LeO (octets_Words.f k a0) (octets_Words.f (k + 1) a0) := by
  intro a0 k
  obtain ⟨ih0, ih1, ih2⟩ := octets_Words.mono_l k
  unfold octets_Words.f
  repeat' first
      | (with_reducible exact ih0 _ _ _ _ _)
      | (with_reducible exact ih1 _ _ _ _ _ _ _)
      | (with_reducible exact ih2 _ _ _ _ _ _ _ _)
      | (with_reducible exact LeO.refl _)
      | (with_reducible exact LeO.none _)
      | (with_reducible refine LeO.ite ?_ ?_)
      | (with_reducible refine LeO.bind ?_ (fun _ => ?_))
      | exact ih0 _ _ _ _ _
      | exact ih1 _ _ _ _ _ _ _
      | exact ih2 _ _ _ _ _ _ _ _
      | exact LeO.none _
      | refine LeO.ite ?_ ?_
      | refine LeO.bind ?_ (fun _ => ?_)
set_option maxHeartbeats 8000000 in
set_option maxRecDepth 100000 in
theorem octets_Words.calls (k : Nat) (a0 : ByteArray) (r : List ByteArray) (w : World) (h : octets_Words.f k a0 = some r) :
    Calls Tryd.prog 13 #[.string a0] w fun e w' => ∃ v0_ : Value, e = .returned (v0_) ∧ Kd.R Kd.string 9 w' w.heap.size (fun _ => True) v0_ r ∧ Below w.heap.size w w' := by
  have HB := Aside0.mk (Below.refl w.heap.size w)
  have H : (octets_Words.l0 k a0 ([] : List ByteArray) (-1) (wrap64 ((a0.size : Int) + 1)) 0) = some r := h
  clear h
  have H' := Aside0.mk H
  clear H
  go_enter Tryd.func13, Tryd.ntmps13
  go_wp2
  go_loopg [3, 4, 10] k (fun kq v3 v4 v10 w' => ∃ (x3_1 : List ByteArray) (x4_1 : Int) (x10_1 : Int), v4 = .int .i64 x4_1 ∧ v10 = .int .i64 x10_1 ∧ Aside0 (octets_Words.l0 kq a0 x3_1 x4_1 (wrap64 ((a0.size : Int) + 1)) x10_1 = some r) ∧ Aside0 (kq ≤ k) ∧ Aside0 (Kd.R Kd.string 9 w' w.heap.size (fun _ => True) v3 x3_1) ∧ Aside0 (Below w.heap.size w w'))
  case atStart => exact ⟨(([] : List ByteArray)), ((-1)), (0), (by first | rfl | (simp; done) | (simp [*]; done)), (by first | rfl | (simp; done) | (simp [*]; done)), H', ⟨Nat.le_refl _⟩, ⟨by first | exact Kd.R_nil _ _ _ _ _ | exact Kd.N_nil _ _ _ _ _ | exact Kd.V_nil _ _ _ _ _ | exact Kd.Q_nil _ _ _ _ _ | exact Kd.S_nil _ _ _ _ _⟩, ⟨by repeat (first | (with_reducible first | exact HB.out | apply below_alloc | apply pw_below_drewN | apply below_drew1) | exact HB.out)⟩⟩
  case round =>
    clear H'
    try clear c1
    obtain ⟨x3_1, x4_1, x10_1, rfl, rfl, HA, HK1, HO_3, HB⟩ := hrel
    cases gk with
    | zero => exact absurd HA.out (by simp [octets_Words.l0])
    | succ k1 =>
      have H := HA.out
      clear HA
      simp only [octets_Words.l0] at H
      by_cases c2 : x10_1 < (wrap64 ((a0.size : Int) + 1))
      · rw [if_pos c2] at H
        have c2b0 : decide (x10_1 < (wrap64 ((a0.size : Int) + 1))) = true := decide_eq_true c2
        clear c2
        have HC3 := Aside0.mk H
        clear H
        go_upto_region 6 with (fail)
        go_cut [6] (fun v6 wc => ∃ (kq : Nat) (x6_2 : Bool), v6 = .bool x6_2 ∧ Aside0 (octets_Words.j1 kq a0 x3_1 x4_1 x10_1 x6_2 (wrap64 ((a0.size : Int) + 1)) x10_1 = some r) ∧ Aside0 (kq ≤ k1) ∧ Aside0 (Kd.R Kd.string 9 wc w.heap.size (fun _ => True) u3 x3_1) ∧ Aside0 (Below w.heap.size w wc))
        case first =>
          have H := HC3.out
          clear HC3
          by_cases c4 : x10_1 = (a0.size : Int)
          · rw [if_pos c4] at H
            have c4b0 : (x10_1 == (a0.size : Int)) = true := beq_iff_eq.mpr c4
            have c4b1 : (x10_1 != (a0.size : Int)) = false := bne_eq_false_iff_eq.mpr c4
            clear c4
            (first | rw [c4b0] | (simp only [i64_w, i32_w]; rw [c4b0]) | skip)
            have H' := Aside0.mk H
            clear H
            go_wp2
            go_meet
            case rel => exact ⟨_, (true), (by first | rfl | (simp; done) | (simp [*]; done)), H', ⟨by have := HK1.out; first | omega | exact Nat.le_refl _⟩, ⟨by (with_reducible repeat (first | apply Kd.R_alloc | apply Kd.R_drewN | apply Kd.R_drew)); exact HO_3.out⟩, ⟨by repeat (first | (with_reducible first | exact HB.out | apply below_alloc | apply pw_below_drewN | apply below_drew1) | exact HB.out)⟩⟩
          · rw [if_neg c4] at H
            have c4b0 : (x10_1 == (a0.size : Int)) = false := beq_eq_false_iff_ne.mpr c4
            have c4b1 : (x10_1 != (a0.size : Int)) = true := bne_iff_ne.mpr c4
            (first | rw [c4b0] | (simp only [i64_w, i32_w]; rw [c4b0]) | skip)
            by_cases c5 : 0 ≤ x10_1
            · rw [if_pos c5] at H
              have c5b0 : decide (0 ≤ x10_1) = true := decide_eq_true c5
              clear c5
              by_cases c6 : x10_1 < (a0.size : Int)
              · rw [if_pos c6] at H
                have c6b0 : decide (x10_1 < (a0.size : Int)) = true := decide_eq_true c6
                clear c6
                replace H := Option.bind_eq_some_iff.mp H
                obtain ⟨t104, A80, H⟩ := H
                replace H : (octets_Words.j1 k1 a0 x3_1 x4_1 x10_1 (decide (t104 ≥ 0)) (wrap64 ((a0.size : Int) + 1)) x10_1) = some r := H
                have A8 := Aside0.mk A80
                clear A80
                have H' := Aside0.mk H
                clear H
                have p7 : 0 ≤ (x10_1 : Int) := of_decide_eq_true (by first | (with_reducible assumption) | assumption)
                have q7 : x10_1 < (a0.size : Int) := of_decide_eq_true (by first | (with_reducible assumption) | assumption)
                have hx7 := bt_at a0 x10_1
                replace p7 := eq_true p7
                replace q7 := eq_true q7
                go_wp2_with (first | (go_at_call 37; (with_reducible refine (strings_IndexByte.calls (⟨#[9, 10, 12, 13, 32]⟩ : ByteArray) (bt a0 x10_1) t104 _ A8.out).mono ?_); rintro e w' ⟨rfl, ⟨nd, rfl⟩⟩))
                go_meet
                case rel => exact ⟨_, (decide (t104 ≥ 0)), (by first | rfl | (simp; done) | (simp [*]; done)), H', ⟨by have := HK1.out; first | omega | exact Nat.le_refl _⟩, ⟨by (with_reducible repeat (first | apply Kd.R_alloc | apply Kd.R_drewN | apply Kd.R_drew)); exact HO_3.out⟩, ⟨by repeat (first | (with_reducible first | exact HB.out | apply below_alloc | apply pw_below_drewN | apply below_drew1) | exact HB.out)⟩⟩
              · rw [if_neg c6] at H
                exact absurd H (by simp)
            · rw [if_neg c5] at H
              exact absurd H (by simp)
        case rest =>
          clear HC3
          try clear c1
          try clear c2
          try clear c2b0
          try clear p2
          try clear c4
          try clear c4b0
          try clear c4b1
          try clear c5
          try clear c5b0
          try clear c6
          try clear c6b0
          try clear p6
          try clear p7
          try clear q7
          try clear hx7
          try clear p7
          try clear q7
          obtain ⟨kq, x6_2, rfl, HA, HJ2, HO_3, HB⟩ := hcut
          cases kq with
          | zero => exact absurd HA.out (by simp [octets_Words.j1])
          | succ kj2 =>
            have H := HA.out
            clear HA
            simp only [octets_Words.j1] at H
            have HC9 := Aside0.mk H
            clear H
            go_upto_region 7 with (fail)
            go_cut [24] (fun v24 wc => ∃ (kq : Nat) (x24_8 : Bool), v24 = .bool x24_8 ∧ Aside0 (octets_Words.j2 kq a0 x3_1 x4_1 x10_1 x6_2 (wrap64 ((a0.size : Int) + 1)) x10_1 x24_8 = some r) ∧ Aside0 (kq ≤ kj2) ∧ Aside0 (Kd.R Kd.string 9 wc w.heap.size (fun _ => True) u3 x3_1) ∧ Aside0 (Below w.heap.size w wc))
            case first =>
              have H := HC9.out
              clear HC9
              by_cases c10 : x6_2 = true
              · subst c10
                have H1 : (octets_Words.j2 kj2 a0 x3_1 x4_1 x10_1 true (wrap64 ((a0.size : Int) + 1)) x10_1 (decide (x4_1 ≥ 0))) = some r := by rw [if_pos rfl] at H; exact H
                clear H
                have H := H1
                clear H1
                have H' := Aside0.mk H
                clear H
                go_wp2
                go_meet
                case rel => exact ⟨_, (decide (x4_1 ≥ 0)), (by first | rfl | (simp; done) | (simp [*]; done)), H', ⟨by have := HK1.out; have := HJ2.out; first | omega | exact Nat.le_refl _⟩, ⟨by (with_reducible repeat (first | apply Kd.R_alloc | apply Kd.R_drewN | apply Kd.R_drew)); exact HO_3.out⟩, ⟨by repeat (first | (with_reducible first | exact HB.out | apply below_alloc | apply pw_below_drewN | apply below_drew1) | exact HB.out)⟩⟩
              · replace c10 := Bool.eq_false_iff.mpr c10
                subst c10
                have H1 : (octets_Words.j2 kj2 a0 x3_1 x4_1 x10_1 false (wrap64 ((a0.size : Int) + 1)) x10_1 false) = some r := by rw [if_neg (show ¬ (false = true) by decide)] at H; exact H
                clear H
                have H := H1
                clear H1
                have H' := Aside0.mk H
                clear H
                go_wp2
                go_meet
                case rel => exact ⟨_, (false), (by first | rfl | (simp; done) | (simp [*]; done)), H', ⟨by have := HK1.out; have := HJ2.out; first | omega | exact Nat.le_refl _⟩, ⟨by (with_reducible repeat (first | apply Kd.R_alloc | apply Kd.R_drewN | apply Kd.R_drew)); exact HO_3.out⟩, ⟨by repeat (first | (with_reducible first | exact HB.out | apply below_alloc | apply pw_below_drewN | apply below_drew1) | exact HB.out)⟩⟩
            case rest =>
              clear HC9
              try clear c1
              try clear c2
              try clear c2b0
              try clear p2
              try clear c4
              try clear c4b0
              try clear c4b1
              try clear c5
              try clear c5b0
              try clear c6
              try clear c6b0
              try clear p6
              try clear p7
              try clear q7
              try clear hx7
              try clear c10
              try clear p2
              try clear p6
              try clear p7
              try clear q7
              obtain ⟨kq, x24_8, rfl, HA, HJ8, HO_3, HB⟩ := hcut
              cases kq with
              | zero => exact absurd HA.out (by simp [octets_Words.j2])
              | succ kj8 =>
                have H := HA.out
                clear HA
                simp only [octets_Words.j2] at H
                by_cases c11 : x24_8 = true
                · subst c11
                  have H1 : (if 0 ≤ x4_1 then (if x4_1 ≤ x10_1 then (if x10_1 ≤ (a0.size : Int) then (if x3_1.length < 8796093022208 then (octets_Words.l0 kj8 a0 (x3_1 ++ [a0.extract (x4_1 : Int).toNat (x10_1 : Int).toNat]) (-1) (wrap64 ((a0.size : Int) + 1)) (wrap64 (x10_1 + 1))) else (none)) else (none)) else (none)) else (none)) = some r := by rw [if_pos rfl] at H; exact H
                  clear H
                  have H := H1
                  clear H1
                  by_cases c12 : 0 ≤ x4_1
                  · rw [if_pos c12] at H
                    have c12b0 := eq_true c12
                    have c12b1 : decide (0 ≤ x4_1) = true := decide_eq_true c12
                    clear c12
                    by_cases c13 : x4_1 ≤ x10_1
                    · rw [if_pos c13] at H
                      have c13b0 := eq_true c13
                      have c13b1 : decide (x4_1 ≤ x10_1) = true := decide_eq_true c13
                      clear c13
                      by_cases c14 : x10_1 ≤ (a0.size : Int)
                      · rw [if_pos c14] at H
                        have c14b0 := eq_true c14
                        have c14b1 : decide (x10_1 ≤ (a0.size : Int)) = true := decide_eq_true c14
                        clear c14
                        by_cases c15 : x3_1.length < 8796093022208
                        · rw [if_pos c15] at H
                          have LMc15 := Aside0.mk c15
                          clear c15
                          obtain ⟨y105, hy105⟩ : ∃ y_ : List ByteArray, y_ = (x3_1 ++ [a0.extract (x4_1 : Int).toNat (x10_1 : Int).toNat]) := ⟨_, rfl⟩
                          replace H : (octets_Words.l0 kj8 a0 y105 (-1) (wrap64 ((a0.size : Int) + 1)) (wrap64 (x10_1 + 1))) = some r := by first | (rw [hy105]; with_reducible exact H) | (have H2_ := (Option.bind_some _ _).symm.trans H; rw [hy105]; with_reducible exact H2_) | (have H2_ := (Option.bind_some _ _).symm.trans H; with_reducible exact H2_) | with_reducible exact H | (rw [hy105]; exact H) | exact H
                          have Ny105 := Aside0.mk hy105
                          clear hy105
                          have H' := Aside0.mk H
                          clear H
                          go_wp2_with (first | ((with_reducible refine gate_builtin (b := .append) (xs := #[.tmp 30, .tmp 35]) rfl ?_); at_builtin; refine Kd.R_append Kd.string (w0 := w) w.heap.size rfl (.tmp 30) (.tmp 35) 29 9 (.string ⟨#[]⟩) 16 rfl Tryd.underlying29 info9 rfl (by decide) (by omega) u3 x3_1 (a0.extract (x4_1 : Int).toNat (x10_1 : Int).toNat) [.string (a0.extract (x4_1 : Int).toNat (x10_1 : Int).toNat)] (fun _ => True) (fun _ => False) rfl rfl ?aP (fun _ hk => hk.elim) ?aF ?aO ?aB ?aS ?aL ?_; (case aP => exact rfl); (case aB => exact (by repeat (first | (with_reducible first | exact HB.out | apply below_alloc | apply pw_below_drewN | apply below_drew1) | exact HB.out))); (case aF => exact (fun _ _ => trivial)); (case aO => exact (by (with_reducible repeat (first | apply Kd.R_alloc | apply Kd.R_drewN | apply Kd.R_drew)); exact HO_3.out)); (case aS => exact (below_size (by repeat (first | (with_reducible first | exact HB.out | apply below_alloc | apply pw_below_drewN | apply below_drew1) | exact HB.out)))); (case aL => have := LMc15.out; omega); intro v106 w16 ho hb hg hat; rw [← Ny105.out] at ho; have n0_ := Aside0.mk (hb); have n1_ := Aside0.mk (ho); clear HB; clear HO_3; have HB := n0_; have HO107 := n1_; clear n0_ n1_; clear ho hb hg hat))
                          go_roundg kj8
                          case measure => have := HK1.out; have := HJ2.out; have := HJ8.out; omega
                          case rel => exact ⟨(y105), ((-1)), (wrap64 (x10_1 + 1)), (by first | rfl | (simp; done) | (simp [*]; done)), (by first | rfl | (simp; done) | (simp [*]; done)), H', ⟨by have := HK1.out; have := HJ2.out; have := HJ8.out; omega⟩, ⟨by (with_reducible repeat (first | apply Kd.R_alloc | apply Kd.R_drewN | apply Kd.R_drew)); exact HO107.out⟩, ⟨by repeat (first | (with_reducible first | exact HB.out | apply below_alloc | apply pw_below_drewN | apply below_drew1) | exact HB.out)⟩⟩
                        · rw [if_neg c15] at H
                          exact absurd H (by simp)
                      · rw [if_neg c14] at H
                        exact absurd H (by simp)
                    · rw [if_neg c13] at H
                      exact absurd H (by simp)
                  · rw [if_neg c12] at H
                    exact absurd H (by simp)
                · replace c11 := Bool.eq_false_iff.mpr c11
                  subst c11
                  have H1 : (if x6_2 = true then (octets_Words.l0 kj8 a0 x3_1 x4_1 (wrap64 ((a0.size : Int) + 1)) (wrap64 (x10_1 + 1))) else (if x4_1 < 0 then (octets_Words.l0 kj8 a0 x3_1 x10_1 (wrap64 ((a0.size : Int) + 1)) (wrap64 (x10_1 + 1))) else (octets_Words.l0 kj8 a0 x3_1 x4_1 (wrap64 ((a0.size : Int) + 1)) (wrap64 (x10_1 + 1))))) = some r := by rw [if_neg (show ¬ (false = true) by decide)] at H; exact H
                  clear H
                  have H := H1
                  clear H1
                  by_cases c17 : x6_2 = true
                  · subst c17
                    have H1 : (octets_Words.l0 kj8 a0 x3_1 x4_1 (wrap64 ((a0.size : Int) + 1)) (wrap64 (x10_1 + 1))) = some r := by rw [if_pos rfl] at H; exact H
                    clear H
                    have H := H1
                    clear H1
                    have H' := Aside0.mk H
                    clear H
                    go_wp2
                    go_roundg kj8
                    case measure => have := HK1.out; have := HJ2.out; have := HJ8.out; omega
                    case rel => exact ⟨(x3_1), (x4_1), (wrap64 (x10_1 + 1)), (by first | rfl | (simp; done) | (simp [*]; done)), (by first | rfl | (simp; done) | (simp [*]; done)), H', ⟨by have := HK1.out; have := HJ2.out; have := HJ8.out; omega⟩, ⟨by (with_reducible repeat (first | apply Kd.R_alloc | apply Kd.R_drewN | apply Kd.R_drew)); exact HO_3.out⟩, ⟨by repeat (first | (with_reducible first | exact HB.out | apply below_alloc | apply pw_below_drewN | apply below_drew1) | exact HB.out)⟩⟩
                  · replace c17 := Bool.eq_false_iff.mpr c17
                    subst c17
                    have H1 : (if x4_1 < 0 then (octets_Words.l0 kj8 a0 x3_1 x10_1 (wrap64 ((a0.size : Int) + 1)) (wrap64 (x10_1 + 1))) else (octets_Words.l0 kj8 a0 x3_1 x4_1 (wrap64 ((a0.size : Int) + 1)) (wrap64 (x10_1 + 1)))) = some r := by rw [if_neg (show ¬ (false = true) by decide)] at H; exact H
                    clear H
                    have H := H1
                    clear H1
                    by_cases c18 : x4_1 < 0
                    · rw [if_pos c18] at H
                      have c18b0 : decide (x4_1 < 0) = true := decide_eq_true c18
                      clear c18
                      have H' := Aside0.mk H
                      clear H
                      go_wp2
                      go_roundg kj8
                      case measure => have := HK1.out; have := HJ2.out; have := HJ8.out; omega
                      case rel => exact ⟨(x3_1), (x10_1), (wrap64 (x10_1 + 1)), (by first | rfl | (simp; done) | (simp [*]; done)), (by first | rfl | (simp; done) | (simp [*]; done)), H', ⟨by have := HK1.out; have := HJ2.out; have := HJ8.out; omega⟩, ⟨by (with_reducible repeat (first | apply Kd.R_alloc | apply Kd.R_drewN | apply Kd.R_drew)); exact HO_3.out⟩, ⟨by repeat (first | (with_reducible first | exact HB.out | apply below_alloc | apply pw_below_drewN | apply below_drew1) | exact HB.out)⟩⟩
                    · rw [if_neg c18] at H
                      have c18b0 : decide (x4_1 < 0) = false := decide_eq_false c18
                      clear c18
                      have H' := Aside0.mk H
                      clear H
                      go_wp2
                      go_roundg kj8
                      case measure => have := HK1.out; have := HJ2.out; have := HJ8.out; omega
                      case rel => exact ⟨(x3_1), (x4_1), (wrap64 (x10_1 + 1)), (by first | rfl | (simp; done) | (simp [*]; done)), (by first | rfl | (simp; done) | (simp [*]; done)), H', ⟨by have := HK1.out; have := HJ2.out; have := HJ8.out; omega⟩, ⟨by (with_reducible repeat (first | apply Kd.R_alloc | apply Kd.R_drewN | apply Kd.R_drew)); exact HO_3.out⟩, ⟨by repeat (first | (with_reducible first | exact HB.out | apply below_alloc | apply pw_below_drewN | apply below_drew1) | exact HB.out)⟩⟩
      · rw [if_neg c2] at H
        have c2b0 : decide (x10_1 < (wrap64 ((a0.size : Int) + 1))) = false := decide_eq_false c2
        clear c2
        obtain rfl := Option.some.inj H
        go_wp2
        go_ret
        exact ⟨_, by first | rfl | (simp [errW_none, errW_some] <;> rfl) | (simp [*, errW_none, errW_some] <;> rfl), by (with_reducible repeat (first | apply Kd.R_alloc | apply Kd.R_drewN | apply Kd.R_drew)); exact HO_3.out, by repeat (first | (with_reducible first | exact HB.out | apply below_alloc | apply pw_below_drewN | apply below_drew1) | exact HB.out)⟩

/-! ### given: pergola/octets.turned -/
def turn1 (a b c : Int) : Int := if a ≤ c then (if c ≤ b then Go.bits .xor .u8 c 32 else c) else c
def octets_turned.f (a0 : ByteArray) (a1 a2 : Int) : Option ByteArray := if a0.size ≤ 9223372036854775807 then some (strOfNums ((bytesOf a0).map (turn1 a1 a2))) else none
theorem turned_at (xs : List Int) (a b : Int) (k : Nat) (hk : k < xs.length) : ((xs.take k).map (turn1 a b) ++ xs.drop k).getD k 0 = xs.getD k 0 := by
  have hm : min k xs.length = k := Nat.min_eq_left (Nat.le_of_lt hk)
  rw [List.getD_eq_getElem?_getD, List.getElem?_append_right (by simp [hm]), List.getD_eq_getElem?_getD]
  simp [hm]
theorem turned_step (xs : List Int) (a b : Int) (k : Nat) (hk : k < xs.length) : ((xs.take k).map (turn1 a b) ++ xs.drop k).set k (turn1 a b (xs.getD k 0)) = (xs.take (k + 1)).map (turn1 a b) ++ xs.drop (k + 1) := by
  have hm : min k xs.length = k := Nat.min_eq_left (Nat.le_of_lt hk)
  rw [List.set_append_right _ _ (by simp [hm]), List.take_succ_eq_append_getElem hk, List.map_append]
  simp only [List.length_map, List.length_take, hm, Nat.sub_self]
  rw [List.drop_eq_getElem_cons hk, List.set_cons_zero, List.append_assoc]
  simp [List.getD_eq_getElem?_getD, List.getElem?_eq_getElem hk]
theorem turned_skip (xs : List Int) (a b : Int) (k : Nat) (hk : k < xs.length) (h : turn1 a b (xs.getD k 0) = xs.getD k 0) : (xs.take k).map (turn1 a b) ++ xs.drop k = (xs.take (k + 1)).map (turn1 a b) ++ xs.drop (k + 1) := by
  have e : turn1 a b xs[k] = xs[k] := by simpa [List.getD_eq_getElem?_getD, List.getElem?_eq_getElem hk] using h
  rw [List.take_succ_eq_append_getElem hk, List.map_append, List.drop_eq_getElem_cons hk]
  simp [e]
set_option maxHeartbeats 1000000 in
theorem octets_turned.calls (a0 : ByteArray) (a1 a2 : Int) (r : ByteArray) (w : World) (h : octets_turned.f a0 a1 a2 = some r) :
    Calls Tryd.prog 38 #[.string a0, .int .u8 a1, .int .u8 a2] w fun e w' => e = .returned (.string r) ∧ Below w.heap.size w w' := by
  unfold octets_turned.f at h
  by_cases hs : a0.size ≤ 9223372036854775807
  · rw [if_pos hs] at h
    obtain rfl := Option.some.inj h
    clear h
    have kb := fun W => print_bytes (P := Tryd.prog) 9 104 5 Tryd.underlying9 Tryd.underlying104 Tryd.underlying5 a0 W
    go_enter Tryd.func38, Tryd.ntmps38
    go_wp2
    have hl := bytesOf_length a0
    generalize hbs : bytesOf a0 = bs at *
    have HM : Marked (Lib.bytesWorld w 5 a0) 5 w.heap.size bs := by rw [← hbs]; exact Marked.new w 5 a0
    have HB : Below w.heap.size w (Lib.bytesWorld w 5 a0) := bytes_below (Below.refl _ _) (Nat.le_refl _) _ _
    clear kb
    go_loopw [14] (fun v14 wr => ∃ k : Nat, v14 = .int .i64 k ∧ k ≤ a0.size ∧ Marked wr 5 w.heap.size ((bs.take k).map (turn1 a1 a2) ++ bs.drop k) ∧ Below w.heap.size w wr) (fun v14 _ => a0.size - (intOf v14).toNat)
    case atStart => exact ⟨0, rfl, Nat.zero_le _, by simpa using HM, HB⟩
    case round =>
      clear HM HB
      obtain ⟨k, rfl, hk, hm, hb⟩ := hrel
      have HL := Aside0.mk hl
      have HBS := Aside0.mk hbs
      clear hl hbs
      by_cases hlt : k < a0.size
      · have hkb : k < bs.length := by rw [HL.out]; exact hlt
        obtain ⟨hc, hf⟩ := hm.get k (by simp; omega)
        rw [turned_at bs a1 a2 k hkb] at hc
        have hset := hm.set k (turn1 a1 a2 (bs.getD k 0))
        rw [turned_step bs a1 a2 k hkb] at hset
        have hskip := turned_skip bs a1 a2 k hkb
        have hbw := Marked.write hb (Nat.le_refl _) k (.int .u8 (turn1 a1 a2 (bs.getD k 0)))
        generalize bs.getD k 0 = c at *
        by_cases t1 : a1 ≤ c
        · by_cases t2 : c ≤ a2
          · have e : turn1 a1 a2 c = Go.bits .xor .u8 c 32 := by unfold turn1; rw [if_pos t1, if_pos t2]
            rw [e] at hset hbw
            clear e
            have HM := Aside0.mk hm
            have HS := Aside0.mk hset
            clear hm hset hskip
            go_wp2
            exact ⟨⟨k + 1, by go_num, by omega, HS.out, hbw⟩, by simp [intOf]; omega⟩
          · have hm2 := hm
            rw [hskip (by unfold turn1; rw [if_pos t1, if_neg t2])] at hm2
            have HM := Aside0.mk hm2
            clear hm hset hskip hbw hm2
            go_wp2
            exact ⟨⟨k + 1, by go_num, by omega, HM.out, hb⟩, by simp [intOf]; omega⟩
        · have hm2 := hm
          rw [hskip (by unfold turn1; rw [if_neg t1])] at hm2
          have HM := Aside0.mk hm2
          clear hm hset hskip hbw hm2
          go_wp2
          exact ⟨⟨k + 1, by go_num, by omega, HM.out, hb⟩, by simp [intOf]; omega⟩
      · obtain rfl : k = a0.size := by omega
        rw [List.take_of_length_le (by rw [HL.out]; omega), List.drop_of_length_le (by rw [HL.out]; omega), List.append_nil] at hm
        have hcv := fun n => Marked.string (P := Tryd.prog) (src := 104) (dst := 9) hm Tryd.underlying104 Tryd.underlying5 Tryd.underlying9 a0.size n (by rw [List.length_map]; exact HL.out)
        have HM := Aside0.mk hm
        clear hm
        go_wp2
        go_ret
        exact ⟨by rw [HBS.out]; rfl, hb⟩
  · rw [if_neg hs] at h
    cases h

/-! ### octets_Lower: function 32 -/
def octets_Lower.f (a0 : ByteArray) : Option (ByteArray) := (octets_turned.f a0 65 90).bind fun t108 => (some t108)
set_option maxHeartbeats 8000000 in
set_option maxRecDepth 100000 in
theorem octets_Lower.calls (a0 : ByteArray) (r : ByteArray) (w : World) (h : octets_Lower.f a0 = some r) :
    Calls Tryd.prog 32 #[.string a0] w fun e w' => e = .returned (.string r) ∧ Below w.heap.size w w' := by
  have HB := Aside0.mk (Below.refl w.heap.size w)
  have H : ((octets_turned.f a0 65 90).bind fun t108 => (some t108)) = some r := h
  clear h
  replace H := Option.bind_eq_some_iff.mp H
  obtain ⟨t108, A20, H⟩ := H
  replace H : (some t108) = some r := H
  have A2 := Aside0.mk A20
  clear A20
  obtain rfl := Option.some.inj H
  go_enter Tryd.func32, Tryd.ntmps32
  go_wp2_with (first | ((with_reducible refine gate_callee (f := 38) rfl ?_); refine goesL_ (some 4) rfl rfl Tryd.func38 (by kernel_rfl) rfl #[.string a0, .int .u8 65, .int .u8 90] rfl (by (try simp only [List.map_toArray, List.map_cons, List.map_nil]); first | done | rfl | (simp only [List.length_drop, List.length_take]; rfl)) ?_; (with_reducible refine (octets_turned.calls a0 65 90 t108 _ A2.out).mono ?_); rintro e w3 ⟨rfl, hb⟩; refine ⟨_, rfl, ?_⟩; have n0_ := Aside0.mk (below_step (by repeat (first | (with_reducible first | exact HB.out | apply below_alloc | apply pw_below_drewN | apply below_drew1) | exact HB.out)) hb); clear HB; have HB := n0_; clear n0_; (try clear hb); (try clear hb2); (try clear hk); (try clear hi)))
  go_ret
  exact ⟨by first | rfl | (simp [errW_none, errW_some] <;> rfl) | (simp [*, errW_none, errW_some] <;> rfl), by repeat (first | (with_reducible first | exact HB.out | apply below_alloc | apply pw_below_drewN | apply below_drew1) | exact HB.out)⟩

/-! ### given: pergola/sandbox.Parse -/
-- USES pergola/octets.Words
-- USES pergola/octets.Lower
-- INFO 9
def sandbox_Parse.idx (s : ByteArray) : Option Int := some (tokIdx s)
def sandbox_Parse.off (i : Int) : Option Int := some (tokOff i.toNat)
def sandbox_Parse.l0 : Nat → Int → List ByteArray → List ByteArray → Int → Int → Option (Int × List ByteArray)
  | 0, _, _, _, _, _ => none
  | k + 1, x4, x5, x10, x11, x12 => if x12 < x11 then (if 0 ≤ x12 then (if x12 < (x10.length : Int) then ((octets_Lower.f (rdOf ByteArray.empty x10 x12)).bind fun t249 => ((sandbox_Parse.idx t249).bind fun t250 => (if t250 < 0 then (if x5.length < 8796093022208 then (sandbox_Parse.l0 k x4 (x5 ++ [t249]) x10 x11 (wrap64 (x12 + 1))) else (none)) else ((sandbox_Parse.off t250).bind fun t254 => (sandbox_Parse.l0 k (Go.bits .andNot .u32 x4 t254) x5 x10 x11 (wrap64 (x12 + 1))))))) else (none)) else (none)) else (if x5.length < 4611686018427387904 then (some (x4, compS (sortS x5))) else none)
def sandbox_Parse.f (k : Nat) (a0 : ByteArray) : Option (Int × List ByteArray) := (octets_Words.f k a0).bind fun t245 => (sandbox_Parse.l0 k 65535 ([] : List ByteArray) t245 (t245.length : Int) 0)
theorem sandbox_Parse.mono_l : ∀ k, (∀ y0 y1 y2 y3 y4, LeO (sandbox_Parse.l0 k y0 y1 y2 y3 y4) (sandbox_Parse.l0 (k + 1) y0 y1 y2 y3 y4))
  | 0 => fun _ _ _ _ _ r h => by simp [sandbox_Parse.l0] at h
  | k + 1 => by
    have ih0 := sandbox_Parse.mono_l k
    · intro y0 y1 y2 y3 y4
      unfold sandbox_Parse.l0
      repeat' first
      | (with_reducible exact ih0 _ _ _ _ _)
      | (with_reducible exact octets_Words.mono _ _)
      | (with_reducible exact LeO.refl _)
      | (with_reducible exact LeO.none _)
      | (with_reducible refine LeO.ite ?_ ?_)
      | (with_reducible refine LeO.bind ?_ (fun _ => ?_))
      | exact ih0 _ _ _ _ _
      | exact octets_Words.mono _ _
      | exact LeO.none _
      | refine LeO.ite ?_ ?_
      | refine LeO.bind ?_ (fun _ => ?_)
theorem sandbox_Parse.mono : ∀ a0 k, LeO (sandbox_Parse.f k a0) (sandbox_Parse.f (k + 1) a0) := by
  intro a0 k
  have ih0 := sandbox_Parse.mono_l k
  unfold sandbox_Parse.f
  repeat' first
      | (with_reducible exact ih0 _ _ _ _ _)
      | (with_reducible exact octets_Words.mono _ _)
      | (with_reducible exact LeO.refl _)
      | (with_reducible exact LeO.none _)
      | (with_reducible refine LeO.ite ?_ ?_)
      | (with_reducible refine LeO.bind ?_ (fun _ => ?_))
      | exact ih0 _ _ _ _ _
      | exact octets_Words.mono _ _
      | exact LeO.none _
      | refine LeO.ite ?_ ?_
      | refine LeO.bind ?_ (fun _ => ?_)
set_option maxHeartbeats 8000000 in
set_option maxRecDepth 100000 in
theorem sandbox_Parse.calls (k : Nat) (a0 : ByteArray) (r1 : Int) (r2 : List ByteArray) (w : World) (hT_ : TokIs w) (h : sandbox_Parse.f k a0 = some (r1, r2)) :
    Calls Tryd.prog 12 #[.string a0] w fun e w' => ∃ v1_ : Value, e = .returned (.tuple #[.int .u32 r1, v1_]) ∧ Kd.R Kd.string 9 w' w.heap.size (fun _ => True) v1_ r2 ∧ Below w.heap.size w w' := by
  have HT0_ := Aside0.mk hT_
  clear hT_
  have HB := Aside0.mk (Below.refl w.heap.size w)
  have H : ((octets_Words.f k a0).bind fun t245 => (sandbox_Parse.l0 k 65535 ([] : List ByteArray) t245 (t245.length : Int) 0)) = some (r1, r2) := h
  clear h
  replace H := Option.bind_eq_some_iff.mp H
  obtain ⟨t245, A20, H⟩ := H
  replace H : (sandbox_Parse.l0 k 65535 ([] : List ByteArray) t245 (t245.length : Int) 0) = some (r1, r2) := H
  have A2 := Aside0.mk A20
  clear A20
  have H' := Aside0.mk H
  clear H
  go_enter Tryd.func12, Tryd.ntmps12
  go_wp2_with (first | ((with_reducible refine gate_callee (f := 13) rfl ?_); refine goesL_ (some 10) rfl rfl Tryd.func13 (by kernel_rfl) rfl #[.string a0] rfl (by (try simp only [List.map_toArray, List.map_cons, List.map_nil]); first | done | rfl | (simp only [List.length_drop, List.length_take]; rfl)) ?_; (with_reducible refine (octets_Words.calls k a0 t245 _ A2.out).mono ?_); rintro e w3 ⟨v246, rfl, ho0, hb⟩; refine ⟨_, rfl, ?_⟩; have n0_ := Aside0.mk (Kd.R_lower ho0 (below_size (by repeat (first | (with_reducible first | exact HB.out | apply below_alloc | apply pw_below_drewN | apply below_drew1) | exact HB.out)))); have n1_ := Aside0.mk (below_step (by repeat (first | (with_reducible first | exact HB.out | apply below_alloc | apply pw_below_drewN | apply below_drew1) | exact HB.out)) hb); clear HB; have HO247 := n0_; have HB := n1_; clear n0_ n1_; (try clear hb); (try clear hb2); (try clear hk); (try clear hi); (try clear ho0); obtain ⟨Ao4, co4, eo4⟩ := Kd.R_slice HO247.out; subst eo4))
  go_loopg [4, 5, 12] k (fun kq v4 v5 v12 w' => ∃ (x4_1 : Int) (x5_1 : List ByteArray) (x12_1 : Int), v4 = .int .u32 x4_1 ∧ v12 = .int .i64 x12_1 ∧ Aside0 (sandbox_Parse.l0 kq x4_1 x5_1 t245 (t245.length : Int) x12_1 = some (r1, r2)) ∧ Aside0 (kq ≤ k) ∧ Aside0 (Kd.R Kd.string 9 w' w.heap.size (fun k_ => some k_ ≠ ((.slice Ao4 t245.length co4) : Value).ownBlock) v5 x5_1) ∧ Aside0 (Kd.R Kd.string 9 w' w.heap.size (fun k_ => some k_ ≠ (v5 : Value).ownBlock) (.slice Ao4 t245.length co4) t245) ∧ Aside0 (Below w.heap.size w w'))
  case atStart => exact ⟨(65535), (([] : List ByteArray)), (0), (by first | rfl | (simp; done) | (simp [*]; done)), (by first | rfl | (simp; done) | (simp [*]; done)), H', ⟨Nat.le_refl _⟩, ⟨by first | exact Kd.R_nil _ _ _ _ _ | exact Kd.N_nil _ _ _ _ _ | exact Kd.V_nil _ _ _ _ _ | exact Kd.Q_nil _ _ _ _ _ | exact Kd.S_nil _ _ _ _ _⟩, ⟨by (with_reducible repeat (first | apply Kd.R_alloc | apply Kd.R_drewN | apply Kd.R_drew)); exact Kd.R_mono HO247.out (fun _ hk => (by simp [Value.ownBlock]))⟩, ⟨by repeat (first | (with_reducible first | exact HB.out | apply below_alloc | apply pw_below_drewN | apply below_drew1) | exact HB.out)⟩⟩
  case round =>
    clear H'
    try clear c1
    try clear p2
    obtain ⟨x4_1, x5_1, x12_1, rfl, rfl, HA, HK1, HO_5, HO_10, HB⟩ := hrel
    cases gk with
    | zero => exact absurd HA.out (by simp [sandbox_Parse.l0])
    | succ k1 =>
      have H := HA.out
      clear HA
      simp only [sandbox_Parse.l0] at H
      by_cases c5 : x12_1 < (t245.length : Int)
      · rw [if_pos c5] at H
        have c5b0 : decide (x12_1 < (t245.length : Int)) = true := decide_eq_true c5
        clear c5
        by_cases c6 : 0 ≤ x12_1
        · rw [if_pos c6] at H
          have c6b0 : decide (0 ≤ x12_1) = true := decide_eq_true c6
          clear c6
          by_cases c7 : x12_1 < (t245.length : Int)
          · rw [if_pos c7] at H
            have c7b0 : decide (x12_1 < (t245.length : Int)) = true := decide_eq_true c7
            clear c7
            replace H := Option.bind_eq_some_iff.mp H
            obtain ⟨t249, A80, H⟩ := H
            replace H : ((sandbox_Parse.idx t249).bind fun t250 => (if t250 < 0 then (if x5_1.length < 8796093022208 then (sandbox_Parse.l0 k1 x4_1 (x5_1 ++ [t249]) t245 (t245.length : Int) (wrap64 (x12_1 + 1))) else (none)) else ((sandbox_Parse.off t250).bind fun t254 => (sandbox_Parse.l0 k1 (Go.bits .andNot .u32 x4_1 t254) x5_1 t245 (t245.length : Int) (wrap64 (x12_1 + 1)))))) = some (r1, r2) := H
            have A8 := Aside0.mk A80
            clear A80
            replace H := Option.bind_eq_some_iff.mp H
            obtain ⟨t250, A90, H⟩ := H
            replace H : (if t250 < 0 then (if x5_1.length < 8796093022208 then (sandbox_Parse.l0 k1 x4_1 (x5_1 ++ [t249]) t245 (t245.length : Int) (wrap64 (x12_1 + 1))) else (none)) else ((sandbox_Parse.off t250).bind fun t254 => (sandbox_Parse.l0 k1 (Go.bits .andNot .u32 x4_1 t254) x5_1 t245 (t245.length : Int) (wrap64 (x12_1 + 1))))) = some (r1, r2) := H
            have A9 := Aside0.mk A90
            clear A90
            by_cases c10 : t250 < 0
            · rw [if_pos c10] at H
              have c10b0 : decide (t250 < 0) = true := decide_eq_true c10
              clear c10
              by_cases c11 : x5_1.length < 8796093022208
              · rw [if_pos c11] at H
                have LMc11 := Aside0.mk c11
                clear c11
                obtain ⟨y251, hy251⟩ : ∃ y_ : List ByteArray, y_ = (x5_1 ++ [t249]) := ⟨_, rfl⟩
                replace H : (sandbox_Parse.l0 k1 x4_1 y251 t245 (t245.length : Int) (wrap64 (x12_1 + 1))) = some (r1, r2) := by first | (rw [hy251]; with_reducible exact H) | (have H2_ := (Option.bind_some _ _).symm.trans H; rw [hy251]; with_reducible exact H2_) | (have H2_ := (Option.bind_some _ _).symm.trans H; with_reducible exact H2_) | with_reducible exact H | (rw [hy251]; exact H) | exact H
                have Ny251 := Aside0.mk hy251
                clear hy251
                have H' := Aside0.mk H
                clear H
                have p248 : 0 ≤ (x12_1 : Int) := of_decide_eq_true (by first | (with_reducible assumption) | assumption)
                have q248 : x12_1 < (t245.length : Int) := of_decide_eq_true (by first | (with_reducible assumption) | assumption)
                obtain ⟨ad248, e248, hx248_0⟩ := Kd.at_string (Kd.R_reads' HO_10.out).2.2 x12_1 p248 q248
                cases e248
                replace p248 := eq_true p248
                replace q248 := eq_true q248
                go_wp2_with (first | ((with_reducible refine gate_dst (N := 7) rfl ?_); refine box_event ?hg (N := 7) ?hd (cs := #[.string ⟨#[]⟩]) (t := 9) ?hr ?_; (case hd => rfl); (case hg => rfl); (case hr => first | (go_simp; done) | (go_simp; rfl)); intro gb hg wa hbox hb; have n0_ := Aside0.mk (Kd.R_below (Kd.R_elderB HO_5.out gb (Nat.le_of_eq hg.symm)) hb); have n1_ := Aside0.mk (Kd.R_below (Kd.R_elderB HO_10.out gb (Nat.le_of_eq hg.symm)) hb); have n2_ : Aside0 (w.heap.size ≤ gb) := ⟨by rw [hg]; exact below_size HB.out⟩; have n3_ := Aside0.mk (below_step HB.out hb); have n4_ := Aside0.mk hbox; clear HO_5 HO_10 HB; have HO_5 := n0_; have HO_10 := n1_; have GE := n2_; have HB := n3_; have BK := n4_; clear n0_ n1_ n2_ n3_ n4_ hbox hb hg; have hczwa : wa.cell? ⟨gb, 0, none⟩ = some (.string ⟨#[]⟩) := (blk_cell BK.out 0).trans rfl; have hfzwa := blk_frozen BK.out 0) | ((with_reducible refine gate_store (t := 9) (p := 7) rfl ?_); refine store_event (t := 9) (p := 7) (v := ?vowb) (w1 := (wa.setCell ⟨gb, 0, none⟩ (.string (rdOf ByteArray.empty t245 x12_1)))) ?hg ?ho ?hn ?hr ?_; (case ho => rfl); (case hg => rfl); (case hn => rfl); (case hr => first | (go_simp; done) | (go_simp; rfl)); intro wb hw; have n0_ := Kd.R_far (p := ⟨gb, 0, none⟩) HO_5.out (fun _ hk => hk.2) (Value.string (rdOf ByteArray.empty t245 x12_1)); have n1_ := Kd.R_far (p := ⟨gb, 0, none⟩) HO_10.out (fun _ hk => hk.2) (Value.string (rdOf ByteArray.empty t245 x12_1)); have n2_ := below_set (j := 0) (v := Value.string (rdOf ByteArray.empty t245 x12_1)) HB.out GE.out; have n3_ := blk_put (cs' := #[.string (rdOf ByteArray.empty t245 x12_1)]) BK.out 0 (Value.string (rdOf ByteArray.empty t245 x12_1)) rfl; rw [← hw] at n0_ n1_ n2_ n3_; clear hw HO_5 HO_10 HB BK; have HO_5 := Aside0.mk n0_; have HO_10 := Aside0.mk n1_; have HB := Aside0.mk n2_; have BK := Aside0.mk n3_; clear n0_ n1_ n2_ n3_; have hczwb : wb.cell? ⟨gb, 0, none⟩ = some (.string (rdOf ByteArray.empty t245 x12_1)) := (blk_cell BK.out 0).trans rfl; have hfzwb := blk_frozen BK.out 0) | ((with_reducible refine gate_callee (f := 32) rfl ?_); refine goesL_ (some 17) rfl rfl Tryd.func32 (by kernel_rfl) rfl #[.string (rdOf ByteArray.empty t245 x12_1)] rfl (by (try simp only [List.map_toArray, List.map_cons, List.map_nil]); first | done | rfl) ?_; (with_reducible refine (octets_Lower.calls (rdOf ByteArray.empty t245 x12_1) t249 _ A8.out).mono ?_); rintro e wc ⟨rfl, hb⟩; refine ⟨_, rfl, ?_⟩; have n0_ := Aside0.mk (Kd.R_below HO_5.out hb); have n1_ := Aside0.mk (Kd.R_below HO_10.out hb); have n2_ := Aside0.mk (below_step HB.out hb); have n3_ := Aside0.mk (blk_below (g := gb) (o := .cells #[.string (rdOf ByteArray.empty t245 x12_1)] 9 (0, 0)) BK.out hb); clear HO_5 HO_10 HB BK; have HO_5 := n0_; have HO_10 := n1_; have HB := n2_; have BK := n3_; clear n0_ n1_ n2_ n3_ hb; have hczwc : wc.cell? ⟨gb, 0, none⟩ = some (.string (rdOf ByteArray.empty t245 x12_1)) := (blk_cell BK.out 0).trans rfl; have hfzwc := blk_frozen BK.out 0) | ((with_reducible refine gate_store (t := 9) (p := 7) rfl ?_); refine store_event (t := 9) (p := 7) (v := ?vowd) (w1 := (wc.setCell ⟨gb, 0, none⟩ (.string t249))) ?hg ?ho ?hn ?hr ?_; (case ho => rfl); (case hg => rfl); (case hn => rfl); (case hr => first | (go_simp; done) | (go_simp; rfl)); intro wd hw; have n0_ := Kd.R_far (p := ⟨gb, 0, none⟩) HO_5.out (fun _ hk => hk.2) (Value.string t249); have n1_ := Kd.R_far (p := ⟨gb, 0, none⟩) HO_10.out (fun _ hk => hk.2) (Value.string t249); have n2_ := below_set (j := 0) (v := Value.string t249) HB.out GE.out; have n3_ := blk_put (cs' := #[.string t249]) BK.out 0 (Value.string t249) rfl; rw [← hw] at n0_ n1_ n2_ n3_; clear hw HO_5 HO_10 HB BK; have HO_5 := Aside0.mk n0_; have HO_10 := Aside0.mk n1_; have HB := Aside0.mk n2_; have BK := Aside0.mk n3_; clear n0_ n1_ n2_ n3_; have hczwd : wd.cell? ⟨gb, 0, none⟩ = some (.string t249) := (blk_cell BK.out 0).trans rfl; have hfzwd := blk_frozen BK.out 0) | ((with_reducible refine gate_callee (f := 33) rfl ?_); refine goesL_ (some 20) rfl rfl Tryd.func33 (by kernel_rfl) rfl #[.slice (some ⟨0, 0, none⟩) 14 14, .func (.func 34) #[] #[.pointer (some ⟨gb, 0, none⟩)]] rfl (by (try simp only [List.map_toArray, List.map_cons, List.map_nil]); first | done | rfl) ?_; (with_reducible refine (find_token _ ⟨gb, 0, none⟩ t249 ?ft1 ?ft2 _ rfl).mono ?_); (case ft1 => exact TokIs.below HT0_.out HB.out); (case ft2 => exact hczwd); rintro e we ⟨rfl, hb⟩; refine ⟨_, rfl, ?_⟩; rw [show tokIdx t249 = t250 from Option.some.inj A9.out]; have n0_ := Aside0.mk (Kd.R_below HO_5.out hb); have n1_ := Aside0.mk (Kd.R_below HO_10.out hb); have n2_ := Aside0.mk (below_step HB.out hb); have n3_ := Aside0.mk (blk_below (g := gb) (o := .cells #[.string t249] 9 (0, 0)) BK.out hb); clear HO_5 HO_10 HB BK; have HO_5 := n0_; have HO_10 := n1_; have HB := n2_; have BK := n3_; clear n0_ n1_ n2_ n3_ hb; have hczwe : we.cell? ⟨gb, 0, none⟩ = some (.string t249) := (blk_cell BK.out 0).trans rfl; have hfzwe := blk_frozen BK.out 0; have n0_ := Aside0.mk (Kd.R_mono HO_5.out (fun _ hk => hk.1)); have n1_ := Aside0.mk (Kd.R_mono HO_10.out (fun _ hk => hk.1)); clear HO_5 HO_10; have HO_5 := n0_; have HO_10 := n1_; clear n0_ n1_) | ((with_reducible refine gate_builtin (b := .append) (xs := #[.tmp 23, .tmp 25]) rfl ?_); at_builtin; refine Kd.R_append Kd.string (w0 := w) w.heap.size rfl (.tmp 23) (.tmp 25) 29 9 (.string ⟨#[]⟩) 16 rfl Tryd.underlying29 info9 rfl (by decide) (by omega) u5 x5_1 t249 [.string t249] (fun k_ => some k_ ≠ (.slice (some ad248) t245.length co4 : Value).ownBlock) (fun _ => False) rfl rfl ?aP (fun _ hk => hk.elim) ?aF ?aO ?aB ?aS ?aL ?_; (case aP => exact rfl); (case aB => exact (by repeat (first | (with_reducible first | exact HB.out | apply below_alloc | apply pw_below_drewN | apply below_drew1) | exact HB.out))); (case aF => exact (fun k_ hk => Kd.fresh' (Kd.R_lt (by (with_reducible repeat (first | apply Kd.R_alloc | apply Kd.R_drewN | apply Kd.R_drew)); exact HO_10.out)) k_ hk)); (case aO => exact (by (with_reducible repeat (first | apply Kd.R_alloc | apply Kd.R_drewN | apply Kd.R_drew)); exact HO_5.out)); (case aS => exact (below_size (by repeat (first | (with_reducible first | exact HB.out | apply below_alloc | apply pw_below_drewN | apply below_drew1) | exact HB.out)))); (case aL => have := LMc11.out; omega); intro v252 w14 ho hb hg hat; rw [← Ny251.out] at ho; have n0_ := Aside0.mk (Kd.R_after (ok := (fun _ => True)) (by (with_reducible repeat (first | apply Kd.R_alloc | apply Kd.R_drewN | apply Kd.R_drew)); exact Kd.R_mono HO_10.out (fun _ hk => ⟨trivial, hk⟩)) hg hat); have n1_ := Aside0.mk (hb); have n2_ := Aside0.mk (ho); clear HO_10; clear HB; clear HO_5; have HO_10 := n0_; have HB := n1_; have HO253 := n2_; clear n0_ n1_ n2_; clear ho hb hg hat))
                go_roundg k1
                case measure => have := HK1.out; omega
                case rel => exact ⟨(x4_1), (y251), (wrap64 (x12_1 + 1)), (by first | rfl | (simp; done) | (simp [*]; done)), (by first | rfl | (simp; done) | (simp [*]; done)), H', ⟨by have := HK1.out; omega⟩, ⟨by (with_reducible repeat (first | apply Kd.R_alloc | apply Kd.R_drewN | apply Kd.R_drew)); exact HO253.out⟩, ⟨by (with_reducible repeat (first | apply Kd.R_alloc | apply Kd.R_drewN | apply Kd.R_drew)); exact Kd.R_mono HO_10.out (fun _ hk => hk.2)⟩, ⟨by repeat (first | (with_reducible first | exact HB.out | apply below_alloc | apply pw_below_drewN | apply below_drew1) | exact HB.out)⟩⟩
              · rw [if_neg c11] at H
                exact absurd H (by simp)
            · rw [if_neg c10] at H
              have c10b0 : decide (t250 < 0) = false := decide_eq_false c10
              clear c10
              replace H := Option.bind_eq_some_iff.mp H
              obtain ⟨t254, A150, H⟩ := H
              replace H : (sandbox_Parse.l0 k1 (Go.bits .andNot .u32 x4_1 t254) x5_1 t245 (t245.length : Int) (wrap64 (x12_1 + 1))) = some (r1, r2) := H
              have A15 := Aside0.mk A150
              clear A150
              have H' := Aside0.mk H
              clear H
              have p248 : 0 ≤ (x12_1 : Int) := of_decide_eq_true (by first | (with_reducible assumption) | assumption)
              have q248 : x12_1 < (t245.length : Int) := of_decide_eq_true (by first | (with_reducible assumption) | assumption)
              obtain ⟨ad248, e248, hx248_0⟩ := Kd.at_string (Kd.R_reads' HO_10.out).2.2 x12_1 p248 q248
              cases e248
              replace p248 := eq_true p248
              replace q248 := eq_true q248
              go_wp2_with (first | ((with_reducible refine gate_dst (N := 7) rfl ?_); refine box_event ?hg (N := 7) ?hd (cs := #[.string ⟨#[]⟩]) (t := 9) ?hr ?_; (case hd => rfl); (case hg => rfl); (case hr => first | (go_simp; done) | (go_simp; rfl)); intro gb hg wa hbox hb; have n0_ := Aside0.mk (Kd.R_below (Kd.R_elderB HO_5.out gb (Nat.le_of_eq hg.symm)) hb); have n1_ := Aside0.mk (Kd.R_below (Kd.R_elderB HO_10.out gb (Nat.le_of_eq hg.symm)) hb); have n2_ : Aside0 (w.heap.size ≤ gb) := ⟨by rw [hg]; exact below_size HB.out⟩; have n3_ := Aside0.mk (below_step HB.out hb); have n4_ := Aside0.mk hbox; clear HO_5 HO_10 HB; have HO_5 := n0_; have HO_10 := n1_; have GE := n2_; have HB := n3_; have BK := n4_; clear n0_ n1_ n2_ n3_ n4_ hbox hb hg; have hczwa : wa.cell? ⟨gb, 0, none⟩ = some (.string ⟨#[]⟩) := (blk_cell BK.out 0).trans rfl; have hfzwa := blk_frozen BK.out 0) | ((with_reducible refine gate_store (t := 9) (p := 7) rfl ?_); refine store_event (t := 9) (p := 7) (v := ?vowb) (w1 := (wa.setCell ⟨gb, 0, none⟩ (.string (rdOf ByteArray.empty t245 x12_1)))) ?hg ?ho ?hn ?hr ?_; (case ho => rfl); (case hg => rfl); (case hn => rfl); (case hr => first | (go_simp; done) | (go_simp; rfl)); intro wb hw; have n0_ := Kd.R_far (p := ⟨gb, 0, none⟩) HO_5.out (fun _ hk => hk.2) (Value.string (rdOf ByteArray.empty t245 x12_1)); have n1_ := Kd.R_far (p := ⟨gb, 0, none⟩) HO_10.out (fun _ hk => hk.2) (Value.string (rdOf ByteArray.empty t245 x12_1)); have n2_ := below_set (j := 0) (v := Value.string (rdOf ByteArray.empty t245 x12_1)) HB.out GE.out; have n3_ := blk_put (cs' := #[.string (rdOf ByteArray.empty t245 x12_1)]) BK.out 0 (Value.string (rdOf ByteArray.empty t245 x12_1)) rfl; rw [← hw] at n0_ n1_ n2_ n3_; clear hw HO_5 HO_10 HB BK; have HO_5 := Aside0.mk n0_; have HO_10 := Aside0.mk n1_; have HB := Aside0.mk n2_; have BK := Aside0.mk n3_; clear n0_ n1_ n2_ n3_; have hczwb : wb.cell? ⟨gb, 0, none⟩ = some (.string (rdOf ByteArray.empty t245 x12_1)) := (blk_cell BK.out 0).trans rfl; have hfzwb := blk_frozen BK.out 0) | ((with_reducible refine gate_callee (f := 32) rfl ?_); refine goesL_ (some 17) rfl rfl Tryd.func32 (by kernel_rfl) rfl #[.string (rdOf ByteArray.empty t245 x12_1)] rfl (by (try simp only [List.map_toArray, List.map_cons, List.map_nil]); first | done | rfl) ?_; (with_reducible refine (octets_Lower.calls (rdOf ByteArray.empty t245 x12_1) t249 _ A8.out).mono ?_); rintro e wc ⟨rfl, hb⟩; refine ⟨_, rfl, ?_⟩; have n0_ := Aside0.mk (Kd.R_below HO_5.out hb); have n1_ := Aside0.mk (Kd.R_below HO_10.out hb); have n2_ := Aside0.mk (below_step HB.out hb); have n3_ := Aside0.mk (blk_below (g := gb) (o := .cells #[.string (rdOf ByteArray.empty t245 x12_1)] 9 (0, 0)) BK.out hb); clear HO_5 HO_10 HB BK; have HO_5 := n0_; have HO_10 := n1_; have HB := n2_; have BK := n3_; clear n0_ n1_ n2_ n3_ hb; have hczwc : wc.cell? ⟨gb, 0, none⟩ = some (.string (rdOf ByteArray.empty t245 x12_1)) := (blk_cell BK.out 0).trans rfl; have hfzwc := blk_frozen BK.out 0) | ((with_reducible refine gate_store (t := 9) (p := 7) rfl ?_); refine store_event (t := 9) (p := 7) (v := ?vowd) (w1 := (wc.setCell ⟨gb, 0, none⟩ (.string t249))) ?hg ?ho ?hn ?hr ?_; (case ho => rfl); (case hg => rfl); (case hn => rfl); (case hr => first | (go_simp; done) | (go_simp; rfl)); intro wd hw; have n0_ := Kd.R_far (p := ⟨gb, 0, none⟩) HO_5.out (fun _ hk => hk.2) (Value.string t249); have n1_ := Kd.R_far (p := ⟨gb, 0, none⟩) HO_10.out (fun _ hk => hk.2) (Value.string t249); have n2_ := below_set (j := 0) (v := Value.string t249) HB.out GE.out; have n3_ := blk_put (cs' := #[.string t249]) BK.out 0 (Value.string t249) rfl; rw [← hw] at n0_ n1_ n2_ n3_; clear hw HO_5 HO_10 HB BK; have HO_5 := Aside0.mk n0_; have HO_10 := Aside0.mk n1_; have HB := Aside0.mk n2_; have BK := Aside0.mk n3_; clear n0_ n1_ n2_ n3_; have hczwd : wd.cell? ⟨gb, 0, none⟩ = some (.string t249) := (blk_cell BK.out 0).trans rfl; have hfzwd := blk_frozen BK.out 0) | ((with_reducible refine gate_callee (f := 33) rfl ?_); refine goesL_ (some 20) rfl rfl Tryd.func33 (by kernel_rfl) rfl #[.slice (some ⟨0, 0, none⟩) 14 14, .func (.func 34) #[] #[.pointer (some ⟨gb, 0, none⟩)]] rfl (by (try simp only [List.map_toArray, List.map_cons, List.map_nil]); first | done | rfl) ?_; (with_reducible refine (find_token _ ⟨gb, 0, none⟩ t249 ?ft1 ?ft2 _ rfl).mono ?_); (case ft1 => exact TokIs.below HT0_.out HB.out); (case ft2 => exact hczwd); rintro e we ⟨rfl, hb⟩; refine ⟨_, rfl, ?_⟩; rw [show tokIdx t249 = t250 from Option.some.inj A9.out]; have n0_ := Aside0.mk (Kd.R_below HO_5.out hb); have n1_ := Aside0.mk (Kd.R_below HO_10.out hb); have n2_ := Aside0.mk (below_step HB.out hb); have n3_ := Aside0.mk (blk_below (g := gb) (o := .cells #[.string t249] 9 (0, 0)) BK.out hb); clear HO_5 HO_10 HB BK; have HO_5 := n0_; have HO_10 := n1_; have HB := n2_; have BK := n3_; clear n0_ n1_ n2_ n3_ hb; have hczwe : we.cell? ⟨gb, 0, none⟩ = some (.string t249) := (blk_cell BK.out 0).trans rfl; have hfzwe := blk_frozen BK.out 0; have n0_ := Aside0.mk (Kd.R_mono HO_5.out (fun _ hk => hk.1)); have n1_ := Aside0.mk (Kd.R_mono HO_10.out (fun _ hk => hk.1)); clear HO_5 HO_10; have HO_5 := n0_; have HO_10 := n1_; clear n0_ n1_; have hp254 : 0 ≤ t250 := Int.not_lt.1 (of_decide_eq_false c10b0); have hq254 : t250 < 14 := (by have h_ := tokIdx_lt t249; rwa [show tokIdx t249 = t250 from Option.some.inj A9.out] at h_); have hxo := (TokIs.below HT0_.out HB.out t250.toNat (by omega)).2; rw [show tokOff t250.toNat = t254 from Option.some.inj A15.out] at hxo; have hp254' := eq_true hp254; have hq254' := eq_true hq254))
              go_roundg k1
              case measure => have := HK1.out; omega
              case rel => exact ⟨(Go.bits .andNot .u32 x4_1 t254), (x5_1), (wrap64 (x12_1 + 1)), (by first | rfl | (simp; done) | (simp [*]; done)), (by first | rfl | (simp; done) | (simp [*]; done)), H', ⟨by have := HK1.out; omega⟩, ⟨by (with_reducible repeat (first | apply Kd.R_alloc | apply Kd.R_drewN | apply Kd.R_drew)); exact HO_5.out⟩, ⟨by (with_reducible repeat (first | apply Kd.R_alloc | apply Kd.R_drewN | apply Kd.R_drew)); exact HO_10.out⟩, ⟨by repeat (first | (with_reducible first | exact HB.out | apply below_alloc | apply pw_below_drewN | apply below_drew1) | exact HB.out)⟩⟩
          · rw [if_neg c7] at H
            exact absurd H (by simp)
        · rw [if_neg c6] at H
          exact absurd H (by simp)
      · rw [if_neg c5] at H
        have c5b0 : decide (x12_1 < (t245.length : Int)) = false := decide_eq_false c5
        clear c5
        by_cases c30 : x5_1.length < 4611686018427387904
        · rw [if_pos c30] at H
          simp only [Option.some.injEq, Prod.mk.injEq] at H
          obtain ⟨rfl, rfl⟩ := H
          have HN := Aside0.mk c30
          clear c30
          obtain ⟨Ao5, co5, eo5⟩ := Kd.R_slice HO_5.out
          subst eo5
          go_wp2_with (first | ((with_reducible refine gate_callee (f := 35) rfl ?_); refine goesL_ (some 35) rfl rfl Tryd.func35 (by kernel_rfl) rfl #[.slice Ao5 x5_1.length co5] rfl (by (try simp only [List.map_toArray, List.map_cons, List.map_nil]); first | done | rfl) ?_; refine (sort_own HO_5.out HB.out (Nat.le_refl _) HN.out).mono ?_; rintro e wf ⟨rfl, ho, hb⟩; refine ⟨_, rfl, ?_⟩; clear HO_10 HO_5 HB; have HO_5 := Aside0.mk ho; have HB := Aside0.mk hb; clear ho hb) | ((with_reducible refine gate_callee (f := 36) rfl ?_); refine goesL_ (some 38) rfl rfl Tryd.func36 (by kernel_rfl) rfl #[.slice Ao5 x5_1.length co5] rfl (by (try simp only [List.map_toArray, List.map_cons, List.map_nil]); first | done | rfl) ?_; refine (compact_own HO_5.out HB.out (Nat.le_refl _) (by rw [sortS_length]; exact HN.out)).mono ?_; rintro e wg ⟨v38, rfl, ho, hb⟩; refine ⟨_, rfl, ?_⟩; clear HO_5 HB; have HO_5 := Aside0.mk ho; have HB := Aside0.mk hb; clear ho hb))
          go_ret2
          exact ⟨_, by first | rfl | (simp; done) | (simp [*]; done), Kd.R_mono HO_5.out (fun _ hk => trivial), HB.out⟩
        · rw [if_neg c30] at H
          cases H

/-! ### sandbox_Opaque: function 17 -/
def sandbox_Opaque.f (a0 : Int) : Option (Bool) := some ((Go.bits .and .u32 a0 128) != 0)
set_option maxHeartbeats 8000000 in
set_option maxRecDepth 100000 in
theorem sandbox_Opaque.calls (a0 : Int) (r : Bool) (w : World) (h : sandbox_Opaque.f a0 = some r) :
    Calls Tryd.prog 17 #[.int .u32 a0] w fun e w' => e = .returned (.bool r) ∧ Drawn0 w w' := by
  have H : (some ((Go.bits .and .u32 a0 128) != 0)) = some r := h
  clear h
  obtain rfl := Option.some.inj H
  go_enter Tryd.func17, Tryd.ntmps17
  go_wp2
  go_ret
  exact ⟨by first | rfl | (simp; done) | (simp [*]; done), by repeat (first | exact Drawn0.refl _ | apply Drawn0.step)⟩

/-! ### pergolalaw17_alive: function 9 -/
def pergolalaw17_alive.f (k : Nat)  : Option (Bool) := (sandbox_Parse.f k (⟨#[65, 108, 108, 111, 119, 45, 83, 99, 114, 105, 112, 116, 115, 32, 120]⟩ : ByteArray)).bind fun bt109 => ((sandbox_Print.f k bt109.1).bind fun bt113 => ((sandbox_Print.f k 0).bind fun bt115 => (if bt109.1 = 64767 then (if (bt109.2.length : Int) = 1 then (if 0 < (bt109.2.length : Int) then (if (rdOf ByteArray.empty bt109.2 0).toList = ([120] : List UInt8) then ((pergolalaw17_num.f bt113.2).bind fun t118 => (if t118 = 0 then (if bt113.1.toList = ([97, 108, 108, 111, 119, 45, 115, 99, 114, 105, 112, 116, 115] : List UInt8) then ((pergolalaw17_num.f bt115.2).bind fun t119 => (if t119 = 1 then ((sandbox_Opaque.f bt109.1).bind fun t120 => (some t120)) else (some false))) else (some false)) else (some false))) else (some false)) else (none)) else (some false)) else (some false))))
theorem pergolalaw17_alive.mono : ∀ k, LeO (pergolalaw17_alive.f k ) (pergolalaw17_alive.f (k + 1) ) := by
  intro  k
  unfold pergolalaw17_alive.f
  repeat' first
      | (with_reducible exact sandbox_Parse.mono _ _)
      | (with_reducible exact sandbox_Print.mono _ _)
      | (with_reducible exact LeO.refl _)
      | (with_reducible exact LeO.none _)
      | (with_reducible refine LeO.ite ?_ ?_)
      | (with_reducible refine LeO.bind ?_ (fun _ => ?_))
      | exact sandbox_Parse.mono _ _
      | exact sandbox_Print.mono _ _
      | exact LeO.none _
      | refine LeO.ite ?_ ?_
      | refine LeO.bind ?_ (fun _ => ?_)
set_option maxHeartbeats 8000000 in
set_option maxRecDepth 100000 in
theorem pergolalaw17_alive.calls (k : Nat)  (r : Bool) (w : World) (hT_ : TokIs w) (h : pergolalaw17_alive.f k  = some r) :
    Calls Tryd.prog 9 #[] w fun e w' => e = .returned (.bool r) ∧ Below w.heap.size w w' := by
  have HT0_ := Aside0.mk hT_
  clear hT_
  have HB := Aside0.mk (Below.refl w.heap.size w)
  have H : ((sandbox_Parse.f k (⟨#[65, 108, 108, 111, 119, 45, 83, 99, 114, 105, 112, 116, 115, 32, 120]⟩ : ByteArray)).bind fun bt109 => ((sandbox_Print.f k bt109.1).bind fun bt113 => ((sandbox_Print.f k 0).bind fun bt115 => (if bt109.1 = 64767 then (if (bt109.2.length : Int) = 1 then (if 0 < (bt109.2.length : Int) then (if (rdOf ByteArray.empty bt109.2 0).toList = ([120] : List UInt8) then ((pergolalaw17_num.f bt113.2).bind fun t118 => (if t118 = 0 then (if bt113.1.toList = ([97, 108, 108, 111, 119, 45, 115, 99, 114, 105, 112, 116, 115] : List UInt8) then ((pergolalaw17_num.f bt115.2).bind fun t119 => (if t119 = 1 then ((sandbox_Opaque.f bt109.1).bind fun t120 => (some t120)) else (some false))) else (some false)) else (some false))) else (some false)) else (none)) else (some false)) else (some false))))) = some r := h
  clear h
  replace H := Option.bind_eq_some_iff.mp H
  obtain ⟨⟨t109, t110⟩, A10, H⟩ := H
  replace H : ((sandbox_Print.f k t109).bind fun bt113 => ((sandbox_Print.f k 0).bind fun bt115 => (if t109 = 64767 then (if (t110.length : Int) = 1 then (if 0 < (t110.length : Int) then (if (rdOf ByteArray.empty t110 0).toList = ([120] : List UInt8) then ((pergolalaw17_num.f bt113.2).bind fun t118 => (if t118 = 0 then (if bt113.1.toList = ([97, 108, 108, 111, 119, 45, 115, 99, 114, 105, 112, 116, 115] : List UInt8) then ((pergolalaw17_num.f bt115.2).bind fun t119 => (if t119 = 1 then ((sandbox_Opaque.f t109).bind fun t120 => (some t120)) else (some false))) else (some false)) else (some false))) else (some false)) else (none)) else (some false)) else (some false)))) = some r := H
  have A1 := Aside0.mk A10
  clear A10
  replace H := Option.bind_eq_some_iff.mp H
  obtain ⟨⟨t113, t114⟩, A20, H⟩ := H
  replace H : ((sandbox_Print.f k 0).bind fun bt115 => (if t109 = 64767 then (if (t110.length : Int) = 1 then (if 0 < (t110.length : Int) then (if (rdOf ByteArray.empty t110 0).toList = ([120] : List UInt8) then ((pergolalaw17_num.f t114).bind fun t118 => (if t118 = 0 then (if t113.toList = ([97, 108, 108, 111, 119, 45, 115, 99, 114, 105, 112, 116, 115] : List UInt8) then ((pergolalaw17_num.f bt115.2).bind fun t119 => (if t119 = 1 then ((sandbox_Opaque.f t109).bind fun t120 => (some t120)) else (some false))) else (some false)) else (some false))) else (some false)) else (none)) else (some false)) else (some false))) = some r := H
  have A2 := Aside0.mk A20
  clear A20
  replace H := Option.bind_eq_some_iff.mp H
  obtain ⟨⟨t115, t116⟩, A30, H⟩ := H
  replace H : (if t109 = 64767 then (if (t110.length : Int) = 1 then (if 0 < (t110.length : Int) then (if (rdOf ByteArray.empty t110 0).toList = ([120] : List UInt8) then ((pergolalaw17_num.f t114).bind fun t118 => (if t118 = 0 then (if t113.toList = ([97, 108, 108, 111, 119, 45, 115, 99, 114, 105, 112, 116, 115] : List UInt8) then ((pergolalaw17_num.f t116).bind fun t119 => (if t119 = 1 then ((sandbox_Opaque.f t109).bind fun t120 => (some t120)) else (some false))) else (some false)) else (some false))) else (some false)) else (none)) else (some false)) else (some false)) = some r := H
  have A3 := Aside0.mk A30
  clear A30
  by_cases c4 : t109 = 64767
  · rw [if_pos c4] at H
    have c4b0 : (t109 == 64767) = true := beq_iff_eq.mpr c4
    have c4b1 : (t109 != 64767) = false := bne_eq_false_iff_eq.mpr c4
    clear c4
    by_cases c5 : (t110.length : Int) = 1
    · rw [if_pos c5] at H
      have c5b0 : ((t110.length : Int) == 1) = true := beq_iff_eq.mpr c5
      have c5b1 : ((t110.length : Int) != 1) = false := bne_eq_false_iff_eq.mpr c5
      clear c5
      by_cases c6 : 0 < (t110.length : Int)
      · rw [if_pos c6] at H
        have c6b0 : decide (0 < (t110.length : Int)) = true := decide_eq_true c6
        have c6b1 : decide (0 < t110.length) = true := decide_eq_true (by omega)
        clear c6
        by_cases c7 : (rdOf ByteArray.empty t110 0).toList = ([120] : List UInt8)
        · rw [if_pos c7] at H
          have c7b0 : ((rdOf ByteArray.empty t110 0).toList == ([120] : List UInt8)) = true := beq_iff_eq.mpr c7
          have c7b1 : ((rdOf ByteArray.empty t110 0).toList != ([120] : List UInt8)) = false := bne_eq_false_iff_eq.mpr c7
          clear c7
          replace H := Option.bind_eq_some_iff.mp H
          obtain ⟨t118, A80, H⟩ := H
          replace H : (if t118 = 0 then (if t113.toList = ([97, 108, 108, 111, 119, 45, 115, 99, 114, 105, 112, 116, 115] : List UInt8) then ((pergolalaw17_num.f t116).bind fun t119 => (if t119 = 1 then ((sandbox_Opaque.f t109).bind fun t120 => (some t120)) else (some false))) else (some false)) else (some false)) = some r := H
          have A8 := Aside0.mk A80
          clear A80
          by_cases c9 : t118 = 0
          · rw [if_pos c9] at H
            have c9b0 : (t118 == 0) = true := beq_iff_eq.mpr c9
            have c9b1 : (t118 != 0) = false := bne_eq_false_iff_eq.mpr c9
            clear c9
            by_cases c10 : t113.toList = ([97, 108, 108, 111, 119, 45, 115, 99, 114, 105, 112, 116, 115] : List UInt8)
            · rw [if_pos c10] at H
              have c10b0 : (t113.toList == ([97, 108, 108, 111, 119, 45, 115, 99, 114, 105, 112, 116, 115] : List UInt8)) = true := beq_iff_eq.mpr c10
              have c10b1 : (t113.toList != ([97, 108, 108, 111, 119, 45, 115, 99, 114, 105, 112, 116, 115] : List UInt8)) = false := bne_eq_false_iff_eq.mpr c10
              clear c10
              replace H := Option.bind_eq_some_iff.mp H
              obtain ⟨t119, A110, H⟩ := H
              replace H : (if t119 = 1 then ((sandbox_Opaque.f t109).bind fun t120 => (some t120)) else (some false)) = some r := H
              have A11 := Aside0.mk A110
              clear A110
              by_cases c12 : t119 = 1
              · rw [if_pos c12] at H
                have c12b0 : (t119 == 1) = true := beq_iff_eq.mpr c12
                have c12b1 : (t119 != 1) = false := bne_eq_false_iff_eq.mpr c12
                clear c12
                replace H := Option.bind_eq_some_iff.mp H
                obtain ⟨t120, A130, H⟩ := H
                replace H : (some t120) = some r := H
                have A13 := Aside0.mk A130
                clear A130
                obtain rfl := Option.some.inj H
                go_enter Tryd.func9, Tryd.ntmps9
                go_wp2_with (first | ((with_reducible refine gate_callee (f := 12) rfl ?_); refine goesL_ (some 8) rfl rfl Tryd.func12 (by kernel_rfl) rfl #[.string (⟨#[65, 108, 108, 111, 119, 45, 83, 99, 114, 105, 112, 116, 115, 32, 120]⟩ : ByteArray)] rfl (by (try simp only [List.map_toArray, List.map_cons, List.map_nil]); first | done | rfl | (simp only [List.length_drop, List.length_take]; rfl)) ?_; (with_reducible refine (sandbox_Parse.calls k (⟨#[65, 108, 108, 111, 119, 45, 83, 99, 114, 105, 112, 116, 115, 32, 120]⟩ : ByteArray) t109 t110 _ ?tabT_ A1.out).mono ?_); (case tabT_ => exact TokIs.below HT0_.out (by repeat (first | (with_reducible first | exact HB.out | apply below_alloc | apply pw_below_drewN | apply below_drew1) | exact HB.out))); rintro e w14 ⟨v111, rfl, ho0, hb⟩; refine ⟨_, rfl, ?_⟩; have n0_ := Aside0.mk (Kd.R_lower ho0 (below_size (by repeat (first | (with_reducible first | exact HB.out | apply below_alloc | apply pw_below_drewN | apply below_drew1) | exact HB.out)))); have n1_ := Aside0.mk (below_step (by repeat (first | (with_reducible first | exact HB.out | apply below_alloc | apply pw_below_drewN | apply below_drew1) | exact HB.out)) hb); clear HB; have HO112 := n0_; have HB := n1_; clear n0_ n1_; (try clear hb); (try clear hb2); (try clear hk); (try clear hi); (try clear ho0)) | ((with_reducible refine gate_callee (f := 10) rfl ?_); refine goesL_ (some 13) rfl rfl Tryd.func10 (by kernel_rfl) rfl #[.int .u32 t109] rfl (by (try simp only [List.map_toArray, List.map_cons, List.map_nil]); first | done | rfl | (simp only [List.length_drop, List.length_take]; rfl)) ?_; (with_reducible refine (sandbox_Print.calls k t109 t113 t114 _ ?tabT_ A2.out).mono ?_); (case tabT_ => exact TokIs.below HT0_.out (by repeat (first | (with_reducible first | exact HB.out | apply below_alloc | apply pw_below_drewN | apply below_drew1) | exact HB.out))); rintro e w15 ⟨rfl, hb⟩; refine ⟨_, rfl, ?_⟩; have n0_ := Aside0.mk (Kd.R_below (by (with_reducible repeat (first | apply Kd.R_alloc | apply Kd.R_drewN | apply Kd.R_drew)); exact HO112.out) hb); have n1_ := Aside0.mk (below_step (by repeat (first | (with_reducible first | exact HB.out | apply below_alloc | apply pw_below_drewN | apply below_drew1) | exact HB.out)) hb); clear HO112; clear HB; have HO112 := n0_; have HB := n1_; clear n0_ n1_; (try clear hb); (try clear hb2); (try clear hk); (try clear hi)) | ((with_reducible refine gate_callee (f := 10) rfl ?_); refine goesL_ (some 17) rfl rfl Tryd.func10 (by kernel_rfl) rfl #[.int .u32 0] rfl (by (try simp only [List.map_toArray, List.map_cons, List.map_nil]); first | done | rfl | (simp only [List.length_drop, List.length_take]; rfl)) ?_; (with_reducible refine (sandbox_Print.calls k 0 t115 t116 _ ?tabT_ A3.out).mono ?_); (case tabT_ => exact TokIs.below HT0_.out (by repeat (first | (with_reducible first | exact HB.out | apply below_alloc | apply pw_below_drewN | apply below_drew1) | exact HB.out))); rintro e w16 ⟨rfl, hb⟩; refine ⟨_, rfl, ?_⟩; have n0_ := Aside0.mk (Kd.R_below (by (with_reducible repeat (first | apply Kd.R_alloc | apply Kd.R_drewN | apply Kd.R_drew)); exact HO112.out) hb); have n1_ := Aside0.mk (below_step (by repeat (first | (with_reducible first | exact HB.out | apply below_alloc | apply pw_below_drewN | apply below_drew1) | exact HB.out)) hb); clear HO112; clear HB; have HO112 := n0_; have HB := n1_; clear n0_ n1_; (try clear hb); (try clear hb2); (try clear hk); (try clear hi); obtain ⟨Ao17, co17, eo17⟩ := Kd.R_slice HO112.out; subst eo17; have p117 : 0 ≤ (0 : Int) := (by omega); have q117 : 0 < (t110.length : Int) := of_decide_eq_true (by first | (with_reducible assumption) | assumption); obtain ⟨ad117, e117, hx117_0⟩ := Kd.at_string (Kd.R_reads' HO112.out).2.2 0 p117 q117; cases e117; have qi117 : (0 < t110.length) = True := eq_true (by omega); (try rw [show ((0 : Int)).toNat = 0 from rfl] at hx117_0); (try rw [Addr.add_zero'] at hx117_0); replace p117 := eq_true p117; replace q117 := eq_true q117) | (go_at_call 11; (with_reducible refine (pergolalaw17_num.calls t114 t118 _ A8.out).mono ?_); rintro e w' ⟨rfl, ⟨nd, rfl⟩⟩) | (go_at_call 11; (with_reducible refine (pergolalaw17_num.calls t116 t119 _ A11.out).mono ?_); rintro e w' ⟨rfl, ⟨nd, rfl⟩⟩) | (go_at_call 17; (with_reducible refine (sandbox_Opaque.calls t109 t120 _ A13.out).mono ?_); rintro e w' ⟨rfl, ⟨nd, rfl⟩⟩))
                go_ret
                exact ⟨by first | rfl | (simp [errW_none, errW_some] <;> rfl) | (simp [*, errW_none, errW_some] <;> rfl), by repeat (first | (with_reducible first | exact HB.out | apply below_alloc | apply pw_below_drewN | apply below_drew1) | exact HB.out)⟩
              · rw [if_neg c12] at H
                have c12b0 : (t119 == 1) = false := beq_eq_false_iff_ne.mpr c12
                have c12b1 : (t119 != 1) = true := bne_iff_ne.mpr c12
                obtain rfl := Option.some.inj H
                go_enter Tryd.func9, Tryd.ntmps9
                go_wp2_with (first | ((with_reducible refine gate_callee (f := 12) rfl ?_); refine goesL_ (some 8) rfl rfl Tryd.func12 (by kernel_rfl) rfl #[.string (⟨#[65, 108, 108, 111, 119, 45, 83, 99, 114, 105, 112, 116, 115, 32, 120]⟩ : ByteArray)] rfl (by (try simp only [List.map_toArray, List.map_cons, List.map_nil]); first | done | rfl | (simp only [List.length_drop, List.length_take]; rfl)) ?_; (with_reducible refine (sandbox_Parse.calls k (⟨#[65, 108, 108, 111, 119, 45, 83, 99, 114, 105, 112, 116, 115, 32, 120]⟩ : ByteArray) t109 t110 _ ?tabT_ A1.out).mono ?_); (case tabT_ => exact TokIs.below HT0_.out (by repeat (first | (with_reducible first | exact HB.out | apply below_alloc | apply pw_below_drewN | apply below_drew1) | exact HB.out))); rintro e w18 ⟨v111, rfl, ho0, hb⟩; refine ⟨_, rfl, ?_⟩; have n0_ := Aside0.mk (Kd.R_lower ho0 (below_size (by repeat (first | (with_reducible first | exact HB.out | apply below_alloc | apply pw_below_drewN | apply below_drew1) | exact HB.out)))); have n1_ := Aside0.mk (below_step (by repeat (first | (with_reducible first | exact HB.out | apply below_alloc | apply pw_below_drewN | apply below_drew1) | exact HB.out)) hb); clear HB; have HO112 := n0_; have HB := n1_; clear n0_ n1_; (try clear hb); (try clear hb2); (try clear hk); (try clear hi); (try clear ho0)) | ((with_reducible refine gate_callee (f := 10) rfl ?_); refine goesL_ (some 13) rfl rfl Tryd.func10 (by kernel_rfl) rfl #[.int .u32 t109] rfl (by (try simp only [List.map_toArray, List.map_cons, List.map_nil]); first | done | rfl | (simp only [List.length_drop, List.length_take]; rfl)) ?_; (with_reducible refine (sandbox_Print.calls k t109 t113 t114 _ ?tabT_ A2.out).mono ?_); (case tabT_ => exact TokIs.below HT0_.out (by repeat (first | (with_reducible first | exact HB.out | apply below_alloc | apply pw_below_drewN | apply below_drew1) | exact HB.out))); rintro e w19 ⟨rfl, hb⟩; refine ⟨_, rfl, ?_⟩; have n0_ := Aside0.mk (Kd.R_below (by (with_reducible repeat (first | apply Kd.R_alloc | apply Kd.R_drewN | apply Kd.R_drew)); exact HO112.out) hb); have n1_ := Aside0.mk (below_step (by repeat (first | (with_reducible first | exact HB.out | apply below_alloc | apply pw_below_drewN | apply below_drew1) | exact HB.out)) hb); clear HO112; clear HB; have HO112 := n0_; have HB := n1_; clear n0_ n1_; (try clear hb); (try clear hb2); (try clear hk); (try clear hi)) | ((with_reducible refine gate_callee (f := 10) rfl ?_); refine goesL_ (some 17) rfl rfl Tryd.func10 (by kernel_rfl) rfl #[.int .u32 0] rfl (by (try simp only [List.map_toArray, List.map_cons, List.map_nil]); first | done | rfl | (simp only [List.length_drop, List.length_take]; rfl)) ?_; (with_reducible refine (sandbox_Print.calls k 0 t115 t116 _ ?tabT_ A3.out).mono ?_); (case tabT_ => exact TokIs.below HT0_.out (by repeat (first | (with_reducible first | exact HB.out | apply below_alloc | apply pw_below_drewN | apply below_drew1) | exact HB.out))); rintro e w20 ⟨rfl, hb⟩; refine ⟨_, rfl, ?_⟩; have n0_ := Aside0.mk (Kd.R_below (by (with_reducible repeat (first | apply Kd.R_alloc | apply Kd.R_drewN | apply Kd.R_drew)); exact HO112.out) hb); have n1_ := Aside0.mk (below_step (by repeat (first | (with_reducible first | exact HB.out | apply below_alloc | apply pw_below_drewN | apply below_drew1) | exact HB.out)) hb); clear HO112; clear HB; have HO112 := n0_; have HB := n1_; clear n0_ n1_; (try clear hb); (try clear hb2); (try clear hk); (try clear hi); obtain ⟨Ao21, co21, eo21⟩ := Kd.R_slice HO112.out; subst eo21; have p117 : 0 ≤ (0 : Int) := (by omega); have q117 : 0 < (t110.length : Int) := of_decide_eq_true (by first | (with_reducible assumption) | assumption); obtain ⟨ad117, e117, hx117_0⟩ := Kd.at_string (Kd.R_reads' HO112.out).2.2 0 p117 q117; cases e117; have qi117 : (0 < t110.length) = True := eq_true (by omega); (try rw [show ((0 : Int)).toNat = 0 from rfl] at hx117_0); (try rw [Addr.add_zero'] at hx117_0); replace p117 := eq_true p117; replace q117 := eq_true q117) | (go_at_call 11; (with_reducible refine (pergolalaw17_num.calls t114 t118 _ A8.out).mono ?_); rintro e w' ⟨rfl, ⟨nd, rfl⟩⟩) | (go_at_call 11; (with_reducible refine (pergolalaw17_num.calls t116 t119 _ A11.out).mono ?_); rintro e w' ⟨rfl, ⟨nd, rfl⟩⟩))
                go_ret
                exact ⟨by first | rfl | (simp [errW_none, errW_some] <;> rfl) | (simp [*, errW_none, errW_some] <;> rfl), by repeat (first | (with_reducible first | exact HB.out | apply below_alloc | apply pw_below_drewN | apply below_drew1) | exact HB.out)⟩
            · rw [if_neg c10] at H
              have c10b0 : (t113.toList == ([97, 108, 108, 111, 119, 45, 115, 99, 114, 105, 112, 116, 115] : List UInt8)) = false := beq_eq_false_iff_ne.mpr c10
              have c10b1 : (t113.toList != ([97, 108, 108, 111, 119, 45, 115, 99, 114, 105, 112, 116, 115] : List UInt8)) = true := bne_iff_ne.mpr c10
              obtain rfl := Option.some.inj H
              go_enter Tryd.func9, Tryd.ntmps9
              go_wp2_with (first | ((with_reducible refine gate_callee (f := 12) rfl ?_); refine goesL_ (some 8) rfl rfl Tryd.func12 (by kernel_rfl) rfl #[.string (⟨#[65, 108, 108, 111, 119, 45, 83, 99, 114, 105, 112, 116, 115, 32, 120]⟩ : ByteArray)] rfl (by (try simp only [List.map_toArray, List.map_cons, List.map_nil]); first | done | rfl | (simp only [List.length_drop, List.length_take]; rfl)) ?_; (with_reducible refine (sandbox_Parse.calls k (⟨#[65, 108, 108, 111, 119, 45, 83, 99, 114, 105, 112, 116, 115, 32, 120]⟩ : ByteArray) t109 t110 _ ?tabT_ A1.out).mono ?_); (case tabT_ => exact TokIs.below HT0_.out (by repeat (first | (with_reducible first | exact HB.out | apply below_alloc | apply pw_below_drewN | apply below_drew1) | exact HB.out))); rintro e w22 ⟨v111, rfl, ho0, hb⟩; refine ⟨_, rfl, ?_⟩; have n0_ := Aside0.mk (Kd.R_lower ho0 (below_size (by repeat (first | (with_reducible first | exact HB.out | apply below_alloc | apply pw_below_drewN | apply below_drew1) | exact HB.out)))); have n1_ := Aside0.mk (below_step (by repeat (first | (with_reducible first | exact HB.out | apply below_alloc | apply pw_below_drewN | apply below_drew1) | exact HB.out)) hb); clear HB; have HO112 := n0_; have HB := n1_; clear n0_ n1_; (try clear hb); (try clear hb2); (try clear hk); (try clear hi); (try clear ho0)) | ((with_reducible refine gate_callee (f := 10) rfl ?_); refine goesL_ (some 13) rfl rfl Tryd.func10 (by kernel_rfl) rfl #[.int .u32 t109] rfl (by (try simp only [List.map_toArray, List.map_cons, List.map_nil]); first | done | rfl | (simp only [List.length_drop, List.length_take]; rfl)) ?_; (with_reducible refine (sandbox_Print.calls k t109 t113 t114 _ ?tabT_ A2.out).mono ?_); (case tabT_ => exact TokIs.below HT0_.out (by repeat (first | (with_reducible first | exact HB.out | apply below_alloc | apply pw_below_drewN | apply below_drew1) | exact HB.out))); rintro e w23 ⟨rfl, hb⟩; refine ⟨_, rfl, ?_⟩; have n0_ := Aside0.mk (Kd.R_below (by (with_reducible repeat (first | apply Kd.R_alloc | apply Kd.R_drewN | apply Kd.R_drew)); exact HO112.out) hb); have n1_ := Aside0.mk (below_step (by repeat (first | (with_reducible first | exact HB.out | apply below_alloc | apply pw_below_drewN | apply below_drew1) | exact HB.out)) hb); clear HO112; clear HB; have HO112 := n0_; have HB := n1_; clear n0_ n1_; (try clear hb); (try clear hb2); (try clear hk); (try clear hi)) | ((with_reducible refine gate_callee (f := 10) rfl ?_); refine goesL_ (some 17) rfl rfl Tryd.func10 (by kernel_rfl) rfl #[.int .u32 0] rfl (by (try simp only [List.map_toArray, List.map_cons, List.map_nil]); first | done | rfl | (simp only [List.length_drop, List.length_take]; rfl)) ?_; (with_reducible refine (sandbox_Print.calls k 0 t115 t116 _ ?tabT_ A3.out).mono ?_); (case tabT_ => exact TokIs.below HT0_.out (by repeat (first | (with_reducible first | exact HB.out | apply below_alloc | apply pw_below_drewN | apply below_drew1) | exact HB.out))); rintro e w24 ⟨rfl, hb⟩; refine ⟨_, rfl, ?_⟩; have n0_ := Aside0.mk (Kd.R_below (by (with_reducible repeat (first | apply Kd.R_alloc | apply Kd.R_drewN | apply Kd.R_drew)); exact HO112.out) hb); have n1_ := Aside0.mk (below_step (by repeat (first | (with_reducible first | exact HB.out | apply below_alloc | apply pw_below_drewN | apply below_drew1) | exact HB.out)) hb); clear HO112; clear HB; have HO112 := n0_; have HB := n1_; clear n0_ n1_; (try clear hb); (try clear hb2); (try clear hk); (try clear hi); obtain ⟨Ao25, co25, eo25⟩ := Kd.R_slice HO112.out; subst eo25; have p117 : 0 ≤ (0 : Int) := (by omega); have q117 : 0 < (t110.length : Int) := of_decide_eq_true (by first | (with_reducible assumption) | assumption); obtain ⟨ad117, e117, hx117_0⟩ := Kd.at_string (Kd.R_reads' HO112.out).2.2 0 p117 q117; cases e117; have qi117 : (0 < t110.length) = True := eq_true (by omega); (try rw [show ((0 : Int)).toNat = 0 from rfl] at hx117_0); (try rw [Addr.add_zero'] at hx117_0); replace p117 := eq_true p117; replace q117 := eq_true q117) | (go_at_call 11; (with_reducible refine (pergolalaw17_num.calls t114 t118 _ A8.out).mono ?_); rintro e w' ⟨rfl, ⟨nd, rfl⟩⟩))
              go_ret
              exact ⟨by first | rfl | (simp [errW_none, errW_some] <;> rfl) | (simp [*, errW_none, errW_some] <;> rfl), by repeat (first | (with_reducible first | exact HB.out | apply below_alloc | apply pw_below_drewN | apply below_drew1) | exact HB.out)⟩
          · rw [if_neg c9] at H
            have c9b0 : (t118 == 0) = false := beq_eq_false_iff_ne.mpr c9
            have c9b1 : (t118 != 0) = true := bne_iff_ne.mpr c9
            obtain rfl := Option.some.inj H
            go_enter Tryd.func9, Tryd.ntmps9
            go_wp2_with (first | ((with_reducible refine gate_callee (f := 12) rfl ?_); refine goesL_ (some 8) rfl rfl Tryd.func12 (by kernel_rfl) rfl #[.string (⟨#[65, 108, 108, 111, 119, 45, 83, 99, 114, 105, 112, 116, 115, 32, 120]⟩ : ByteArray)] rfl (by (try simp only [List.map_toArray, List.map_cons, List.map_nil]); first | done | rfl | (simp only [List.length_drop, List.length_take]; rfl)) ?_; (with_reducible refine (sandbox_Parse.calls k (⟨#[65, 108, 108, 111, 119, 45, 83, 99, 114, 105, 112, 116, 115, 32, 120]⟩ : ByteArray) t109 t110 _ ?tabT_ A1.out).mono ?_); (case tabT_ => exact TokIs.below HT0_.out (by repeat (first | (with_reducible first | exact HB.out | apply below_alloc | apply pw_below_drewN | apply below_drew1) | exact HB.out))); rintro e w26 ⟨v111, rfl, ho0, hb⟩; refine ⟨_, rfl, ?_⟩; have n0_ := Aside0.mk (Kd.R_lower ho0 (below_size (by repeat (first | (with_reducible first | exact HB.out | apply below_alloc | apply pw_below_drewN | apply below_drew1) | exact HB.out)))); have n1_ := Aside0.mk (below_step (by repeat (first | (with_reducible first | exact HB.out | apply below_alloc | apply pw_below_drewN | apply below_drew1) | exact HB.out)) hb); clear HB; have HO112 := n0_; have HB := n1_; clear n0_ n1_; (try clear hb); (try clear hb2); (try clear hk); (try clear hi); (try clear ho0)) | ((with_reducible refine gate_callee (f := 10) rfl ?_); refine goesL_ (some 13) rfl rfl Tryd.func10 (by kernel_rfl) rfl #[.int .u32 t109] rfl (by (try simp only [List.map_toArray, List.map_cons, List.map_nil]); first | done | rfl | (simp only [List.length_drop, List.length_take]; rfl)) ?_; (with_reducible refine (sandbox_Print.calls k t109 t113 t114 _ ?tabT_ A2.out).mono ?_); (case tabT_ => exact TokIs.below HT0_.out (by repeat (first | (with_reducible first | exact HB.out | apply below_alloc | apply pw_below_drewN | apply below_drew1) | exact HB.out))); rintro e w27 ⟨rfl, hb⟩; refine ⟨_, rfl, ?_⟩; have n0_ := Aside0.mk (Kd.R_below (by (with_reducible repeat (first | apply Kd.R_alloc | apply Kd.R_drewN | apply Kd.R_drew)); exact HO112.out) hb); have n1_ := Aside0.mk (below_step (by repeat (first | (with_reducible first | exact HB.out | apply below_alloc | apply pw_below_drewN | apply below_drew1) | exact HB.out)) hb); clear HO112; clear HB; have HO112 := n0_; have HB := n1_; clear n0_ n1_; (try clear hb); (try clear hb2); (try clear hk); (try clear hi)) | ((with_reducible refine gate_callee (f := 10) rfl ?_); refine goesL_ (some 17) rfl rfl Tryd.func10 (by kernel_rfl) rfl #[.int .u32 0] rfl (by (try simp only [List.map_toArray, List.map_cons, List.map_nil]); first | done | rfl | (simp only [List.length_drop, List.length_take]; rfl)) ?_; (with_reducible refine (sandbox_Print.calls k 0 t115 t116 _ ?tabT_ A3.out).mono ?_); (case tabT_ => exact TokIs.below HT0_.out (by repeat (first | (with_reducible first | exact HB.out | apply below_alloc | apply pw_below_drewN | apply below_drew1) | exact HB.out))); rintro e w28 ⟨rfl, hb⟩; refine ⟨_, rfl, ?_⟩; have n0_ := Aside0.mk (Kd.R_below (by (with_reducible repeat (first | apply Kd.R_alloc | apply Kd.R_drewN | apply Kd.R_drew)); exact HO112.out) hb); have n1_ := Aside0.mk (below_step (by repeat (first | (with_reducible first | exact HB.out | apply below_alloc | apply pw_below_drewN | apply below_drew1) | exact HB.out)) hb); clear HO112; clear HB; have HO112 := n0_; have HB := n1_; clear n0_ n1_; (try clear hb); (try clear hb2); (try clear hk); (try clear hi); obtain ⟨Ao29, co29, eo29⟩ := Kd.R_slice HO112.out; subst eo29; have p117 : 0 ≤ (0 : Int) := (by omega); have q117 : 0 < (t110.length : Int) := of_decide_eq_true (by first | (with_reducible assumption) | assumption); obtain ⟨ad117, e117, hx117_0⟩ := Kd.at_string (Kd.R_reads' HO112.out).2.2 0 p117 q117; cases e117; have qi117 : (0 < t110.length) = True := eq_true (by omega); (try rw [show ((0 : Int)).toNat = 0 from rfl] at hx117_0); (try rw [Addr.add_zero'] at hx117_0); replace p117 := eq_true p117; replace q117 := eq_true q117) | (go_at_call 11; (with_reducible refine (pergolalaw17_num.calls t114 t118 _ A8.out).mono ?_); rintro e w' ⟨rfl, ⟨nd, rfl⟩⟩))
            go_ret
            exact ⟨by first | rfl | (simp [errW_none, errW_some] <;> rfl) | (simp [*, errW_none, errW_some] <;> rfl), by repeat (first | (with_reducible first | exact HB.out | apply below_alloc | apply pw_below_drewN | apply below_drew1) | exact HB.out)⟩
        · rw [if_neg c7] at H
          have c7b0 : ((rdOf ByteArray.empty t110 0).toList == ([120] : List UInt8)) = false := beq_eq_false_iff_ne.mpr c7
          have c7b1 : ((rdOf ByteArray.empty t110 0).toList != ([120] : List UInt8)) = true := bne_iff_ne.mpr c7
          obtain rfl := Option.some.inj H
          go_enter Tryd.func9, Tryd.ntmps9
          go_wp2_with (first | ((with_reducible refine gate_callee (f := 12) rfl ?_); refine goesL_ (some 8) rfl rfl Tryd.func12 (by kernel_rfl) rfl #[.string (⟨#[65, 108, 108, 111, 119, 45, 83, 99, 114, 105, 112, 116, 115, 32, 120]⟩ : ByteArray)] rfl (by (try simp only [List.map_toArray, List.map_cons, List.map_nil]); first | done | rfl | (simp only [List.length_drop, List.length_take]; rfl)) ?_; (with_reducible refine (sandbox_Parse.calls k (⟨#[65, 108, 108, 111, 119, 45, 83, 99, 114, 105, 112, 116, 115, 32, 120]⟩ : ByteArray) t109 t110 _ ?tabT_ A1.out).mono ?_); (case tabT_ => exact TokIs.below HT0_.out (by repeat (first | (with_reducible first | exact HB.out | apply below_alloc | apply pw_below_drewN | apply below_drew1) | exact HB.out))); rintro e w30 ⟨v111, rfl, ho0, hb⟩; refine ⟨_, rfl, ?_⟩; have n0_ := Aside0.mk (Kd.R_lower ho0 (below_size (by repeat (first | (with_reducible first | exact HB.out | apply below_alloc | apply pw_below_drewN | apply below_drew1) | exact HB.out)))); have n1_ := Aside0.mk (below_step (by repeat (first | (with_reducible first | exact HB.out | apply below_alloc | apply pw_below_drewN | apply below_drew1) | exact HB.out)) hb); clear HB; have HO112 := n0_; have HB := n1_; clear n0_ n1_; (try clear hb); (try clear hb2); (try clear hk); (try clear hi); (try clear ho0)) | ((with_reducible refine gate_callee (f := 10) rfl ?_); refine goesL_ (some 13) rfl rfl Tryd.func10 (by kernel_rfl) rfl #[.int .u32 t109] rfl (by (try simp only [List.map_toArray, List.map_cons, List.map_nil]); first | done | rfl | (simp only [List.length_drop, List.length_take]; rfl)) ?_; (with_reducible refine (sandbox_Print.calls k t109 t113 t114 _ ?tabT_ A2.out).mono ?_); (case tabT_ => exact TokIs.below HT0_.out (by repeat (first | (with_reducible first | exact HB.out | apply below_alloc | apply pw_below_drewN | apply below_drew1) | exact HB.out))); rintro e w31 ⟨rfl, hb⟩; refine ⟨_, rfl, ?_⟩; have n0_ := Aside0.mk (Kd.R_below (by (with_reducible repeat (first | apply Kd.R_alloc | apply Kd.R_drewN | apply Kd.R_drew)); exact HO112.out) hb); have n1_ := Aside0.mk (below_step (by repeat (first | (with_reducible first | exact HB.out | apply below_alloc | apply pw_below_drewN | apply below_drew1) | exact HB.out)) hb); clear HO112; clear HB; have HO112 := n0_; have HB := n1_; clear n0_ n1_; (try clear hb); (try clear hb2); (try clear hk); (try clear hi)) | ((with_reducible refine gate_callee (f := 10) rfl ?_); refine goesL_ (some 17) rfl rfl Tryd.func10 (by kernel_rfl) rfl #[.int .u32 0] rfl (by (try simp only [List.map_toArray, List.map_cons, List.map_nil]); first | done | rfl | (simp only [List.length_drop, List.length_take]; rfl)) ?_; (with_reducible refine (sandbox_Print.calls k 0 t115 t116 _ ?tabT_ A3.out).mono ?_); (case tabT_ => exact TokIs.below HT0_.out (by repeat (first | (with_reducible first | exact HB.out | apply below_alloc | apply pw_below_drewN | apply below_drew1) | exact HB.out))); rintro e w32 ⟨rfl, hb⟩; refine ⟨_, rfl, ?_⟩; have n0_ := Aside0.mk (Kd.R_below (by (with_reducible repeat (first | apply Kd.R_alloc | apply Kd.R_drewN | apply Kd.R_drew)); exact HO112.out) hb); have n1_ := Aside0.mk (below_step (by repeat (first | (with_reducible first | exact HB.out | apply below_alloc | apply pw_below_drewN | apply below_drew1) | exact HB.out)) hb); clear HO112; clear HB; have HO112 := n0_; have HB := n1_; clear n0_ n1_; (try clear hb); (try clear hb2); (try clear hk); (try clear hi); obtain ⟨Ao33, co33, eo33⟩ := Kd.R_slice HO112.out; subst eo33; have p117 : 0 ≤ (0 : Int) := (by omega); have q117 : 0 < (t110.length : Int) := of_decide_eq_true (by first | (with_reducible assumption) | assumption); obtain ⟨ad117, e117, hx117_0⟩ := Kd.at_string (Kd.R_reads' HO112.out).2.2 0 p117 q117; cases e117; have qi117 : (0 < t110.length) = True := eq_true (by omega); (try rw [show ((0 : Int)).toNat = 0 from rfl] at hx117_0); (try rw [Addr.add_zero'] at hx117_0); replace p117 := eq_true p117; replace q117 := eq_true q117))
          go_ret
          exact ⟨by first | rfl | (simp [errW_none, errW_some] <;> rfl) | (simp [*, errW_none, errW_some] <;> rfl), by repeat (first | (with_reducible first | exact HB.out | apply below_alloc | apply pw_below_drewN | apply below_drew1) | exact HB.out)⟩
      · rw [if_neg c6] at H
        exact absurd H (by simp)
    · rw [if_neg c5] at H
      have c5b0 : ((t110.length : Int) == 1) = false := beq_eq_false_iff_ne.mpr c5
      have c5b1 : ((t110.length : Int) != 1) = true := bne_iff_ne.mpr c5
      obtain rfl := Option.some.inj H
      go_enter Tryd.func9, Tryd.ntmps9
      go_wp2_with (first | ((with_reducible refine gate_callee (f := 12) rfl ?_); refine goesL_ (some 8) rfl rfl Tryd.func12 (by kernel_rfl) rfl #[.string (⟨#[65, 108, 108, 111, 119, 45, 83, 99, 114, 105, 112, 116, 115, 32, 120]⟩ : ByteArray)] rfl (by (try simp only [List.map_toArray, List.map_cons, List.map_nil]); first | done | rfl | (simp only [List.length_drop, List.length_take]; rfl)) ?_; (with_reducible refine (sandbox_Parse.calls k (⟨#[65, 108, 108, 111, 119, 45, 83, 99, 114, 105, 112, 116, 115, 32, 120]⟩ : ByteArray) t109 t110 _ ?tabT_ A1.out).mono ?_); (case tabT_ => exact TokIs.below HT0_.out (by repeat (first | (with_reducible first | exact HB.out | apply below_alloc | apply pw_below_drewN | apply below_drew1) | exact HB.out))); rintro e w34 ⟨v111, rfl, ho0, hb⟩; refine ⟨_, rfl, ?_⟩; have n0_ := Aside0.mk (Kd.R_lower ho0 (below_size (by repeat (first | (with_reducible first | exact HB.out | apply below_alloc | apply pw_below_drewN | apply below_drew1) | exact HB.out)))); have n1_ := Aside0.mk (below_step (by repeat (first | (with_reducible first | exact HB.out | apply below_alloc | apply pw_below_drewN | apply below_drew1) | exact HB.out)) hb); clear HB; have HO112 := n0_; have HB := n1_; clear n0_ n1_; (try clear hb); (try clear hb2); (try clear hk); (try clear hi); (try clear ho0)) | ((with_reducible refine gate_callee (f := 10) rfl ?_); refine goesL_ (some 13) rfl rfl Tryd.func10 (by kernel_rfl) rfl #[.int .u32 t109] rfl (by (try simp only [List.map_toArray, List.map_cons, List.map_nil]); first | done | rfl | (simp only [List.length_drop, List.length_take]; rfl)) ?_; (with_reducible refine (sandbox_Print.calls k t109 t113 t114 _ ?tabT_ A2.out).mono ?_); (case tabT_ => exact TokIs.below HT0_.out (by repeat (first | (with_reducible first | exact HB.out | apply below_alloc | apply pw_below_drewN | apply below_drew1) | exact HB.out))); rintro e w35 ⟨rfl, hb⟩; refine ⟨_, rfl, ?_⟩; have n0_ := Aside0.mk (Kd.R_below (by (with_reducible repeat (first | apply Kd.R_alloc | apply Kd.R_drewN | apply Kd.R_drew)); exact HO112.out) hb); have n1_ := Aside0.mk (below_step (by repeat (first | (with_reducible first | exact HB.out | apply below_alloc | apply pw_below_drewN | apply below_drew1) | exact HB.out)) hb); clear HO112; clear HB; have HO112 := n0_; have HB := n1_; clear n0_ n1_; (try clear hb); (try clear hb2); (try clear hk); (try clear hi)) | ((with_reducible refine gate_callee (f := 10) rfl ?_); refine goesL_ (some 17) rfl rfl Tryd.func10 (by kernel_rfl) rfl #[.int .u32 0] rfl (by (try simp only [List.map_toArray, List.map_cons, List.map_nil]); first | done | rfl | (simp only [List.length_drop, List.length_take]; rfl)) ?_; (with_reducible refine (sandbox_Print.calls k 0 t115 t116 _ ?tabT_ A3.out).mono ?_); (case tabT_ => exact TokIs.below HT0_.out (by repeat (first | (with_reducible first | exact HB.out | apply below_alloc | apply pw_below_drewN | apply below_drew1) | exact HB.out))); rintro e w36 ⟨rfl, hb⟩; refine ⟨_, rfl, ?_⟩; have n0_ := Aside0.mk (Kd.R_below (by (with_reducible repeat (first | apply Kd.R_alloc | apply Kd.R_drewN | apply Kd.R_drew)); exact HO112.out) hb); have n1_ := Aside0.mk (below_step (by repeat (first | (with_reducible first | exact HB.out | apply below_alloc | apply pw_below_drewN | apply below_drew1) | exact HB.out)) hb); clear HO112; clear HB; have HO112 := n0_; have HB := n1_; clear n0_ n1_; (try clear hb); (try clear hb2); (try clear hk); (try clear hi); obtain ⟨Ao37, co37, eo37⟩ := Kd.R_slice HO112.out; subst eo37))
      go_ret
      exact ⟨by first | rfl | (simp [errW_none, errW_some] <;> rfl) | (simp [*, errW_none, errW_some] <;> rfl), by repeat (first | (with_reducible first | exact HB.out | apply below_alloc | apply pw_below_drewN | apply below_drew1) | exact HB.out)⟩
  · rw [if_neg c4] at H
    have c4b0 : (t109 == 64767) = false := beq_eq_false_iff_ne.mpr c4
    have c4b1 : (t109 != 64767) = true := bne_iff_ne.mpr c4
    obtain rfl := Option.some.inj H
    go_enter Tryd.func9, Tryd.ntmps9
    go_wp2_with (first | ((with_reducible refine gate_callee (f := 12) rfl ?_); refine goesL_ (some 8) rfl rfl Tryd.func12 (by kernel_rfl) rfl #[.string (⟨#[65, 108, 108, 111, 119, 45, 83, 99, 114, 105, 112, 116, 115, 32, 120]⟩ : ByteArray)] rfl (by (try simp only [List.map_toArray, List.map_cons, List.map_nil]); first | done | rfl | (simp only [List.length_drop, List.length_take]; rfl)) ?_; (with_reducible refine (sandbox_Parse.calls k (⟨#[65, 108, 108, 111, 119, 45, 83, 99, 114, 105, 112, 116, 115, 32, 120]⟩ : ByteArray) t109 t110 _ ?tabT_ A1.out).mono ?_); (case tabT_ => exact TokIs.below HT0_.out (by repeat (first | (with_reducible first | exact HB.out | apply below_alloc | apply pw_below_drewN | apply below_drew1) | exact HB.out))); rintro e w38 ⟨v111, rfl, ho0, hb⟩; refine ⟨_, rfl, ?_⟩; have n0_ := Aside0.mk (Kd.R_lower ho0 (below_size (by repeat (first | (with_reducible first | exact HB.out | apply below_alloc | apply pw_below_drewN | apply below_drew1) | exact HB.out)))); have n1_ := Aside0.mk (below_step (by repeat (first | (with_reducible first | exact HB.out | apply below_alloc | apply pw_below_drewN | apply below_drew1) | exact HB.out)) hb); clear HB; have HO112 := n0_; have HB := n1_; clear n0_ n1_; (try clear hb); (try clear hb2); (try clear hk); (try clear hi); (try clear ho0)) | ((with_reducible refine gate_callee (f := 10) rfl ?_); refine goesL_ (some 13) rfl rfl Tryd.func10 (by kernel_rfl) rfl #[.int .u32 t109] rfl (by (try simp only [List.map_toArray, List.map_cons, List.map_nil]); first | done | rfl | (simp only [List.length_drop, List.length_take]; rfl)) ?_; (with_reducible refine (sandbox_Print.calls k t109 t113 t114 _ ?tabT_ A2.out).mono ?_); (case tabT_ => exact TokIs.below HT0_.out (by repeat (first | (with_reducible first | exact HB.out | apply below_alloc | apply pw_below_drewN | apply below_drew1) | exact HB.out))); rintro e w39 ⟨rfl, hb⟩; refine ⟨_, rfl, ?_⟩; have n0_ := Aside0.mk (Kd.R_below (by (with_reducible repeat (first | apply Kd.R_alloc | apply Kd.R_drewN | apply Kd.R_drew)); exact HO112.out) hb); have n1_ := Aside0.mk (below_step (by repeat (first | (with_reducible first | exact HB.out | apply below_alloc | apply pw_below_drewN | apply below_drew1) | exact HB.out)) hb); clear HO112; clear HB; have HO112 := n0_; have HB := n1_; clear n0_ n1_; (try clear hb); (try clear hb2); (try clear hk); (try clear hi)) | ((with_reducible refine gate_callee (f := 10) rfl ?_); refine goesL_ (some 17) rfl rfl Tryd.func10 (by kernel_rfl) rfl #[.int .u32 0] rfl (by (try simp only [List.map_toArray, List.map_cons, List.map_nil]); first | done | rfl | (simp only [List.length_drop, List.length_take]; rfl)) ?_; (with_reducible refine (sandbox_Print.calls k 0 t115 t116 _ ?tabT_ A3.out).mono ?_); (case tabT_ => exact TokIs.below HT0_.out (by repeat (first | (with_reducible first | exact HB.out | apply below_alloc | apply pw_below_drewN | apply below_drew1) | exact HB.out))); rintro e w40 ⟨rfl, hb⟩; refine ⟨_, rfl, ?_⟩; have n0_ := Aside0.mk (Kd.R_below (by (with_reducible repeat (first | apply Kd.R_alloc | apply Kd.R_drewN | apply Kd.R_drew)); exact HO112.out) hb); have n1_ := Aside0.mk (below_step (by repeat (first | (with_reducible first | exact HB.out | apply below_alloc | apply pw_below_drewN | apply below_drew1) | exact HB.out)) hb); clear HO112; clear HB; have HO112 := n0_; have HB := n1_; clear n0_ n1_; (try clear hb); (try clear hb2); (try clear hk); (try clear hi)))
    go_ret
    exact ⟨by first | rfl | (simp [errW_none, errW_some] <;> rfl) | (simp [*, errW_none, errW_some] <;> rfl), by repeat (first | (with_reducible first | exact HB.out | apply below_alloc | apply pw_below_drewN | apply below_drew1) | exact HB.out)⟩

end Go.Proofs.YtlaiggkgflbjhaaDoor.X
