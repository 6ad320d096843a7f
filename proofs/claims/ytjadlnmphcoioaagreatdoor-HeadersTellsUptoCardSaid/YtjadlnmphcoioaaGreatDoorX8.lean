-- Written by wip/xprint.py for this seat
import Derived.Lib.SliceRun
import Derived.Laws.Cover1
import Derived.Test.YtjadlnmphcoioaaGreatDoorX0
import Derived.Test.YtjadlnmphcoioaaGreatDoorX3
import Derived.Test.YtjadlnmphcoioaaGreatDoorX7
namespace Go.Proofs.YtjadlnmphcoioaaGreatDoor.X
open Go.RowKit Go.Proofs.YtjadlnmphcoioaaGreatDoorW.PrintWords Go.Proofs.YtjadlnmphcoioaaGreatDoorW.PrintLast Go.Proofs.YtjadlnmphcoioaaGreatDoorW.PrintMore
attribute [local go_sem] max2_int min2_int max_two min_two max_three min_three max_four min_four   -- for this text's walks alone
set_option linter.unusedVariables false
set_option linter.unusedSimpArgs false

/-! ### given: pergola/headers.Names -/
-- USES pergola/octets.Lower
-- INFO 72
-- INFO 9
def headers_Names.l0 : Nat → List ByteArray → List (S72) → Int → Int → Option (List ByteArray)
 | 0, _, _, _, _ => none
 | k + 1, x3, x6, x7, x8 => if x8 < x7 then (if 0 ≤ x8 then (if x8 < (x6.length : Int) then ((octets_Lower.f ((rd_T72 x6 x8).f0)).bind fun t352 => (if x3.length < 8796093022208 then (headers_Names.l0 k (x3 ++ [t352]) x6 x7 (wrap64 (x8 + 1))) else (none))) else (none)) else (none)) else (if x3.length < 4611686018427387904 then (some (compS (sortS x3))) else (none))
def headers_Names.f (k : Nat) (l0 : List (S72)) : Option (List ByteArray) := headers_Names.l0 k ([] : List ByteArray) l0 (l0.length : Int) 0
theorem headers_Names.mono_l : ∀ k, (∀ y0 y1 y2 y3, LeO (headers_Names.l0 k y0 y1 y2 y3) (headers_Names.l0 (k + 1) y0 y1 y2 y3))
 | 0 => fun _ _ _ _ r h => by simp [headers_Names.l0] at h
 | k + 1 => by
  have ih0 := headers_Names.mono_l k
  ·intro y0 y1 y2 y3
   unfold headers_Names.l0
   repeat' first
   | (with_reducible exact ih0 _ _ _ _)
   | (with_reducible exact LeO.refl _)
   | (with_reducible exact LeO.none _)
   | (with_reducible refine LeO.ite ?_ ?_)
   | (with_reducible refine LeO.bind ?_ (fun _ => ?_))
   | exact ih0 _ _ _ _
   | exact LeO.none _
   | refine LeO.ite ?_ ?_
   | refine LeO.bind ?_ (fun _ => ?_)
theorem headers_Names.mono : ∀ a0 k, LeO (headers_Names.f k a0) (headers_Names.f (k + 1) a0) := by
 intro a0 k
 have ih0 := headers_Names.mono_l k
 unfold headers_Names.f
 repeat' first
   | (with_reducible exact ih0 _ _ _ _)
   | (with_reducible exact LeO.refl _)
   | (with_reducible exact LeO.none _)
   | (with_reducible refine LeO.ite ?_ ?_)
   | (with_reducible refine LeO.bind ?_ (fun _ => ?_))
   | exact ih0 _ _ _ _
   | exact LeO.none _
   | refine LeO.ite ?_ ?_
   | refine LeO.bind ?_ (fun _ => ?_)
set_option maxHeartbeats 8000000 in
set_option maxRecDepth 100000 in
theorem headers_Names.calls (k : Nat) (A0 : Option Addr) (c0 : Nat) (l0 : List (S72)) (r : List ByteArray) (w : World) (hr0 : Kd.C k72 w A0 l0.length l0) (hc0 : l0.length ≤ c0) (h : headers_Names.f k l0 = some r) :
  Calls Tryz.prog 22 #[.slice A0 l0.length c0] w fun e w' => ∃ v0_ : Value, e = .returned (v0_) ∧ Kd.R Kd.string 9 w' w.heap.size (fun _ => True) v0_ r ∧ Below w.heap.size w w' := by
 have hu72 := Tryz.underlying72
 have HR0 := Aside0.mk hr0
 have HC0 := Aside0.mk hc0
 clear hr0 hc0
 have HB := Aside0.mk (Below.refl w.heap.size w)
 have H : (headers_Names.l0 k ([] : List ByteArray) l0 (l0.length : Int) 0) = some r := h
 clear h
 have H' := Aside0.mk H
 clear H
 go_enter Tryz.func22, Tryz.ntmps22
 go_wp2
 go_loopg [3, 8] k (fun kq v3 v8 w' => ∃ (x3_1 : List ByteArray) (x8_1 : Int), v8 = .int .i64 x8_1 ∧ Aside0 (headers_Names.l0 kq x3_1 l0 (l0.length : Int) x8_1 = some r) ∧ Aside0 (kq ≤ k) ∧ Aside0 (Kd.R Kd.string 9 w' w.heap.size (fun _ => True) v3 x3_1) ∧ Aside0 (Below w.heap.size w w'))
 case atStart => exact ⟨(([] : List ByteArray)), (0), (by first | rfl | (simp; done) | (simp [*]; done)), H', ⟨Nat.le_refl _⟩, ⟨by first | exact Kd.R_nil _ _ _ _ _ | exact Kd.N_nil _ _ _ _ _ | exact Kd.V_nil _ _ _ _ _ | exact Kd.Q_nil _ _ _ _ _ | exact Kd.S_nil _ _ _ _ _⟩, ⟨by repeat (first | (with_reducible first | exact HB.out | apply below_alloc | apply pw_below_drewN | apply below_drew1) | exact HB.out)⟩⟩
 case round =>
  clear H'
  obtain ⟨x3_1, x8_1, rfl, HA, HK1, HO_3, HB⟩ := hrel
  cases gk with
  | zero => exact absurd HA.out (by simp [headers_Names.l0])
  | succ k1 =>
   have H := HA.out
   clear HA
   simp only [headers_Names.l0] at H
   by_cases c2 : x8_1 < (l0.length : Int)
   ·rw [if_pos c2] at H
    have c2b0 : decide (x8_1 < (l0.length : Int)) = true := decide_eq_true c2
    clear c2
    by_cases c3 : 0 ≤ x8_1
    ·rw [if_pos c3] at H
     have c3b0 : decide (0 ≤ x8_1) = true := decide_eq_true c3
     clear c3
     by_cases c4 : x8_1 < (l0.length : Int)
     ·rw [if_pos c4] at H
      have c4b0 : decide (x8_1 < (l0.length : Int)) = true := decide_eq_true c4
      clear c4
      replace H := Option.bind_eq_some_iff.mp H
      obtain ⟨t352, A50, H⟩ := H
      replace H : (if x3_1.length < 8796093022208 then (headers_Names.l0 k1 (x3_1 ++ [t352]) l0 (l0.length : Int) (wrap64 (x8_1 + 1))) else (none)) = some r := H
      have A5 := Aside0.mk A50
      clear A50
      by_cases c6 : x3_1.length < 8796093022208
      ·rw [if_pos c6] at H
       have LMc6 := Aside0.mk c6
       clear c6
       obtain ⟨y353, hy353⟩ : ∃ y_ : List ByteArray, y_ = (x3_1 ++ [t352]) := ⟨_, rfl⟩
       replace H : (headers_Names.l0 k1 y353 l0 (l0.length : Int) (wrap64 (x8_1 + 1))) = some r := by first | (rw [hy353]; with_reducible exact H) | (have H2_ := (Option.bind_some _ _).symm.trans H; rw [hy353]; with_reducible exact H2_) | (have H2_ := (Option.bind_some _ _).symm.trans H; with_reducible exact H2_) | with_reducible exact H | (rw [hy353]; exact H) | exact H
       have Ny353 := Aside0.mk hy353
       clear hy353
       have H' := Aside0.mk H
       clear H
       have p350 : 0 ≤ (x8_1 : Int) := of_decide_eq_true (by first | (with_reducible assumption) | assumption)
       have q350 : x8_1 < (l0.length : Int) := of_decide_eq_true (by first | (with_reducible assumption) | assumption)
       obtain ⟨ad350, e350, hx350_0, hx350_1⟩ := at_T72 HR0.out x8_1 p350 q350
       cases e350
       replace hx350_0 := (HB.out.cell (World.block_lt_of_cell? w _ hx350_0)).trans hx350_0
       replace hx350_1 := (HB.out.cell (World.block_lt_of_cell? w _ hx350_1)).trans hx350_1
       replace p350 := eq_true p350
       replace q350 := eq_true q350
       go_wp2_with (first | ((with_reducible refine gate_dst (N := 5) rfl ?_); refine box_event ?hg (N := 5) ?hd (cs := #[.string (⟨#[]⟩ : ByteArray), .string (⟨#[]⟩ : ByteArray)]) (t := 72) ?hr ?_; (case hd => rfl); (case hg => rfl); (case hr => first | (go_simp; done) | (go_simp; rfl)); intro gb351 hg w7 hbox hb; have n0_ := Aside0.mk (Kd.R_below (by (with_reducible repeat (first | apply Kd.R_alloc | apply Kd.R_drewN | apply Kd.R_drew)); exact HO_3.out) hb); have n1_ := Aside0.mk (below_step (by repeat (first | (with_reducible first | exact HB.out | apply below_alloc | apply pw_below_drewN | apply below_drew1) | exact HB.out)) hb); have n2_ := Aside0.mk (hbox); have n3_ := Aside0.mk ((by rw [hg]; exact (below_size (by repeat (first | (with_reducible first | exact HB.out | apply below_alloc | apply pw_below_drewN | apply below_drew1) | exact HB.out))) : w.heap.size ≤ gb351)); have n4_ := Aside0.mk ((by rw [hg]; exact (below_size (by repeat (first | (with_reducible first | exact HB.out | apply below_alloc | apply pw_below_drewN | apply below_drew1) | exact HB.out))) : w.heap.size ≤ gb351)); clear HO_3; clear HB; have HO_3 := n0_; have HB := n1_; have BK351 := n2_; have GW351 := n3_; have GE351 := n4_; clear n0_ n1_ n2_ n3_ n4_; clear hb hbox hg; have hcz8_0 : w7.cell? ⟨gb351, 0, none⟩ = some (.string (⟨#[]⟩ : ByteArray)) := (blk_cell BK351.out 0).trans rfl; have hcz8_1 : w7.cell? ⟨gb351, 1, none⟩ = some (.string (⟨#[]⟩ : ByteArray)) := (blk_cell BK351.out 1).trans rfl; have hfz8_0 := blk_frozen BK351.out 0; have hfz8_1 := blk_frozen BK351.out 1) | ((with_reducible refine gate_callee (f := 63) rfl ?_); refine goesL_ (some 15) rfl rfl Tryz.func63 (by kernel_rfl) rfl #[.string ((rd_T72 l0 x8_1).f0)] rfl (by (try simp only [List.map_toArray, List.map_cons, List.map_nil]); first | done | rfl | (simp only [List.length_drop, List.length_take]; rfl)) ?_; (with_reducible refine (octets_Lower.calls ((rd_T72 l0 x8_1).f0) t352 _ A5.out).mono ?_); rintro e w9 ⟨rfl, hb⟩; refine ⟨_, rfl, ?_⟩; have n0_ := Aside0.mk (Kd.R_below (by (with_reducible repeat (first | apply Kd.R_alloc | apply Kd.R_drewN | apply Kd.R_drew)); exact (Kd.R_mono (Kd.R_far (p := ⟨gb351, 1, none⟩) (Kd.R_far (p := ⟨gb351, 0, none⟩) (Kd.R_types HO_3.out BK351.out (by decide)) (fun _ hk => hk.2) (.string ((rd_T72 l0 x8_1).f0))) (fun _ hk => hk.2) (.string ((rd_T72 l0 x8_1).f1))) (fun _ h_ => h_.1))) hb); have n1_ := Aside0.mk (blk_below (g := gb351) (o := .cells #[.string ((rd_T72 l0 x8_1).f0), .string ((rd_T72 l0 x8_1).f1)] 72 (0, 0)) (by (with_reducible repeat (first | refine blk_drewN ?_ _ | refine blk_drew ?_ | refine blk_alloc ?_ _)); refine blk_put (cs := #[.string ((rd_T72 l0 x8_1).f0), .string (⟨#[]⟩ : ByteArray)]) ?_ 1 _ rfl; (with_reducible repeat (first | refine blk_drewN ?_ _ | refine blk_drew ?_ | refine blk_alloc ?_ _)); refine blk_put (cs := #[.string (⟨#[]⟩ : ByteArray), .string (⟨#[]⟩ : ByteArray)]) ?_ 0 _ rfl; (with_reducible repeat (first | refine blk_drewN ?_ _ | refine blk_drew ?_ | refine blk_alloc ?_ _)); exact BK351.out) hb); have n2_ := Aside0.mk (below_step (by repeat (first | (with_reducible first | exact HB.out | apply below_alloc | apply pw_below_drewN | apply below_drew1 | refine below_set ?_ GE351.out) | exact HB.out)) hb); clear HO_3; clear BK351; clear HB; have HO_3 := n0_; have BK351 := n1_; have HB := n2_; clear n0_ n1_ n2_; (try clear hb); (try clear hb2); (try clear hk); (try clear hi)) | ((with_reducible refine gate_builtin (b := .append) (xs := #[.tmp 12, .tmp 16]) rfl ?_); at_builtin; refine Kd.R_append Kd.string (w0 := w) w.heap.size rfl (.tmp 12) (.tmp 16) 58 9 (.string ⟨#[]⟩) 16 rfl Tryz.underlying58 info9 rfl (by decide) (by omega) u3 x3_1 t352 [.string t352] (fun _ => True) (fun _ => False) rfl rfl ?aP (fun _ hk => hk.elim) ?aF ?aO ?aB ?aS ?aL ?_; (case aP => exact rfl); (case aB => exact (by repeat (first | (with_reducible first | exact HB.out | apply below_alloc | apply pw_below_drewN | apply below_drew1 | refine below_set ?_ GE351.out) | exact HB.out))); (case aF => exact (fun _ _ => trivial)); (case aO => exact (by (with_reducible repeat (first | apply Kd.R_alloc | apply Kd.R_drewN | apply Kd.R_drew)); exact HO_3.out)); (case aS => exact (below_size (by repeat (first | (with_reducible first | exact HB.out | apply below_alloc | apply pw_below_drewN | apply below_drew1 | refine below_set ?_ GE351.out) | exact HB.out)))); (case aL => have := LMc6.out; omega); intro v354 w10 ho hb hg hat; rw [← Ny353.out] at ho; have n0_ := Aside0.mk (blk_grown (g := gb351) (o := .cells #[.string ((rd_T72 l0 x8_1).f0), .string ((rd_T72 l0 x8_1).f1)] 72 (0, 0)) (by (with_reducible repeat (first | refine blk_drewN ?_ _ | refine blk_drew ?_ | refine blk_alloc ?_ _)); exact BK351.out) hg (Kd.R_ne HO_3.out BK351.out (by decide))); have n1_ := Aside0.mk (hb); have n2_ := Aside0.mk (ho); clear BK351; clear HB; clear HO_3; have BK351 := n0_; have HB := n1_; have HO355 := n2_; clear n0_ n1_ n2_; clear ho hb hg hat))
       go_roundg k1
       case measure => have := HK1.out; omega
       case rel => exact ⟨(y353), (wrap64 (x8_1 + 1)), (by first | rfl | (simp; done) | (simp [*]; done)), H', ⟨by have := HK1.out; omega⟩, ⟨by (with_reducible repeat (first | apply Kd.R_alloc | apply Kd.R_drewN | apply Kd.R_drew)); exact HO355.out⟩, ⟨by repeat (first | (with_reducible first | exact HB.out | apply below_alloc | apply pw_below_drewN | apply below_drew1 | refine below_set ?_ GE351.out) | exact HB.out)⟩⟩
      ·rw [if_neg c6] at H
       exact absurd H (by simp)
     ·rw [if_neg c4] at H
      exact absurd H (by simp)
    ·rw [if_neg c3] at H
     exact absurd H (by simp)
   ·rw [if_neg c2] at H
    have c2b0 : decide (x8_1 < (l0.length : Int)) = false := decide_eq_false c2
    clear c2
    by_cases c30 : x3_1.length < 4611686018427387904
    ·rw [if_pos c30] at H
     obtain rfl := Option.some.inj H
     have HN := Aside0.mk c30
     clear c30
     obtain ⟨Ao5, co5, eo5⟩ := Kd.R_slice HO_3.out
     subst eo5
     go_wp2_with (first | ((with_reducible refine gate_callee (f := 64) rfl ?_); refine goesL_ (some 20) rfl rfl Tryz.func64 (by kernel_rfl) rfl #[.slice Ao5 x3_1.length co5] rfl (by (try simp only [List.map_toArray, List.map_cons, List.map_nil]); first | done | rfl) ?_; refine (sort_own HO_3.out HB.out (Nat.le_refl _) HN.out).mono ?_; rintro e wf ⟨rfl, ho, hb⟩; refine ⟨_, rfl, ?_⟩; clear HO_3 HB; have HO_3 := Aside0.mk ho; have HB := Aside0.mk hb; clear ho hb) | (go_at_call 64; refine (sort_own HO_3.out HB.out (Nat.le_refl _) HN.out).mono ?_; rintro e wf ⟨rfl, ho, hb⟩; clear HO_3 HB; have HO_3 := Aside0.mk ho; have HB := Aside0.mk hb; clear ho hb) | ((with_reducible refine gate_callee (f := 65) rfl ?_); refine goesL_ (some 22) rfl rfl Tryz.func65 (by kernel_rfl) rfl #[.slice Ao5 x3_1.length co5] rfl (by (try simp only [List.map_toArray, List.map_cons, List.map_nil]); first | done | rfl) ?_; refine (compact_own HO_3.out HB.out (Nat.le_refl _) (by rw [sortS_length]; exact HN.out)).mono ?_; rintro e wf ⟨v', rfl, ho, hb⟩; refine ⟨_, rfl, ?_⟩; clear HO_3 HB; have HO_3 := Aside0.mk ho; have HB := Aside0.mk hb; clear ho hb) | (go_at_call 65; refine (compact_own HO_3.out HB.out (Nat.le_refl _) (by rw [sortS_length]; exact HN.out)).mono ?_; rintro e wf ⟨v', rfl, ho, hb⟩; clear HO_3 HB; have HO_3 := Aside0.mk ho; have HB := Aside0.mk hb; clear ho hb))
     go_ret
     exact ⟨_, by first | rfl | (simp; done) | (simp [*]; done), Kd.R_mono HO_3.out (fun _ hk => trivial), HB.out⟩
    ·rw [if_neg c30] at H
     cases H

/-! ### pergolaref11_Names: function 23 -/
mutual
def pergolaref11_Names.l0 : Nat → List (S72) → List ByteArray → Option (List ByteArray)
 | 0, _, _ => none
 | k + 1, x0, x3 => pergolaref11_Names.l1 k x0 x3 (⟨#[]⟩ : ByteArray) false 0
def pergolaref11_Names.l1 : Nat → List (S72) → List ByteArray → ByteArray → Bool → Int → Option (List ByteArray)
 | 0, _, _, _, _, _ => none
 | k + 1, x0, x3, x4, x5, x6 => if x6 < (x0.length : Int) then (if 0 ≤ x6 then ((pergolaref01_Lower.f k ((rd_T72 x0 x6).f0)).bind fun t217 => (if (x3.length : Int) = 0 then (if x5 = true then (if (Op.bytesLess t217.toList x4.toList) = true then (pergolaref11_Names.l1 k x0 x3 t217 true (wrap64 (x6 + 1))) else (pergolaref11_Names.l1 k x0 x3 x4 x5 (wrap64 (x6 + 1)))) else (pergolaref11_Names.l1 k x0 x3 t217 true (wrap64 (x6 + 1)))) else (if 0 ≤ (wrap64 ((x3.length : Int) - 1)) then (if (wrap64 ((x3.length : Int) - 1)) < (x3.length : Int) then (if (Op.bytesLess ((rdOf ByteArray.empty x3 (wrap64 ((x3.length : Int) - 1))).toList) t217.toList) = true then (if x5 = true then (if (Op.bytesLess t217.toList x4.toList) = true then (pergolaref11_Names.l1 k x0 x3 t217 true (wrap64 (x6 + 1))) else (pergolaref11_Names.l1 k x0 x3 x4 x5 (wrap64 (x6 + 1)))) else (pergolaref11_Names.l1 k x0 x3 t217 true (wrap64 (x6 + 1)))) else (pergolaref11_Names.l1 k x0 x3 x4 x5 (wrap64 (x6 + 1)))) else (none)) else (none)))) else (none)) else (if x5 = true then (if x3.length < 8796093022208 then (pergolaref11_Names.l0 k x0 (x3 ++ [x4])) else (none)) else (some x3))
end
def pergolaref11_Names.f (k : Nat) (l0 : List (S72)) : Option (List ByteArray) := pergolaref11_Names.l0 k l0 ([] : List ByteArray)
theorem pergolaref11_Names.mono_l : ∀ k, (∀ y0 y1, LeO (pergolaref11_Names.l0 k y0 y1) (pergolaref11_Names.l0 (k + 1) y0 y1)) ∧ (∀ y0 y1 y2 y3 y4, LeO (pergolaref11_Names.l1 k y0 y1 y2 y3 y4) (pergolaref11_Names.l1 (k + 1) y0 y1 y2 y3 y4))
 | 0 => ⟨fun _ _ r h => by simp [pergolaref11_Names.l0] at h, fun _ _ _ _ _ r h => by simp [pergolaref11_Names.l1] at h⟩
 | k + 1 => by
  obtain ⟨ih0, ih1⟩ := pergolaref11_Names.mono_l k
  refine ⟨?_, ?_⟩
  ·intro y0 y1
   unfold pergolaref11_Names.l0
   repeat' first
   | (with_reducible exact ih0 _ _)
   | (with_reducible exact ih1 _ _ _ _ _)
   | (with_reducible exact pergolaref01_Lower.mono _ _)
   | (with_reducible exact LeO.refl _)
   | (with_reducible exact LeO.none _)
   | (with_reducible refine LeO.ite ?_ ?_)
   | (with_reducible refine LeO.bind ?_ (fun _ => ?_))
   | exact ih0 _ _
   | exact ih1 _ _ _ _ _
   | exact pergolaref01_Lower.mono _ _
   | exact LeO.none _
   | refine LeO.ite ?_ ?_
   | refine LeO.bind ?_ (fun _ => ?_)
  ·intro y0 y1 y2 y3 y4
   unfold pergolaref11_Names.l1
   repeat' first
   | (with_reducible exact ih0 _ _)
   | (with_reducible exact ih1 _ _ _ _ _)
   | (with_reducible exact pergolaref01_Lower.mono _ _)
   | (with_reducible exact LeO.refl _)
   | (with_reducible exact LeO.none _)
   | (with_reducible refine LeO.ite ?_ ?_)
   | (with_reducible refine LeO.bind ?_ (fun _ => ?_))
   | exact ih0 _ _
   | exact ih1 _ _ _ _ _
   | exact pergolaref01_Lower.mono _ _
   | exact LeO.none _
   | refine LeO.ite ?_ ?_
   | refine LeO.bind ?_ (fun _ => ?_)
theorem pergolaref11_Names.mono : ∀ a0 k, LeO (pergolaref11_Names.f k a0) (pergolaref11_Names.f (k + 1) a0) := by
 intro a0 k
 obtain ⟨ih0, ih1⟩ := pergolaref11_Names.mono_l k
 unfold pergolaref11_Names.f
 repeat' first
   | (with_reducible exact ih0 _ _)
   | (with_reducible exact ih1 _ _ _ _ _)
   | (with_reducible exact pergolaref01_Lower.mono _ _)
   | (with_reducible exact LeO.refl _)
   | (with_reducible exact LeO.none _)
   | (with_reducible refine LeO.ite ?_ ?_)
   | (with_reducible refine LeO.bind ?_ (fun _ => ?_))
   | exact ih0 _ _
   | exact ih1 _ _ _ _ _
   | exact pergolaref01_Lower.mono _ _
   | exact LeO.none _
   | refine LeO.ite ?_ ?_
   | refine LeO.bind ?_ (fun _ => ?_)
set_option maxHeartbeats 8000000 in
set_option maxRecDepth 100000 in
theorem pergolaref11_Names.calls (k : Nat) (A0 : Option Addr) (c0 : Nat) (l0 : List (S72)) (r : List ByteArray) (w : World) (hr0 : Kd.C k72 w A0 l0.length l0) (hc0 : l0.length ≤ c0) (h : pergolaref11_Names.f k l0 = some r) :
  Calls Tryz.prog 23 #[.slice A0 l0.length c0] w fun e w' => ∃ v0_ : Value, e = .returned (v0_) ∧ Kd.R Kd.string 9 w' w.heap.size (fun _ => True) v0_ r ∧ Below w.heap.size w w' := by
 have HR0 := Aside0.mk hr0
 have HC0 := Aside0.mk hc0
 clear hr0 hc0
 have HB := Aside0.mk (Below.refl w.heap.size w)
 have H : (pergolaref11_Names.l0 k l0 ([] : List ByteArray)) = some r := h
 clear h
 have H' := Aside0.mk H
 clear H
 go_enter Tryz.func23, Tryz.ntmps23
 go_wp2
 go_loopg [3] k (fun kq v3 w' => ∃ (x3_1 : List ByteArray), Aside0 (pergolaref11_Names.l0 kq l0 x3_1 = some r) ∧ Aside0 (kq ≤ k) ∧ Aside0 (Kd.R Kd.string 9 w' w.heap.size (fun _ => True) v3 x3_1) ∧ Aside0 (Below w.heap.size w w'))
 case atStart => exact ⟨(([] : List ByteArray)), H', ⟨Nat.le_refl _⟩, ⟨by first | exact Kd.R_nil _ _ _ _ _ | exact Kd.N_nil _ _ _ _ _ | exact Kd.V_nil _ _ _ _ _ | exact Kd.Q_nil _ _ _ _ _ | exact Kd.S_nil _ _ _ _ _⟩, ⟨by repeat (first | (with_reducible first | exact HB.out | apply below_alloc | apply pw_below_drewN | apply below_drew1) | exact HB.out)⟩⟩
 case round =>
  clear H'
  obtain ⟨x3_1, HA, HK1, HO_3, HB⟩ := hrel
  cases gk with
  | zero => exact absurd HA.out (by simp [pergolaref11_Names.l0])
  | succ k1 =>
   have H := HA.out
   clear HA
   simp only [pergolaref11_Names.l0] at H
   have H' := Aside0.mk H
   clear H
   go_wp2
   go_loopg [4, 5, 6] k1 (fun kq v4 v5 v6 w' => ∃ (x4_2 : ByteArray) (x5_2 : Bool) (x6_2 : Int), v4 = .string x4_2 ∧ v5 = .bool x5_2 ∧ v6 = .int .i64 x6_2 ∧ Aside0 (pergolaref11_Names.l1 kq l0 x3_1 x4_2 x5_2 x6_2 = some r) ∧ Aside0 (kq ≤ k1) ∧ Aside0 (Kd.R Kd.string 9 w' w.heap.size (fun _ => True) u3 x3_1) ∧ Aside0 (Below w.heap.size w w'))
   case atStart => exact ⟨((⟨#[]⟩ : ByteArray)), (false), (0), (by first | rfl | (simp; done) | (simp [*]; done)), (by first | rfl | (simp; done) | (simp [*]; done)), (by first | rfl | (simp; done) | (simp [*]; done)), H', ⟨Nat.le_refl _⟩, ⟨by (with_reducible repeat (first | apply Kd.R_alloc | apply Kd.R_drewN | apply Kd.R_drew)); exact HO_3.out⟩, ⟨by repeat (first | (with_reducible first | exact HB.out | apply below_alloc | apply pw_below_drewN | apply below_drew1) | exact HB.out)⟩⟩
   case round =>
    clear H'
    obtain ⟨x4_2, x5_2, x6_2, rfl, rfl, rfl, HA, HK2, HO_3, HB⟩ := hrel
    cases gk with
    | zero => exact absurd HA.out (by simp [pergolaref11_Names.l1])
    | succ k2 =>
     have H := HA.out
     clear HA
     simp only [pergolaref11_Names.l1] at H
     by_cases c2 : x6_2 < (l0.length : Int)
     ·rw [if_pos c2] at H
      have c2b0 : decide (x6_2 < (l0.length : Int)) = true := decide_eq_true c2
      clear c2
      by_cases c3 : 0 ≤ x6_2
      ·rw [if_pos c3] at H
       have c3b0 : decide (0 ≤ x6_2) = true := decide_eq_true c3
       clear c3
       replace H := Option.bind_eq_some_iff.mp H
       obtain ⟨t217, A40, H⟩ := H
       replace H : (if (x3_1.length : Int) = 0 then (if x5_2 = true then (if (Op.bytesLess t217.toList x4_2.toList) = true then (pergolaref11_Names.l1 k2 l0 x3_1 t217 true (wrap64 (x6_2 + 1))) else (pergolaref11_Names.l1 k2 l0 x3_1 x4_2 x5_2 (wrap64 (x6_2 + 1)))) else (pergolaref11_Names.l1 k2 l0 x3_1 t217 true (wrap64 (x6_2 + 1)))) else (if 0 ≤ (wrap64 ((x3_1.length : Int) - 1)) then (if (wrap64 ((x3_1.length : Int) - 1)) < (x3_1.length : Int) then (if (Op.bytesLess ((rdOf ByteArray.empty x3_1 (wrap64 ((x3_1.length : Int) - 1))).toList) t217.toList) = true then (if x5_2 = true then (if (Op.bytesLess t217.toList x4_2.toList) = true then (pergolaref11_Names.l1 k2 l0 x3_1 t217 true (wrap64 (x6_2 + 1))) else (pergolaref11_Names.l1 k2 l0 x3_1 x4_2 x5_2 (wrap64 (x6_2 + 1)))) else (pergolaref11_Names.l1 k2 l0 x3_1 t217 true (wrap64 (x6_2 + 1)))) else (pergolaref11_Names.l1 k2 l0 x3_1 x4_2 x5_2 (wrap64 (x6_2 + 1)))) else (none)) else (none))) = some r := H
       have A4 := Aside0.mk A40
       clear A40
       by_cases c5 : (x3_1.length : Int) = 0
       ·rw [if_pos c5] at H
        have c5b0 : ((x3_1.length : Int) == 0) = true := beq_iff_eq.mpr c5
        have c5b1 : ((x3_1.length : Int) != 0) = false := bne_eq_false_iff_eq.mpr c5
        clear c5
        by_cases c6 : x5_2 = true
        ·subst c6
         have H1 : (if (Op.bytesLess t217.toList x4_2.toList) = true then (pergolaref11_Names.l1 k2 l0 x3_1 t217 true (wrap64 (x6_2 + 1))) else (pergolaref11_Names.l1 k2 l0 x3_1 x4_2 true (wrap64 (x6_2 + 1)))) = some r := by rw [if_pos rfl] at H; exact H
         clear H
         have H := H1
         clear H1
         by_cases c7 : (Op.bytesLess t217.toList x4_2.toList) = true
         ·rw [if_pos c7] at H
          have c7b0 : (Op.bytesLess t217.toList x4_2.toList) = true := c7
          have c7b1 := less_asym c7b0
          have c7b2 := less_ne c7b0
          clear c7
          have H' := Aside0.mk H
          clear H
          have p216 : 0 ≤ (x6_2 : Int) := of_decide_eq_true (by first | (with_reducible assumption) | assumption)
          have q216 : x6_2 < (l0.length : Int) := of_decide_eq_true (by first | (with_reducible assumption) | assumption)
          obtain ⟨ad216, e216, hx216_0, hx216_1⟩ := at_T72 HR0.out x6_2 p216 q216
          cases e216
          replace hx216_0 := (HB.out.cell (World.block_lt_of_cell? w _ hx216_0)).trans hx216_0
          replace hx216_1 := (HB.out.cell (World.block_lt_of_cell? w _ hx216_1)).trans hx216_1
          replace p216 := eq_true p216
          replace q216 := eq_true q216
          go_wp2_with (first | ((with_reducible refine gate_callee (f := 66) rfl ?_); refine goesL_ (some 19) rfl rfl Tryz.func66 (by kernel_rfl) rfl #[.string ((rd_T72 l0 x6_2).f0)] rfl (by (try simp only [List.map_toArray, List.map_cons, List.map_nil]); first | done | rfl | (simp only [List.length_drop, List.length_take]; rfl)) ?_; (with_reducible refine (pergolaref01_Lower.calls k2 ((rd_T72 l0 x6_2).f0) t217 _ A4.out).mono ?_); rintro e w8 ⟨rfl, hb⟩; refine ⟨_, rfl, ?_⟩; have n0_ := Aside0.mk (Kd.R_below (by (with_reducible repeat (first | apply Kd.R_alloc | apply Kd.R_drewN | apply Kd.R_drew)); exact HO_3.out) hb); have n1_ := Aside0.mk (below_step (by repeat (first | (with_reducible first | exact HB.out | apply below_alloc | apply pw_below_drewN | apply below_drew1) | exact HB.out)) hb); clear HO_3; clear HB; have HO_3 := n0_; have HB := n1_; clear n0_ n1_; (try clear hb); (try clear hb2); (try clear hk); (try clear hi); obtain ⟨Ao9, co9, eo9⟩ := Kd.R_slice HO_3.out; subst eo9))
          go_roundg k2
          case measure => have := HK1.out; have := HK2.out; omega
          case rel => exact ⟨(t217), (true), (wrap64 (x6_2 + 1)), (by first | rfl | (simp; done) | (simp [*]; done)), (by first | rfl | (simp; done) | (simp [*]; done)), (by first | rfl | (simp; done) | (simp [*]; done)), H', ⟨by have := HK1.out; have := HK2.out; omega⟩, ⟨by (with_reducible repeat (first | apply Kd.R_alloc | apply Kd.R_drewN | apply Kd.R_drew)); exact HO_3.out⟩, ⟨by repeat (first | (with_reducible first | exact HB.out | apply below_alloc | apply pw_below_drewN | apply below_drew1) | exact HB.out)⟩⟩
         ·rw [if_neg c7] at H
          have c7b0 : (Op.bytesLess t217.toList x4_2.toList) = false := by simpa using c7
          have c7b1 := less_tot c7b0
          clear c7
          have H' := Aside0.mk H
          clear H
          have p216 : 0 ≤ (x6_2 : Int) := of_decide_eq_true (by first | (with_reducible assumption) | assumption)
          have q216 : x6_2 < (l0.length : Int) := of_decide_eq_true (by first | (with_reducible assumption) | assumption)
          obtain ⟨ad216, e216, hx216_0, hx216_1⟩ := at_T72 HR0.out x6_2 p216 q216
          cases e216
          replace hx216_0 := (HB.out.cell (World.block_lt_of_cell? w _ hx216_0)).trans hx216_0
          replace hx216_1 := (HB.out.cell (World.block_lt_of_cell? w _ hx216_1)).trans hx216_1
          replace p216 := eq_true p216
          replace q216 := eq_true q216
          go_wp2_with (first | ((with_reducible refine gate_callee (f := 66) rfl ?_); refine goesL_ (some 19) rfl rfl Tryz.func66 (by kernel_rfl) rfl #[.string ((rd_T72 l0 x6_2).f0)] rfl (by (try simp only [List.map_toArray, List.map_cons, List.map_nil]); first | done | rfl | (simp only [List.length_drop, List.length_take]; rfl)) ?_; (with_reducible refine (pergolaref01_Lower.calls k2 ((rd_T72 l0 x6_2).f0) t217 _ A4.out).mono ?_); rintro e w10 ⟨rfl, hb⟩; refine ⟨_, rfl, ?_⟩; have n0_ := Aside0.mk (Kd.R_below (by (with_reducible repeat (first | apply Kd.R_alloc | apply Kd.R_drewN | apply Kd.R_drew)); exact HO_3.out) hb); have n1_ := Aside0.mk (below_step (by repeat (first | (with_reducible first | exact HB.out | apply below_alloc | apply pw_below_drewN | apply below_drew1) | exact HB.out)) hb); clear HO_3; clear HB; have HO_3 := n0_; have HB := n1_; clear n0_ n1_; (try clear hb); (try clear hb2); (try clear hk); (try clear hi); obtain ⟨Ao11, co11, eo11⟩ := Kd.R_slice HO_3.out; subst eo11))
          go_roundg k2
          case measure => have := HK1.out; have := HK2.out; omega
          case rel => exact ⟨(x4_2), (true), (wrap64 (x6_2 + 1)), (by first | rfl | (simp; done) | (simp [*]; done)), (by first | rfl | (simp; done) | (simp [*]; done)), (by first | rfl | (simp; done) | (simp [*]; done)), H', ⟨by have := HK1.out; have := HK2.out; omega⟩, ⟨by (with_reducible repeat (first | apply Kd.R_alloc | apply Kd.R_drewN | apply Kd.R_drew)); exact HO_3.out⟩, ⟨by repeat (first | (with_reducible first | exact HB.out | apply below_alloc | apply pw_below_drewN | apply below_drew1) | exact HB.out)⟩⟩
        ·replace c6 := Bool.eq_false_iff.mpr c6
         subst c6
         have H1 : (pergolaref11_Names.l1 k2 l0 x3_1 t217 true (wrap64 (x6_2 + 1))) = some r := by rw [if_neg (show ¬ (false = true) by decide)] at H; exact H
         clear H
         have H := H1
         clear H1
         have H' := Aside0.mk H
         clear H
         have p216 : 0 ≤ (x6_2 : Int) := of_decide_eq_true (by first | (with_reducible assumption) | assumption)
         have q216 : x6_2 < (l0.length : Int) := of_decide_eq_true (by first | (with_reducible assumption) | assumption)
         obtain ⟨ad216, e216, hx216_0, hx216_1⟩ := at_T72 HR0.out x6_2 p216 q216
         cases e216
         replace hx216_0 := (HB.out.cell (World.block_lt_of_cell? w _ hx216_0)).trans hx216_0
         replace hx216_1 := (HB.out.cell (World.block_lt_of_cell? w _ hx216_1)).trans hx216_1
         replace p216 := eq_true p216
         replace q216 := eq_true q216
         go_wp2_with (first | ((with_reducible refine gate_callee (f := 66) rfl ?_); refine goesL_ (some 19) rfl rfl Tryz.func66 (by kernel_rfl) rfl #[.string ((rd_T72 l0 x6_2).f0)] rfl (by (try simp only [List.map_toArray, List.map_cons, List.map_nil]); first | done | rfl | (simp only [List.length_drop, List.length_take]; rfl)) ?_; (with_reducible refine (pergolaref01_Lower.calls k2 ((rd_T72 l0 x6_2).f0) t217 _ A4.out).mono ?_); rintro e w12 ⟨rfl, hb⟩; refine ⟨_, rfl, ?_⟩; have n0_ := Aside0.mk (Kd.R_below (by (with_reducible repeat (first | apply Kd.R_alloc | apply Kd.R_drewN | apply Kd.R_drew)); exact HO_3.out) hb); have n1_ := Aside0.mk (below_step (by repeat (first | (with_reducible first | exact HB.out | apply below_alloc | apply pw_below_drewN | apply below_drew1) | exact HB.out)) hb); clear HO_3; clear HB; have HO_3 := n0_; have HB := n1_; clear n0_ n1_; (try clear hb); (try clear hb2); (try clear hk); (try clear hi); obtain ⟨Ao13, co13, eo13⟩ := Kd.R_slice HO_3.out; subst eo13))
         go_roundg k2
         case measure => have := HK1.out; have := HK2.out; omega
         case rel => exact ⟨(t217), (true), (wrap64 (x6_2 + 1)), (by first | rfl | (simp; done) | (simp [*]; done)), (by first | rfl | (simp; done) | (simp [*]; done)), (by first | rfl | (simp; done) | (simp [*]; done)), H', ⟨by have := HK1.out; have := HK2.out; omega⟩, ⟨by (with_reducible repeat (first | apply Kd.R_alloc | apply Kd.R_drewN | apply Kd.R_drew)); exact HO_3.out⟩, ⟨by repeat (first | (with_reducible first | exact HB.out | apply below_alloc | apply pw_below_drewN | apply below_drew1) | exact HB.out)⟩⟩
       ·rw [if_neg c5] at H
        have c5b0 : ((x3_1.length : Int) == 0) = false := beq_eq_false_iff_ne.mpr c5
        have c5b1 : ((x3_1.length : Int) != 0) = true := bne_iff_ne.mpr c5
        have c5b2 : ¬ (x3_1 = []) := fun h_ => c5 (by rw [h_]; rfl)
        obtain ⟨ji14, hji14⟩ : ∃ j_ : Int, (wrap64 ((x3_1.length : Int) - 1)) = j_ := ⟨_, rfl⟩
        replace H : (if 0 ≤ (ji14) then (if (ji14) < (x3_1.length : Int) then (if (Op.bytesLess ((rdOf ByteArray.empty x3_1 (ji14)).toList) t217.toList) = true then (if x5_2 = true then (if (Op.bytesLess t217.toList x4_2.toList) = true then (pergolaref11_Names.l1 k2 l0 x3_1 t217 true (wrap64 (x6_2 + 1))) else (pergolaref11_Names.l1 k2 l0 x3_1 x4_2 x5_2 (wrap64 (x6_2 + 1)))) else (pergolaref11_Names.l1 k2 l0 x3_1 t217 true (wrap64 (x6_2 + 1)))) else (pergolaref11_Names.l1 k2 l0 x3_1 x4_2 x5_2 (wrap64 (x6_2 + 1)))) else (none)) else (none)) = some r := by first | (rw [hji14] at H; exact H) | (simp only [hji14] at H ⊢; exact H)
        (try rw [hji14] at A4)
        have hji14w : (IntKind.i64.wrap ((x3_1.length : Int) - 1)) = ji14 := (i64_w _).trans hji14
        by_cases c15 : 0 ≤ (ji14)
        ·rw [if_pos c15] at H
         have c15b0 : decide (0 ≤ (ji14)) = true := decide_eq_true c15
         clear c15
         by_cases c16 : (ji14) < (x3_1.length : Int)
         ·rw [if_pos c16] at H
          have c16b0 : decide ((ji14) < (x3_1.length : Int)) = true := decide_eq_true c16
          clear c16
          by_cases c17 : (Op.bytesLess ((rdOf ByteArray.empty x3_1 (ji14)).toList) t217.toList) = true
          ·rw [if_pos c17] at H
           have c17b0 : (Op.bytesLess ((rdOf ByteArray.empty x3_1 (ji14)).toList) t217.toList) = true := c17
           have c17b1 := less_asym c17b0
           have c17b2 := less_ne c17b0
           clear c17
           by_cases c18 : x5_2 = true
           ·subst c18
            have H1 : (if (Op.bytesLess t217.toList x4_2.toList) = true then (pergolaref11_Names.l1 k2 l0 x3_1 t217 true (wrap64 (x6_2 + 1))) else (pergolaref11_Names.l1 k2 l0 x3_1 x4_2 true (wrap64 (x6_2 + 1)))) = some r := by rw [if_pos rfl] at H; exact H
            clear H
            have H := H1
            clear H1
            by_cases c19 : (Op.bytesLess t217.toList x4_2.toList) = true
            ·rw [if_pos c19] at H
             have c19b0 : (Op.bytesLess t217.toList x4_2.toList) = true := c19
             have c19b1 := less_asym c19b0
             have c19b2 := less_ne c19b0
             clear c19
             have H' := Aside0.mk H
             clear H
             have p216 : 0 ≤ (x6_2 : Int) := of_decide_eq_true (by first | (with_reducible assumption) | assumption)
             have q216 : x6_2 < (l0.length : Int) := of_decide_eq_true (by first | (with_reducible assumption) | assumption)
             obtain ⟨ad216, e216, hx216_0, hx216_1⟩ := at_T72 HR0.out x6_2 p216 q216
             cases e216
             replace hx216_0 := (HB.out.cell (World.block_lt_of_cell? w _ hx216_0)).trans hx216_0
             replace hx216_1 := (HB.out.cell (World.block_lt_of_cell? w _ hx216_1)).trans hx216_1
             replace p216 := eq_true p216
             replace q216 := eq_true q216
             go_wp2_with (first | ((with_reducible refine gate_callee (f := 66) rfl ?_); refine goesL_ (some 19) rfl rfl Tryz.func66 (by kernel_rfl) rfl #[.string ((rd_T72 l0 x6_2).f0)] rfl (by (try simp only [List.map_toArray, List.map_cons, List.map_nil]); first | done | rfl | (simp only [List.length_drop, List.length_take]; rfl)) ?_; (with_reducible refine (pergolaref01_Lower.calls k2 ((rd_T72 l0 x6_2).f0) t217 _ A4.out).mono ?_); rintro e w20 ⟨rfl, hb⟩; refine ⟨_, rfl, ?_⟩; have n0_ := Aside0.mk (Kd.R_below (by (with_reducible repeat (first | apply Kd.R_alloc | apply Kd.R_drewN | apply Kd.R_drew)); exact HO_3.out) hb); have n1_ := Aside0.mk (below_step (by repeat (first | (with_reducible first | exact HB.out | apply below_alloc | apply pw_below_drewN | apply below_drew1) | exact HB.out)) hb); clear HO_3; clear HB; have HO_3 := n0_; have HB := n1_; clear n0_ n1_; (try clear hb); (try clear hb2); (try clear hk); (try clear hi); obtain ⟨Ao21, co21, eo21⟩ := Kd.R_slice HO_3.out; subst eo21; have p218 : 0 ≤ ((ji14) : Int) := of_decide_eq_true (by first | (with_reducible assumption) | assumption); have q218 : (ji14) < (x3_1.length : Int) := of_decide_eq_true (by first | (with_reducible assumption) | assumption); obtain ⟨ad218, e218, hx218_0⟩ := Kd.at_string (Kd.R_reads' HO_3.out).2.2 (ji14) p218 q218; cases e218; replace p218 := eq_true p218; replace q218 := eq_true q218))
             go_roundg k2
             case measure => have := HK1.out; have := HK2.out; omega
             case rel => exact ⟨(t217), (true), (wrap64 (x6_2 + 1)), (by first | rfl | (simp; done) | (simp [*]; done)), (by first | rfl | (simp; done) | (simp [*]; done)), (by first | rfl | (simp; done) | (simp [*]; done)), H', ⟨by have := HK1.out; have := HK2.out; omega⟩, ⟨by (with_reducible repeat (first | apply Kd.R_alloc | apply Kd.R_drewN | apply Kd.R_drew)); exact HO_3.out⟩, ⟨by repeat (first | (with_reducible first | exact HB.out | apply below_alloc | apply pw_below_drewN | apply below_drew1) | exact HB.out)⟩⟩
            ·rw [if_neg c19] at H
             have c19b0 : (Op.bytesLess t217.toList x4_2.toList) = false := by simpa using c19
             have c19b1 := less_tot c19b0
             clear c19
             have H' := Aside0.mk H
             clear H
             have p216 : 0 ≤ (x6_2 : Int) := of_decide_eq_true (by first | (with_reducible assumption) | assumption)
             have q216 : x6_2 < (l0.length : Int) := of_decide_eq_true (by first | (with_reducible assumption) | assumption)
             obtain ⟨ad216, e216, hx216_0, hx216_1⟩ := at_T72 HR0.out x6_2 p216 q216
             cases e216
             replace hx216_0 := (HB.out.cell (World.block_lt_of_cell? w _ hx216_0)).trans hx216_0
             replace hx216_1 := (HB.out.cell (World.block_lt_of_cell? w _ hx216_1)).trans hx216_1
             replace p216 := eq_true p216
             replace q216 := eq_true q216
             go_wp2_with (first | ((with_reducible refine gate_callee (f := 66) rfl ?_); refine goesL_ (some 19) rfl rfl Tryz.func66 (by kernel_rfl) rfl #[.string ((rd_T72 l0 x6_2).f0)] rfl (by (try simp only [List.map_toArray, List.map_cons, List.map_nil]); first | done | rfl | (simp only [List.length_drop, List.length_take]; rfl)) ?_; (with_reducible refine (pergolaref01_Lower.calls k2 ((rd_T72 l0 x6_2).f0) t217 _ A4.out).mono ?_); rintro e w22 ⟨rfl, hb⟩; refine ⟨_, rfl, ?_⟩; have n0_ := Aside0.mk (Kd.R_below (by (with_reducible repeat (first | apply Kd.R_alloc | apply Kd.R_drewN | apply Kd.R_drew)); exact HO_3.out) hb); have n1_ := Aside0.mk (below_step (by repeat (first | (with_reducible first | exact HB.out | apply below_alloc | apply pw_below_drewN | apply below_drew1) | exact HB.out)) hb); clear HO_3; clear HB; have HO_3 := n0_; have HB := n1_; clear n0_ n1_; (try clear hb); (try clear hb2); (try clear hk); (try clear hi); obtain ⟨Ao23, co23, eo23⟩ := Kd.R_slice HO_3.out; subst eo23; have p218 : 0 ≤ ((ji14) : Int) := of_decide_eq_true (by first | (with_reducible assumption) | assumption); have q218 : (ji14) < (x3_1.length : Int) := of_decide_eq_true (by first | (with_reducible assumption) | assumption); obtain ⟨ad218, e218, hx218_0⟩ := Kd.at_string (Kd.R_reads' HO_3.out).2.2 (ji14) p218 q218; cases e218; replace p218 := eq_true p218; replace q218 := eq_true q218))
             go_roundg k2
             case measure => have := HK1.out; have := HK2.out; omega
             case rel => exact ⟨(x4_2), (true), (wrap64 (x6_2 + 1)), (by first | rfl | (simp; done) | (simp [*]; done)), (by first | rfl | (simp; done) | (simp [*]; done)), (by first | rfl | (simp; done) | (simp [*]; done)), H', ⟨by have := HK1.out; have := HK2.out; omega⟩, ⟨by (with_reducible repeat (first | apply Kd.R_alloc | apply Kd.R_drewN | apply Kd.R_drew)); exact HO_3.out⟩, ⟨by repeat (first | (with_reducible first | exact HB.out | apply below_alloc | apply pw_below_drewN | apply below_drew1) | exact HB.out)⟩⟩
           ·replace c18 := Bool.eq_false_iff.mpr c18
            subst c18
            have H1 : (pergolaref11_Names.l1 k2 l0 x3_1 t217 true (wrap64 (x6_2 + 1))) = some r := by rw [if_neg (show ¬ (false = true) by decide)] at H; exact H
            clear H
            have H := H1
            clear H1
            have H' := Aside0.mk H
            clear H
            have p216 : 0 ≤ (x6_2 : Int) := of_decide_eq_true (by first | (with_reducible assumption) | assumption)
            have q216 : x6_2 < (l0.length : Int) := of_decide_eq_true (by first | (with_reducible assumption) | assumption)
            obtain ⟨ad216, e216, hx216_0, hx216_1⟩ := at_T72 HR0.out x6_2 p216 q216
            cases e216
            replace hx216_0 := (HB.out.cell (World.block_lt_of_cell? w _ hx216_0)).trans hx216_0
            replace hx216_1 := (HB.out.cell (World.block_lt_of_cell? w _ hx216_1)).trans hx216_1
            replace p216 := eq_true p216
            replace q216 := eq_true q216
            go_wp2_with (first | ((with_reducible refine gate_callee (f := 66) rfl ?_); refine goesL_ (some 19) rfl rfl Tryz.func66 (by kernel_rfl) rfl #[.string ((rd_T72 l0 x6_2).f0)] rfl (by (try simp only [List.map_toArray, List.map_cons, List.map_nil]); first | done | rfl | (simp only [List.length_drop, List.length_take]; rfl)) ?_; (with_reducible refine (pergolaref01_Lower.calls k2 ((rd_T72 l0 x6_2).f0) t217 _ A4.out).mono ?_); rintro e w24 ⟨rfl, hb⟩; refine ⟨_, rfl, ?_⟩; have n0_ := Aside0.mk (Kd.R_below (by (with_reducible repeat (first | apply Kd.R_alloc | apply Kd.R_drewN | apply Kd.R_drew)); exact HO_3.out) hb); have n1_ := Aside0.mk (below_step (by repeat (first | (with_reducible first | exact HB.out | apply below_alloc | apply pw_below_drewN | apply below_drew1) | exact HB.out)) hb); clear HO_3; clear HB; have HO_3 := n0_; have HB := n1_; clear n0_ n1_; (try clear hb); (try clear hb2); (try clear hk); (try clear hi); obtain ⟨Ao25, co25, eo25⟩ := Kd.R_slice HO_3.out; subst eo25; have p218 : 0 ≤ ((ji14) : Int) := of_decide_eq_true (by first | (with_reducible assumption) | assumption); have q218 : (ji14) < (x3_1.length : Int) := of_decide_eq_true (by first | (with_reducible assumption) | assumption); obtain ⟨ad218, e218, hx218_0⟩ := Kd.at_string (Kd.R_reads' HO_3.out).2.2 (ji14) p218 q218; cases e218; replace p218 := eq_true p218; replace q218 := eq_true q218))
            go_roundg k2
            case measure => have := HK1.out; have := HK2.out; omega
            case rel => exact ⟨(t217), (true), (wrap64 (x6_2 + 1)), (by first | rfl | (simp; done) | (simp [*]; done)), (by first | rfl | (simp; done) | (simp [*]; done)), (by first | rfl | (simp; done) | (simp [*]; done)), H', ⟨by have := HK1.out; have := HK2.out; omega⟩, ⟨by (with_reducible repeat (first | apply Kd.R_alloc | apply Kd.R_drewN | apply Kd.R_drew)); exact HO_3.out⟩, ⟨by repeat (first | (with_reducible first | exact HB.out | apply below_alloc | apply pw_below_drewN | apply below_drew1) | exact HB.out)⟩⟩
          ·rw [if_neg c17] at H
           have c17b0 : (Op.bytesLess ((rdOf ByteArray.empty x3_1 (ji14)).toList) t217.toList) = false := by simpa using c17
           have c17b1 := less_tot c17b0
           clear c17
           have H' := Aside0.mk H
           clear H
           have p216 : 0 ≤ (x6_2 : Int) := of_decide_eq_true (by first | (with_reducible assumption) | assumption)
           have q216 : x6_2 < (l0.length : Int) := of_decide_eq_true (by first | (with_reducible assumption) | assumption)
           obtain ⟨ad216, e216, hx216_0, hx216_1⟩ := at_T72 HR0.out x6_2 p216 q216
           cases e216
           replace hx216_0 := (HB.out.cell (World.block_lt_of_cell? w _ hx216_0)).trans hx216_0
           replace hx216_1 := (HB.out.cell (World.block_lt_of_cell? w _ hx216_1)).trans hx216_1
           replace p216 := eq_true p216
           replace q216 := eq_true q216
           go_wp2_with (first | ((with_reducible refine gate_callee (f := 66) rfl ?_); refine goesL_ (some 19) rfl rfl Tryz.func66 (by kernel_rfl) rfl #[.string ((rd_T72 l0 x6_2).f0)] rfl (by (try simp only [List.map_toArray, List.map_cons, List.map_nil]); first | done | rfl | (simp only [List.length_drop, List.length_take]; rfl)) ?_; (with_reducible refine (pergolaref01_Lower.calls k2 ((rd_T72 l0 x6_2).f0) t217 _ A4.out).mono ?_); rintro e w26 ⟨rfl, hb⟩; refine ⟨_, rfl, ?_⟩; have n0_ := Aside0.mk (Kd.R_below (by (with_reducible repeat (first | apply Kd.R_alloc | apply Kd.R_drewN | apply Kd.R_drew)); exact HO_3.out) hb); have n1_ := Aside0.mk (below_step (by repeat (first | (with_reducible first | exact HB.out | apply below_alloc | apply pw_below_drewN | apply below_drew1) | exact HB.out)) hb); clear HO_3; clear HB; have HO_3 := n0_; have HB := n1_; clear n0_ n1_; (try clear hb); (try clear hb2); (try clear hk); (try clear hi); obtain ⟨Ao27, co27, eo27⟩ := Kd.R_slice HO_3.out; subst eo27; have p218 : 0 ≤ ((ji14) : Int) := of_decide_eq_true (by first | (with_reducible assumption) | assumption); have q218 : (ji14) < (x3_1.length : Int) := of_decide_eq_true (by first | (with_reducible assumption) | assumption); obtain ⟨ad218, e218, hx218_0⟩ := Kd.at_string (Kd.R_reads' HO_3.out).2.2 (ji14) p218 q218; cases e218; replace p218 := eq_true p218; replace q218 := eq_true q218))
           go_roundg k2
           case measure => have := HK1.out; have := HK2.out; omega
           case rel => exact ⟨(x4_2), (x5_2), (wrap64 (x6_2 + 1)), (by first | rfl | (simp; done) | (simp [*]; done)), (by first | rfl | (simp; done) | (simp [*]; done)), (by first | rfl | (simp; done) | (simp [*]; done)), H', ⟨by have := HK1.out; have := HK2.out; omega⟩, ⟨by (with_reducible repeat (first | apply Kd.R_alloc | apply Kd.R_drewN | apply Kd.R_drew)); exact HO_3.out⟩, ⟨by repeat (first | (with_reducible first | exact HB.out | apply below_alloc | apply pw_below_drewN | apply below_drew1) | exact HB.out)⟩⟩
         ·rw [if_neg c16] at H
          exact absurd H (by simp)
        ·rw [if_neg c15] at H
         exact absurd H (by simp)
      ·rw [if_neg c3] at H
       exact absurd H (by simp)
     ·rw [if_neg c2] at H
      have c2b0 : decide (x6_2 < (l0.length : Int)) = false := decide_eq_false c2
      clear c2
      by_cases c28 : x5_2 = true
      ·subst c28
       have H1 : (if x3_1.length < 8796093022208 then (pergolaref11_Names.l0 k2 l0 (x3_1 ++ [x4_2])) else (none)) = some r := by rw [if_pos rfl] at H; exact H
       clear H
       have H := H1
       clear H1
       by_cases c29 : x3_1.length < 8796093022208
       ·rw [if_pos c29] at H
        have LMc29 := Aside0.mk c29
        clear c29
        obtain ⟨y219, hy219⟩ : ∃ y_ : List ByteArray, y_ = (x3_1 ++ [x4_2]) := ⟨_, rfl⟩
        replace H : (pergolaref11_Names.l0 k2 l0 y219) = some r := by first | (rw [hy219]; with_reducible exact H) | (have H2_ := (Option.bind_some _ _).symm.trans H; rw [hy219]; with_reducible exact H2_) | (have H2_ := (Option.bind_some _ _).symm.trans H; with_reducible exact H2_) | with_reducible exact H | (rw [hy219]; exact H) | exact H
        have Ny219 := Aside0.mk hy219
        clear hy219
        have H' := Aside0.mk H
        clear H
        go_wp2_with (first | ((with_reducible refine gate_builtin (b := .append) (xs := #[.tmp 46, .tmp 48]) rfl ?_); (try (refine gate_guard (by rfl) ?_; dsimp only)); at_builtin; refine Kd.R_append Kd.string (w0 := w) w.heap.size rfl (.tmp 46) (.tmp 48) 58 9 (.string ⟨#[]⟩) 16 rfl Tryz.underlying58 info9 rfl (by decide) (by omega) u3 x3_1 x4_2 [.string x4_2] (fun _ => True) (fun _ => False) rfl rfl ?aP (fun _ hk => hk.elim) ?aF ?aO ?aB ?aS ?aL ?_; (case aP => exact rfl); (case aB => exact (by repeat (first | (with_reducible first | exact HB.out | apply below_alloc | apply pw_below_drewN | apply below_drew1) | exact HB.out))); (case aF => exact (fun _ _ => trivial)); (case aO => exact (by (with_reducible repeat (first | apply Kd.R_alloc | apply Kd.R_drewN | apply Kd.R_drew)); exact HO_3.out)); (case aS => exact (below_size (by repeat (first | (with_reducible first | exact HB.out | apply below_alloc | apply pw_below_drewN | apply below_drew1) | exact HB.out)))); (case aL => have := LMc29.out; omega); intro v220 w30 ho hb hg hat; rw [← Ny219.out] at ho; have n0_ := Aside0.mk (hb); have n1_ := Aside0.mk (ho); clear HB; clear HO_3; have HB := n0_; have HO221 := n1_; clear n0_ n1_; clear ho hb hg hat))
        go_roundg k2
        case measure => have := HK1.out; have := HK2.out; omega
        case rel => exact ⟨(y219), H', ⟨by have := HK1.out; have := HK2.out; omega⟩, ⟨by (with_reducible repeat (first | apply Kd.R_alloc | apply Kd.R_drewN | apply Kd.R_drew)); exact HO221.out⟩, ⟨by repeat (first | (with_reducible first | exact HB.out | apply below_alloc | apply pw_below_drewN | apply below_drew1) | exact HB.out)⟩⟩
       ·rw [if_neg c29] at H
        exact absurd H (by simp)
      ·replace c28 := Bool.eq_false_iff.mpr c28
       subst c28
       have H1 : (some x3_1) = some r := by rw [if_neg (show ¬ (false = true) by decide)] at H; exact H
       clear H
       have H := H1
       clear H1
       obtain rfl := Option.some.inj H
       go_wp2
       go_ret
       exact ⟨_, by first | rfl | (simp [errW_none, errW_some] <;> rfl) | (simp [*, errW_none, errW_some] <;> rfl), by (with_reducible repeat (first | apply Kd.R_alloc | apply Kd.R_drewN | apply Kd.R_drew)); exact HO_3.out, by repeat (first | (with_reducible first | exact HB.out | apply below_alloc | apply pw_below_drewN | apply below_drew1) | exact HB.out)⟩

/-! ### given: slices.Clone[[]pergola/api.Header,pergola/api.Header] -/
-- INFO 72
def api_Header_45.f (l0 : List (S72)) : Option ((List (S72))) := (some (([] : List (S72)) : List (S72))).bind fun y277 => (if y277.length + l0.length < 4398046511104 then (some (y277 ++ l0)) else (none))
set_option maxHeartbeats 8000000 in
set_option maxRecDepth 100000 in
theorem api_Header_45.calls (A0 : Option Addr) (c0 : Nat) (l0 : List (S72)) (r : List (S72)) (w : World) (hr0 : Kd.C k72 w A0 l0.length l0) (hc0 : l0.length ≤ c0) (h : api_Header_45.f l0 = some r) :
  Calls Tryz.prog 45 #[.slice A0 l0.length c0] w fun e w' => ∃ v0_ : Value, e = .returned (v0_) ∧ Kd.R k72 72 w' w.heap.size (fun _ => True) v0_ r ∧ Below w.heap.size w w' := by
 have HR0 := Aside0.mk hr0
 have HC0 := Aside0.mk hc0
 clear hr0 hc0
 have HB := Aside0.mk (Below.refl w.heap.size w)
 have H : ((some (([] : List (S72)) : List (S72))).bind fun y277 => (if y277.length + l0.length < 4398046511104 then (some (y277 ++ l0)) else (none))) = some r := h
 clear h
 obtain ⟨y277, hy277⟩ : ∃ y_ : List (S72), y_ = (([] : List (S72))) := ⟨_, rfl⟩
 replace H : (if y277.length + l0.length < 4398046511104 then (some (y277 ++ l0)) else (none)) = some r := by first | (rw [hy277]; with_reducible exact H) | (have H2_ := (Option.bind_some _ _).symm.trans H; rw [hy277]; with_reducible exact H2_) | (have H2_ := (Option.bind_some _ _).symm.trans H; with_reducible exact H2_) | with_reducible exact H | (rw [hy277]; exact H) | exact H
 have Ny277 := Aside0.mk hy277
 clear hy277
 by_cases c2 : y277.length + l0.length < 4398046511104
 ·rw [if_pos c2] at H
  have LMc2 := Aside0.mk c2
  clear c2
  obtain ⟨y280, hy280⟩ : ∃ y_ : List (S72), y_ = (y277 ++ l0) := ⟨_, rfl⟩
  replace H : (some y280) = some r := by first | (rw [hy280]; with_reducible exact H) | (have H2_ := (Option.bind_some _ _).symm.trans H; rw [hy280]; with_reducible exact H2_) | (have H2_ := (Option.bind_some _ _).symm.trans H; with_reducible exact H2_) | with_reducible exact H | (rw [hy280]; exact H) | exact H
  have Ny280 := Aside0.mk hy280
  clear hy280
  obtain rfl := Option.some.inj H
  cases A0 with
  | none =>
   have hl : l0 = [] := by
    cases l0 with
    | nil => rfl
    | cons x l =>
     obtain ⟨ad', c, e, _⟩ := Kd.C_get HR0.out x 0 (by omega) (by simp)
     cases e
   subst hl
   have hr : y280 = [] := by rw [Ny280.out, Ny277.out]; rfl
   rw [hr]
   have hq : ∀ W, (binOp .eql 22 (.slice none 0 c0) (.slice none 0 0)).run Tryz.prog W = .ok (.bool true) W := fun W => Lib.run_eql_slice_nil W 22 72 none _ c0 0 0 Tryz.underlying22
   go_enter Tryz.func45, Tryz.ntmps45
   go_wp2
   go_ret
   exact ⟨_, rfl, Kd.R_nil _ _ _ _ _, Below.refl _ _⟩
  | some ad =>
   have hq : ∀ W, (binOp .eql 22 (.slice (some ad) l0.length c0) (.slice none 0 0)).run Tryz.prog W = .ok (.bool false) W := fun W => Lib.run_eql_slice_nil W 22 72 (some ad) _ c0 0 0 Tryz.underlying22
   go_enter Tryz.func45, Tryz.ntmps45
   go_wp2_with (first | ((with_reducible refine gate_dst (N := 5) rfl ?_); refine Kd.R_lit k72 _ 72 ?hg (N := 5) ?hd (xs := ([] : List (S72))) (inner := []) (ok := fun _ => True) (okp := fun _ => True) ?hr ?hp (fun _ hk => hk) trivial (Below.refl _ _) (Nat.le_refl _) (by simp) ?_; (case hd => rfl); (case hg => rfl); (case hr => first | (go_simp; done) | (go_simp; rfl)); (case hp => exact (Reps.none _ _)); intro v278 w3 ho4 hb hg_ hnew_; clear hg_ hnew_; (first | rw [← Ny277.out] at ho4 | (simp only [Int.reduceToNat] at ho4; rw [← Ny277.out] at ho4)); have n0_ := Aside0.mk (Kd.R_lower ho4 (below_size (by repeat (first | (with_reducible first | exact HB.out | apply below_alloc | apply pw_below_drewN | apply below_drew1) | exact HB.out)))); have n1_ := Aside0.mk (below_step (by repeat (first | (with_reducible first | exact HB.out | apply below_alloc | apply pw_below_drewN | apply below_drew1) | exact HB.out)) hb); clear HB; have HO279 := n0_; have HB := n1_; clear n0_ n1_; clear hb ho4) | ((with_reducible refine gate_builtin (b := .append) (xs := #[.tmp 5, .tmp 6]) rfl ?_); at_builtin; refine Kd.R_append_rows k72 (w0 := w) w.heap.size rfl (.tmp 5) (.tmp 6) 22 72 (.agg #[(.string ⟨#[]⟩), (.string ⟨#[]⟩)]) 32 rfl Tryz.underlying22 info72 rfl (by decide) (by omega) v278 y277 l0 _ _ _ (fun _ => True) (fun _ => False) rfl rfl ?aO ?aR (fun _ _ h => h) (fun _ h => h.elim) ?aF ?aB ?aS ?aL ?_; (case aR => repeat (first | exact (Kd.C_below HR0.out HB.out) | (with_reducible refine Kd.C_alloc ?_ _) | (with_reducible refine Kd.C_drewN ?_ _) | (with_reducible refine Kd.C_drew ?_))); (case aB => exact (by repeat (first | (with_reducible first | exact HB.out | apply below_alloc | apply pw_below_drewN | apply below_drew1) | exact HB.out))); (case aF => exact (fun _ _ => trivial)); (case aO => exact (by (with_reducible repeat (first | apply Kd.R_alloc | apply Kd.R_drewN | apply Kd.R_drew)); exact HO279.out)); (case aS => exact (below_size (by repeat (first | (with_reducible first | exact HB.out | apply below_alloc | apply pw_below_drewN | apply below_drew1) | exact HB.out)))); (case aL => have := LMc2.out; omega); intro v281 w5 ho hb hg hat; rw [← Ny280.out] at ho; have n0_ := Aside0.mk (hb); have n1_ := Aside0.mk (ho); clear HB; clear HO279; have HB := n0_; have HO282 := n1_; clear n0_ n1_; clear ho hb hg hat))
   go_ret
   exact ⟨_, by first | rfl | (simp [errW_none, errW_some] <;> rfl) | (simp [*, errW_none, errW_some] <;> rfl), by (with_reducible repeat (first | apply Kd.R_alloc | apply Kd.R_drewN | apply Kd.R_drew)); exact HO282.out, by repeat (first | (with_reducible first | exact HB.out | apply below_alloc | apply pw_below_drewN | apply below_drew1) | exact HB.out)⟩
 ·rw [if_neg c2] at H
  exact absurd H (by simp)

/-! ### given: pergola/headers.Remove -/
-- USES pergola/octets.Same
-- USES slices.Clone[[]pergola/api.Header,pergola/api.Header]
-- INFO 72
def sameB (n name : ByteArray) : Bool := octets_Same.f n name == some true
/-- What a function value over headers gives, in every world in which the captured text stands. -/
def GivesB (g : Nat) (ad : Addr) (name : ByteArray) (p : S72 → Bool) (l : List S72) : Prop :=
 ∀ (W : World) (h : S72), h ∈ l → W.cell? ad = some (.string name) → Calls Tryz.prog g #[.agg #[.string h.f0, .string h.f1], .pointer (some ad)] W fun e w' => e = .returned (.bool (p h)) ∧ Below W.heap.size W w'
set_option maxHeartbeats 2000000 in
set_option maxRecDepth 100000 in
theorem removeLit_gives (name : ByteArray) (ad : Addr) (l : List S72) (hl : ∀ h ∈ l, (octets_Same.f h.f0 name).isSome = true) :
  GivesB 68 ad name (fun h => sameB h.f0 name) l := fun W h hh hc' => by
 obtain ⟨b, e⟩ := Option.isSome_iff_exists.1 (hl h hh)
 have hs : sameB h.f0 name = b := by
  unfold sameB
  rw [e]
  cases b <;> rfl
 have hcall := octets_Same.calls h.f0 name b W e
 show Calls Tryz.prog 68 #[.agg #[.string h.f0, .string h.f1], .pointer (some ad)] W fun e w' => e = .returned (.bool (sameB h.f0 name)) ∧ Below W.heap.size W w'
 rw [hs]
 clear hs hl hh hcall
 have hcall := fun w2 => octets_Same.calls h.f0 name b w2 e
 generalize h.f0 = n at *
 generalize h.f1 = v at *
 have HC := Aside0.mk hc'
 clear hc' e
 go_enter Tryz.func68, Tryz.ntmps68
 go_wp2_with (first
  | ((with_reducible refine gate_dst (N := 2) rfl ?_); refine box_event ?hg (N := 2) ?hd (cs := #[.string n, .string v]) (t := 72) ?hr ?_; (case hd => rfl); (case hg => rfl); (case hr => first | (go_simp; done) | (go_simp; rfl)); intro gb hg w2 hbox hb2; have HB := Aside0.mk hb2; have hc0 : w2.cell? ⟨gb, 0, none⟩ = some (.string n) := (blk_cell hbox 0).trans rfl; have hc2 : w2.cell? ad = some (.string name) := pw_cell_below hb2 HC.out; clear hb2 hg hbox)
  | (go_at_call 40; refine (hcall _).mono ?_; rintro e w' ⟨rfl, hw⟩; have HB2 := Aside0.mk hw; clear hw))
 go_ret
 exact ⟨rfl, below_step HB.out HB2.out⟩
/-- The first that is so. -/
def fdx (p : S72 → Bool) (l : List S72) : Int := if l.findIdx p < l.length then ((l.findIdx p : Nat) : Int) else -1
theorem fdx_hit {p : S72 → Bool} {l : List S72} {i : Nat} (hi : i < l.length) (h1 : ∀ j (hj : j < l.length), j < i → p (l[j]'hj) = false) (h2 : p (l[i]'hi) = true) : fdx p l = i := by
 have e : l.findIdx p = i := (List.findIdx_eq hi).2 ⟨h2, fun j hj => h1 j (by omega) hj⟩
 unfold fdx
 rw [e, if_pos hi]
theorem fdx_none {p : S72 → Bool} {l : List S72} (h1 : ∀ j (hj : j < l.length), p (l[j]'hj) = false) : fdx p l = -1 := by
 unfold fdx
 rw [if_neg]
 intro h
 have := List.findIdx_getElem (w := h)
 rw [h1 _ h] at this
 cases this
theorem rd_get (l : List S72) (i : Nat) (hi : i < l.length) : rd_T72 l (i : Int) = l[i]'hi := by
 unfold rd_T72
 rw [Int.toNat_natCast, List.getD_eq_getElem?_getD, List.getElem?_eq_getElem hi]
 rfl
set_option maxHeartbeats 4000000 in
set_option maxRecDepth 100000 in
theorem indexFunc_H (g : Nat) (ad : Addr) (name : ByteArray) (eg : ∀ args w, (callFunc g args).run Tryz.prog w = .ok (.enter g args) w) (p : S72 → Bool) (A0 : Option Addr) (c0 : Nat) (l0 : List S72) (w : World)
  (hr0 : Kd.C k72 w A0 l0.length l0) (hp : GivesB g ad name p l0) (hc : w.cell? ad = some (.string name)) :
  Calls Tryz.prog 38 #[.slice A0 l0.length c0, .func (.func g) #[] #[.pointer (some ad)]] w fun e w' => e = .returned (.int .i64 (fdx p l0)) ∧ Below w.heap.size w w' := by
 have HP := Aside0.mk hp
 have HR0 := Aside0.mk hr0
 have hmax : l0.length ≤ 9223372036854775807 := Kd.C_max hr0
 have HC := Aside0.mk hc
 clear hp hr0 hc
 go_enter Tryz.func38, Tryz.ntmps38
 go_wp2
 go_loopg [8] l0.length (fun gk s8 wx => ∃ i : Nat, i + gk = l0.length ∧ s8 = .int .i64 i ∧ Aside0 (Below w.heap.size w wx) ∧ Aside0 (∀ j (hj : j < l0.length), j < i → p (l0[j]'hj) = false))
 case atStart => exact ⟨0, by omega, rfl, ⟨Below.refl _ _⟩, ⟨fun j _ hj => absurd hj (Nat.not_lt_zero _)⟩⟩
 case round =>
  obtain ⟨i, hig, rfl, HB, HN⟩ := hrel
  cases gk with
  | zero =>
   have hiz : ¬ ((i : Int) < (l0.length : Int)) := by omega
   have HE : Aside0 (fdx p l0 = -1) := ⟨fdx_none (fun j hj => HN.out j hj (by omega))⟩
   go_wp2
   go_ret
   exact ⟨by rw [HE.out]; rfl, HB.out⟩
  | succ gk =>
   have hi : i < l0.length := by omega
   have hiz : (i : Int) < (l0.length : Int) := by omega
   have hi0 : (0 : Int) ≤ (i : Int) := by omega
   obtain ⟨ax, e0, hx0, hx1⟩ := at_T72 HR0.out (i : Int) hi0 hiz
   subst e0
   replace hx0 := (HB.out.cell (World.block_lt_of_cell? w _ hx0)).trans hx0
   replace hx1 := (HB.out.cell (World.block_lt_of_cell? w _ hx1)).trans hx1
   rw [rd_get l0 i hi, Int.toNat_natCast] at hx0 hx1
   have hcall := HP.out wr _ (List.getElem_mem hi) (pw_cell_below HB.out HC.out)
   have HI := Aside0.mk (fun h => fdx_hit (p := p) hi HN.out h)
   have HN2 : Aside0 (p (l0[i]'hi) = false → ∀ j (hj : j < l0.length), j < i + 1 → p (l0[j]'hj) = false) := ⟨fun hf j hj hj2 => by
    by_cases e : j = i
    ·subst e; exact hf
    ·exact HN.out j hj (by omega)⟩
   generalize l0[i]'hi = x at *
   cases hpx : p x <;> rw [hpx] at hcall
   ·go_wp2_with (go_at_fn g; refine hcall.mono ?_; rintro e w' ⟨rfl, hw⟩; have HB2 := Aside0.mk (below_step HB.out hw); clear hw)
    go_roundg gk
    case measure => omega
    case rel => exact ⟨i + 1, by omega, by first | rfl | simp, HB2, ⟨HN2.out hpx⟩⟩
   ·go_wp2_with (go_at_fn g; refine hcall.mono ?_; rintro e w' ⟨rfl, hw⟩; have HB2 := Aside0.mk (below_step HB.out hw); clear hw)
    go_ret
    exact ⟨by rw [HI.out hpx]; rfl, HB2.out⟩

/-- What DeleteFunc leaves of the first m: those that are not so. -/
def kept (p : S72 → Bool) (l : List S72) (m : Nat) : List S72 := (l.take m).filter fun h => !p h
theorem kept_succ (p : S72 → Bool) (l : List S72) (m : Nat) (h : m < l.length) : kept p l (m + 1) = kept p l m ++ (if p (l[m]'h) = true then [] else [l[m]'h]) := by
 unfold kept
 rw [List.take_succ_eq_append_getElem h, List.filter_append]
 congr 1
 cases hp : p (l[m]'h) <;> simp [hp]
theorem kept_le (p : S72 → Bool) (l : List S72) (m : Nat) : (kept p l m).length ≤ m := by
 unfold kept
 refine Nat.le_trans (List.length_filter_le _ _) ?_
 rw [List.length_take]
 omega

/-- clear(s[i:]): what stands ahead stands. -/
theorem clear_H {W : World} {base : Nat} {ok : Nat → Prop} {g n cap : Nat} {xs : List S72} (h : Kd.R k72 72 W base ok (.slice (some ⟨g, 0, none⟩) n cap) xs) (i : Nat) (hi : i < n) :
  ∃ W', (∀ ty, (Builtin.clear_ #[22] ty #[.slice (some ⟨g, i * 2, none⟩) (n - i) (cap - i)]).run Tryz.prog W = .ok (.tuple #[]) W') ∧ Kd.R k72 72 W' base ok (.slice (some ⟨g, 0, none⟩) i cap) (xs.take i) ∧ W.grownBy W' (some g) := by
 obtain ⟨hn, hnc, _⟩ := Kd.R_reads' h
 have ht := Kd.R_take (m := i) h (by omega)
 obtain ⟨hok, inner, ho, hr⟩ := ht
 obtain ⟨ho1, ho2⟩ := ho
 rcases ho2 with ⟨hv, _⟩ | ⟨g', cap', cur, hv, hb, hh, hnc', hcm, hcs, ht⟩
 ·cases hv
 injection hv with ha _ hc
 injection ha with ha
 injection ha with hg
 subst hg; subst hc
 have hz : ∀ w, (zeroValue 72).run Tryz.prog w = .ok (.agg #[.string ⟨#[]⟩, .string ⟨#[]⟩]) w := (zero_of_info (P := Tryz.prog) (n := 2) (by kernel_rfl)).1
 let zs : List Value := (Builtin.zeroCells (Value.agg #[.string ⟨#[]⟩, .string ⟨#[]⟩]).cells (n - i)).toList
 have hzl : zs.length = (n - i) * 2 := by simp [zs, Builtin.zeroCells, Value.cells]
 have hzo : ∀ v ∈ zs, v.oneCell' = true := by
  intro v hv
  simp only [zs, Builtin.zeroCells, Array.toList_map, List.mem_map] at hv
  obtain ⟨q, _, rfl⟩ := hv
  have : ∀ r, r < 2 → ((Value.agg #[.string ⟨#[]⟩, .string ⟨#[]⟩]).cells[r]!).oneCell' = true := by
   intro r hr
   match r, hr with
   | 0, _ => rfl
   | 1, _ => rfl
  exact this _ (Nat.mod_lt _ (by decide))
 have hfit : i * 2 + zs.length ≤ cur.size := by rw [hzl, hcs]; show i * 2 + (n - i) * 2 ≤ cap * 2; omega
 obtain ⟨cur', h3, h4, h5⟩ := setCells_row zs (i * 2) W cur hh hfit
 obtain ⟨s1, s2, s3, s4⟩ := setCells_same g zs (i * 2) W
 refine ⟨W.setCells g (i * 2) zs, fun ty => ?_, ⟨hok, inner, ⟨ho1, .inr ⟨g, cap, cur', by rw [List.length_take, Nat.min_eq_left (by omega)], hb, h3, hnc', hcm, by rw [h4, hcs], ?_⟩⟩, hr⟩,
  ⟨s1, s2, s3, by rw [s4]; exact Nat.le_refl _, fun k _ hk => setCells_far zs _ k (fun he => hk (by rw [he]))⟩⟩
 ·have hst := run_storeCells_cells (P := Tryz.prog) g (i * 2) zs 0 W (fun j hj => by
   rw [cell_of_row W g _ cur _ (0, 0) hh, Array.getElem?_eq_getElem (by omega)]
   rfl) (fun j hj => by
   simp [World.frozen?, hh]) hzo
  rw [Nat.add_zero] at hst
  obtain ⟨m, hm⟩ : ∃ m, n - i = m + 1 := ⟨n - i - 1, by omega⟩
  have hzs : zs = (Builtin.zeroCells (Value.agg #[.string ⟨#[]⟩, .string ⟨#[]⟩]).cells (m + 1)).toList := by simp only [zs, hm]
  rw [hzs] at hst ⊢
  rw [hm]
  simp [Builtin.clear_, run_underlying Tryz.underlying22, hz, hst]
 ·have hkl : (xs.take i).length * (k72).sz = i * 2 := by
   rw [List.length_take, Nat.min_eq_left (by omega)]
   rfl
  have hc2 : cur.size = cap * 2 := hcs
  rw [hkl] at ht ⊢
  have htl : (cur.toList.take (i * 2)).length = i * 2 := by rw [List.length_take, Array.length_toList]; omega
  rw [h5, List.append_assoc, List.take_append_of_le_length (by omega), List.take_of_length_le (by omega), ht]

/-- One of a row of one's own, read. -/
theorem elem_H {W : World} {base : Nat} {ok : Nat → Prop} {g n cap : Nat} {xs : List S72} (h : Kd.R k72 72 W base ok (.slice (some ⟨g, 0, none⟩) n cap) xs) (i : Nat) (hi : i < xs.length) :
  W.cell? ⟨g, i * 2, none⟩ = some (.string (xs[i]'hi).f0) ∧ W.cell? ⟨g, i * 2 + 1, none⟩ = some (.string (xs[i]'hi).f1) ∧ W.frozen? ⟨g, i * 2, none⟩ = false ∧ W.frozen? ⟨g, i * 2 + 1, none⟩ = false := by
 obtain ⟨hn, _, _⟩ := Kd.R_reads' h
 obtain ⟨c, hc, hM, hcc, hf⟩ := Kd.R_elem h z72 (i : Int) (by omega) (by omega)
 obtain rfl := k72_openM hM
 rw [Int.toNat_natCast] at hcc hf hc
 have e : xs.getD i z72 = xs[i]'hi := by rw [List.getD_eq_getElem?_getD, List.getElem?_eq_getElem hi]; rfl
 simp only [e] at hcc
 have hsz : (k72).sz = 2 := rfl
 rw [hsz] at hcc hf
 exact ⟨by simpa using hcc 0 _ rfl, by simpa using hcc 1 _ rfl, hf 0, hf 1⟩
theorem put_H {W : World} {base : Nat} {ok : Nat → Prop} {g n cap : Nat} {xs : List S72} (h : Kd.R k72 72 W base ok (.slice (some ⟨g, 0, none⟩) n cap) xs) (i : Nat) (hi : i < xs.length) (x : S72) :
  Kd.R k72 72 ((W.setCell ⟨g, i * 2, none⟩ (.string x.f0)).setCell ⟨g, i * 2 + 1, none⟩ (.string x.f1)) base ok (.slice (some ⟨g, 0, none⟩) n cap) (xs.set i x) ∧ W.grownBy ((W.setCell ⟨g, i * 2, none⟩ (.string x.f0)).setCell ⟨g, i * 2 + 1, none⟩ (.string x.f1)) (some g) := by
 obtain ⟨hn, _, _⟩ := Kd.R_reads' h
 obtain ⟨c0, c1, _, _⟩ := elem_H h i hi
 have := Kd.R_seg h (i : Int) (by omega) (by omega) (c := [.string (xs[i]'hi).f0, .string (xs[i]'hi).f1]) (seg := [.string x.f0, .string x.f1]) (j := 0) (okp := fun _ => False) rfl (fun j u hu => by
  rw [Int.toNat_natCast]
  have hsz : (k72).sz = 2 := rfl
  rw [hsz]
  match j, hu with
  | 0, hu =>
   obtain rfl : Value.string (xs[i]'hi).f0 = u := by simpa using hu
   exact c0
  | 1, hu =>
   obtain rfl : Value.string (xs[i]'hi).f1 = u := by simpa using hu
   exact c1) (Nat.le_refl 2) (x' := x) (k72_mkM W base _ x) (fun _ hk => hk.elim)
 rw [Int.toNat_natCast] at this
 exact this
theorem set_take {α : Type} (ys : List α) (i : Nat) (x : α) (h : i < ys.length) : (ys.set i x).take (i + 1) = ys.take i ++ [x] := by
 rw [List.take_succ_eq_append_getElem (by rw [List.length_set]; exact h), List.getElem_set_self]
 congr 1
 apply List.ext_getElem
 ·simp
 ·intro q h1 h2
  simp at h1 h2
  rw [List.getElem_take, List.getElem_take, List.getElem_set_ne (by omega)]
set_option maxHeartbeats 8000000 in
set_option maxRecDepth 100000 in
theorem deleteFunc_H (fn : Nat) (ad : Addr) (name : ByteArray) (eg : ∀ args w, (callFunc fn args).run Tryz.prog w = .ok (.enter fn args) w) (p : S72 → Bool) (g n cap : Nat) (xs : List S72) (w : World) (base : Nat)
  (hr : Kd.R k72 72 w base (fun _ => True) (.slice (some ⟨g, 0, none⟩) n cap) xs) (hp : GivesB fn ad name p xs) (hc : w.cell? ad = some (.string name)) (hne : ad.block ≠ g) :
  Calls Tryz.prog 67 #[.slice (some ⟨g, 0, none⟩) n cap, .func (.func fn) #[] #[.pointer (some ad)]] w fun e w' => ∃ v, e = .returned v ∧ Kd.R k72 72 w' base (fun _ => True) v (xs.filter fun h => !p h) ∧ Below base w w' := by
 obtain ⟨hn, hnc, hC⟩ := Kd.R_reads' hr
 have hmax := Kd.C_max hC
 have hbg : base ≤ g := Kd.R_base hr g rfl
 have hgl : g < w.heap.size := Kd.R_lt hr g rfl
 have hI := fun W => indexFunc_H fn ad name eg p (some ⟨g, 0, none⟩) cap xs W
 subst hn
 have hI1 := hI w hC hp hc
 clear hI
 have HR := Aside0.mk (Kd.R_mono (Kd.R_tight rfl hr) (ok' := fun k => k = g) (fun k hk => by cases hk; rfl))
 have HRR := Aside0.mk hr
 have HP := Aside0.mk hp
 have HC := Aside0.mk hc
 clear hr hC hp hc
 by_cases hall : xs.findIdx p < xs.length
 ·have hf : fdx p xs = ((xs.findIdx p : Nat) : Int) := if_pos hall
  have hk1 : kept p xs (xs.findIdx p + 1) = xs.take (xs.findIdx p) := by
   rw [kept_succ p xs _ hall, if_pos (List.findIdx_getElem (w := hall)), List.append_nil]
   unfold kept
   rw [List.filter_eq_self]
   intro h hh
   obtain ⟨j, hj, rfl⟩ := List.getElem_of_mem hh
   rw [List.length_take] at hj
   rw [List.getElem_take]
   have := List.not_of_lt_findIdx (p := p) (xs := xs) (i := j) (by omega)
   simpa using this
  rw [hf] at hI1
  generalize hk : xs.findIdx p = k0 at *
  clear hf hk
  have HK1 := Aside0.mk hk1
  clear hk1
  have hk0 : ((k0 : Int) == -1) = false := beq_eq_false_iff_ne.2 (by omega)
  have hwr : IntKind.i64.wrap ((k0 : Int) + 1) = ((k0 + 1 : Nat) : Int) := by rw [wrap_small _ (by omega) (by omega)]; omega
  go_enter Tryz.func67, Tryz.ntmps67
  go_wp2_with (go_at_call 38; refine hI1.mono ?_; rintro e w1 ⟨rfl, hb1⟩; have HB1 := Aside0.mk hb1; clear hb1)
  go_loopg [5, 6] (xs.length - (k0 + 1)) (fun gk s5 s6 wx => ∃ (j : Nat) (ys : List S72), j + gk = xs.length ∧ s5 = .int .i64 ((kept p xs j).length : Nat) ∧ s6 = .int .i64 (j : Nat) ∧ (kept p xs j).length < j ∧ Aside0 (Below base w wx) ∧ Aside0 (w.heap.size ≤ wx.heap.size) ∧ Aside0 (wx.cell? ad = some (.string name)) ∧ Aside0 (Kd.R k72 72 wx base (fun k => k = g) (.slice (some ⟨g, 0, none⟩) xs.length cap) ys) ∧ ys.length = xs.length ∧ Aside0 (ys.take (kept p xs j).length = kept p xs j) ∧ Aside0 (∀ m, j ≤ m → ys[m]? = xs[m]?))
  case atStart =>
   have hl : (kept p xs (k0 + 1)).length = k0 := by rw [HK1.out, List.length_take]; omega
   refine ⟨k0 + 1, xs, by omega, by rw [hl], by first | rfl | simp, by omega, ⟨HB1.out.mono (by omega)⟩, ⟨HB1.out.size⟩, ⟨pw_cell_below HB1.out HC.out⟩, ⟨Kd.R_below HR.out HB1.out⟩, rfl, ⟨?_⟩, ⟨fun m _ => rfl⟩⟩
   rw [hl, HK1.out]
  case round =>
   obtain ⟨j, ys, hjg, rfl, rfl, hij, HB, HS, HCx, HRx, hyl, HT, HX⟩ := hrel
   clear hwr hk0 hI1 hall
   cases gk with
   | zero =>
    have hfil : kept p xs j = xs.filter fun h => !p h := by unfold kept; rw [List.take_of_length_le (by omega)]
    rw [hfil] at HT hij ⊢
    generalize hfl : (xs.filter fun h => !p h) = fl at *
    have hyl2 := hyl
    obtain ⟨W', hclr, hR', hg'⟩ := clear_H HRx.out fl.length (by omega)
    have HF := Aside0.mk (show Below base w W' from HB.out.grown hg' (by have := HS.out; omega) (fun k hk => by cases hk; exact hbg))
    have HF2 := Aside0.mk (show Kd.R k72 72 W' base (fun _ => True) (.slice (some ⟨g, 0, none⟩) fl.length cap) fl by rw [HT.out] at hR'; exact Kd.R_mono hR' (fun _ _ => trivial))
    have hjn : ¬ ((j : Int) < (xs.length : Int)) := by omega
    have c1 : (0 : Int) ≤ (fl.length : Int) := by omega
    have c2 : (fl.length : Int) ≤ (xs.length : Int) := by omega
    have c3 : (fl.length : Int) ≤ (cap : Int) := by omega
    have HFL := Aside0.mk hfl
    clear hg' hR' hfil hfl hyl hyl2 HT HX HRx
    go_wp2
    go_ret
    exact ⟨_, rfl, by rw [HFL.out]; exact HF2.out, HF.out⟩
   | succ gk =>
    have hj : j < xs.length := by omega
    have hjn : (j : Int) < (xs.length : Int) := by omega
    have hj0 : (0 : Int) ≤ (j : Int) := by omega
    have hyj : ys[j]'(by omega) = xs[j]'hj := by
     have := HX.out j (Nat.le_refl _)
     rw [List.getElem?_eq_getElem (by omega), List.getElem?_eq_getElem hj] at this
     exact Option.some.inj this
    obtain ⟨q0, q1, _, _⟩ := elem_H HRx.out j (by omega)
    rw [hyj] at q0 q1
    have HM := Aside0.mk (List.getElem_mem hj)
    have HK := Aside0.mk (kept_succ p xs j hj)
    generalize xs[j]'hj = x at *
    obtain ⟨i, hI_⟩ : ∃ i, i = (kept p xs j).length := ⟨_, rfl⟩
    have HI := Aside0.mk hI_.symm
    rw [← hI_] at hij HT ⊢
    clear hI_
    have hcw : (wr.alloc (.cells #[.string x.f0, .string x.f1] 72 (0, 0))).cell? ad = some (.string name) := pw_cell_below (below_alloc (Below.refl _ _) _) HCx.out
    have HW := Aside0.mk (HP.out _ x HM.out hcw)
    clear hcw
    have HRw := Aside0.mk (Kd.R_alloc HRx.out (.cells #[.string x.f0, .string x.f1] 72 (0, 0)))
    have HBw := Aside0.mk (show Below base w (wr.alloc (.cells #[.string x.f0, .string x.f1] 72 (0, 0))) from HB.out.alloc (by have := HS.out; omega) _)
    have HSw := Aside0.mk (show w.heap.size ≤ (wr.alloc (.cells #[.string x.f0, .string x.f1] 72 (0, 0))).heap.size by have := HS.out; simp; omega)
    have HCw := Aside0.mk (show (wr.alloc (.cells #[.string x.f0, .string x.f1] 72 (0, 0))).cell? ad = some (.string name) from pw_cell_below (below_alloc (Below.refl _ _) _) HCx.out)
    have HBX := Aside0.mk (blk_new wr (.cells #[.string x.f0, .string x.f1] 72 (0, 0)))
    have hi0 : (0 : Int) ≤ (i : Int) := by omega
    have hin : (i : Int) < (xs.length : Int) := by omega
    cases hpx : p x
    ·rw [hpx] at HW HK
     go_wp2_with (go_at_fn fn; refine HW.out.mono ?_; rintro e w2 ⟨rfl, hb2⟩; have HR2 := Aside0.mk (Kd.R_below HRw.out hb2); have HB2 := Aside0.mk (show Below base w w2 from HBw.out.trans (hb2.mono (by have := HSw.out; omega))); have HS2 := Aside0.mk (Nat.le_trans HSw.out hb2.size); have HC2 := Aside0.mk (pw_cell_below hb2 HCw.out); have b0 : w2.cell? ⟨wr.heap.size, 0, none⟩ = some (.string x.f0) := (blk_cell (blk_below HBX.out hb2) 0).trans rfl; have b1 : w2.cell? ⟨wr.heap.size, 1, none⟩ = some (.string x.f1) := (blk_cell (blk_below HBX.out hb2) 1).trans rfl; obtain ⟨y0, y1, z0, z1⟩ := elem_H HR2.out i (by omega); clear hb2)
     go_roundg gk
     case measure => omega
     case rel =>
      have hk2 : kept p xs (j + 1) = kept p xs j ++ [x] := HK.out
      obtain ⟨hR3, hg3⟩ := put_H HR2.out i (by omega) x
      refine ⟨j + 1, ys.set i x, by omega, by rw [hk2, List.length_append, HI.out]; first | rfl | simp, by first | rfl | simp, by rw [hk2, List.length_append, HI.out]; simp; omega, ⟨HB2.out.grown hg3 (by have := HS2.out; omega) (fun k hk => by cases hk; exact hbg)⟩, ⟨by have := hg3.size; have := HS2.out; omega⟩, ⟨?_⟩, ⟨hR3⟩, by rw [List.length_set]; exact hyl, ⟨?_⟩, ⟨fun m hm => ?_⟩⟩
      ·rw [World.cell?_setCell_other _ _ _ _ (fun e => hne (by rw [← e])), World.cell?_setCell_other _ _ _ _ (fun e => hne (by rw [← e]))]
       exact HC2.out
      ·rw [hk2, List.length_append, HI.out]
       rw [← HT.out]
       exact set_take ys i x (by omega)
      ·rw [List.getElem?_set_ne (by omega)]
       exact HX.out m (by omega)
    ·rw [hpx] at HW HK
     go_wp2_with (go_at_fn fn; refine HW.out.mono ?_; rintro e w2 ⟨rfl, hb2⟩; have HR2 := Aside0.mk (Kd.R_below HRw.out hb2); have HB2 := Aside0.mk (show Below base w w2 from HBw.out.trans (hb2.mono (by have := HSw.out; omega))); have HS2 := Aside0.mk (Nat.le_trans HSw.out hb2.size); have HC2 := Aside0.mk (pw_cell_below hb2 HCw.out); clear hb2)
     go_roundg gk
     case measure => omega
     case rel =>
      have hk2 : kept p xs (j + 1) = kept p xs j := HK.out.trans (List.append_nil _)
      refine ⟨j + 1, ys, by omega, by rw [hk2, HI.out], by first | rfl | simp, by rw [hk2, HI.out]; omega, HB2, HS2, HC2, HR2, hyl, ⟨?_⟩, ⟨fun m hm => HX.out m (by omega)⟩⟩
      rw [hk2, HI.out]
      exact HT.out
 ·have hf : fdx p xs = -1 := if_neg hall
  have hfil : (xs.filter fun h => !p h) = xs := by
   rw [List.filter_eq_self]
   intro h hh
   have hge : xs.length ≤ xs.findIdx p := by omega
   have := List.findIdx_eq_length.1 (Nat.le_antisymm List.findIdx_le_length hge) h hh
   simpa using this
  rw [hf] at hI1
  rw [hfil]
  clear hall hf hfil
  go_enter Tryz.func67, Tryz.ntmps67
  go_wp2_with (go_at_call 38; refine hI1.mono ?_; rintro e w1 ⟨rfl, hb1⟩; have HB1 := Aside0.mk hb1; clear hb1)
  go_ret
  exact ⟨_, rfl, Kd.R_below HRR.out HB1.out, HB1.out.mono (by omega)⟩
set_option maxHeartbeats 4000000 in
set_option maxRecDepth 100000 in
theorem deleteFunc_R (fn : Nat) (ad : Addr) (name : ByteArray) (eg : ∀ args w, (callFunc fn args).run Tryz.prog w = .ok (.enter fn args) w) (p : S72 → Bool) (v : Value) (xs : List S72) (w : World) (base : Nat)
  (hr : Kd.R k72 72 w base (fun _ => True) v xs) (hbl : base ≤ w.heap.size) (hp : GivesB fn ad name p xs) (hc : w.cell? ad = some (.string name)) (hne : ad.block < base) :
  Calls Tryz.prog 67 #[v, .func (.func fn) #[] #[.pointer (some ad)]] w fun e w' => ∃ v, e = .returned v ∧ Kd.R k72 72 w' base (fun _ => True) v (xs.filter fun h => !p h) ∧ Below base w w' := by
 obtain ⟨A, c, rfl⟩ := Kd.R_slice hr
 cases A with
 | some a =>
  obtain ⟨g, rfl⟩ := Kd.R_head hr
  have hbg : base ≤ g := Kd.R_base hr g rfl
  exact deleteFunc_H fn ad name eg p g xs.length c xs w base hr hp hc (by omega)
 | none =>
  have hnil : xs = [] ∧ c = 0 := by
   obtain ⟨_, inner, ho, _⟩ := hr
   rcases ho.2 with ⟨hv, hn⟩ | ⟨g, cap, cur, hv, _⟩
   ·injection hv with _ _ h3
    exact ⟨List.eq_nil_of_length_eq_zero hn, h3⟩
   ·injection hv with h1
    cases h1
  obtain ⟨rfl, rfl⟩ := hnil
  have hI1 := indexFunc_H fn ad name eg p none 0 [] w (Kd.C_nil _ _) hp hc
  have hf : fdx p [] = -1 := rfl
  rw [hf] at hI1
  clear hr hp hc hf hne
  go_enter Tryz.func67, Tryz.ntmps67
  go_wp2_with (go_at_call 38; refine hI1.mono ?_; rintro e w1 ⟨rfl, hb1⟩; have HB1 := Aside0.mk hb1; clear hb1)
  go_ret
  exact ⟨_, rfl, Kd.R_nil _ _ _ _ _, HB1.out.mono hbl⟩
def headers_Remove.f (l0 : List (S72)) (a1 : ByteArray) : Option (List (S72)) := if l0.length < 4398046511104 ∧ (l0.all fun h => (octets_Same.f h.f0 a1).isSome) = true then some (l0.filter fun h => !sameB h.f0 a1) else none
set_option maxHeartbeats 4000000 in
set_option maxRecDepth 100000 in
theorem headers_Remove.calls (A0 : Option Addr) (c0 : Nat) (l0 : List (S72)) (a1 : ByteArray) (r : List (S72)) (w : World) (hr0 : Kd.C k72 w A0 l0.length l0) (hc0 : l0.length ≤ c0) (h : headers_Remove.f l0 a1 = some r) :
  Calls Tryz.prog 24 #[.slice A0 l0.length c0, .string a1] w fun e w' => ∃ v0_ : Value, e = .returned (v0_) ∧ Kd.R k72 72 w' w.heap.size (fun _ => True) v0_ r ∧ Below w.heap.size w w' := by
 unfold headers_Remove.f at h
 by_cases hcd : l0.length < 4398046511104 ∧ (l0.all fun h => (octets_Same.f h.f0 a1).isSome) = true
 ·rw [if_pos hcd] at h
  obtain rfl := Option.some.inj h
  obtain ⟨hl, hall⟩ := hcd
  have hcl : api_Header_45.f l0 = some l0 := by
   unfold api_Header_45.f
   rw [Option.bind_some, if_pos (by simpa using hl)]
   rfl
  have hw1 : Below w.heap.size w (w.alloc (.cells #[.string a1] 9 (0, 0))) := below_alloc (Below.refl _ _) _
  have hr1 := Kd.C_below hr0 hw1
  have HCl := Aside0.mk (api_Header_45.calls A0 c0 l0 l0 _ hr1 hc0 hcl)
  have HB := Aside0.mk hw1
  have hbx := blk_new w (.cells #[.string a1] 9 (0, 0))
  have HC0 := Aside0.mk (show (w.alloc (.cells #[.string a1] 9 (0, 0))).cell? ⟨w.heap.size, 0, none⟩ = some (.string a1) from (blk_cell hbx 0).trans rfl)
  have hsz : (w.alloc (.cells #[.string a1] 9 (0, 0))).heap.size = w.heap.size + 1 := by simp
  have hG := removeLit_gives a1 ⟨w.heap.size, 0, none⟩ l0 (fun h hh => List.all_eq_true.1 hall h hh)
  have HD := Aside0.mk (fun v w2 hv hb2 hc2 => deleteFunc_R 68 ⟨w.heap.size, 0, none⟩ a1 (fun args w => rfl) (fun h => sameB h.f0 a1) v l0 w2 (w.heap.size + 1) hv hb2 hG hc2 (Nat.lt_succ_self _))
  rw [hsz] at HCl
  have HS := Aside0.mk hsz
  clear hG hsz hbx hcl hall hl hr0 hr1 hw1
  go_enter Tryz.func24, Tryz.ntmps24
  go_wp2_with (first
   | (go_at_call 45; refine HCl.out.mono ?_; rintro e w2 ⟨v1, rfl, hr2, hb2⟩; have HR2 := Aside0.mk hr2; have HB2 := Aside0.mk hb2; clear hr2 hb2)
   | (go_at_call 67; refine (HD.out _ _ HR2.out (by have := HB2.out.size; have := HS.out; omega) (pw_cell_below (by rw [HS.out]; exact HB2.out) HC0.out)).mono ?_; rintro e w3 ⟨v2, rfl, hr3, hb3⟩; have HR3 := Aside0.mk hr3; have HB3 := Aside0.mk hb3; clear hr3 hb3))
  go_ret
  refine ⟨_, rfl, Kd.R_lower HR3.out (Nat.le_succ _), ?_⟩
  exact (HB.out.trans (HB2.out.mono (Nat.le_succ _))).trans (HB3.out.mono (Nat.le_succ _))
 ·rw [if_neg hcd] at h
  cases h

end Go.Proofs.YtjadlnmphcoioaaGreatDoor.X
