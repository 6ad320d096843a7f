-- Written by wip/xprint.py for this seat
import Derived.Test.YtjadlnmphcoioaaGreatDoorX0
import Derived.Test.YtjadlnmphcoioaaGreatDoorX1
namespace Go.Proofs.YtjadlnmphcoioaaGreatDoor.X
open Go.RowKit Go.Proofs.YtjadlnmphcoioaaGreatDoorW.PrintWords Go.Proofs.YtjadlnmphcoioaaGreatDoorW.PrintLast Go.Proofs.YtjadlnmphcoioaaGreatDoorW.PrintMore
attribute [local go_sem] max2_int min2_int max_two min_two max_three min_three max_four min_four   -- for this text's walks alone
set_option linter.unusedVariables false
set_option linter.unusedSimpArgs false

attribute [local go_sem high] eqA72
/-! ### pergolaplain_markHeaders: function 36 -/
def pergolaplain_markHeaders.f (a0 : Int) (a1 : Int) : Option (ByteArray × ByteArray) := some (strOfNums (([(a0) % 256, (a0 / 256) % 256, (a1) % 256, (a1 / 256) % 256, 77] : List Int)), (⟨#[]⟩ : ByteArray))
set_option maxHeartbeats 8000000 in
set_option maxRecDepth 100000 in
theorem pergolaplain_markHeaders.calls (a0 : Int) (a1 : Int) (r1 : ByteArray) (r2 : ByteArray) (w : World) (h : pergolaplain_markHeaders.f a0 a1 = some (r1, r2)) :
  Calls Tryz.prog 36 #[.int .i64 a0, .int .i64 a1] w fun e w' => e = .returned (.agg #[.string r1, .string r2]) ∧ Below w.heap.size w w' := by
 have hu72 := Tryz.underlying72
 have HB := Aside0.mk (Below.refl w.heap.size w)
 have H : (some (strOfNums (([(a0) % 256, (a0 / 256) % 256, (a1) % 256, (a1 / 256) % 256, 77] : List Int)), (⟨#[]⟩ : ByteArray))) = some (r1, r2) := h
 clear h
 obtain ⟨y102, hy102⟩ : ∃ y_ : List Int, y_ = (([(a0) % 256, (a0 / 256) % 256, (a1) % 256, (a1 / 256) % 256, 77] : List Int)) := ⟨_, rfl⟩
 replace H : (some (strOfNums y102, (⟨#[]⟩ : ByteArray))) = some (r1, r2) := by first | (rw [hy102]; with_reducible exact H) | (have H2_ := (Option.bind_some _ _).symm.trans H; rw [hy102]; with_reducible exact H2_) | (have H2_ := (Option.bind_some _ _).symm.trans H; with_reducible exact H2_) | with_reducible exact H | (rw [hy102]; exact H) | exact H
 have Ny102 := Aside0.mk hy102
 clear hy102
 simp only [Option.some.injEq, Prod.mk.injEq] at H
 obtain ⟨rfl, rfl⟩ := H
 go_enter Tryz.func36, Tryz.ntmps36
 go_wp2_with (first | ((with_reducible refine gate_dst (N := 4) rfl ?_); refine box_event ?hg (N := 4) ?hd (cs := #[.string (⟨#[]⟩ : ByteArray), .string (⟨#[]⟩ : ByteArray)]) (t := 72) ?hr ?_; (case hd => rfl); (case hg => rfl); (case hr => first | (go_simp; done) | (go_simp; rfl)); intro gb101 hg w3 hbox hb; have n0_ := Aside0.mk (below_step (by repeat (first | (with_reducible first | exact HB.out | apply below_alloc | apply pw_below_drewN | apply below_drew1) | exact HB.out)) hb); have n1_ := Aside0.mk (hbox); have n2_ := Aside0.mk ((by rw [hg]; exact (below_size (by repeat (first | (with_reducible first | exact HB.out | apply below_alloc | apply pw_below_drewN | apply below_drew1) | exact HB.out))) : w.heap.size ≤ gb101)); have n3_ := Aside0.mk ((by rw [hg]; exact (below_size (by repeat (first | (with_reducible first | exact HB.out | apply below_alloc | apply pw_below_drewN | apply below_drew1) | exact HB.out))) : w.heap.size ≤ gb101)); clear HB; have HB := n0_; have BK101 := n1_; have GW101 := n2_; have GE101 := n3_; clear n0_ n1_ n2_ n3_; clear hb hbox hg) | ((with_reducible refine gate_dst (N := 15) rfl ?_); refine Kd.R_lit (Kd.int .u8) _ 5 ?hg (N := 15) ?hd (xs := ([(a0) % 256, (a0 / 256) % 256, (a1) % 256, (a1 / 256) % 256, 77] : List Int)) (inner := [.int .u8 ((a0) % 256), .int .u8 ((a0 / 256) % 256), .int .u8 ((a1) % 256), .int .u8 ((a1 / 256) % 256), .int .u8 77]) (ok := fun _ => True) (okp := fun _ => True) ?hr ?hp (fun _ hk => hk) trivial (Below.refl _ _) (Nat.le_refl _) (by simp) ?_; (case hd => rfl); (case hg => rfl); (case hr => first | (go_simp; done) | (go_simp; rfl)); (case hp => exact (Reps.one (show Kd.M (Kd.int .u8) _ _ _ ((a0) % 256) [.int .u8 ((a0) % 256)] from rfl) (Reps.one (show Kd.M (Kd.int .u8) _ _ _ ((a0 / 256) % 256) [.int .u8 ((a0 / 256) % 256)] from rfl) (Reps.one (show Kd.M (Kd.int .u8) _ _ _ ((a1) % 256) [.int .u8 ((a1) % 256)] from rfl) (Reps.one (show Kd.M (Kd.int .u8) _ _ _ ((a1 / 256) % 256) [.int .u8 ((a1 / 256) % 256)] from rfl) (Reps.one (show Kd.M (Kd.int .u8) _ _ _ 77 [.int .u8 77] from rfl) (Reps.none _ _))))))); intro v103 w4 ho5 hb hg_ hnew_; clear hg_ hnew_; (first | rw [← Ny102.out] at ho5 | (simp only [Int.reduceToNat] at ho5; rw [← Ny102.out] at ho5)); have n0_ := Aside0.mk (Kd.R_lower ho5 (below_size (by repeat (first | (with_reducible first | exact HB.out | apply below_alloc | apply pw_below_drewN | apply below_drew1 | refine below_set ?_ GE101.out) | exact HB.out)))); have n1_ := Aside0.mk (blk_below (g := gb101) (o := .cells #[.string (⟨#[]⟩ : ByteArray), .string (⟨#[]⟩ : ByteArray)] 72 (0, 0)) (by (with_reducible repeat (first | refine blk_drewN ?_ _ | refine blk_drew ?_ | refine blk_alloc ?_ _)); exact BK101.out) hb); have n2_ := Aside0.mk (below_step (by repeat (first | (with_reducible first | exact HB.out | apply below_alloc | apply pw_below_drewN | apply below_drew1 | refine below_set ?_ GE101.out) | exact HB.out)) hb); clear BK101; clear HB; have HO104 := n0_; have BK101 := n1_; have HB := n2_; clear n0_ n1_ n2_; clear hb ho5; have hcv6 := own_string (P := Tryz.prog) Tryz.underlying63 Tryz.underlying5 Tryz.underlying9 (Kd.own_of_R HO104.out); have hcw7 := fun nq_ => own_string (P := Tryz.prog) Tryz.underlying63 Tryz.underlying5 Tryz.underlying9 (Kd.own_of_R (Kd.R_drewN HO104.out nq_)); have hcz8_0 : w4.cell? ⟨gb101, 0, none⟩ = some (.string (⟨#[]⟩ : ByteArray)) := (blk_cell BK101.out 0).trans rfl; have hcz8_1 : w4.cell? ⟨gb101, 1, none⟩ = some (.string (⟨#[]⟩ : ByteArray)) := (blk_cell BK101.out 1).trans rfl; have hfz8_0 := blk_frozen BK101.out 0; have hfz8_1 := blk_frozen BK101.out 1))
 refine bodyPost_ret (results_cell_row rfl _ _ gb101 72 #[.string (strOfNums y102), .string (⟨#[]⟩ : ByteArray)] (0, 0) _ rfl (by (with_reducible repeat (first | refine blk_drewN ?_ _ | refine blk_drew ?_ | refine blk_alloc ?_ _)); refine blk_put (cs := #[.string (strOfNums y102), .string (⟨#[]⟩ : ByteArray)]) ?_ 1 _ rfl; (with_reducible repeat (first | refine blk_drewN ?_ _ | refine blk_drew ?_ | refine blk_alloc ?_ _)); refine blk_put (cs := #[.string (⟨#[]⟩ : ByteArray), .string (⟨#[]⟩ : ByteArray)]) ?_ 0 _ rfl; (with_reducible repeat (first | refine blk_drewN ?_ _ | refine blk_drew ?_ | refine blk_alloc ?_ _)); exact BK101.out) Tryz.underlying72 rfl (by kernel_rfl)) rfl ?_
 exact ⟨by first | rfl | (simp [errW_none, errW_some] <;> rfl) | (simp [*, errW_none, errW_some] <;> rfl), by repeat (first | (with_reducible first | exact HB.out | apply below_alloc | apply pw_below_drewN | apply below_drew1 | refine below_set ?_ GE101.out) | exact HB.out)⟩

/-! ### pergolaplain_CopyHeaders: function 37 -/
def pergolaplain_CopyHeaders.f (l0 : List (S72)) : Option ((List (S72))) := if ([] : List (S72)).length + l0.length < 4398046511104 then (some (([] : List (S72)) ++ l0)) else (none)
set_option maxHeartbeats 8000000 in
set_option maxRecDepth 100000 in
theorem pergolaplain_CopyHeaders.calls (A0 : Option Addr) (c0 : Nat) (l0 : List (S72)) (r : List (S72)) (w : World) (hr0 : Kd.C k72 w A0 l0.length l0) (hc0 : l0.length ≤ c0) (h : pergolaplain_CopyHeaders.f l0 = some r) :
  Calls Tryz.prog 37 #[.slice A0 l0.length c0] w fun e w' => ∃ v0_ : Value, e = .returned (v0_) ∧ Kd.R k72 72 w' w.heap.size (fun _ => True) v0_ r ∧ Below w.heap.size w w' := by
 have HR0 := Aside0.mk hr0
 have HC0 := Aside0.mk hc0
 clear hr0 hc0
 have HB := Aside0.mk (Below.refl w.heap.size w)
 have H : (if ([] : List (S72)).length + l0.length < 4398046511104 then (some (([] : List (S72)) ++ l0)) else (none)) = some r := h
 clear h
 by_cases c2 : ([] : List (S72)).length + l0.length < 4398046511104
 ·rw [if_pos c2] at H
  have LMc2 := Aside0.mk c2
  clear c2
  obtain ⟨y105, hy105⟩ : ∃ y_ : List (S72), y_ = (([] : List (S72)) ++ l0) := ⟨_, rfl⟩
  replace H : (some y105) = some r := by first | (rw [hy105]; with_reducible exact H) | (have H2_ := (Option.bind_some _ _).symm.trans H; rw [hy105]; with_reducible exact H2_) | (have H2_ := (Option.bind_some _ _).symm.trans H; with_reducible exact H2_) | with_reducible exact H | (rw [hy105]; exact H) | exact H
  have Ny105 := Aside0.mk hy105
  clear hy105
  obtain rfl := Option.some.inj H
  go_enter Tryz.func37, Tryz.ntmps37
  go_wp2_with (first | ((with_reducible refine gate_builtin (b := .append) (xs := #[.tmp 4, .tmp 5]) rfl ?_); at_builtin; refine Kd.R_append_rows k72 (w0 := w) w.heap.size rfl (.tmp 4) (.tmp 5) 22 72 (.agg #[(.string ⟨#[]⟩), (.string ⟨#[]⟩)]) 32 rfl Tryz.underlying22 info72 rfl (by decide) (by omega) (.slice none 0 0) ([] : List (S72)) l0 _ _ _ (fun _ => True) (fun _ => False) rfl rfl ?aO ?aR (fun _ _ h => h) (fun _ h => h.elim) ?aF ?aB ?aS ?aL ?_; (case aR => repeat (first | exact HR0.out | (with_reducible refine Kd.C_alloc ?_ _) | (with_reducible refine Kd.C_drewN ?_ _) | (with_reducible refine Kd.C_drew ?_))); (case aB => exact (by repeat (first | (with_reducible first | exact HB.out | apply below_alloc | apply pw_below_drewN | apply below_drew1) | exact HB.out))); (case aF => exact (fun _ _ => trivial)); (case aO => exact ((Kd.R_nil _ _ _ _ (fun _ => True)))); (case aS => exact (below_size (by repeat (first | (with_reducible first | exact HB.out | apply below_alloc | apply pw_below_drewN | apply below_drew1) | exact HB.out)))); (case aL => have := LMc2.out; omega); intro v106 w3 ho hb hg hat; rw [← Ny105.out] at ho; have n0_ := Aside0.mk (hb); have n1_ := Aside0.mk (ho); clear HB; have HB := n0_; have HO107 := n1_; clear n0_ n1_; clear ho hb hg hat))
  go_ret
  exact ⟨_, by first | rfl | (simp [errW_none, errW_some] <;> rfl) | (simp [*, errW_none, errW_some] <;> rfl), by (with_reducible repeat (first | apply Kd.R_alloc | apply Kd.R_drewN | apply Kd.R_drew)); exact HO107.out, by repeat (first | (with_reducible first | exact HB.out | apply below_alloc | apply pw_below_drewN | apply below_drew1) | exact HB.out)⟩
 ·rw [if_neg c2] at H
  exact absurd H (by simp)

/-! ### given: (*pergola/pergolaplain.Given).Headers -/
-- USES pergola/pergolaplain.markHeaders
-- USES pergola/pergolaplain.CopyHeaders
-- INFO 72
-- INFO 22
mutual
def pergolaplain_Given_Headers.l0 : Nat → List (S72) → List (S72) → Int → Option ((List (S72)))
 | 0, _, _, _ => none
 | k + 1, x1, x5, x6 => if x6 < (x5.length : Int) then ((pergolaplain_markHeaders.f 987 x6).bind fun bt184 => (if 0 ≤ x6 then (pergolaplain_Given_Headers.l0 k x1 (x5.set (x6 : Int).toNat (⟨bt184.1, bt184.2⟩ : S72)) (wrap64 (x6 + 1))) else (none))) else (pergolaplain_Given_Headers.l1 k x1 x5 0)
def pergolaplain_Given_Headers.l1 : Nat → List (S72) → List (S72) → Int → Option ((List (S72)))
 | 0, _, _, _ => none
 | k + 1, x1, x5, x7 => if x7 < (x1.length : Int) then (if 0 ≤ x7 then (if x7 < (x5.length : Int) then (pergolaplain_Given_Headers.l1 k x1 (x5.set (x7 : Int).toNat (⟨(rd_T72 x1 x7).f0, (rd_T72 x1 x7).f1⟩ : S72)) (wrap64 (x7 + 1))) else (none)) else (none)) else (if (x1.length : Int) ≤ (x5.length : Int) then ((pergolaplain_CopyHeaders.f x5).bind fun _t170 => (some x5)) else (none))
end
def pergolaplain_Given_Headers.f (k : Nat) (l1 : List (S72)) : Option ((List (S72))) := if 0 ≤ (wrap64 ((l1.length : Int) + 3)) then (if (wrap64 ((l1.length : Int) + 3) : Int).toNat ≤ 8796093022208 then (pergolaplain_Given_Headers.l0 k l1 (List.replicate (wrap64 ((l1.length : Int) + 3) : Int).toNat z72) 0) else (none)) else (none)
theorem pergolaplain_Given_Headers.copy {l t : List (S72)} (h : pergolaplain_CopyHeaders.f l = some t) : t = l := by
 unfold pergolaplain_CopyHeaders.f at h
 split at h
 ·have h1 := Option.some.inj h
  rw [← h1]
  simp
 ·cases h
def pergolaplain_Given_Headers.T11 : Bool × List (List Nat × List Nat) := (true, [([], []), ([], []), ([1], [1]), ([2], [2]), ([3], [3]), ([], []), ([5], [5]), ([6], [6]), ([4, 7, 6], [4, 7]), ([0, 0, 1, 2, 3, 4, 5, 6, 7, 8], [0]), ([9, 0, 1, 2, 3, 4, 5, 6, 7, 8], [9]), ([10, 8, 8, 0, 1, 2, 3, 4, 5, 6, 7, 8], [8, 10])])
def pergolaplain_Given_Headers.B11 : List Nat := [0, 0, 2, 6, 14, 0, 32, 96, 254, 511, 1023, 2047]
theorem pergolaplain_Given_Headers.tab11 : rtab .any (opsOf Tryz.f6 11) = pergolaplain_Given_Headers.T11 := by kernel_rfl
theorem pergolaplain_Given_Headers.bits11 : waitsOk pergolaplain_Given_Headers.T11.2 pergolaplain_Given_Headers.B11 = true := by kernel_rfl
set_option maxHeartbeats 8000000 in
set_option maxRecDepth 100000 in
theorem pergolaplain_Given_Headers.walk (k : Nat) (A1 : Option Addr) (c1 : Nat) (l1 : List (S72)) (r : List (S72)) (w W0 : World) (gb159 : Nat) (s0 s1 : Value) (hg6 : w.heap.size ≤ gb159) (hb6 : Below w.heap.size w W0) (hbox : W0.heap[gb159]? = some (.cells #[s0, s1, .slice none 0 0, .slice none 0 0, .slice none 0 0, .slice none 0 0, .slice none 0 0, .slice none 0 0, .slice none 0 0, .slice none 0 0, .slice none 0 0, .slice none 0 0, .slice none 0 0, .slice none 0 0, .slice none 0 0, .slice none 0 0, .slice none 0 0, .slice none 0 0, .slice none 0 0, .slice none 0 0, .slice none 0 0, .slice none 0 0, .slice none 0 0, .slice none 0 0, .slice none 0 0, .slice none 0 0, .slice none 0 0, .slice none 0 0, .slice none 0 0, .slice none 0 0, .slice none 0 0, .slice none 0 0] 40 (0, 0))) (hr1 : Kd.C k72 W0 A1 l1.length l1) (hc1 : l1.length ≤ c1) (h : pergolaplain_Given_Headers.f k l1 = some r) (hr7 : r.length ≤ 8796093022208) :
  Calls Tryz.prog 6 #[.pointer (some ⟨gb159, 0, none⟩), .slice A1 l1.length c1] W0 fun e w' => ∃ v0_ : Value, e = .returned v0_ ∧ Kd.V k72 72 w' w.heap.size (fun k_ => W0.heap.size ≤ k_) v0_ (r.take l1.length) ∧ (∃ B1 B2 d1 d2, w'.heap[gb159]? = some (.cells #[s0, s1, .slice none 0 0, .slice none 0 0, .slice none 0 0, .slice none 0 0, .slice none 0 0, .slice none 0 0, .slice none 0 0, .slice none 0 0, .slice none 0 0, .slice none 0 0, .slice B1 1 d1, .slice B2 1 d2, .slice none 0 0, .slice none 0 0, .slice none 0 0, .slice none 0 0, .slice none 0 0, .slice none 0 0, .slice none 0 0, .slice none 0 0, .slice none 0 0, .slice none 0 0, .slice none 0 0, .slice none 0 0, .slice none 0 0, .slice none 0 0, .slice none 0 0, .slice none 0 0, .slice none 0 0, .slice none 0 0] 40 (0, 0)) ∧ Kd.R (Kd.slice 72 k72) 22 w' w.heap.size (fun _ => True) (.slice B1 1 d1) [r] ∧ Kd.R (Kd.slice 72 k72) 22 w' w.heap.size (fun _ => True) (.slice B2 1 d2) [r]) ∧ KeepBut W0 w' gb159 none ∧ Below w.heap.size w w' := by
 have hu45 := Tryz.underlying40
 have hu72 := Tryz.underlying72
 have HR1 := Aside0.mk hr1
 have HC1 := Aside0.mk hc1
 clear hr1 hc1
 have HR7 := Aside0.mk hr7
 have HBX := Aside0.mk hbox
 have HB6 := Aside0.mk hb6
 have GE159 : Aside0 (w.heap.size ≤ gb159) := ⟨hg6⟩
 clear hr7 hb6 hbox hg6
 have HB := Aside0.mk (Below.refl W0.heap.size W0)
 have H : (if 0 ≤ (wrap64 ((l1.length : Int) + 3)) then (if (wrap64 ((l1.length : Int) + 3) : Int).toNat ≤ 8796093022208 then (pergolaplain_Given_Headers.l0 k l1 (List.replicate (wrap64 ((l1.length : Int) + 3) : Int).toNat z72) 0) else (none)) else (none)) = some r := h
 clear h
 obtain ⟨ji3, hji3⟩ : ∃ j_ : Int, (wrap64 ((l1.length : Int) + 3)) = j_ := ⟨_, rfl⟩
 replace H : (if 0 ≤ (ji3) then (if (ji3 : Int).toNat ≤ 8796093022208 then (pergolaplain_Given_Headers.l0 k l1 (List.replicate (ji3 : Int).toNat z72) 0) else (none)) else (none)) = some r := by first | (rw [hji3] at H; exact H) | (simp only [hji3] at H ⊢; exact H)
 have hji3w : (IntKind.i64.wrap ((l1.length : Int) + 3)) = ji3 := (i64_w _).trans hji3
 by_cases c4 : 0 ≤ (ji3)
 ·rw [if_pos c4] at H
  have c4b0 := eq_true c4
  have c4b1 : decide (0 ≤ (ji3)) = true := decide_eq_true c4
  clear c4
  by_cases c5 : (ji3 : Int).toNat ≤ 8796093022208
  ·rw [if_pos c5] at H
   have c5b0 := eq_true c5
   have c5b1 : decide ((ji3 : Int).toNat ≤ 8796093022208) = true := decide_eq_true c5
   clear c5
   obtain ⟨y181, hy181⟩ : ∃ y_ : List (S72), y_ = (List.replicate (ji3 : Int).toNat z72) := ⟨_, rfl⟩
   replace H : (pergolaplain_Given_Headers.l0 k l1 y181 0) = some r := by first | (rw [hy181]; with_reducible exact H) | (have H2_ := (Option.bind_some _ _).symm.trans H; rw [hy181]; with_reducible exact H2_) | (have H2_ := (Option.bind_some _ _).symm.trans H; with_reducible exact H2_) | with_reducible exact H | (rw [hy181]; exact H) | exact H
   have Ny181 := Aside0.mk hy181
   clear hy181
   have H' := Aside0.mk H
   clear H
   go_enter Tryz.func6, Tryz.ntmps6
   go_wp2_with (first | ((with_reducible refine gate_dst (N := 11) rfl ?_); refine Kd.R_make k72 _ 72 rfl (N := 11) rfl 22 _ _ rfl ji3 rfl rfl Tryz.underlying22 (.agg #[(.string ⟨#[]⟩), (.string ⟨#[]⟩)]) 32 info72 rfl (by decide) (by omega) z72 (ok := fun _ => True) (okp := fun _ => True) (k72_mkM _ _ _ z72 ) (fun _ hk => hk) trivial (of_decide_eq_true (by first | (with_reducible assumption) | assumption)) (Nat.le_trans (Nat.mul_le_mul_right _ (of_decide_eq_true (by first | (with_reducible assumption) | assumption) : ji3.toNat ≤ 8796093022208)) (by omega)) (Below.refl _ _) (Nat.le_refl _) ?_; intro v182 w6 ho7 hb hg_ hnew_; clear hg_ hnew_; (first | rw [← Ny181.out] at ho7 | (simp only [Int.reduceToNat] at ho7; rw [← Ny181.out] at ho7)); have n0_ := Aside0.mk (Kd.R_lower ho7 (below_size (by repeat (first | (with_reducible first | exact HB.out | apply below_alloc | apply pw_below_drewN | apply below_drew1) | exact HB.out)))); have n1_ := Aside0.mk (below_step (by repeat (first | (with_reducible first | exact HB.out | apply below_alloc | apply pw_below_drewN | apply below_drew1) | exact HB.out)) hb); clear HB; have HO183 := n0_; have HB := n1_; clear n0_ n1_; clear hb ho7))
   go_loopg [6] k (fun kq v6 w' => ∃ (x5_1 : List (S72)) (x6_1 : Int), v6 = .int .i64 x6_1 ∧ Aside0 (pergolaplain_Given_Headers.l0 kq l1 x5_1 x6_1 = some r) ∧ Aside0 (kq ≤ k) ∧ Aside0 (Kd.R k72 72 w' W0.heap.size (fun _ => True) v182 x5_1) ∧ Aside0 (Below W0.heap.size W0 w'))
   case atStart => exact ⟨(y181), (0), (by first | rfl | (simp; done) | (simp [*]; done)), H', ⟨Nat.le_refl _⟩, ⟨by (with_reducible repeat (first | apply Kd.R_alloc | apply Kd.R_drewN | apply Kd.R_drew)); exact HO183.out⟩, ⟨by repeat (first | (with_reducible first | exact HB.out | apply below_alloc | apply pw_below_drewN | apply below_drew1) | exact HB.out)⟩⟩
   case round =>
    clear H'
    try clear c1
    try clear p2
    try clear c4
    try clear c4b0
    try clear c4b1
    try clear c5
    try clear c5b0
    try clear c5b1
    try clear p6
    obtain ⟨x5_1, x6_1, rfl, HA, HK1, HO_5, HB⟩ := hrel
    cases gk with
    | zero => exact absurd HA.out (by simp [pergolaplain_Given_Headers.l0])
    | succ k1 =>
     have H := HA.out
     clear HA
     simp only [pergolaplain_Given_Headers.l0] at H
     by_cases c8 : x6_1 < (x5_1.length : Int)
     ·rw [if_pos c8] at H
      have c8b0 : decide (x6_1 < (x5_1.length : Int)) = true := decide_eq_true c8
      clear c8
      replace H := Option.bind_eq_some_iff.mp H
      obtain ⟨⟨t184, t185⟩, A90, H⟩ := H
      replace H : (if 0 ≤ x6_1 then (pergolaplain_Given_Headers.l0 k1 l1 (x5_1.set (x6_1 : Int).toNat (⟨t184, t185⟩ : S72)) (wrap64 (x6_1 + 1))) else (none)) = some r := H
      have A9 := Aside0.mk A90
      clear A90
      by_cases c10 : 0 ≤ x6_1
      ·rw [if_pos c10] at H
       have c10b0 : decide (0 ≤ x6_1) = true := decide_eq_true c10
       clear c10
       obtain ⟨y186, hy186⟩ : ∃ y_ : List (S72), y_ = (x5_1.set (x6_1 : Int).toNat (⟨t184, t185⟩ : S72)) := ⟨_, rfl⟩
       replace H : (pergolaplain_Given_Headers.l0 k1 l1 y186 (wrap64 (x6_1 + 1))) = some r := by first | (rw [hy186]; with_reducible exact H) | (have H2_ := (Option.bind_some _ _).symm.trans H; rw [hy186]; with_reducible exact H2_) | (have H2_ := (Option.bind_some _ _).symm.trans H; with_reducible exact H2_) | with_reducible exact H | (rw [hy186]; exact H) | exact H
       have Ny186 := Aside0.mk hy186
       clear hy186
       have H' := Aside0.mk H
       clear H
       obtain ⟨Ao12, co12, eo12⟩ := Kd.R_slice HO_5.out
       subst eo12
       go_wp2_with (first | ((with_reducible refine gate_callee (f := 36) rfl ?_); refine goesL_ (some 21) rfl rfl Tryz.func36 (by kernel_rfl) rfl #[.int .i64 987, .int .i64 x6_1] rfl (by (try simp only [List.map_toArray, List.map_cons, List.map_nil]); first | done | rfl | (simp only [List.length_drop, List.length_take]; rfl)) ?_; (with_reducible refine (pergolaplain_markHeaders.calls 987 x6_1 t184 t185 _ A9.out).mono ?_); rintro e w13 ⟨rfl, hb⟩; refine ⟨_, rfl, ?_⟩; have n0_ := Aside0.mk (Kd.R_below (by (with_reducible repeat (first | apply Kd.R_alloc | apply Kd.R_drewN | apply Kd.R_drew)); exact HO_5.out) hb); have n1_ := Aside0.mk (below_step (by repeat (first | (with_reducible first | exact HB.out | apply below_alloc | apply pw_below_drewN | apply below_drew1) | exact HB.out)) hb); clear HO_5; clear HB; have HO_5 := n0_; have HB := n1_; clear n0_ n1_; (try clear hb); (try clear hb2); (try clear hk); (try clear hi); have p11 : 0 ≤ (x6_1 : Int) := of_decide_eq_true (by first | (with_reducible assumption) | assumption); have q11 : (x6_1 : Int) < ((x5_1.length : Int) : Int) := of_decide_eq_true (by first | (with_reducible assumption) | assumption); obtain ⟨go11, co11, eo11, gb11, gl11, cl11, HG11⟩ := Kd.R_form HO_5.out (by omega); (first | cases eo11 | (injection eo11 with ea_ en_ ec_; (first | subst ea_ | (injection ea_ with ea_; subst ea_)); subst ec_; clear en_)); have GB11 := Aside0.mk gb11; have GG11 := Aside0.mk HG11; clear gb11 gl11 HG11; obtain ⟨ce11, hcl11, hM11, hcc11, hfr11⟩ := Kd.R_elem HO_5.out z72 (x6_1 : Int) p11 q11; obtain rfl := k72_openM hM11; have hx11_0 : w13.cell? ⟨go11, (x6_1 : Int).toNat * 2, none⟩ = some (.string ((rd_T72 x5_1 x6_1).f0)) := hcc11 0 _ rfl; have hx11_1 : w13.cell? ⟨go11, (x6_1 : Int).toNat * 2 + 1, none⟩ = some (.string ((rd_T72 x5_1 x6_1).f1)) := hcc11 1 _ rfl; have hf11_0 : w13.frozen? ⟨go11, (x6_1 : Int).toNat * 2, none⟩ = false := hfr11 0; have hf11_1 : w13.frozen? ⟨go11, (x6_1 : Int).toNat * 2 + 1, none⟩ = false := hfr11 1; clear hcl11 hcc11 hfr11 hM11; replace p11 := eq_true p11; replace q11 := eq_true q11; have HX14 := Aside0.mk (show Kd.R k72 72 w13 W0.heap.size (fun _ => True) (.slice (some ⟨go11, 0, none⟩) x5_1.length co12) x5_1 from (by (with_reducible repeat (first | apply Kd.R_alloc | apply Kd.R_drewN | apply Kd.R_drew)); exact HO_5.out)); obtain ⟨ce14, hcl14, hM14, hcc14, hfr14⟩ := Kd.R_elem HX14.out z72 (x6_1 : Int) (of_decide_eq_true (by first | (with_reducible assumption) | assumption)) (by have h_ : (x6_1 : Int) < ((x5_1.length : Int) : Int) := of_decide_eq_true (by first | (with_reducible assumption) | assumption); first | exact h_ | (have e_ := (Kd.R_reads' HO_5.out).1; omega) | simpa using h_); obtain rfl := k72_openM hM14; have HP14 := Kd.R_seg HX14.out (x6_1 : Int) (of_decide_eq_true (by first | (with_reducible assumption) | assumption)) (by have h_ : (x6_1 : Int) < ((x5_1.length : Int) : Int) := of_decide_eq_true (by first | (with_reducible assumption) | assumption); first | exact h_ | (have e_ := (Kd.R_reads' HO_5.out).1; omega) | simpa using h_) (seg := [.string t184, .string t185]) (j := 0) hcl14 hcc14 (show 2 ≤ 2 from by decide) (x' := (⟨t184, t185⟩ : S72)) (k72_mkM _ _ _ (⟨t184, t185⟩ : S72) ) (fun _ hk => hk); have hx14_0 := hcc14 0 _ rfl; (try simp only [show (k72).sz = 2 from rfl, Nat.mul_one, Nat.add_zero] at hx14_0); have hf14_0 := hfr14 0; (try simp only [show (k72).sz = 2 from rfl, Nat.mul_one, Nat.add_zero] at hf14_0); have hx14_1 := hcc14 1 _ rfl; (try simp only [show (k72).sz = 2 from rfl, Nat.mul_one, Nat.add_zero] at hx14_1); have hf14_1 := hfr14 1; (try simp only [show (k72).sz = 2 from rfl, Nat.mul_one, Nat.add_zero] at hf14_1); clear hcl14 hcc14 hfr14 hM14) | ((with_reducible refine gate_store (t := 72) (p := 22) rfl ?_); refine store_event (t := 72) (p := 22) (v := ?vo_w15) (w1 := ((w13.setCell ⟨go11, (x6_1 : Int).toNat * 2, none⟩ (.string t184)).setCell ⟨go11, (x6_1 : Int).toNat * 2 + 1, none⟩ (.string t185))) ?hg ?ho ?hn ?hr ?_; (case ho => rfl); (case hg => rfl); (case hn => rfl); (case hr => first | (go_simp; done) | (go_simp; rfl)); intro w15 hw; have hg : w13.grownBy w15 (some go11) := (by rw [hw]; exact HP14.2); have hp_ : Kd.R k72 72 w15 W0.heap.size (fun _ => True) (.slice (some ⟨go11, 0, none⟩) x5_1.length co12) y186 := (by rw [hw, Ny186.out]; exact HP14.1); clear HP14; have n0_ := Aside0.mk (hp_); have n1_ := Aside0.mk ((by rw [hw]; exact below_set (below_set (HB.out) GB11.out) GB11.out : Below W0.heap.size W0 w15)); clear HO_5; clear HB; have HO_5 := n0_; have HB := n1_; clear n0_ n1_; clear hg hw hp_))
       go_roundg k1
       case measure => have := HK1.out; omega
       case rel => exact ⟨(y186), (wrap64 (x6_1 + 1)), (by first | rfl | (simp; done) | (simp [*]; done)), H', ⟨by have := HK1.out; omega⟩, ⟨by (with_reducible repeat (first | apply Kd.R_alloc | apply Kd.R_drewN | apply Kd.R_drew)); exact HO_5.out⟩, ⟨by repeat (first | (with_reducible first | exact HB.out | apply below_alloc | apply pw_below_drewN | apply below_drew1) | exact HB.out)⟩⟩
      ·rw [if_neg c10] at H
       exact absurd H (by simp)
     ·rw [if_neg c8] at H
      have c8b0 : decide (x6_1 < (x5_1.length : Int)) = false := decide_eq_false c8
      clear c8
      have H' := Aside0.mk H
      clear H
      obtain ⟨Ao16, co16, eo16⟩ := Kd.R_slice HO_5.out
      subst eo16
      go_wp2
      go_loopg [7] k1 (fun kq v7 w' => ∃ (x5_2 : List (S72)) (x7_2 : Int), v7 = .int .i64 x7_2 ∧ Aside0 (pergolaplain_Given_Headers.l1 kq l1 x5_2 x7_2 = some r) ∧ Aside0 (kq ≤ k1) ∧ Aside0 (Kd.R k72 72 w' W0.heap.size (fun _ => True) (.slice Ao16 x5_1.length co16) x5_2) ∧ Aside0 (Below W0.heap.size W0 w'))
      case atStart => exact ⟨(x5_1), (0), (by first | rfl | (simp; done) | (simp [*]; done)), H', ⟨Nat.le_refl _⟩, ⟨by (with_reducible repeat (first | apply Kd.R_alloc | apply Kd.R_drewN | apply Kd.R_drew)); exact HO_5.out⟩, ⟨by repeat (first | (with_reducible first | exact HB.out | apply below_alloc | apply pw_below_drewN | apply below_drew1) | exact HB.out)⟩⟩
      case round =>
       clear H'
       try clear c1
       try clear p1
       try clear q1
       try clear hx1
       try clear p2
       try clear c3
       try clear c4
       try clear c4b0
       try clear c4b1
       try clear c5
       try clear c5b0
       try clear c5b1
       try clear p6
       try clear c8
       try clear c8b0
       try clear c10
       try clear c10b0
       try clear c11
       try clear p11
       try clear q11
       try clear hx11
       try clear hf11
       try clear c14
       try clear hx14
       try clear hf14
       try clear hx11_0
       try clear hx11_1
       try clear hx14_0
       try clear hx14_1
       try clear p11
       try clear p2
       try clear p6
       try clear q11
       obtain ⟨x5_2, x7_2, rfl, HA, HK2, HO_5, HB⟩ := hrel
       have hl5_2 := (Kd.R_reads' HO_5.out).1
       rw [hl5_2] at HO_5
       (try simp only [hl5_2])
       cases gk with
       | zero => exact absurd HA.out (by simp [pergolaplain_Given_Headers.l1])
       | succ k2 =>
        have H := HA.out
        clear HA
        simp only [pergolaplain_Given_Headers.l1] at H
        by_cases c17 : x7_2 < (l1.length : Int)
        ·rw [if_pos c17] at H
         have c17b0 : decide (x7_2 < (l1.length : Int)) = true := decide_eq_true c17
         clear c17
         by_cases c18 : 0 ≤ x7_2
         ·rw [if_pos c18] at H
          have c18b0 : decide (0 ≤ x7_2) = true := decide_eq_true c18
          clear c18
          by_cases c19 : x7_2 < (x5_2.length : Int)
          ·rw [if_pos c19] at H
           have c19b0 : decide (x7_2 < (x5_2.length : Int)) = true := decide_eq_true c19
           clear c19
           obtain ⟨y188, hy188⟩ : ∃ y_ : List (S72), y_ = (x5_2.set (x7_2 : Int).toNat (⟨(rd_T72 l1 x7_2).f0, (rd_T72 l1 x7_2).f1⟩ : S72)) := ⟨_, rfl⟩
           replace H : (pergolaplain_Given_Headers.l1 k2 l1 y188 (wrap64 (x7_2 + 1))) = some r := by first | (rw [hy188]; with_reducible exact H) | (have H2_ := (Option.bind_some _ _).symm.trans H; rw [hy188]; with_reducible exact H2_) | (have H2_ := (Option.bind_some _ _).symm.trans H; with_reducible exact H2_) | with_reducible exact H | (rw [hy188]; exact H) | exact H
           have Ny188 := Aside0.mk hy188
           clear hy188
           have H' := Aside0.mk H
           clear H
           have p187 : 0 ≤ (x7_2 : Int) := of_decide_eq_true (by first | (with_reducible assumption) | assumption)
           have q187 : x7_2 < (l1.length : Int) := of_decide_eq_true (by first | (with_reducible assumption) | assumption)
           obtain ⟨ad187, e187, hx187_0, hx187_1⟩ := at_T72 HR1.out x7_2 p187 q187
           cases e187
           replace hx187_0 := (HB.out.cell (World.block_lt_of_cell? W0 _ hx187_0)).trans hx187_0
           replace hx187_1 := (HB.out.cell (World.block_lt_of_cell? W0 _ hx187_1)).trans hx187_1
           replace p187 := eq_true p187
           replace q187 := eq_true q187
           have p20 : 0 ≤ (x7_2 : Int) := of_decide_eq_true (by first | (with_reducible assumption) | assumption)
           have q20 : (x7_2 : Int) < ((x5_2.length : Int) : Int) := of_decide_eq_true (by first | (with_reducible assumption) | assumption)
           obtain ⟨go20, co20, eo20, gb20, gl20, cl20, HG20⟩ := Kd.R_form HO_5.out (by omega)
           (first | cases eo20 | (injection eo20 with ea_ en_ ec_; (first | subst ea_ | (injection ea_ with ea_; subst ea_)); subst ec_; clear en_))
           have GB20 := Aside0.mk gb20
           have GG20 := Aside0.mk HG20
           clear gb20 gl20 HG20
           obtain ⟨ce20, hcl20, hM20, hcc20, hfr20⟩ := Kd.R_elem HO_5.out z72 (x7_2 : Int) p20 q20
           obtain rfl := k72_openM hM20
           have hx20_0 : wr.cell? ⟨go20, (x7_2 : Int).toNat * 2, none⟩ = some (.string ((rd_T72 x5_2 x7_2).f0)) := hcc20 0 _ rfl
           have hx20_1 : wr.cell? ⟨go20, (x7_2 : Int).toNat * 2 + 1, none⟩ = some (.string ((rd_T72 x5_2 x7_2).f1)) := hcc20 1 _ rfl
           have hf20_0 : wr.frozen? ⟨go20, (x7_2 : Int).toNat * 2, none⟩ = false := hfr20 0
           have hf20_1 : wr.frozen? ⟨go20, (x7_2 : Int).toNat * 2 + 1, none⟩ = false := hfr20 1
           clear hcl20 hcc20 hfr20 hM20
           replace p20 := eq_true p20
           replace q20 := eq_true q20
           have HX21 := Aside0.mk (show Kd.R k72 72 wr W0.heap.size (fun _ => True) (.slice (some ⟨go20, 0, none⟩) x5_2.length co16) x5_2 from (by (with_reducible repeat (first | apply Kd.R_alloc | apply Kd.R_drewN | apply Kd.R_drew)); exact HO_5.out))
           obtain ⟨ce21, hcl21, hM21, hcc21, hfr21⟩ := Kd.R_elem HX21.out z72 (x7_2 : Int) (of_decide_eq_true (by first | (with_reducible assumption) | assumption)) (by have h_ : (x7_2 : Int) < ((x5_2.length : Int) : Int) := of_decide_eq_true (by first | (with_reducible assumption) | assumption); first | exact h_ | (have e_ := (Kd.R_reads' HO_5.out).1; omega) | simpa using h_)
           obtain rfl := k72_openM hM21
           have HP21 := Kd.R_seg HX21.out (x7_2 : Int) (of_decide_eq_true (by first | (with_reducible assumption) | assumption)) (by have h_ : (x7_2 : Int) < ((x5_2.length : Int) : Int) := of_decide_eq_true (by first | (with_reducible assumption) | assumption); first | exact h_ | (have e_ := (Kd.R_reads' HO_5.out).1; omega) | simpa using h_) (seg := [.string ((rd_T72 l1 x7_2).f0), .string ((rd_T72 l1 x7_2).f1)]) (j := 0) hcl21 hcc21 (show 2 ≤ 2 from by decide) (x' := (⟨(rd_T72 l1 x7_2).f0, (rd_T72 l1 x7_2).f1⟩ : S72)) (k72_mkM _ _ _ (⟨(rd_T72 l1 x7_2).f0, (rd_T72 l1 x7_2).f1⟩ : S72) ) (fun _ hk => hk)
           have hx21_0 := hcc21 0 _ rfl
           (try simp only [show (k72).sz = 2 from rfl, Nat.mul_one, Nat.add_zero] at hx21_0)
           have hf21_0 := hfr21 0
           (try simp only [show (k72).sz = 2 from rfl, Nat.mul_one, Nat.add_zero] at hf21_0)
           have hx21_1 := hcc21 1 _ rfl
           (try simp only [show (k72).sz = 2 from rfl, Nat.mul_one, Nat.add_zero] at hx21_1)
           have hf21_1 := hfr21 1
           (try simp only [show (k72).sz = 2 from rfl, Nat.mul_one, Nat.add_zero] at hf21_1)
           clear hcl21 hcc21 hfr21 hM21
           go_wp2_with (first | ((with_reducible refine gate_store (t := 72) (p := 35) rfl ?_); refine store_event (t := 72) (p := 35) (v := ?vo_w22) (w1 := ((wr.setCell ⟨go20, (x7_2 : Int).toNat * 2, none⟩ (.string ((rd_T72 l1 x7_2).f0))).setCell ⟨go20, (x7_2 : Int).toNat * 2 + 1, none⟩ (.string ((rd_T72 l1 x7_2).f1)))) ?hg ?ho ?hn ?hr ?_; (case ho => rfl); (case hg => rfl); (case hn => rfl); (case hr => first | (go_simp; done) | (go_simp; rfl)); intro w22 hw; have hg : wr.grownBy w22 (some go20) := (by rw [hw]; exact HP21.2); have hp_ : Kd.R k72 72 w22 W0.heap.size (fun _ => True) (.slice (some ⟨go20, 0, none⟩) x5_2.length co16) y188 := (by rw [hw, Ny188.out]; exact HP21.1); clear HP21; have n0_ := Aside0.mk (hp_); have n1_ := Aside0.mk ((by rw [hw]; exact below_set (below_set (HB.out) GB20.out) GB20.out : Below W0.heap.size W0 w22)); clear HO_5; clear HB; have HO_5 := n0_; have HB := n1_; clear n0_ n1_; clear hg hw hp_))
           (try simp only [← hl5_2])
           go_roundg k2
           case measure => have := HK1.out; have := HK2.out; omega
           case rel => exact ⟨(y188), (wrap64 (x7_2 + 1)), (by first | rfl | (simp; done) | (simp [*]; done)), H', ⟨by have := HK1.out; have := HK2.out; omega⟩, ⟨by (try simp only [hl5_2]); (with_reducible repeat (first | apply Kd.R_alloc | apply Kd.R_drewN | apply Kd.R_drew)); exact HO_5.out⟩, ⟨by repeat (first | (with_reducible first | exact HB.out | apply below_alloc | apply pw_below_drewN | apply below_drew1) | exact HB.out)⟩⟩
          ·rw [if_neg c19] at H
           exact absurd H (by simp)
         ·rw [if_neg c18] at H
          exact absurd H (by simp)
        ·rw [if_neg c17] at H
         have c17b0 : decide (x7_2 < (l1.length : Int)) = false := decide_eq_false c17
         clear c17
         have HT0 := Aside0.mk (Kd.R_base HO_5.out)
         have n0_ := Aside0.mk (Kd.R_lower HO_5.out HB6.out.size)
         have BK159 := Aside0.mk (blk_below HBX.out HB.out)
         have HK := Aside0.mk (KeepBut.of_below HB.out gb159 none)
         have n1_ := Aside0.mk (below_step HB6.out HB.out)
         clear HO_5 HB HBX
         have HO_5 := n0_
         have HB := n1_
         clear n0_ n1_
         by_cases c23 : (l1.length : Int) ≤ (x5_2.length : Int)
         ·rw [if_pos c23] at H
          have LMc23 := Aside0.mk (show ([] : List (List (S72))).length < 5864062014805 by decide)
          have HQ23 := Aside0.mk c23
          clear c23
          obtain ⟨y167, hy167⟩ : ∃ y_ : List (List (S72)), y_ = (([] : List (List (S72))) ++ [x5_2]) := ⟨_, rfl⟩
          have Ny167 := Aside0.mk hy167
          clear hy167
          replace H := Option.bind_eq_some_iff.mp H
          obtain ⟨t170, A240, H⟩ := H
          have A24 := Aside0.mk A240
          clear A240
          have ht170 : t170 = x5_2 := pergolaplain_Given_Headers.copy A24.out
          have HT170 := Aside0.mk ht170
          clear ht170
          obtain ⟨y173, hy173⟩ : ∃ y_ : List (List (S72)), y_ = (([] : List (List (S72))) ++ [t170]) := ⟨_, rfl⟩
          have Ny173 := Aside0.mk hy173
          clear hy173
          obtain rfl := Option.some.inj H
          clear H
          have hcz25_0 : wr.cell? ⟨gb159, 12, none⟩ = some (.slice none 0 0) := (blk_cell BK159.out 12).trans rfl
          have hcz25_1 : wr.cell? ⟨gb159, 13, none⟩ = some (.slice none 0 0) := (blk_cell BK159.out 13).trans rfl
          have hfz25_0 := blk_frozen BK159.out 12
          have hfz25_1 := blk_frozen BK159.out 13
          try go_wp2_with (first | ((with_reducible refine gate_builtin (b := .append) (xs := #[.tmp 40, .tmp 42]) rfl ?_); at_builtin; refine Kd.S_append (Kd.slice 72 k72) (w0 := w) w.heap.size rfl (.tmp 40) (.tmp 42) 29 22 (.slice none 0 0) 24 rfl Tryz.underlying29 info22 rfl (by decide) (by omega) (.slice none 0 0) ([] : List (List (S72))) x5_2 [.slice Ao16 x5_2.length co16] (fun _ => True) (fun k_ => some k_ = (.slice Ao16 x5_2.length co16 : Value).ownBlock) rfl rfl ?aP (fun k_ hk_ => ((Kd.R_mono (ok' := fun k_ => ((fun _ => True)) k_ ∧ some k_ ≠ (.slice none 0 0 : Value).ownBlock) (HO_5.out) (fun k_ hk => ⟨trivial, (by simp [Value.ownBlock])⟩))).1 k_ hk_.symm) ?aF ?aO ?aB ?aS ?aL ?_; (case aP => exact Kd.M_row (Kd.R_mono (Kd.R_tight rfl (Kd.R_mono (ok' := fun k_ => ((fun _ => True)) k_ ∧ some k_ ≠ (.slice none 0 0 : Value).ownBlock) (HO_5.out) (fun k_ hk => ⟨trivial, (by simp [Value.ownBlock])⟩))) (fun _ h_ => h_))); (case aB => exact (by repeat (first | (with_reducible first | exact HB.out | apply below_alloc | apply pw_below_drewN | apply below_drew1 | refine below_set ?_ GE159.out) | exact HB.out))); (case aF => exact (fun _ _ => trivial)); (case aO => exact ((Kd.S_nil _ _ _ _ _))); (case aS => exact (below_size (by repeat (first | (with_reducible first | exact HB.out | apply below_alloc | apply pw_below_drewN | apply below_drew1 | refine below_set ?_ GE159.out) | exact HB.out)))); (case aL => have := LMc23.out; omega); intro v168 w26 ho hb hg hat; rw [← Ny167.out] at ho; have n0_ := Aside0.mk (blk_grown (g := gb159) (o := .cells #[s0, s1, .slice none 0 0, .slice none 0 0, .slice none 0 0, .slice none 0 0, .slice none 0 0, .slice none 0 0, .slice none 0 0, .slice none 0 0, .slice none 0 0, .slice none 0 0, .slice none 0 0, .slice none 0 0, .slice none 0 0, .slice none 0 0, .slice none 0 0, .slice none 0 0, .slice none 0 0, .slice none 0 0, .slice none 0 0, .slice none 0 0, .slice none 0 0, .slice none 0 0, .slice none 0 0, .slice none 0 0, .slice none 0 0, .slice none 0 0, .slice none 0 0, .slice none 0 0, .slice none 0 0, .slice none 0 0] 40 (0, 0)) (by (with_reducible repeat (first | refine blk_drewN ?_ _ | refine blk_drew ?_ | refine blk_alloc ?_ _)); exact BK159.out) hg (by simp [Value.ownBlock])); have n1_ := Aside0.mk (hb); have n9_ := Aside0.mk (HK.out.trans (KeepBut.of_grown (row := none) hg gb159) (.inl rfl)); clear HK; have HK := n9_; clear n9_; have n2_ := Aside0.mk (ho); have n5_ := Aside0.mk (Kd.R_grown HO_5.out hg (fun _ _ => by simp [Value.ownBlock])); clear BK159; clear HB; clear HO_5; have BK159 := n0_; have HB := n1_; have HO169 := n2_; have HO_5 := n5_; clear n0_ n1_ n2_ n5_; clear ho hb hg hat; obtain ⟨Ao27, co27, eo27⟩ := Kd.S_slice HO169.out; subst eo27; have hcz28_0 : w26.cell? ⟨gb159, 12, none⟩ = some (.slice none 0 0) := (blk_cell BK159.out 12).trans rfl; have hcz28_1 : w26.cell? ⟨gb159, 13, none⟩ = some (.slice none 0 0) := (blk_cell BK159.out 13).trans rfl; have hfz28_0 := blk_frozen BK159.out 12; have hfz28_1 := blk_frozen BK159.out 13))
          have n0_ : Aside0 (Kd.S (Kd.slice 72 k72) 22 (w26.setCell ⟨gb159, 12, none⟩ (.slice Ao27 y167.length co27)) w.heap.size (fun _ => True) (.slice Ao27 y167.length co27) y167) := ⟨by (with_reducible repeat (first | apply Kd.S_alloc | apply Kd.S_drewN | apply Kd.S_drew)); exact Kd.S_mono (Kd.S_far (p := ⟨gb159, 12, none⟩) (Kd.S_types HO169.out BK159.out (by decide)) (fun _ hk => hk.2) (.slice Ao27 y167.length co27)) (fun _ hk => trivial)⟩
          have n1_ : Aside0 ((w26.setCell ⟨gb159, 12, none⟩ (.slice Ao27 y167.length co27)).heap[gb159]? = some (.cells #[s0, s1, .slice none 0 0, .slice none 0 0, .slice none 0 0, .slice none 0 0, .slice none 0 0, .slice none 0 0, .slice none 0 0, .slice none 0 0, .slice none 0 0, .slice none 0 0, .slice Ao27 y167.length co27, .slice none 0 0, .slice none 0 0, .slice none 0 0, .slice none 0 0, .slice none 0 0, .slice none 0 0, .slice none 0 0, .slice none 0 0, .slice none 0 0, .slice none 0 0, .slice none 0 0, .slice none 0 0, .slice none 0 0, .slice none 0 0, .slice none 0 0, .slice none 0 0, .slice none 0 0, .slice none 0 0, .slice none 0 0] 40 (0, 0))) := ⟨by (with_reducible repeat (first | refine blk_drewN ?_ _ | refine blk_drew ?_ | refine blk_alloc ?_ _)); refine blk_put (cs := #[s0, s1, .slice none 0 0, .slice none 0 0, .slice none 0 0, .slice none 0 0, .slice none 0 0, .slice none 0 0, .slice none 0 0, .slice none 0 0, .slice none 0 0, .slice none 0 0, .slice none 0 0, .slice none 0 0, .slice none 0 0, .slice none 0 0, .slice none 0 0, .slice none 0 0, .slice none 0 0, .slice none 0 0, .slice none 0 0, .slice none 0 0, .slice none 0 0, .slice none 0 0, .slice none 0 0, .slice none 0 0, .slice none 0 0, .slice none 0 0, .slice none 0 0, .slice none 0 0, .slice none 0 0, .slice none 0 0]) ?_ 12 _ rfl; (with_reducible repeat (first | refine blk_drewN ?_ _ | refine blk_drew ?_ | refine blk_alloc ?_ _)); exact BK159.out⟩
          have n2_ : Aside0 (Below w.heap.size w (w26.setCell ⟨gb159, 12, none⟩ (.slice Ao27 y167.length co27))) := ⟨by repeat (first | (with_reducible first | exact HB.out | apply below_alloc | apply pw_below_drewN | apply below_drew1 | refine below_set ?_ GE159.out) | exact HB.out)⟩
          have n9_ : Aside0 (KeepBut W0 (w26.setCell ⟨gb159, 12, none⟩ (.slice Ao27 y167.length co27)) gb159 none) := ⟨HK.out.set_ _ _⟩
          clear HK
          have n5_ : Aside0 (Kd.R k72 72 (w26.setCell ⟨gb159, 12, none⟩ (.slice Ao27 y167.length co27)) w.heap.size (fun _ => True) (.slice Ao16 x5_2.length co16) x5_2) := ⟨Kd.R_mono (Kd.R_far (p := ⟨gb159, 12, none⟩) (Kd.R_types HO_5.out BK159.out (by decide)) (fun _ hk => hk.2) _) (fun _ hk => trivial)⟩
          (try clear HO_5)
          (try clear HO169)
          (try clear BK159)
          (try clear HB)
          generalize (w26.setCell ⟨gb159, 12, none⟩ (.slice Ao27 y167.length co27)) = w29 at n0_ n1_ n2_ n5_ n9_ ⊢
          have HK := n9_
          clear n9_
          have HO_5 := n5_
          clear n5_
          have HO169 := n0_
          have BK159 := n1_
          have HB := n2_
          clear n0_ n1_ n2_
          have n5_ := Aside0.mk (Kd.R_drew HO_5.out)
          clear HO_5
          have HO_5 := n5_
          clear n5_
          have n0_ := Aside0.mk (Kd.S_drew HO169.out)
          have n1_ := Aside0.mk (blk_drew BK159.out)
          have n2_ := Aside0.mk (below_drew1 HB.out)
          clear HO169
          clear BK159
          clear HB
          have HO169 := n0_
          have BK159 := n1_
          have HB := n2_
          clear n0_ n1_ n2_
          refine start_ (n := 12) (S := fun w' => w'.cell? ⟨gb159, 12, none⟩ = some (.slice Ao27 y167.length co27) ∧ w'.cell? ⟨gb159, 13, none⟩ = some (.slice none 0 0)) (ds := [11]) #[false, false, false, false, false, false, false, false, false, false, false, false] (by kernel_rfl) rfl rfl ⟨(blk_cell BK159.out 12).trans rfl, (blk_cell BK159.out 13).trans rfl⟩ (fun hHeld => ?_); refine with_tabW pergolaplain_Given_Headers.tab11 pergolaplain_Given_Headers.bits11 (fun HT_ HW_ => ?_)
          have n9_ : Aside0 (KeepBut W0 w29.drew gb159 none) := ⟨HK.out⟩
          clear HK
          have HK := n9_
          clear n9_
          generalize w29.drew = w30 at HO169 BK159 HB HO_5 HK hHeld ⊢
          refine pure_ (i := 0) (N := some 46) (v := ?_) (a' := ?_) #[true, false, false, false, false, false, false, false, false, false, false, false] rfl rfl (any_of HT_.out (by kernel_rfl)) (fun _ _ _ h => h) (Or.inl ⟨by rfl, ?_⟩) ?_ ?_
          rotate_left
          ·intro w'
           go_simp
           with_reducible rfl
          rotate_left
          ·simp only [Act.put, List.setIfInBounds_toArray, List.set_cons_zero, List.set_cons_succ, i64_w, i32_w]
           rfl
          refine pure_ (i := 1) (N := some 47) (v := ?_) (a' := ?_) #[true, true, false, false, false, false, false, false, false, false, false, false] rfl rfl (any_of HT_.out (by kernel_rfl)) (fun _ _ _ h => h) (Or.inl ⟨by rfl, ?_⟩) ?_ ?_
          rotate_left
          ·intro w'
           go_simp
           with_reducible rfl
          rotate_left
          ·simp only [Act.put, List.setIfInBounds_toArray, List.set_cons_zero, List.set_cons_succ, i64_w, i32_w]
           rfl
          refine pure_ (i := 2) (N := some 48) (v := ?_) (a' := ?_) #[true, true, true, false, false, false, false, false, false, false, false, false] rfl rfl (any_of HT_.out (by kernel_rfl)) (fun _ _ _ h => h) (Or.inl ⟨by rfl, ?_⟩) ?_ ?_
          rotate_left
          ·intro w'
           go_simp
           with_reducible rfl
          rotate_left
          ·simp only [Act.put, List.setIfInBounds_toArray, List.set_cons_zero, List.set_cons_succ, i64_w, i32_w]
           rfl
          refine pure_ (i := 3) (N := some 49) (v := ?_) (a' := ?_) #[true, true, true, true, false, false, false, false, false, false, false, false] rfl rfl (any_of HT_.out (by kernel_rfl)) (fun _ _ _ h => h) (Or.inl ⟨by rfl, ?_⟩) ?_ ?_
          rotate_left
          ·intro w'
           go_simp
           with_reducible rfl
          rotate_left
          ·simp only [Act.put, List.setIfInBounds_toArray, List.set_cons_zero, List.set_cons_succ, i64_w, i32_w]
           rfl
          refine pure_ (i := 5) (N := some 51) (v := ?_) (a' := ?_) #[true, true, true, true, false, true, false, false, false, false, false, false] rfl rfl (any_of HT_.out (by kernel_rfl)) (fun _ _ _ h => h) (Or.inl ⟨by rfl, ?_⟩) ?_ ?_
          rotate_left
          ·intro w'
           go_simp
           with_reducible rfl
          rotate_left
          ·simp only [Act.put, List.setIfInBounds_toArray, List.set_cons_zero, List.set_cons_succ, i64_w, i32_w]
           rfl
          refine take_ (i := 4) (N := some 50) (v := ?_) (a' := ?_) #[true, true, true, true, true, true, false, false, false, false, false, false] rfl rfl (take_ofW HT_.out HW_.out (by kernel_rfl)) (fun _ _ _ h => h) (Or.inl ⟨by rfl, ?_⟩) hHeld ?_ ?_
          rotate_left
          ·rintro w' ⟨s0, s1⟩
           go_simp
           with_reducible rfl
          rotate_left
          ·simp only [Act.put, List.setIfInBounds_toArray, List.set_cons_zero, List.set_cons_succ, i64_w, i32_w]
           rfl
          refine one_ (i := 6) (N := some 52) #[true, true, true, true, true, true, true, false, false, false, false, false] rfl rfl (one_of HT_.out (by kernel_rfl)) (by decide) (fun K hK => ?_)
          refine goes_ Tryz.func37 (by kernel_rfl) rfl #[.slice Ao16 x5_2.length co16] (by rfl) rfl rfl (by (try simp only [List.map_toArray, List.map_cons, List.map_nil]); first | done | rfl | (simp only [List.length_drop, List.length_take]; rfl)) ?_
          with_reducible refine (pergolaplain_CopyHeaders.calls _ _ x5_2 t170 _ ?side1 ?side2 A24.out).mono ?_
          (case side1 => repeat (first | exact (Kd.R_reads' HO_5.out).2.2 | (with_reducible refine Kd.C_alloc ?_ _) | (with_reducible refine Kd.C_drewN ?_ _) | (with_reducible refine Kd.C_drew ?_)))
          (case side2 => exact (Kd.R_reads' HO_5.out).2.1)
          rintro e w31 ⟨v171, rfl, ho0, hb⟩
          refine ⟨_, rfl, ?_⟩
          have n9_ := Aside0.mk (HK.out.trans (KeepBut.of_below hb gb159 none) (.inl rfl))
          clear HK
          have HK := n9_
          clear n9_
          have n5_ := Aside0.mk (Kd.R_below HO_5.out hb)
          clear HO_5
          have HO_5 := n5_
          clear n5_
          have n0_ := Aside0.mk (Kd.S_elder' (by (with_reducible repeat (first | apply Kd.S_alloc | apply Kd.S_drewN | apply Kd.S_drew)); exact HO169.out) (Kd.R_base ho0) hb)
          have n1_ := Aside0.mk (Kd.R_lower ho0 (below_size (by repeat (first | (with_reducible first | exact HB.out | apply below_alloc | apply pw_below_drewN | apply below_drew1 | refine below_set ?_ GE159.out) | exact HB.out))))
          have n2_ := Aside0.mk (blk_below (g := gb159) (o := .cells #[s0, s1, .slice none 0 0, .slice none 0 0, .slice none 0 0, .slice none 0 0, .slice none 0 0, .slice none 0 0, .slice none 0 0, .slice none 0 0, .slice none 0 0, .slice none 0 0, .slice Ao27 y167.length co27, .slice none 0 0, .slice none 0 0, .slice none 0 0, .slice none 0 0, .slice none 0 0, .slice none 0 0, .slice none 0 0, .slice none 0 0, .slice none 0 0, .slice none 0 0, .slice none 0 0, .slice none 0 0, .slice none 0 0, .slice none 0 0, .slice none 0 0, .slice none 0 0, .slice none 0 0, .slice none 0 0, .slice none 0 0] 40 (0, 0)) (by (with_reducible repeat (first | refine blk_drewN ?_ _ | refine blk_drew ?_ | refine blk_alloc ?_ _)); exact BK159.out) hb)
          have n3_ := Aside0.mk (below_step (by repeat (first | (with_reducible first | exact HB.out | apply below_alloc | apply pw_below_drewN | apply below_drew1 | refine below_set ?_ GE159.out) | exact HB.out)) hb)
          clear HO169
          clear BK159
          clear HB
          have HO169 := n0_
          have HO172 := n1_
          have BK159 := n2_
          have HB := n3_
          clear n0_ n1_ n2_ n3_
          (try clear hb)
          (try clear hb2)
          (try clear hk)
          (try clear hi)
          (try clear ho0)
          obtain ⟨Ao33, co33, eo33⟩ := Kd.R_slice HO172.out
          (first | subst eo33 | (injection eo33 with f1_ f2_ f3_; have f4_ := f1_.symm; have f5_ := f3_.symm; clear f1_ f2_ f3_; subst f4_; subst f5_))
          refine hK.out _ _ ⟨(blk_cell BK159.out 12).trans rfl, (blk_cell BK159.out 13).trans rfl⟩ (fun hHeld => ?_)
          clear hK K
          refine norm_ (a' := ?_) ?_ ?_
          rotate_left
          ·show Act.put _ (some 52) _ = _
           simp only [Act.put, List.setIfInBounds_toArray, List.set_cons_zero, List.set_cons_succ, i64_w, i32_w]
           rfl
          refine one_ (i := 7) (N := some 53) #[true, true, true, true, true, true, true, true, false, false, false, false] rfl rfl (one_of HT_.out (by kernel_rfl)) (by decide) (fun K hK => ?_)
          refine value_ (w1 := ?_) (v := ?_) (by rfl) rfl ?_ ?_
          rotate_left 2
          ·go_simp
           constructor
           ·rfl
           ·rfl
          refine hK.out _ _ ⟨(blk_cell (blk_alloc BK159.out _) 12).trans rfl, (blk_cell (blk_alloc BK159.out _) 13).trans rfl⟩ (fun hHeld => ?_)
          clear hK K
          refine norm_ (a' := ?_) ?_ ?_
          rotate_left
          ·show Act.put _ (some 53) _ = _
           simp only [Act.put, List.setIfInBounds_toArray, List.set_cons_zero, List.set_cons_succ, i64_w, i32_w]
           rfl
          refine one_ (i := 8) (N := some 54) #[true, true, true, true, true, true, true, true, true, false, false, false] rfl rfl (one_of HT_.out (by kernel_rfl)) (by decide) (fun K hK => ?_)
          refine Kd.S_append_step (Kd.slice 72 k72) (w0 := w) w.heap.size (by rfl) (.tmp 50) (.tmp 53) 29 22 (.slice none 0 0) 24 rfl Tryz.underlying29 info22 rfl (by decide) (by omega) (.slice none 0 0) ([] : List (List (S72))) t170 [.slice Ao33 t170.length co33] (fun k_ => some k_ ≠ (.slice Ao27 y167.length co27 : Value).ownBlock) (fun k_ => some k_ = (.slice Ao33 t170.length co33 : Value).ownBlock) rfl rfl ?aP (fun k_ hk_ => ((Kd.R_mono (ok' := fun k_ => ((fun k_ => some k_ ≠ (.slice Ao27 y167.length co27 : Value).ownBlock)) k_ ∧ some k_ ≠ (.slice none 0 0 : Value).ownBlock) (Kd.R_apart' (HO172.out) (Kd.S_typed HO169.out) (by decide)) (fun k_ hk => ⟨hk.2, (by simp [Value.ownBlock])⟩))).1 k_ hk_.symm) ?aF ?aO ?aB ?aS ?aL ?_
          (case aP => exact Kd.M_row (Kd.R_mono (Kd.R_tight rfl (Kd.R_mono (ok' := fun k_ => ((fun k_ => some k_ ≠ (.slice Ao27 y167.length co27 : Value).ownBlock)) k_ ∧ some k_ ≠ (.slice none 0 0 : Value).ownBlock) (Kd.R_apart' (HO172.out) (Kd.S_typed HO169.out) (by decide)) (fun k_ hk => ⟨hk.2, (by simp [Value.ownBlock])⟩))) (fun _ h_ => h_)))
          (case aB => exact (by repeat (first | (with_reducible first | exact HB.out | apply below_alloc | apply pw_below_drewN | apply below_drew1 | refine below_set ?_ GE159.out) | exact HB.out)))
          (case aF => exact (fun k_ hk => Kd.fresh' (Kd.S_lt (by (with_reducible repeat (first | apply Kd.S_alloc | apply Kd.S_drewN | apply Kd.S_drew)); exact HO169.out)) k_ hk))
          (case aO => exact ((Kd.S_nil _ _ _ _ _)))
          (case aS => exact (below_size (by repeat (first | (with_reducible first | exact HB.out | apply below_alloc | apply pw_below_drewN | apply below_drew1 | refine below_set ?_ GE159.out) | exact HB.out))))
          (case aL => have := LMc23.out; omega)
          intro v174 w32 ho hb hg hat
          rw [← Ny173.out] at ho
          have n9_ := Aside0.mk ((by first | exact HK.out.trans (KeepBut.of_grown (row := none) hg gb159) (.inl rfl) | exact (keep_alloc HK.out _).trans (KeepBut.of_grown (row := none) hg gb159) (.inl rfl) : KeepBut W0 w32 gb159 none))
          clear HK
          have HK := n9_
          clear n9_
          have n5_ := Aside0.mk (Kd.R_grown HO_5.out hg (fun _ _ => by simp [Value.ownBlock]))
          clear HO_5
          have HO_5 := n5_
          clear n5_
          have n0_ := Aside0.mk (blk_grown (g := gb159) (o := .cells #[s0, s1, .slice none 0 0, .slice none 0 0, .slice none 0 0, .slice none 0 0, .slice none 0 0, .slice none 0 0, .slice none 0 0, .slice none 0 0, .slice none 0 0, .slice none 0 0, .slice Ao27 y167.length co27, .slice none 0 0, .slice none 0 0, .slice none 0 0, .slice none 0 0, .slice none 0 0, .slice none 0 0, .slice none 0 0, .slice none 0 0, .slice none 0 0, .slice none 0 0, .slice none 0 0, .slice none 0 0, .slice none 0 0, .slice none 0 0, .slice none 0 0, .slice none 0 0, .slice none 0 0, .slice none 0 0, .slice none 0 0] 40 (0, 0)) (by (with_reducible repeat (first | refine blk_drewN ?_ _ | refine blk_drew ?_ | refine blk_alloc ?_ _)); exact BK159.out) hg (by simp [Value.ownBlock]))
          have n1_ := Aside0.mk (Kd.S_after (Kd.S_apart_nil (by (with_reducible repeat (first | apply Kd.S_alloc | apply Kd.S_drewN | apply Kd.S_drew)); exact HO169.out)) hg hat)
          have n2_ := Aside0.mk (hb)
          have n3_ := Aside0.mk (ho)
          clear BK159
          clear HO169
          clear HB
          clear HO172
          have BK159 := n0_
          have HO169 := n1_
          have HB := n2_
          have HO175 := n3_
          clear n0_ n1_ n2_ n3_
          clear ho hb hg hat
          obtain ⟨Ao34, co34, eo34⟩ := Kd.S_slice HO175.out
          (first | subst eo34 | (injection eo34 with f1_ f2_ f3_; have f4_ := f1_.symm; have f5_ := f3_.symm; clear f1_ f2_ f3_; subst f4_; subst f5_))
          refine hK.out _ _ ⟨(blk_cell BK159.out 12).trans rfl, (blk_cell BK159.out 13).trans rfl⟩ (fun hHeld => ?_)
          clear hK K
          refine norm_ (a' := ?_) ?_ ?_
          rotate_left
          ·show Act.put _ (some 54) _ = _
           simp only [Act.put, List.setIfInBounds_toArray, List.set_cons_zero, List.set_cons_succ, i64_w, i32_w]
           rfl
          refine pure_ (i := 9) (N := some 55) (v := ?_) (a' := ?_) #[true, true, true, true, true, true, true, true, true, true, false, false] rfl rfl (any_of HT_.out (by kernel_rfl)) (fun _ _ _ h => h) (Or.inl ⟨by rfl, ?_⟩) ?_ ?_
          rotate_left
          ·intro w'
           go_simp
           with_reducible rfl
          rotate_left
          ·simp only [Act.put, List.setIfInBounds_toArray, List.set_cons_zero, List.set_cons_succ, i64_w, i32_w]
           rfl
          refine pure_ (i := 10) (N := some 56) (v := ?_) (a' := ?_) #[true, true, true, true, true, true, true, true, true, true, true, false] rfl rfl (any_of HT_.out (by kernel_rfl)) (fun _ _ _ h => h) (Or.inl ⟨by rfl, ?_⟩) ?_ ?_
          rotate_left
          ·intro w'
           go_simp
           with_reducible rfl
          rotate_left
          ·simp only [Act.put, List.setIfInBounds_toArray, List.set_cons_zero, List.set_cons_succ, i64_w, i32_w]
           rfl
          refine last_ (i := 11) (N := none) #[true, true, true, true, true, true, true, true, true, true, true, true] rfl rfl (one_of HT_.out (by kernel_rfl)) (by decide) (fun K hK => ?_)
          have hs35 : w32.cell? ⟨gb159, 13, none⟩ = some (.slice none 0 0) := (blk_cell BK159.out 13).trans rfl
          have hfs35 := blk_frozen BK159.out 13
          refine skip_ (w1 := ?_) (by rfl) rfl ?_ ?_
          rotate_left
          ·go_simp
           rfl
          refine hK.out _ _ ?_
          clear hK K
          refine done_ (done_of HT_.out (by kernel_rfl)) ?_
          generalize hw33 : (w32.setCell ⟨gb159, 13, none⟩ (.slice Ao34 y173.length co34)) = w33
          have hB33 : Below w.heap.size w w33 := by
           rw [← hw33]
           exact below_set HB.out GE159.out
          have hS1 : Kd.R (Kd.slice 72 k72) 22 w33 w.heap.size (fun _ => True) (.slice Ao27 y167.length co27) y167 := by
           rw [← hw33]
           exact Kd.R_mono (Kd.S_R (Kd.S_far (p := ⟨gb159, 13, none⟩) (Kd.S_types HO169.out BK159.out (by decide)) (fun _ hk => hk.2) _)) (fun _ _ => trivial)
          have hS2 : Kd.R (Kd.slice 72 k72) 22 w33 w.heap.size (fun _ => True) (.slice Ao34 y173.length co34) y173 := by
           rw [← hw33]
           exact Kd.R_mono (Kd.S_R (Kd.S_far (p := ⟨gb159, 13, none⟩) (Kd.S_types HO175.out BK159.out (by decide)) (fun _ hk => hk.2) _)) (fun _ _ => trivial)
          have hK9 : KeepBut W0 w33 gb159 none := by
           rw [← hw33]
           exact HK.out.set_ _ _
          have hK33 : w33.heap[gb159]? = some (.cells #[s0, s1, .slice none 0 0, .slice none 0 0, .slice none 0 0, .slice none 0 0, .slice none 0 0, .slice none 0 0, .slice none 0 0, .slice none 0 0, .slice none 0 0, .slice none 0 0, .slice Ao27 y167.length co27, .slice Ao34 y173.length co34, .slice none 0 0, .slice none 0 0, .slice none 0 0, .slice none 0 0, .slice none 0 0, .slice none 0 0, .slice none 0 0, .slice none 0 0, .slice none 0 0, .slice none 0 0, .slice none 0 0, .slice none 0 0, .slice none 0 0, .slice none 0 0, .slice none 0 0, .slice none 0 0, .slice none 0 0, .slice none 0 0] 40 (0, 0)) := by
           rw [← hw33]
           exact blk_put BK159.out 13 _ rfl
          have hR33 : Kd.R k72 72 w33 w.heap.size (fun _ => True) (.slice Ao16 x5_2.length co16) x5_2 := by
           rw [← hw33]
           exact Kd.R_mono (Kd.R_far (p := ⟨gb159, 13, none⟩) (Kd.R_types HO_5.out BK159.out (by decide)) (fun _ hk => hk.2) _) (fun _ hk => trivial)
          have hG33 : ∃ B1 B2 d1 d2, w33.heap[gb159]? = some (.cells #[s0, s1, .slice none 0 0, .slice none 0 0, .slice none 0 0, .slice none 0 0, .slice none 0 0, .slice none 0 0, .slice none 0 0, .slice none 0 0, .slice none 0 0, .slice none 0 0, .slice B1 1 d1, .slice B2 1 d2, .slice none 0 0, .slice none 0 0, .slice none 0 0, .slice none 0 0, .slice none 0 0, .slice none 0 0, .slice none 0 0, .slice none 0 0, .slice none 0 0, .slice none 0 0, .slice none 0 0, .slice none 0 0, .slice none 0 0, .slice none 0 0, .slice none 0 0, .slice none 0 0, .slice none 0 0, .slice none 0 0] 40 (0, 0)) ∧ Kd.R (Kd.slice 72 k72) 22 w33 w.heap.size (fun _ => True) (.slice B1 1 d1) [x5_2] ∧ Kd.R (Kd.slice 72 k72) 22 w33 w.heap.size (fun _ => True) (.slice B2 1 d2) [x5_2] := by
           have e1 : y167 = [x5_2] := Ny167.out
           have e2 : y173 = [x5_2] := by rw [Ny173.out, HT170.out]; rfl
           rw [e1] at hS1 hK33
           rw [e2] at hS2 hK33
           exact ⟨Ao27, Ao34, co27, co34, hK33, hS1, hS2⟩
          have hq := HQ23.out
          have hcap := (Kd.R_reads' hR33).2.1
          have hT := Kd.R_take (m := l1.length) hR33 (by omega)
          have hV : Kd.V k72 72 w33 w.heap.size (fun k_ => W0.heap.size ≤ k_) (.slice Ao16 l1.length co16) (x5_2.take l1.length) :=
           Kd.V_mono (Kd.R_V (Kd.R_tight rfl hT)) (fun k_ hk => HT0.out k_ (by have h_ := hk.symm; first | exact h_ | (cases Ao16 <;> exact h_)))
          obtain ⟨i024, hi024, _, hsz24, _⟩ := info_parts info72
          have hcut24 := cut_to (P := Tryz.prog) 22 72 .i64 Tryz.underlying22 hi024 Ao16 x5_2.length co16 (l1.length : Int) (by omega) hq hcap
          rw [Int.toNat_natCast] at hcut24
          have HV := Aside0.mk hV
          have HG := Aside0.mk hG33
          have HB3 := Aside0.mk hB33
          have HK3 := Aside0.mk hK9
          clear hV hG33 hB33 hK9 HK HT0 hT hq hcap hR33 hK33 hS1 hS2 hi024 hsz24 hw33 HO_5 HO169 HO175 HB BK159
          go_wp2
          go_ret
          exact ⟨_, by first | rfl | (simp; done) | (simp [*]; done), HV.out, HG.out, HK3.out, HB3.out⟩
         ·rw [if_neg c23] at H
          exact absurd H (by simp)
  ·rw [if_neg c5] at H
   exact absurd H (by simp)
 ·rw [if_neg c4] at H
  exact absurd H (by simp)
theorem pergolaplain_Given_Headers.ev1 (l : List (S72)) (hl : l.length ≤ 4398046511000) : ∀ (m j : Nat) (x5 : List (S72)), j + m = l.length → x5.length = l.length + 3 → (∀ i, i < j → x5[i]? = l[i]?) →
  ∃ own, (∀ k, m + 1 ≤ k → pergolaplain_Given_Headers.l1 k l x5 j = some own) ∧ own.take l.length = l ∧ own.length = l.length + 3 := by
 intro m
 induction m with
 | zero =>
  intro j x5 hj h5 hp
  refine ⟨x5, fun k hk => ?_, ?_, h5⟩
  ·obtain ⟨k, rfl⟩ : ∃ k', k = k' + 1 := ⟨k - 1, by omega⟩
   rw [pergolaplain_Given_Headers.l1, if_neg (by omega), if_pos (by omega)]
   unfold pergolaplain_CopyHeaders.f
   rw [if_pos (by simp; omega)]
   simp
  ·apply List.ext_getElem?
   intro i
   rw [List.getElem?_take]
   by_cases hi : i < l.length
   ·rw [if_pos hi]
    exact hp i (by omega)
   ·rw [if_neg hi, List.getElem?_eq_none (by omega)]
 | succ m ih =>
  intro j x5 hj h5 hp
  obtain ⟨own, h1, h2, h3⟩ := ih (j + 1) (x5.set j ⟨(rd_T72 l j).f0, (rd_T72 l j).f1⟩) (by omega) (by rw [List.length_set]; exact h5) (fun i hi => by
   by_cases hij : j = i
   ·subst hij
    rw [List.getElem?_set_self (by omega)]
    unfold rd_T72
    rw [Int.toNat_natCast, List.getD_eq_getElem?_getD, List.getElem?_eq_getElem (by omega)]
    rfl
   ·rw [List.getElem?_set_ne hij]
    exact hp i (by omega))
  refine ⟨own, fun k hk => ?_, h2, h3⟩
  obtain ⟨k, rfl⟩ : ∃ k', k = k' + 1 := ⟨k - 1, by omega⟩
  rw [pergolaplain_Given_Headers.l1, if_pos (by omega), if_pos (by omega), if_pos (by omega), Int.toNat_natCast, show wrap64 ((j : Int) + 1) = ((j + 1 : Nat) : Int) by unfold wrap64; omega]
  exact h1 k (by omega)
theorem pergolaplain_Given_Headers.ev0 (l : List (S72)) (hl : l.length ≤ 4398046511000) : ∀ (m j : Nat) (x5 : List (S72)), j + m = l.length + 3 → x5.length = l.length + 3 →
  ∃ own, (∀ k, m + l.length + 2 ≤ k → pergolaplain_Given_Headers.l0 k l x5 j = some own) ∧ own.take l.length = l ∧ own.length = l.length + 3 := by
 intro m
 induction m with
 | zero =>
  intro j x5 hj h5
  obtain ⟨own, h1, h2, h3⟩ := pergolaplain_Given_Headers.ev1 l hl l.length 0 x5 (by omega) h5 (fun i hi => by omega)
  refine ⟨own, fun k hk => ?_, h2, h3⟩
  obtain ⟨k, rfl⟩ : ∃ k', k = k' + 1 := ⟨k - 1, by omega⟩
  rw [pergolaplain_Given_Headers.l0, if_neg (by omega)]
  exact h1 k (by omega)
 | succ m ih =>
  intro j x5 hj h5
  obtain ⟨t, ht⟩ : ∃ t, pergolaplain_markHeaders.f 987 (j : Int) = some t := ⟨_, rfl⟩
  obtain ⟨own, h1, h2, h3⟩ := ih (j + 1) (x5.set j ⟨t.1, t.2⟩) (by omega) (by rw [List.length_set]; exact h5)
  refine ⟨own, fun k hk => ?_, h2, h3⟩
  obtain ⟨k, rfl⟩ : ∃ k', k = k' + 1 := ⟨k - 1, by omega⟩
  rw [pergolaplain_Given_Headers.l0, if_pos (by omega), ht, Option.bind_some, if_pos (by omega), Int.toNat_natCast, show wrap64 ((j : Int) + 1) = ((j + 1 : Nat) : Int) by unfold wrap64; omega]
  exact h1 k (by omega)
theorem pergolaplain_Given_Headers.ev (l : List (S72)) (hl : l.length ≤ 4398046511000) : ∃ k own, pergolaplain_Given_Headers.f k l = some own ∧ own.take l.length = l ∧ own.length = l.length + 3 := by
 obtain ⟨own, h1, h2, h3⟩ := pergolaplain_Given_Headers.ev0 l hl (l.length + 3) 0 (List.replicate (l.length + 3) z72) (by omega) (by simp)
 refine ⟨l.length + 3 + l.length + 2, own, ?_, h2, h3⟩
 unfold pergolaplain_Given_Headers.f
 rw [show wrap64 ((l.length : Int) + 3) = ((l.length + 3 : Nat) : Int) by unfold wrap64; omega, if_pos (by omega), if_pos (by omega), Int.toNat_natCast]
 exact h1 _ (by omega)
theorem pergolaplain_Given_Headers.calls (A1 : Option Addr) (c1 : Nat) (l1 : List (S72)) (w : World) (hr1 : Kd.C k72 w A1 l1.length l1) (hc1 : l1.length ≤ c1) (hl : l1.length ≤ 4398046511000) :
  Calls Tryz.prog 6 #[.pointer (some ⟨w.heap.size, 0, none⟩), .slice A1 l1.length c1] (w.alloc (.cells #[.slice none 0 0, .slice none 0 0, .slice none 0 0, .slice none 0 0, .slice none 0 0, .slice none 0 0, .slice none 0 0, .slice none 0 0, .slice none 0 0, .slice none 0 0, .slice none 0 0, .slice none 0 0, .slice none 0 0, .slice none 0 0, .slice none 0 0, .slice none 0 0, .slice none 0 0, .slice none 0 0, .slice none 0 0, .slice none 0 0, .slice none 0 0, .slice none 0 0, .slice none 0 0, .slice none 0 0, .slice none 0 0, .slice none 0 0, .slice none 0 0, .slice none 0 0, .slice none 0 0, .slice none 0 0, .slice none 0 0, .slice none 0 0] 40 (0, 0))) fun e w' => ∃ (v0_ : Value), e = .returned v0_ ∧ Kd.V k72 72 w' w.heap.size (fun k_ => w.heap.size ≤ k_) v0_ l1 ∧ GivK k72 72 true w' w.heap.size ∧ Below w.heap.size w w' := by
 obtain ⟨k, own, h1, h2, h3⟩ := pergolaplain_Given_Headers.ev l1 hl
 refine (pergolaplain_Given_Headers.walk k A1 c1 l1 own w _ _ _ _ (Nat.le_refl _) (below_alloc (Below.refl _ _) _) (blk_new w _) (Kd.C_alloc hr1 _) hc1 h1 (by omega)).mono ?_
 rintro e w' ⟨v, rfl, hv, ⟨B1, B2, d1, d2, hg, hr1, hr2⟩, _, hb⟩
 rw [h2] at hv
 refine ⟨v, rfl, Kd.V_mono hv (fun k_ hk => Nat.le_trans (below_size (below_alloc (Below.refl _ _) _)) hk), ⟨none, none, 0, 0, [], B1, B2, d1, d2, [own], 0, 0, _, _, fun _ => True, fun _ => True, _, _, hg, Kd.R_nil _ _ _ _ _, Kd.R_nil _ _ _ _ _, hr1, hr2, by simp, by simp, ?_, by simp, by simp⟩, hb⟩
 intro xs hxs
 rw [List.mem_singleton.1 hxs]
 omega
theorem pergolaplain_Given_Headers.calls2 (g : Nat) (A1 : Option Addr) (c1 : Nat) (l1 : List (S72)) (w W0 : World) (hgb : w.heap.size ≤ g) (hb0 : Below w.heap.size w W0) (hG : GivK k72 72 false W0 g) (hr1 : Kd.C k72 W0 A1 l1.length l1) (hc1 : l1.length ≤ c1) (hl : l1.length ≤ 4398046511000) :
  Calls Tryz.prog 6 #[.pointer (some ⟨g, 0, none⟩), .slice A1 l1.length c1] W0 fun e w' => ∃ (v0_ : Value), e = .returned v0_ ∧ Kd.V k72 72 w' W0.heap.size (fun k_ => W0.heap.size ≤ k_) v0_ l1 ∧ GivK k72 72 true w' g ∧ KeepBut W0 w' g none ∧ Below w.heap.size w w' := by
 obtain ⟨k, own, h1, h2, h3⟩ := pergolaplain_Given_Headers.ev l1 hl
 have hG' := hG
 obtain ⟨A1', A2, e1, e2, xss, B1, B2, d1, d2, hss, b1, b2, b3, b4, o1, o2, o3, o4, h0, hx1, hx2, _, _, hl1, hl2, _, _, hz⟩ := hG
 obtain ⟨rfl, rfl, rfl, rfl, rfl⟩ := hz rfl
 refine (pergolaplain_Given_Headers.walk k A1 c1 l1 own w W0 g _ _ hgb hb0 h0 hr1 hc1 h1 (by omega)).mono ?_
 rintro e w' ⟨v, rfl, hv, ⟨D1, D2, f1, f2, hg, hr1, hr2⟩, hk, hb⟩
 rw [h2] at hv
 refine ⟨v, rfl, hv, ⟨A1', A2, e1, e2, xss, D1, D2, f1, f2, [own], b1, b2, _, _, o1, o2, _, _, hg, hG'.row hk hx1 (by decide), hG'.row hk hx2 (by decide), hr1, hr2, hl1, hl2, ?_, by simp, by simp⟩, hk, hb⟩
 intro xs hxs
 rw [List.mem_singleton.1 hxs]
 omega

/-! ### pergolaplain_SameHeaders: function 11 -/
def pergolaplain_SameHeaders.l0 : Nat → List (S72) → List (S72) → Int → Option (Bool)
 | 0, _, _, _ => none
 | k + 1, x0, x1, x5 => if x5 < (x0.length : Int) then (if 0 ≤ x5 then (if x5 < (x1.length : Int) then (if (!((((rd_T72 x0 x5).f0).toList) == (((rd_T72 x1 x5).f0).toList)) || (!((((rd_T72 x0 x5).f1).toList) == (((rd_T72 x1 x5).f1).toList)))) = true then (some false) else (pergolaplain_SameHeaders.l0 k x0 x1 (wrap64 (x5 + 1)))) else (none)) else (none)) else (some true)
def pergolaplain_SameHeaders.f (k : Nat) (l0 : List (S72)) (l1 : List (S72)) : Option (Bool) := if (l0.length : Int) = (l1.length : Int) then (pergolaplain_SameHeaders.l0 k l0 l1 0) else (some false)
theorem pergolaplain_SameHeaders.mono_l : ∀ k, (∀ y0 y1 y2, LeO (pergolaplain_SameHeaders.l0 k y0 y1 y2) (pergolaplain_SameHeaders.l0 (k + 1) y0 y1 y2))
 | 0 => fun _ _ _ r h => by simp [pergolaplain_SameHeaders.l0] at h
 | k + 1 => by
  have ih0 := pergolaplain_SameHeaders.mono_l k
  ·intro y0 y1 y2
   unfold pergolaplain_SameHeaders.l0
   repeat' first
   | (with_reducible exact ih0 _ _ _)
   | (with_reducible exact LeO.refl _)
   | (with_reducible exact LeO.none _)
   | (with_reducible refine LeO.ite ?_ ?_)
   | (with_reducible refine LeO.bind ?_ (fun _ => ?_))
   | exact ih0 _ _ _
   | exact LeO.none _
   | refine LeO.ite ?_ ?_
   | refine LeO.bind ?_ (fun _ => ?_)
theorem pergolaplain_SameHeaders.mono : ∀ a0 a1 k, LeO (pergolaplain_SameHeaders.f k a0 a1) (pergolaplain_SameHeaders.f (k + 1) a0 a1) := by
 intro a0 a1 k
 have ih0 := pergolaplain_SameHeaders.mono_l k
 unfold pergolaplain_SameHeaders.f
 repeat' first
   | (with_reducible exact ih0 _ _ _)
   | (with_reducible exact LeO.refl _)
   | (with_reducible exact LeO.none _)
   | (with_reducible refine LeO.ite ?_ ?_)
   | (with_reducible refine LeO.bind ?_ (fun _ => ?_))
   | exact ih0 _ _ _
   | exact LeO.none _
   | refine LeO.ite ?_ ?_
   | refine LeO.bind ?_ (fun _ => ?_)
set_option maxHeartbeats 8000000 in
set_option maxRecDepth 100000 in
theorem pergolaplain_SameHeaders.calls (k : Nat) (A0 : Option Addr) (c0 : Nat) (l0 : List (S72)) (A1 : Option Addr) (c1 : Nat) (l1 : List (S72)) (r : Bool) (w : World) (hr0 : Kd.C k72 w A0 l0.length l0) (hc0 : l0.length ≤ c0) (hr1 : Kd.C k72 w A1 l1.length l1) (hc1 : l1.length ≤ c1) (h : pergolaplain_SameHeaders.f k l0 l1 = some r) :
  Calls Tryz.prog 11 #[.slice A0 l0.length c0, .slice A1 l1.length c1] w fun e w' => e = .returned (.bool r) ∧ Drawn0 w w' := by
 have hu72 := Tryz.underlying72
 have HR0 := Aside0.mk hr0
 have HC0 := Aside0.mk hc0
 clear hr0 hc0
 have HR1 := Aside0.mk hr1
 have HC1 := Aside0.mk hc1
 clear hr1 hc1
 have H : (if (l0.length : Int) = (l1.length : Int) then (pergolaplain_SameHeaders.l0 k l0 l1 0) else (some false)) = some r := h
 clear h
 by_cases c3 : (l0.length : Int) = (l1.length : Int)
 ·rw [if_pos c3] at H
  have c3b0 : ((l0.length : Int) == (l1.length : Int)) = true := beq_iff_eq.mpr c3
  have c3b1 : ((l0.length : Int) != (l1.length : Int)) = false := bne_eq_false_iff_eq.mpr c3
  have c3b2 : (l0.length == l1.length) = true := by first | simpa using c3 | (simp at c3 ⊢; omega)
  clear c3
  have H' := Aside0.mk H
  clear H
  go_enter Tryz.func11, Tryz.ntmps11
  go_wp2
  repeat (go_quiet (fail); try go_wp2)
  go_loopg [5] k (fun kq v5 w' => ∃ (x5_1 : Int), v5 = .int .i64 x5_1 ∧ Aside0 (pergolaplain_SameHeaders.l0 kq l0 l1 x5_1 = some r) ∧ Aside0 (kq ≤ k) ∧ Drawn0 w w')
  case atStart => exact ⟨(0), (by first | rfl | (simp; done) | (simp [*]; done)), H', ⟨Nat.le_refl _⟩, by repeat (first | exact Drawn0.refl _ | apply Drawn0.step)⟩
  case round =>
   clear H'
   try clear c1
   try clear p2
   try clear c3
   try clear c3b0
   try clear c3b1
   try clear c3b2
   obtain ⟨x5_1, rfl, HA, HK1, ⟨m1, rfl⟩⟩ := hrel
   cases gk with
   | zero => exact absurd HA.out (by simp [pergolaplain_SameHeaders.l0])
   | succ k1 =>
    have H := HA.out
    clear HA
    simp only [pergolaplain_SameHeaders.l0] at H
    by_cases c4 : x5_1 < (l0.length : Int)
    ·rw [if_pos c4] at H
     have c4b0 : decide (x5_1 < (l0.length : Int)) = true := decide_eq_true c4
     clear c4
     by_cases c5 : 0 ≤ x5_1
     ·rw [if_pos c5] at H
      have c5b0 : decide (0 ≤ x5_1) = true := decide_eq_true c5
      clear c5
      by_cases c6 : x5_1 < (l1.length : Int)
      ·rw [if_pos c6] at H
       have c6b0 : decide (x5_1 < (l1.length : Int)) = true := decide_eq_true c6
       clear c6
       by_cases c7 : (!((((rd_T72 l0 x5_1).f0).toList) == (((rd_T72 l1 x5_1).f0).toList)) || (!((((rd_T72 l0 x5_1).f1).toList) == (((rd_T72 l1 x5_1).f1).toList)))) = true
       ·rw [if_pos c7] at H
        have c7b0 : (!((((rd_T72 l0 x5_1).f0).toList) == (((rd_T72 l1 x5_1).f0).toList)) || (!((((rd_T72 l0 x5_1).f1).toList) == (((rd_T72 l1 x5_1).f1).toList)))) = true := c7
        clear c7
        obtain rfl := Option.some.inj H
        have p108 : 0 ≤ (x5_1 : Int) := of_decide_eq_true (by first | (with_reducible assumption) | assumption)
        have q108 : x5_1 < (l0.length : Int) := of_decide_eq_true (by first | (with_reducible assumption) | assumption)
        obtain ⟨ad108, e108, hx108_0, hx108_1⟩ := at_T72 HR0.out x5_1 p108 q108
        cases e108
        replace p108 := eq_true p108
        replace q108 := eq_true q108
        have p109 : 0 ≤ (x5_1 : Int) := of_decide_eq_true (by first | (with_reducible assumption) | assumption)
        have q109 : x5_1 < (l1.length : Int) := of_decide_eq_true (by first | (with_reducible assumption) | assumption)
        obtain ⟨ad109, e109, hx109_0, hx109_1⟩ := at_T72 HR1.out x5_1 p109 q109
        cases e109
        replace p109 := eq_true p109
        replace q109 := eq_true q109
        go_wp2
        repeat (go_quiet (fail); try go_wp2)
        go_ret
        exact ⟨by first | rfl | (simp; done) | (simp [*]; done), by repeat (first | exact Drawn0.refl _ | apply Drawn0.step)⟩
       ·rw [if_neg c7] at H
        have c7b0 : (!((((rd_T72 l0 x5_1).f0).toList) == (((rd_T72 l1 x5_1).f0).toList)) || (!((((rd_T72 l0 x5_1).f1).toList) == (((rd_T72 l1 x5_1).f1).toList)))) = false := by simpa using c7
        clear c7
        have H' := Aside0.mk H
        clear H
        have p108 : 0 ≤ (x5_1 : Int) := of_decide_eq_true (by first | (with_reducible assumption) | assumption)
        have q108 : x5_1 < (l0.length : Int) := of_decide_eq_true (by first | (with_reducible assumption) | assumption)
        obtain ⟨ad108, e108, hx108_0, hx108_1⟩ := at_T72 HR0.out x5_1 p108 q108
        cases e108
        replace p108 := eq_true p108
        replace q108 := eq_true q108
        have p109 : 0 ≤ (x5_1 : Int) := of_decide_eq_true (by first | (with_reducible assumption) | assumption)
        have q109 : x5_1 < (l1.length : Int) := of_decide_eq_true (by first | (with_reducible assumption) | assumption)
        obtain ⟨ad109, e109, hx109_0, hx109_1⟩ := at_T72 HR1.out x5_1 p109 q109
        cases e109
        replace p109 := eq_true p109
        replace q109 := eq_true q109
        go_wp2
        repeat (go_quiet (fail); try go_wp2)
        go_roundg k1
        case measure => have := HK1.out; omega
        case rel => exact ⟨(wrap64 (x5_1 + 1)), (by first | rfl | (simp; done) | (simp [*]; done)), H', ⟨by have := HK1.out; omega⟩, by repeat (first | exact Drawn0.refl _ | apply Drawn0.step)⟩
      ·rw [if_neg c6] at H
       exact absurd H (by simp)
     ·rw [if_neg c5] at H
      exact absurd H (by simp)
    ·rw [if_neg c4] at H
     have c4b0 : decide (x5_1 < (l0.length : Int)) = false := decide_eq_false c4
     clear c4
     obtain rfl := Option.some.inj H
     go_wp2
     repeat (go_quiet (fail); try go_wp2)
     go_ret
     exact ⟨by first | rfl | (simp; done) | (simp [*]; done), by repeat (first | exact Drawn0.refl _ | apply Drawn0.step)⟩
 ·rw [if_neg c3] at H
  have c3b0 : ((l0.length : Int) == (l1.length : Int)) = false := beq_eq_false_iff_ne.mpr c3
  have c3b1 : ((l0.length : Int) != (l1.length : Int)) = true := bne_iff_ne.mpr c3
  have c3b2 : (l0.length == l1.length) = false := by first | simpa using c3 | (simp at c3 ⊢; omega)
  obtain rfl := Option.some.inj H
  go_enter Tryz.func11, Tryz.ntmps11
  go_wp2
  repeat (go_quiet (fail); try go_wp2)
  go_ret
  exact ⟨by first | rfl | (simp; done) | (simp [*]; done), by repeat (first | exact Drawn0.refl _ | apply Drawn0.step)⟩

/-! ### pergolalaw11_num: function 12 -/
def pergolalaw11_num.f (a0 : Int) : Option (Int) := some a0
set_option maxHeartbeats 8000000 in
set_option maxRecDepth 100000 in
theorem pergolalaw11_num.calls (a0 : Int) (r : Int) (w : World) (h : pergolalaw11_num.f a0 = some r) :
  Calls Tryz.prog 12 #[.int .i64 a0] w fun e w' => e = .returned (.int .i64 r) ∧ Drawn0 w w' := by
 have H : (some a0) = some r := h
 clear h
 obtain rfl := Option.some.inj H
 go_enter Tryz.func12, Tryz.ntmps12
 go_wp2
 go_ret
 exact ⟨by first | rfl | (simp; done) | (simp [*]; done), by repeat (first | exact Drawn0.refl _ | apply Drawn0.step)⟩

end Go.Proofs.YtjadlnmphcoioaaGreatDoor.X
