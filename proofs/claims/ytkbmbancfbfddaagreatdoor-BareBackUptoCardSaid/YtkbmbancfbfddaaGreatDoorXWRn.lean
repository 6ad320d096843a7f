/- Layer 9's reader: its date, by hand. -/
import Derived.Test.YtkbmbancfbfddaaGreatDoorXWRt
namespace Go.Proofs.YtkbmbancfbfddaaGreatDoorW.PrintWords
open Go.RowKit

def pw (k : Int) : Int := 10 ^ k.toNat
theorem pw_step {k : Int} (h : 0 ≤ k) : pw (k + 1) = 10 * pw k := by
 unfold pw
 rw [show (k + 1).toNat = k.toNat + 1 by omega, Int.pow_succ, Int.mul_comm]
theorem pw_le {k : Int} (h : k ≤ 15) : pw k ≤ 1000000000000000 := by
 unfold pw
 have h2 : k.toNat ≤ 15 := by omega
 generalize k.toNat = n at h2
 have : ∀ n, n ≤ 15 → (10 : Int) ^ n ≤ 1000000000000000 := by decide
 exact this n h2
theorem dig_iff {c : Int} : dig c = true ↔ 48 ≤ c ∧ c ≤ 57 := by unfold dig; simp

def rdDig (s : ByteArray) (from_ : Int) : Nat → Int → Int → Int × Int
 | 0, a, n => (a, n)
 | k + 1, a, n => if a < (s.size : Int) ∧ dig (bt s a) = true ∧ a < from_ + 15 then rdDig s from_ k (a + 1) (10 * n + (bt s a - 48)) else (a, n)
def digE (s : ByteArray) (from_ a n : Int) : Int × Int := rdDig s from_ ((s.size : Int) - a).toNat a n
theorem digE_step {s : ByteArray} {f a n : Int} (h : a < (s.size : Int)) (hd : dig (bt s a) = true) (hf : a < f + 15) : digE s f a n = digE s f (a + 1) (10 * n + (bt s a - 48)) := by
 unfold digE
 rw [show ((s.size : Int) - a).toNat = ((s.size : Int) - (a + 1)).toNat + 1 by omega]
 exact if_pos ⟨h, hd, hf⟩
theorem digE_stop {s : ByteArray} {f a n : Int} (h : ¬ (a < (s.size : Int) ∧ dig (bt s a) = true ∧ a < f + 15)) : digE s f a n = (a, n) := by
 unfold digE
 cases ((s.size : Int) - a).toNat with
 | zero => rfl
 | succ k => exact if_neg h
def rdDateF (s : ByteArray) (sg f : Int) (p : Int × Int) : RR :=
 if p.1 = f ∨ (p.1 < (s.size : Int) ∧ (dig (bt s p.1) = true ∨ bt s p.1 = 46)) then .inl (p.1, 96) else .inr ((7, sg * p.2, ⟨#[]⟩), p.1)
def rdDate (s : ByteArray) (at_ : Int) : RR :=
 if at_ + 1 < (s.size : Int) ∧ bt s (at_ + 1) = 45 then rdDateF s (-1) (at_ + 1 + 1) (digE s (at_ + 1 + 1) (at_ + 1 + 1) 0) else rdDateF s 1 (at_ + 1) (digE s (at_ + 1) (at_ + 1) 0)

set_option maxHeartbeats 4000000 in
set_option maxRecDepth 100000 in
theorem date_calls (g : Nat) (s : ByteArray) (at_ : Int) (w : World) (hr : RdAt w g s at_) (h0 : 0 ≤ at_) (h1 : at_ < (s.size : Int)) (hs : s.size ≤ 9223372036854775000) :
  Calls Tryz.prog 42 #[.pointer (some ⟨g, 0, none⟩)] w fun x w' => Gives x w w' g s (rdDate s at_) := by
 unfold rdDate
 by_cases hn : at_ + 1 < (s.size : Int)
 ·have HQ := Aside0.mk (fun w1 (hr1 : RdAt w1 g s (at_ + 1)) => end_quiet hr1 hn)
  have hb := bt_at s (at_ + 1) (by omega)
  have hi : 0 ≤ at_ + 1 ∧ at_ + 1 < (s.size : Int) := ⟨by omega, hn⟩
  by_cases hm : bt s (at_ + 1) = 45
  ·rw [if_pos ⟨hn, hm⟩]
   obtain ⟨R, hE⟩ : ∃ R, rdDateF s (-1) (at_ + 1 + 1) (digE s (at_ + 1 + 1) (at_ + 1 + 1) 0) = R := ⟨_, rfl⟩
   rw [hE]
   have hmb : (bt s (at_ + 1) == 45) = true := by simp [hm]
   clear hm
   go_enter Tryz.func42, Tryz.ntmps42
   go_wp2_with (first
    | ((with_reducible refine gate_dst (N := 2) rfl ?_); refine box_event ?hg (N := 2) ?hd (cs := #[.int .i64 0, .int .i64 0, .string ⟨#[]⟩]) (t := 24) ?hr ?_; (case hd => rfl); (case hg => rfl); (case hr => first | (go_simp; done) | (go_simp; rfl)); intro gb hg w1 hbox hb; have W0 := Aside0.mk (((Went.refl w g).more hb).set 1 (.int .i64 (at_ + 1))); have hr1 := hr.more hb; have hc1 := hr1.c1; have hf1 := hr1.f1; have HR2 := Aside0.mk (hr1.set (at_ + 1)); have HG := Aside0.mk (show gb ≠ g from fun e => by have := blk_lt hr; omega); have HGE := Aside0.mk (show w.heap.size ≤ gb by omega); have HX := Aside0.mk (blk_far (p := ⟨g, 1, none⟩) hbox HG.out (.int .i64 (at_ + 1))); clear hb hbox hg hr1))
   generalize w1.setCell ⟨g, 1, none⟩ (.int .i64 (at_ + 1)) = w2 at *
   clear hc1 hf1
   have q0 := HR2.out.c0
   have q1 := HR2.out.c1
   have f1 := HR2.out.f1
   have HQ2 := Aside0.mk (HQ.out w2 HR2.out)
   go_quiet (first | (go_at_call 71; exact HQ2.out _))
   go_wp2
   have HRs := Aside0.mk ((HR2.out.more (pw_below_drewN (Below.refl _ _) nq)).set (at_ + 1 + 1))
   have Ws := Aside0.mk ((W0.out.drewN nq).set 1 (.int .i64 (at_ + 1 + 1)))
   have HXs : Aside0 (((w2.drewN nq).setCell ⟨g, 1, none⟩ (.int .i64 (at_ + 1 + 1))).heap[gb]? = some (.cells #[.int .i64 0, .int .i64 0, .string ⟨#[]⟩] 24 (0, 0))) := ⟨blk_far (p := ⟨g, 1, none⟩) HX.out HG.out _⟩
   clear q0 q1 f1 HQ HQ2 HR2 W0 HX
   generalize (w2.drewN nq).setCell ⟨g, 1, none⟩ (.int .i64 (at_ + 1 + 1)) = w3 at *
   clear hi hb hmb
   have hw15 : ((at_ + 1 + 1 + 15 + 9223372036854775808) % 18446744073709551616 - 9223372036854775808) = at_ + 1 + 1 + 15 := by omega
   go_loopw [5] (fun v5 wr => ∃ a n : Int, v5 = .int .i64 n ∧ RdAt wr g s a ∧ Aside0 (Went w wr g) ∧ Aside0 (wr.heap[gb]? = some (.cells #[.int .i64 0, .int .i64 0, .string ⟨#[]⟩] 24 (0, 0))) ∧ at_ + 1 + 1 ≤ a ∧ a ≤ (s.size : Int) ∧ a ≤ at_ + 1 + 1 + 15 ∧ 0 ≤ n ∧ Aside0 (n < pw (a - (at_ + 1 + 1))) ∧ Aside0 (rdDateF s (-1) (at_ + 1 + 1) (digE s (at_ + 1 + 1) a n) = R)) (fun _ wr => ((s.size : Int) - posOf wr g).toNat)
   case atStart => exact ⟨at_ + 1 + 1, 0, rfl, HRs.out, Ws, HXs, by omega, by omega, by omega, by omega, ⟨by rw [Int.sub_self]; decide⟩, ⟨hE⟩⟩
   case round =>
    obtain ⟨a, n, rfl, hr2, HW, HX2, ha0, ha1, ha2, hn0, HP, HE⟩ := hrel
    have HR := Aside0.mk hr2
    have q0 := hr2.c0
    have q1 := hr2.c1
    have f1 := hr2.f1
    have hp15 := pw_le (k := a - (at_ + 1 + 1)) (by omega)
    have hnp := HP.out
    by_cases hlt : a < (s.size : Int)
    ·have HQ := Aside0.mk (end_quiet hr2 hlt)
     have hi : 0 ≤ a ∧ a < (s.size : Int) := ⟨by omega, hlt⟩
     have hb := bt_at s a (by omega)
     by_cases hd : dig (bt s a) = true
     ·have HD := Aside0.mk (digit_quiet hd wr)
      have hcd := dig_iff.mp hd
      have hw8 : (bt s a - 48) % 256 = bt s a - 48 := by omega
      by_cases hf : a < at_ + 1 + 1 + 15
      ·have hnb : n < 1000000000000000 := by omega
       have HP2 : Aside0 (10 * n + (bt s a - 48) < pw (a + 1 - (at_ + 1 + 1))) := ⟨by rw [show a + 1 - (at_ + 1 + 1) = a - (at_ + 1 + 1) + 1 by omega, pw_step (by omega)]; omega⟩
       have HE2 : Aside0 (rdDateF s (-1) (at_ + 1 + 1) (digE s (at_ + 1 + 1) (a + 1) (10 * n + (bt s a - 48))) = R) := ⟨by rw [← digE_step hlt hd hf]; exact HE.out⟩
       clear hr2 HE hd hp15 hnp HP
       generalize bt s a = c at *
       go_wp2
       go_quiet (first | (go_at_call 71; exact HQ.out _) | (go_at_call 35; exact HD.out _))
       go_wp2
       go_quiet (fail)
       go_wp2
       exact ⟨⟨a + 1, _, rfl, (HR.out.more (pw_below_drewN (Below.refl _ _) _)).set _, ⟨(HW.out.drewN _).set _ _⟩, ⟨blk_far (p := ⟨g, 1, none⟩) HX2.out HG.out _⟩, by omega, by omega, by omega, by omega, HP2, HE2⟩, by rw [HR.out.pos, ((HR.out.more (pw_below_drewN (Below.refl _ _) _)).set (a + 1)).pos]; omega⟩
      ·have hF : ¬ a = at_ + 1 + 1 := by omega
       have heq : (a == at_ + 1 + 1) = false := by simp [hF]
       have hres : R = .inl (a, 96) := by rw [← HE.out, digE_stop fun h => hf h.2.2]; exact if_pos (.inr ⟨hlt, .inl hd⟩)
       subst hres
       have HD' := Aside0.mk (fun w => digit_quiet hd w)
       clear hr2 HE hd hp15 hnp HP
       generalize bt s a = c at *
       go_wp2
       go_quiet (first | (go_at_call 71; exact HQ.out _) | (go_at_call 35; exact HD.out _))
       go_wp2
       have HR4 := Aside0.mk (HR.out.more (pw_below_drewN (Below.refl _ _) nq))
       have W4 := Aside0.mk (HW.out.drewN nq)
       have HX4 : Aside0 ((wr.drewN nq).heap[gb]? = some (.cells #[.int .i64 0, .int .i64 0, .string ⟨#[]⟩] 24 (0, 0))) := ⟨HX2.out⟩
       clear q0 q1 f1 HR HW HX2
       generalize wr.drewN nq = w4 at *
       have q0 := HR4.out.c0
       have q1 := HR4.out.c1
       have HQ4 := Aside0.mk (end_quiet HR4.out hlt)
       have HD4 := Aside0.mk (HD'.out w4)
       go_quiet (first | (go_at_call 71; exact HQ4.out _) | (go_at_call 35; exact HD4.out _))
       go_wp2_with (go_at_call 44; refine (stop_calls _ _ _ _).mono ?_; rintro e w5 ⟨rfl, rfl⟩)
       exact ⟨rfl, rfl, W4.out.drewN _⟩
     ·have hd0 : dig (bt s a) = false := by simpa using hd
      have HD := Aside0.mk (digit_quiet hd0 wr)
      have HD' := Aside0.mk (fun w => digit_quiet hd0 w)
      have hst : digE s (at_ + 1 + 1) a n = (a, n) := digE_stop fun h => hd h.2.1
      by_cases hF : a = at_ + 1 + 1
      ·have heq : (a == at_ + 1 + 1) = true := by simp [hF]
       have hres : R = .inl (a, 96) := by rw [← HE.out, hst]; exact if_pos (.inl hF)
       subst hres
       clear hr2 HE hp15 hnp HP
       clear hF hd hd0 hst
       go_wp2
       go_quiet (first | (go_at_call 71; exact HQ.out _) | (go_at_call 35; exact HD.out _))
       go_wp2
       have HR4 := Aside0.mk (HR.out.more (pw_below_drewN (Below.refl _ _) nq))
       have W4 := Aside0.mk (HW.out.drewN nq)
       have HX4 : Aside0 ((wr.drewN nq).heap[gb]? = some (.cells #[.int .i64 0, .int .i64 0, .string ⟨#[]⟩] 24 (0, 0))) := ⟨HX2.out⟩
       clear q0 q1 f1 HR HW HX2
       generalize wr.drewN nq = w4 at *
       have q0 := HR4.out.c0
       have q1 := HR4.out.c1
       have HQ4 := Aside0.mk (end_quiet HR4.out hlt)
       go_quiet (first | (go_at_call 71; exact HQ4.out _))
       go_wp2_with (go_at_call 44; refine (stop_calls _ _ _ _).mono ?_; rintro e w5 ⟨rfl, rfl⟩)
       exact ⟨rfl, rfl, W4.out.drewN _⟩
      ·have heq : (a == at_ + 1 + 1) = false := by simp [hF]
       by_cases h46 : bt s a = 46
       ·have hres : R = .inl (a, 96) := by rw [← HE.out, hst]; exact if_pos (.inr ⟨hlt, .inr h46⟩)
        subst hres
        have hb46 : (bt s a == 46) = true := by simp [h46]
        clear hr2 HE hp15 hnp HP hF hst hd hd0 h46
        generalize bt s a = c at *
        go_wp2
        go_quiet (first | (go_at_call 71; exact HQ.out _) | (go_at_call 35; exact HD.out _))
        go_wp2
        have HR4 := Aside0.mk (HR.out.more (pw_below_drewN (Below.refl _ _) nq))
        have W4 := Aside0.mk (HW.out.drewN nq)
        have HX4 : Aside0 ((wr.drewN nq).heap[gb]? = some (.cells #[.int .i64 0, .int .i64 0, .string ⟨#[]⟩] 24 (0, 0))) := ⟨HX2.out⟩
        clear q0 q1 f1 HR HW HX2
        generalize wr.drewN nq = w4 at *
        have q0 := HR4.out.c0
        have q1 := HR4.out.c1
        have HQ4 := Aside0.mk (end_quiet HR4.out hlt)
        have HD4 := Aside0.mk (HD'.out w4)
        go_quiet (first | (go_at_call 71; exact HQ4.out _) | (go_at_call 35; exact HD4.out _))
        go_wp2_with (go_at_call 44; refine (stop_calls _ _ _ _).mono ?_; rintro e w5 ⟨rfl, rfl⟩)
        exact ⟨rfl, rfl, W4.out.drewN _⟩
       ·have hres : R = .inr ((7, (-1) * n, ⟨#[]⟩), a) := by rw [← HE.out, hst]; exact if_neg fun h => h.elim (fun e => hF e) fun h => h.2.elim (fun e => hd e) (fun e => h46 e)
        subst hres
        have hb46 : (bt s a == 46) = false := by simp [h46]
        clear hr2 HE HP hF hst hd hd0 h46
        generalize bt s a = c at *
        go_wp2
        go_quiet (first | (go_at_call 71; exact HQ.out _) | (go_at_call 35; exact HD.out _))
        go_wp2
        have HR4 := Aside0.mk (HR.out.more (pw_below_drewN (Below.refl _ _) nq))
        have W4 := Aside0.mk (HW.out.drewN nq)
        have HX4 : Aside0 ((wr.drewN nq).heap[gb]? = some (.cells #[.int .i64 0, .int .i64 0, .string ⟨#[]⟩] 24 (0, 0))) := ⟨HX2.out⟩
        clear q0 q1 f1 HR HW HX2
        generalize wr.drewN nq = w4 at *
        have q0 := HR4.out.c0
        have q1 := HR4.out.c1
        have HQ4 := Aside0.mk (end_quiet HR4.out hlt)
        have HD4 := Aside0.mk (HD'.out w4)
        go_quiet (first | (go_at_call 71; exact HQ4.out _) | (go_at_call 35; exact HD4.out _))
        have HR5 := Aside0.mk (HR4.out.more (pw_below_drewN (Below.refl _ _) nq))
        have W5 := Aside0.mk (W4.out.drewN nq)
        have hx5 : (w4.drewN nq).heap[gb]? = some (.cells #[.int .i64 0, .int .i64 0, .string ⟨#[]⟩] 24 (0, 0)) := HX4.out
        clear q0 q1 HR4 W4 HX4 HQ4
        generalize w4.drewN nq = w5 at *
        have hx0 : w5.cell? ⟨gb, 0, none⟩ = some (.int .i64 0) := (blk_cell hx5 0).trans rfl
        have hx1 : w5.cell? ⟨gb, 1, none⟩ = some (.int .i64 0) := (blk_cell hx5 1).trans rfl
        have hx2 : w5.cell? ⟨gb, 2, none⟩ = some (.string ⟨#[]⟩) := (blk_cell hx5 2).trans rfl
        have fx0 := blk_frozen hx5 0
        have fx1 := blk_frozen hx5 1
        have fx2 := blk_frozen hx5 2
        have hws : (((-1) * n + 9223372036854775808) % 18446744073709551616 - 9223372036854775808) = (-1) * n := by omega
        go_wp2
        refine bodyPost_ret (v := bareV (7, (-1) * n, ⟨#[]⟩)) (by simp [results, Tryz.results42, go_sem, bareV, hx0, hx1, hx2]; try omega) rfl ?_
        exact ⟨rfl, HR5.out.far3 HG.out _ _ _, W5.out.far3 HGE.out _ _ _⟩
    ·have HQ := Aside0.mk (end_quiet' hr2 hlt)
     have hst : digE s (at_ + 1 + 1) a n = (a, n) := digE_stop fun h => hlt h.1
     by_cases hF : a = at_ + 1 + 1
     ·have heq : (a == at_ + 1 + 1) = true := by simp [hF]
      have hres : R = .inl (a, 96) := by rw [← HE.out, hst]; exact if_pos (.inl hF)
      subst hres
      clear hr2 HE hp15 hnp HP
      clear hF hst
      go_wp2
      go_quiet (first | (go_at_call 71; exact HQ.out _))
      go_wp2
      have HR4 := Aside0.mk (HR.out.more (pw_below_drewN (Below.refl _ _) nq))
      have W4 := Aside0.mk (HW.out.drewN nq)
      have HX4 : Aside0 ((wr.drewN nq).heap[gb]? = some (.cells #[.int .i64 0, .int .i64 0, .string ⟨#[]⟩] 24 (0, 0))) := ⟨HX2.out⟩
      clear q0 q1 f1 HR HW HX2
      generalize wr.drewN nq = w4 at *
      have q0 := HR4.out.c0
      have q1 := HR4.out.c1
      have HQ4 := Aside0.mk (end_quiet' HR4.out (by omega))
      go_quiet (first | (go_at_call 71; exact HQ4.out _))
      go_wp2_with (go_at_call 44; refine (stop_calls _ _ _ _).mono ?_; rintro e w5 ⟨rfl, rfl⟩)
      exact ⟨rfl, rfl, W4.out.drewN _⟩
     ·have heq : (a == at_ + 1 + 1) = false := by simp [hF]
      have hres : R = .inr ((7, (-1) * n, ⟨#[]⟩), a) := by rw [← HE.out, hst]; exact if_neg fun h => h.elim (fun e => hF e) fun h => hlt h.1
      subst hres
      clear hr2 HE HP hF hst
      go_wp2
      go_quiet (first | (go_at_call 71; exact HQ.out _))
      go_wp2
      have HR4 := Aside0.mk (HR.out.more (pw_below_drewN (Below.refl _ _) nq))
      have W4 := Aside0.mk (HW.out.drewN nq)
      have HX4 : Aside0 ((wr.drewN nq).heap[gb]? = some (.cells #[.int .i64 0, .int .i64 0, .string ⟨#[]⟩] 24 (0, 0))) := ⟨HX2.out⟩
      clear q0 q1 f1 HR HW HX2
      generalize wr.drewN nq = w4 at *
      have q0 := HR4.out.c0
      have q1 := HR4.out.c1
      have HQ4 := Aside0.mk (end_quiet' HR4.out (by omega))
      go_quiet (first | (go_at_call 71; exact HQ4.out _))
      have HR5 := Aside0.mk (HR4.out.more (pw_below_drewN (Below.refl _ _) nq))
      have W5 := Aside0.mk (W4.out.drewN nq)
      have hx5 : (w4.drewN nq).heap[gb]? = some (.cells #[.int .i64 0, .int .i64 0, .string ⟨#[]⟩] 24 (0, 0)) := HX4.out
      clear q0 q1 HR4 W4 HX4 HQ4
      generalize w4.drewN nq = w5 at *
      have hx0 : w5.cell? ⟨gb, 0, none⟩ = some (.int .i64 0) := (blk_cell hx5 0).trans rfl
      have hx1 : w5.cell? ⟨gb, 1, none⟩ = some (.int .i64 0) := (blk_cell hx5 1).trans rfl
      have hx2 : w5.cell? ⟨gb, 2, none⟩ = some (.string ⟨#[]⟩) := (blk_cell hx5 2).trans rfl
      have fx0 := blk_frozen hx5 0
      have fx1 := blk_frozen hx5 1
      have fx2 := blk_frozen hx5 2
      have hws : (((-1) * n + 9223372036854775808) % 18446744073709551616 - 9223372036854775808) = (-1) * n := by omega
      go_wp2
      refine bodyPost_ret (v := bareV (7, (-1) * n, ⟨#[]⟩)) (by simp [results, Tryz.results42, go_sem, bareV, hx0, hx1, hx2]; try omega) rfl ?_
      exact ⟨rfl, HR5.out.far3 HG.out _ _ _, W5.out.far3 HGE.out _ _ _⟩
  ·rw [if_neg fun h => hm h.2]
   obtain ⟨R, hE⟩ : ∃ R, rdDateF s 1 (at_ + 1) (digE s (at_ + 1) (at_ + 1) 0) = R := ⟨_, rfl⟩
   rw [hE]
   have hmb : (bt s (at_ + 1) == 45) = false := by simp [hm]
   clear hm
   go_enter Tryz.func42, Tryz.ntmps42
   go_wp2_with (first
    | ((with_reducible refine gate_dst (N := 2) rfl ?_); refine box_event ?hg (N := 2) ?hd (cs := #[.int .i64 0, .int .i64 0, .string ⟨#[]⟩]) (t := 24) ?hr ?_; (case hd => rfl); (case hg => rfl); (case hr => first | (go_simp; done) | (go_simp; rfl)); intro gb hg w1 hbox hb; have W0 := Aside0.mk (((Went.refl w g).more hb).set 1 (.int .i64 (at_ + 1))); have hr1 := hr.more hb; have hc1 := hr1.c1; have hf1 := hr1.f1; have HR2 := Aside0.mk (hr1.set (at_ + 1)); have HG := Aside0.mk (show gb ≠ g from fun e => by have := blk_lt hr; omega); have HGE := Aside0.mk (show w.heap.size ≤ gb by omega); have HX := Aside0.mk (blk_far (p := ⟨g, 1, none⟩) hbox HG.out (.int .i64 (at_ + 1))); clear hb hbox hg hr1))
   generalize w1.setCell ⟨g, 1, none⟩ (.int .i64 (at_ + 1)) = w2 at *
   clear hc1 hf1
   have q0 := HR2.out.c0
   have q1 := HR2.out.c1
   have f1 := HR2.out.f1
   have HQ2 := Aside0.mk (HQ.out w2 HR2.out)
   go_quiet (first | (go_at_call 71; exact HQ2.out _))
   go_wp2
   have HRs := Aside0.mk (HR2.out.more (pw_below_drewN (Below.refl _ _) nq))
   have Ws := Aside0.mk (W0.out.drewN nq)
   have HXs : Aside0 ((w2.drewN nq).heap[gb]? = some (.cells #[.int .i64 0, .int .i64 0, .string ⟨#[]⟩] 24 (0, 0))) := ⟨HX.out⟩
   clear q0 q1 f1 HQ HQ2 HR2 W0 HX
   generalize w2.drewN nq = w3 at *
   clear hi hb hmb
   have hw15 : ((at_ + 1 + 15 + 9223372036854775808) % 18446744073709551616 - 9223372036854775808) = at_ + 1 + 15 := by omega
   go_loopw [5] (fun v5 wr => ∃ a n : Int, v5 = .int .i64 n ∧ RdAt wr g s a ∧ Aside0 (Went w wr g) ∧ Aside0 (wr.heap[gb]? = some (.cells #[.int .i64 0, .int .i64 0, .string ⟨#[]⟩] 24 (0, 0))) ∧ at_ + 1 ≤ a ∧ a ≤ (s.size : Int) ∧ a ≤ at_ + 1 + 15 ∧ 0 ≤ n ∧ Aside0 (n < pw (a - (at_ + 1))) ∧ Aside0 (rdDateF s 1 (at_ + 1) (digE s (at_ + 1) a n) = R)) (fun _ wr => ((s.size : Int) - posOf wr g).toNat)
   case atStart => exact ⟨at_ + 1, 0, rfl, HRs.out, Ws, HXs, by omega, by omega, by omega, by omega, ⟨by rw [Int.sub_self]; decide⟩, ⟨hE⟩⟩
   case round =>
    obtain ⟨a, n, rfl, hr2, HW, HX2, ha0, ha1, ha2, hn0, HP, HE⟩ := hrel
    have HR := Aside0.mk hr2
    have q0 := hr2.c0
    have q1 := hr2.c1
    have f1 := hr2.f1
    have hp15 := pw_le (k := a - (at_ + 1)) (by omega)
    have hnp := HP.out
    by_cases hlt : a < (s.size : Int)
    ·have HQ := Aside0.mk (end_quiet hr2 hlt)
     have hi : 0 ≤ a ∧ a < (s.size : Int) := ⟨by omega, hlt⟩
     have hb := bt_at s a (by omega)
     by_cases hd : dig (bt s a) = true
     ·have HD := Aside0.mk (digit_quiet hd wr)
      have hcd := dig_iff.mp hd
      have hw8 : (bt s a - 48) % 256 = bt s a - 48 := by omega
      by_cases hf : a < at_ + 1 + 15
      ·have hnb : n < 1000000000000000 := by omega
       have HP2 : Aside0 (10 * n + (bt s a - 48) < pw (a + 1 - (at_ + 1))) := ⟨by rw [show a + 1 - (at_ + 1) = a - (at_ + 1) + 1 by omega, pw_step (by omega)]; omega⟩
       have HE2 : Aside0 (rdDateF s 1 (at_ + 1) (digE s (at_ + 1) (a + 1) (10 * n + (bt s a - 48))) = R) := ⟨by rw [← digE_step hlt hd hf]; exact HE.out⟩
       clear hr2 HE hd hp15 hnp HP
       generalize bt s a = c at *
       go_wp2
       go_quiet (first | (go_at_call 71; exact HQ.out _) | (go_at_call 35; exact HD.out _))
       go_wp2
       go_quiet (fail)
       go_wp2
       exact ⟨⟨a + 1, _, rfl, (HR.out.more (pw_below_drewN (Below.refl _ _) _)).set _, ⟨(HW.out.drewN _).set _ _⟩, ⟨blk_far (p := ⟨g, 1, none⟩) HX2.out HG.out _⟩, by omega, by omega, by omega, by omega, HP2, HE2⟩, by rw [HR.out.pos, ((HR.out.more (pw_below_drewN (Below.refl _ _) _)).set (a + 1)).pos]; omega⟩
      ·have hF : ¬ a = at_ + 1 := by omega
       have heq : (a == at_ + 1) = false := by simp [hF]
       have hres : R = .inl (a, 96) := by rw [← HE.out, digE_stop fun h => hf h.2.2]; exact if_pos (.inr ⟨hlt, .inl hd⟩)
       subst hres
       have HD' := Aside0.mk (fun w => digit_quiet hd w)
       clear hr2 HE hd hp15 hnp HP
       generalize bt s a = c at *
       go_wp2
       go_quiet (first | (go_at_call 71; exact HQ.out _) | (go_at_call 35; exact HD.out _))
       go_wp2
       have HR4 := Aside0.mk (HR.out.more (pw_below_drewN (Below.refl _ _) nq))
       have W4 := Aside0.mk (HW.out.drewN nq)
       have HX4 : Aside0 ((wr.drewN nq).heap[gb]? = some (.cells #[.int .i64 0, .int .i64 0, .string ⟨#[]⟩] 24 (0, 0))) := ⟨HX2.out⟩
       clear q0 q1 f1 HR HW HX2
       generalize wr.drewN nq = w4 at *
       have q0 := HR4.out.c0
       have q1 := HR4.out.c1
       have HQ4 := Aside0.mk (end_quiet HR4.out hlt)
       have HD4 := Aside0.mk (HD'.out w4)
       go_quiet (first | (go_at_call 71; exact HQ4.out _) | (go_at_call 35; exact HD4.out _))
       go_wp2_with (go_at_call 44; refine (stop_calls _ _ _ _).mono ?_; rintro e w5 ⟨rfl, rfl⟩)
       exact ⟨rfl, rfl, W4.out.drewN _⟩
     ·have hd0 : dig (bt s a) = false := by simpa using hd
      have HD := Aside0.mk (digit_quiet hd0 wr)
      have HD' := Aside0.mk (fun w => digit_quiet hd0 w)
      have hst : digE s (at_ + 1) a n = (a, n) := digE_stop fun h => hd h.2.1
      by_cases hF : a = at_ + 1
      ·have heq : (a == at_ + 1) = true := by simp [hF]
       have hres : R = .inl (a, 96) := by rw [← HE.out, hst]; exact if_pos (.inl hF)
       subst hres
       clear hr2 HE hp15 hnp HP
       clear hF hd hd0 hst
       go_wp2
       go_quiet (first | (go_at_call 71; exact HQ.out _) | (go_at_call 35; exact HD.out _))
       go_wp2
       have HR4 := Aside0.mk (HR.out.more (pw_below_drewN (Below.refl _ _) nq))
       have W4 := Aside0.mk (HW.out.drewN nq)
       have HX4 : Aside0 ((wr.drewN nq).heap[gb]? = some (.cells #[.int .i64 0, .int .i64 0, .string ⟨#[]⟩] 24 (0, 0))) := ⟨HX2.out⟩
       clear q0 q1 f1 HR HW HX2
       generalize wr.drewN nq = w4 at *
       have q0 := HR4.out.c0
       have q1 := HR4.out.c1
       have HQ4 := Aside0.mk (end_quiet HR4.out hlt)
       go_quiet (first | (go_at_call 71; exact HQ4.out _))
       go_wp2_with (go_at_call 44; refine (stop_calls _ _ _ _).mono ?_; rintro e w5 ⟨rfl, rfl⟩)
       exact ⟨rfl, rfl, W4.out.drewN _⟩
      ·have heq : (a == at_ + 1) = false := by simp [hF]
       by_cases h46 : bt s a = 46
       ·have hres : R = .inl (a, 96) := by rw [← HE.out, hst]; exact if_pos (.inr ⟨hlt, .inr h46⟩)
        subst hres
        have hb46 : (bt s a == 46) = true := by simp [h46]
        clear hr2 HE hp15 hnp HP hF hst hd hd0 h46
        generalize bt s a = c at *
        go_wp2
        go_quiet (first | (go_at_call 71; exact HQ.out _) | (go_at_call 35; exact HD.out _))
        go_wp2
        have HR4 := Aside0.mk (HR.out.more (pw_below_drewN (Below.refl _ _) nq))
        have W4 := Aside0.mk (HW.out.drewN nq)
        have HX4 : Aside0 ((wr.drewN nq).heap[gb]? = some (.cells #[.int .i64 0, .int .i64 0, .string ⟨#[]⟩] 24 (0, 0))) := ⟨HX2.out⟩
        clear q0 q1 f1 HR HW HX2
        generalize wr.drewN nq = w4 at *
        have q0 := HR4.out.c0
        have q1 := HR4.out.c1
        have HQ4 := Aside0.mk (end_quiet HR4.out hlt)
        have HD4 := Aside0.mk (HD'.out w4)
        go_quiet (first | (go_at_call 71; exact HQ4.out _) | (go_at_call 35; exact HD4.out _))
        go_wp2_with (go_at_call 44; refine (stop_calls _ _ _ _).mono ?_; rintro e w5 ⟨rfl, rfl⟩)
        exact ⟨rfl, rfl, W4.out.drewN _⟩
       ·have hres : R = .inr ((7, 1 * n, ⟨#[]⟩), a) := by rw [← HE.out, hst]; exact if_neg fun h => h.elim (fun e => hF e) fun h => h.2.elim (fun e => hd e) (fun e => h46 e)
        subst hres
        have hb46 : (bt s a == 46) = false := by simp [h46]
        clear hr2 HE HP hF hst hd hd0 h46
        generalize bt s a = c at *
        go_wp2
        go_quiet (first | (go_at_call 71; exact HQ.out _) | (go_at_call 35; exact HD.out _))
        go_wp2
        have HR4 := Aside0.mk (HR.out.more (pw_below_drewN (Below.refl _ _) nq))
        have W4 := Aside0.mk (HW.out.drewN nq)
        have HX4 : Aside0 ((wr.drewN nq).heap[gb]? = some (.cells #[.int .i64 0, .int .i64 0, .string ⟨#[]⟩] 24 (0, 0))) := ⟨HX2.out⟩
        clear q0 q1 f1 HR HW HX2
        generalize wr.drewN nq = w4 at *
        have q0 := HR4.out.c0
        have q1 := HR4.out.c1
        have HQ4 := Aside0.mk (end_quiet HR4.out hlt)
        have HD4 := Aside0.mk (HD'.out w4)
        go_quiet (first | (go_at_call 71; exact HQ4.out _) | (go_at_call 35; exact HD4.out _))
        have HR5 := Aside0.mk (HR4.out.more (pw_below_drewN (Below.refl _ _) nq))
        have W5 := Aside0.mk (W4.out.drewN nq)
        have hx5 : (w4.drewN nq).heap[gb]? = some (.cells #[.int .i64 0, .int .i64 0, .string ⟨#[]⟩] 24 (0, 0)) := HX4.out
        clear q0 q1 HR4 W4 HX4 HQ4
        generalize w4.drewN nq = w5 at *
        have hx0 : w5.cell? ⟨gb, 0, none⟩ = some (.int .i64 0) := (blk_cell hx5 0).trans rfl
        have hx1 : w5.cell? ⟨gb, 1, none⟩ = some (.int .i64 0) := (blk_cell hx5 1).trans rfl
        have hx2 : w5.cell? ⟨gb, 2, none⟩ = some (.string ⟨#[]⟩) := (blk_cell hx5 2).trans rfl
        have fx0 := blk_frozen hx5 0
        have fx1 := blk_frozen hx5 1
        have fx2 := blk_frozen hx5 2
        have hws : ((1 * n + 9223372036854775808) % 18446744073709551616 - 9223372036854775808) = 1 * n := by omega
        go_wp2
        refine bodyPost_ret (v := bareV (7, 1 * n, ⟨#[]⟩)) (by simp [results, Tryz.results42, go_sem, bareV, hx0, hx1, hx2]; try omega) rfl ?_
        exact ⟨rfl, HR5.out.far3 HG.out _ _ _, W5.out.far3 HGE.out _ _ _⟩
    ·have HQ := Aside0.mk (end_quiet' hr2 hlt)
     have hst : digE s (at_ + 1) a n = (a, n) := digE_stop fun h => hlt h.1
     by_cases hF : a = at_ + 1
     ·have heq : (a == at_ + 1) = true := by simp [hF]
      have hres : R = .inl (a, 96) := by rw [← HE.out, hst]; exact if_pos (.inl hF)
      subst hres
      clear hr2 HE hp15 hnp HP
      clear hF hst
      go_wp2
      go_quiet (first | (go_at_call 71; exact HQ.out _))
      go_wp2
      have HR4 := Aside0.mk (HR.out.more (pw_below_drewN (Below.refl _ _) nq))
      have W4 := Aside0.mk (HW.out.drewN nq)
      have HX4 : Aside0 ((wr.drewN nq).heap[gb]? = some (.cells #[.int .i64 0, .int .i64 0, .string ⟨#[]⟩] 24 (0, 0))) := ⟨HX2.out⟩
      clear q0 q1 f1 HR HW HX2
      generalize wr.drewN nq = w4 at *
      have q0 := HR4.out.c0
      have q1 := HR4.out.c1
      have HQ4 := Aside0.mk (end_quiet' HR4.out (by omega))
      go_quiet (first | (go_at_call 71; exact HQ4.out _))
      go_wp2_with (go_at_call 44; refine (stop_calls _ _ _ _).mono ?_; rintro e w5 ⟨rfl, rfl⟩)
      exact ⟨rfl, rfl, W4.out.drewN _⟩
     ·have heq : (a == at_ + 1) = false := by simp [hF]
      have hres : R = .inr ((7, 1 * n, ⟨#[]⟩), a) := by rw [← HE.out, hst]; exact if_neg fun h => h.elim (fun e => hF e) fun h => hlt h.1
      subst hres
      clear hr2 HE HP hF hst
      go_wp2
      go_quiet (first | (go_at_call 71; exact HQ.out _))
      go_wp2
      have HR4 := Aside0.mk (HR.out.more (pw_below_drewN (Below.refl _ _) nq))
      have W4 := Aside0.mk (HW.out.drewN nq)
      have HX4 : Aside0 ((wr.drewN nq).heap[gb]? = some (.cells #[.int .i64 0, .int .i64 0, .string ⟨#[]⟩] 24 (0, 0))) := ⟨HX2.out⟩
      clear q0 q1 f1 HR HW HX2
      generalize wr.drewN nq = w4 at *
      have q0 := HR4.out.c0
      have q1 := HR4.out.c1
      have HQ4 := Aside0.mk (end_quiet' HR4.out (by omega))
      go_quiet (first | (go_at_call 71; exact HQ4.out _))
      have HR5 := Aside0.mk (HR4.out.more (pw_below_drewN (Below.refl _ _) nq))
      have W5 := Aside0.mk (W4.out.drewN nq)
      have hx5 : (w4.drewN nq).heap[gb]? = some (.cells #[.int .i64 0, .int .i64 0, .string ⟨#[]⟩] 24 (0, 0)) := HX4.out
      clear q0 q1 HR4 W4 HX4 HQ4
      generalize w4.drewN nq = w5 at *
      have hx0 : w5.cell? ⟨gb, 0, none⟩ = some (.int .i64 0) := (blk_cell hx5 0).trans rfl
      have hx1 : w5.cell? ⟨gb, 1, none⟩ = some (.int .i64 0) := (blk_cell hx5 1).trans rfl
      have hx2 : w5.cell? ⟨gb, 2, none⟩ = some (.string ⟨#[]⟩) := (blk_cell hx5 2).trans rfl
      have fx0 := blk_frozen hx5 0
      have fx1 := blk_frozen hx5 1
      have fx2 := blk_frozen hx5 2
      have hws : ((1 * n + 9223372036854775808) % 18446744073709551616 - 9223372036854775808) = 1 * n := by omega
      go_wp2
      refine bodyPost_ret (v := bareV (7, 1 * n, ⟨#[]⟩)) (by simp [results, Tryz.results42, go_sem, bareV, hx0, hx1, hx2]; try omega) rfl ?_
      exact ⟨rfl, HR5.out.far3 HG.out _ _ _, W5.out.far3 HGE.out _ _ _⟩
 ·rw [if_neg fun h => hn h.1]
  have HQ := Aside0.mk (fun w1 (hr1 : RdAt w1 g s (at_ + 1)) => end_quiet' hr1 hn)
  obtain ⟨R, hE⟩ : ∃ R, rdDateF s 1 (at_ + 1) (digE s (at_ + 1) (at_ + 1) 0) = R := ⟨_, rfl⟩
  rw [hE]
  go_enter Tryz.func42, Tryz.ntmps42
  go_wp2_with (first
   | ((with_reducible refine gate_dst (N := 2) rfl ?_); refine box_event ?hg (N := 2) ?hd (cs := #[.int .i64 0, .int .i64 0, .string ⟨#[]⟩]) (t := 24) ?hr ?_; (case hd => rfl); (case hg => rfl); (case hr => first | (go_simp; done) | (go_simp; rfl)); intro gb hg w1 hbox hb; have W0 := Aside0.mk (((Went.refl w g).more hb).set 1 (.int .i64 (at_ + 1))); have hr1 := hr.more hb; have hc1 := hr1.c1; have hf1 := hr1.f1; have HR2 := Aside0.mk (hr1.set (at_ + 1)); have HG := Aside0.mk (show gb ≠ g from fun e => by have := blk_lt hr; omega); have HGE := Aside0.mk (show w.heap.size ≤ gb by omega); have HX := Aside0.mk (blk_far (p := ⟨g, 1, none⟩) hbox HG.out (.int .i64 (at_ + 1))); clear hb hbox hg hr1))
  generalize w1.setCell ⟨g, 1, none⟩ (.int .i64 (at_ + 1)) = w2 at *
  clear hc1 hf1
  have q0 := HR2.out.c0
  have q1 := HR2.out.c1
  have f1 := HR2.out.f1
  have HQ2 := Aside0.mk (HQ.out w2 HR2.out)
  go_quiet (first | (go_at_call 71; exact HQ2.out _))
  go_wp2
  have HRs := Aside0.mk (HR2.out.more (pw_below_drewN (Below.refl _ _) nq))
  have Ws := Aside0.mk (W0.out.drewN nq)
  have HXs : Aside0 ((w2.drewN nq).heap[gb]? = some (.cells #[.int .i64 0, .int .i64 0, .string ⟨#[]⟩] 24 (0, 0))) := ⟨HX.out⟩
  clear q0 q1 f1 HQ HQ2 HR2 W0 HX
  generalize w2.drewN nq = w3 at *
  have hw15 : ((at_ + 1 + 15 + 9223372036854775808) % 18446744073709551616 - 9223372036854775808) = at_ + 1 + 15 := by omega
  go_loopw [5] (fun v5 wr => ∃ a n : Int, v5 = .int .i64 n ∧ RdAt wr g s a ∧ Aside0 (Went w wr g) ∧ Aside0 (wr.heap[gb]? = some (.cells #[.int .i64 0, .int .i64 0, .string ⟨#[]⟩] 24 (0, 0))) ∧ at_ + 1 ≤ a ∧ a ≤ (s.size : Int) ∧ a ≤ at_ + 1 + 15 ∧ 0 ≤ n ∧ Aside0 (n < pw (a - (at_ + 1))) ∧ Aside0 (rdDateF s 1 (at_ + 1) (digE s (at_ + 1) a n) = R)) (fun _ wr => ((s.size : Int) - posOf wr g).toNat)
  case atStart => exact ⟨at_ + 1, 0, rfl, HRs.out, Ws, HXs, by omega, by omega, by omega, by omega, ⟨by rw [Int.sub_self]; decide⟩, ⟨hE⟩⟩
  case round =>
   obtain ⟨a, n, rfl, hr2, HW, HX2, ha0, ha1, ha2, hn0, HP, HE⟩ := hrel
   have HR := Aside0.mk hr2
   have q0 := hr2.c0
   have q1 := hr2.c1
   have f1 := hr2.f1
   have hp15 := pw_le (k := a - (at_ + 1)) (by omega)
   have hnp := HP.out
   have hlt : ¬ a < (s.size : Int) := by omega
   have HQ := Aside0.mk (end_quiet' hr2 hlt)
   have hst : digE s (at_ + 1) a n = (a, n) := digE_stop fun h => hlt h.1
   have hF : a = at_ + 1 := by omega
   have heq : (a == at_ + 1) = true := by simp [hF]
   have hres : R = .inl (a, 96) := by rw [← HE.out, hst]; exact if_pos (.inl hF)
   subst hres
   clear hr2 HE hp15 hnp HP
   clear hF hst
   go_wp2
   go_quiet (first | (go_at_call 71; exact HQ.out _))
   go_wp2
   have HR4 := Aside0.mk (HR.out.more (pw_below_drewN (Below.refl _ _) nq))
   have W4 := Aside0.mk (HW.out.drewN nq)
   have HX4 : Aside0 ((wr.drewN nq).heap[gb]? = some (.cells #[.int .i64 0, .int .i64 0, .string ⟨#[]⟩] 24 (0, 0))) := ⟨HX2.out⟩
   clear q0 q1 f1 HR HW HX2
   generalize wr.drewN nq = w4 at *
   have q0 := HR4.out.c0
   have q1 := HR4.out.c1
   have HQ4 := Aside0.mk (end_quiet' HR4.out (by omega))
   go_quiet (first | (go_at_call 71; exact HQ4.out _))
   go_wp2_with (go_at_call 44; refine (stop_calls _ _ _ _).mono ?_; rintro e w5 ⟨rfl, rfl⟩)
   exact ⟨rfl, rfl, W4.out.drewN _⟩
end Go.Proofs.YtkbmbancfbfddaaGreatDoorW.PrintWords
