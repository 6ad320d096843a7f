/- Layer 9's reader: its token, by hand. -/
import Derived.Test.YtclkclcacnpmbaaDoorXWRd
import Derived.StillTailTactics
namespace Go.Proofs.YtclkclcacnpmbaaDoorW.PrintWords
open Go.RowKit

def dig (c : Int) : Bool := decide (c ≥ 48) && decide (c ≤ 57)
theorem digit_calls (c : Int) (w : World) : Calls Tryd.prog 80 #[.int .u8 c] w fun x w' => x = .returned (.bool (dig c)) ∧ w' = w := by
 unfold dig
 by_cases h1 : c ≥ 48
 ·by_cases h2 : c ≤ 57
  all_goals (
   first | rw [decide_eq_true h1, decide_eq_true h2] | rw [decide_eq_true h1, decide_eq_false h2]
   have h3 : 48 ≤ c := h1
   go_enter Tryd.func80, Tryd.ntmps80
   go_wp2
   go_ret
   exact ⟨rfl, rfl⟩)
 ·rw [decide_eq_false h1]
  have h3 : ¬ 48 ≤ c := h1
  go_enter Tryd.func80, Tryd.ntmps80
  go_wp2
  go_ret
  exact ⟨rfl, rfl⟩

def tokEnd (T : Int → Bool) (s : ByteArray) : Nat → Int → Int
 | 0, a => a
 | k + 1, a => if a < (s.size : Int) ∧ T (bt s a) = true then tokEnd T s k (a + 1) else a
def tokE (T : Int → Bool) (s : ByteArray) (a : Int) : Int := tokEnd T s ((s.size : Int) - a).toNat a
theorem tokE_step {T : Int → Bool} {s : ByteArray} {a : Int} (h : a < (s.size : Int)) (hT : T (bt s a) = true) : tokE T s a = tokE T s (a + 1) := by
 unfold tokE
 rw [show ((s.size : Int) - a).toNat = ((s.size : Int) - (a + 1)).toNat + 1 by omega]
 exact if_pos ⟨h, hT⟩
theorem tokE_stop {T : Int → Bool} {s : ByteArray} {a : Int} (h : ¬ (a < (s.size : Int) ∧ T (bt s a) = true)) : tokE T s a = a := by
 unfold tokE
 cases ((s.size : Int) - a).toNat with
 | zero => rfl
 | succ k => exact if_neg h
def rdToken (T : Int → Bool) (s : ByteArray) (at_ : Int) : RR := .inr ((4, 0, s.extract at_.toNat (tokE T s at_).toNat), tokE T s at_)

theorem end_quiet {g : Nat} {s : ByteArray} {a : Int} {w : World} (hr : RdAt w g s a) (h : a < (s.size : Int)) (n : Nat) :
  Calls Tryd.prog 90 #[.pointer (some ⟨g, 0, none⟩)] (w.drewN n) fun x w' => x = .returned (.bool false) ∧ ∃ m, w' = w.drewN m := by
 have HE := end_calls g s a (w.drewN n) (hr.more (pw_below_drewN (Below.refl _ _) n))
 rw [show decide (a ≥ (s.size : Int)) = false from decide_eq_false (by omega)] at HE
 exact Calls.quiet_of (HE.mono fun _ _ ⟨he, ⟨h⟩⟩ => ⟨he, h⟩)
theorem end_quiet' {g : Nat} {s : ByteArray} {a : Int} {w : World} (hr : RdAt w g s a) (h : ¬ a < (s.size : Int)) (n : Nat) :
  Calls Tryd.prog 90 #[.pointer (some ⟨g, 0, none⟩)] (w.drewN n) fun x w' => x = .returned (.bool true) ∧ ∃ m, w' = w.drewN m := by
 have HE := end_calls g s a (w.drewN n) (hr.more (pw_below_drewN (Below.refl _ _) n))
 rw [show decide (a ≥ (s.size : Int)) = true from decide_eq_true (by omega)] at HE
 exact Calls.quiet_of (HE.mono fun _ _ ⟨he, ⟨h⟩⟩ => ⟨he, h⟩)
theorem digit_quiet {c : Int} {b : Bool} (h : dig c = b) (w : World) (n : Nat) :
  Calls Tryd.prog 80 #[.int .u8 c] (w.drewN n) fun x w' => x = .returned (.bool b) ∧ ∃ m, w' = w.drewN m :=
 Calls.quiet_of_same (by rw [← h]; exact digit_calls c _)
def posOf (w : World) (g : Nat) : Int := match w.cell? ⟨g, 1, none⟩ with | some (.int _ n) => n | _ => 0
theorem RdAt.pos {w : World} {g : Nat} {s : ByteArray} {a : Int} (h : RdAt w g s a) : posOf w g = a := by unfold posOf; rw [h.c1]

set_option maxHeartbeats 4000000 in
set_option maxRecDepth 100000 in
theorem token_calls (T : Int → Bool) (HT : ∀ (c : Int) (w : World), 0 ≤ c → c < 256 → Calls Tryd.prog 93 #[.int .u8 c] w fun x w' => x = .returned (.bool (T c)) ∧ Drawn0 w w')
  (g : Nat) (s : ByteArray) (at_ : Int) (w : World) (hr : RdAt w g s at_) (h0 : 0 ≤ at_) (h1 : at_ < (s.size : Int)) (hs : s.size ≤ 9223372036854775806) :
  Calls Tryd.prog 84 #[.pointer (some ⟨g, 0, none⟩)] w fun x w' => Gives x w w' g s (rdToken T s at_) := by
 obtain ⟨E, hE⟩ : ∃ E, tokE T s at_ = E := ⟨_, rfl⟩
 unfold rdToken
 rw [hE]
 have HTQ : ∀ (a : Int) (w : World) (n : Nat) (b : Bool), T (bt s a) = b → Calls Tryd.prog 93 #[.int .u8 (bt s a)] (w.drewN n) fun x w' => x = .returned (.bool b) ∧ ∃ m, w' = w.drewN m := fun a w n b hb => Calls.quiet_of ((HT (bt s a) (w.drewN n) (bt_range s a).1 (by have := (bt_range s a).2; omega)).mono fun _ _ ⟨he, ⟨h⟩⟩ => ⟨by rw [← hb]; exact he, h⟩)
 have HTQ' := Aside0.mk HTQ
 clear HTQ HT
 go_enter Tryd.func84, Tryd.ntmps84
 go_wp2_with (first
  | ((with_reducible refine gate_dst (N := 2) rfl ?_); refine box_event ?hg (N := 2) ?hd (cs := #[.int .i64 0, .int .i64 0, .string ⟨#[]⟩]) (t := 50) ?hr ?_; (case hd => rfl); (case hg => rfl); (case hr => first | (go_simp; done) | (go_simp; rfl)); intro gb hg w1 hbox hb; have W0 := Aside0.mk ((Went.refl w g).more hb); have hr1 := hr.more hb; have hc1 := hr1.c1; have HR2 := Aside0.mk hr1; have HG := Aside0.mk (show gb ≠ g from fun e => by have := blk_lt hr; omega); have HGE := Aside0.mk (show w.heap.size ≤ gb by omega); have HX := Aside0.mk hbox; clear hb hbox hg hr1))
 clear hc1
 go_loopw [] (fun wr => ∃ a : Int, RdAt wr g s a ∧ Aside0 (Went w wr g) ∧ Aside0 (wr.heap[gb]? = some (.cells #[.int .i64 0, .int .i64 0, .string ⟨#[]⟩] 50 (0, 0))) ∧ at_ ≤ a ∧ a ≤ (s.size : Int) ∧ Aside0 (tokE T s a = E)) (fun wr => ((s.size : Int) - posOf wr g).toNat)
 case atStart => exact ⟨at_, HR2.out, W0, HX, by omega, by omega, ⟨hE⟩⟩
 case round =>
  obtain ⟨a, hr2, HW, HX2, ha0, ha1, HE⟩ := hrel
  have HR := Aside0.mk hr2
  have q0 := hr2.c0
  have q1 := hr2.c1
  have f1 := hr2.f1
  by_cases hlt : a < (s.size : Int)
  ·have HQ := Aside0.mk (end_quiet hr2 hlt)
   have hi : 0 ≤ a ∧ a < (s.size : Int) := ⟨by omega, hlt⟩
   have hb := bt_at s a (by omega)
   by_cases hT : T (bt s a) = true
   ·have HQT := Aside0.mk (fun n => HTQ'.out a wr n true hT)
    have HE2 := Aside0.mk ((tokE_step hlt hT).symm.trans HE.out)
    clear hr2 HTQ' hT HE
    go_wp2
    go_quiet (first | (go_at_call 90; exact HQ.out _) | (go_at_call 93; exact HQT.out _))
    go_wp2
    exact ⟨⟨a + 1, (HR.out.more (pw_below_drewN (Below.refl _ _) nq)).set _, ⟨(HW.out.drewN nq).set _ _⟩, ⟨blk_far (p := ⟨g, 1, none⟩) HX2.out HG.out _⟩, by omega, by omega, HE2⟩, by rw [HR.out.pos, ((HR.out.more (pw_below_drewN (Below.refl _ _) nq)).set (a + 1)).pos]; omega⟩
   ·have HQT := Aside0.mk (fun n => HTQ'.out a wr n false (by simpa using hT))
    have HE2 : a = E := (tokE_stop fun h => hT h.2).symm.trans HE.out
    subst HE2
    clear hT
    clear hr2 HTQ' HE
    go_wp2
    go_quiet (first | (go_at_call 90; exact HQ.out _) | (go_at_call 93; exact HQT.out _))
    go_wp2
    have hr3 : RdAt (wr.drewN nq) g s a := HR.out.more (pw_below_drewN (Below.refl _ _) nq)
    have W3 := Aside0.mk (HW.out.drewN nq)
    have hx3 : (wr.drewN nq).heap[gb]? = some (.cells #[.int .i64 0, .int .i64 0, .string ⟨#[]⟩] 50 (0, 0)) := HX2.out
    clear HQ HQT HX2 HW HR q0 q1 f1 hi hb hlt
    generalize wr.drewN nq = w3 at *
    have c0 := hr3.c0
    have c1 := hr3.c1
    have HR3 := Aside0.mk hr3
    have HX3 := Aside0.mk hx3
    clear hr3 hx3
    have hsl : 0 ≤ at_ ∧ at_ ≤ a ∧ a ≤ (s.size : Int) := ⟨h0, ha0, ha1⟩
    go_still_tail 11, (by kernel_rfl)
    change wpList _ _ _ _ _ w3.drew
    have HR4 : Aside0 (RdAt w3.drew g s a) := ⟨HR3.out⟩
    have W4 := Aside0.mk (W3.out.drew)
    have hx3 : w3.drew.heap[gb]? = some (.cells #[.int .i64 0, .int .i64 0, .string ⟨#[]⟩] 50 (0, 0)) := HX3.out
    clear c0 c1 HR3 HX3 W3
    generalize w3.drew = w4 at *
    have hx0 : w4.cell? ⟨gb, 0, none⟩ = some (.int .i64 0) := (blk_cell hx3 0).trans rfl
    have hx1 : w4.cell? ⟨gb, 1, none⟩ = some (.int .i64 0) := (blk_cell hx3 1).trans rfl
    have hx2 : w4.cell? ⟨gb, 2, none⟩ = some (.string ⟨#[]⟩) := (blk_cell hx3 2).trans rfl
    have fx0 := blk_frozen hx3 0
    have fx1 := blk_frozen hx3 1
    have fx2 := blk_frozen hx3 2
    clear hx3
    go_wp2
    refine bodyPost_ret (v := bareV (4, 0, _)) (by simp [results, Tryd.results84, go_sem, bareV, hx0, hx1, hx2]; try rfl) rfl ?_
    exact ⟨rfl, HR4.out.far3 HG.out _ _ _, W4.out.far3 HGE.out _ _ _⟩
  ·have HQ := Aside0.mk (end_quiet' hr2 hlt)
   have HE2 : a = E := (tokE_stop fun h => hlt h.1).symm.trans HE.out
   subst HE2
   have HQT := Aside0.mk True.intro
   have hi := Aside0.mk True.intro
   have hb := Aside0.mk True.intro
   clear hr2 HTQ' HE
   go_wp2
   go_quiet (first | (go_at_call 90; exact HQ.out _) | (go_at_call 93; exact HQT.out _))
   go_wp2
   have hr3 : RdAt (wr.drewN nq) g s a := HR.out.more (pw_below_drewN (Below.refl _ _) nq)
   have W3 := Aside0.mk (HW.out.drewN nq)
   have hx3 : (wr.drewN nq).heap[gb]? = some (.cells #[.int .i64 0, .int .i64 0, .string ⟨#[]⟩] 50 (0, 0)) := HX2.out
   clear HQ HQT HX2 HW HR q0 q1 f1 hi hb hlt
   generalize wr.drewN nq = w3 at *
   have c0 := hr3.c0
   have c1 := hr3.c1
   have HR3 := Aside0.mk hr3
   have HX3 := Aside0.mk hx3
   clear hr3 hx3
   have hsl : 0 ≤ at_ ∧ at_ ≤ a ∧ a ≤ (s.size : Int) := ⟨h0, ha0, ha1⟩
   go_still_tail 11, (by kernel_rfl)
   change wpList _ _ _ _ _ w3.drew
   have HR4 : Aside0 (RdAt w3.drew g s a) := ⟨HR3.out⟩
   have W4 := Aside0.mk (W3.out.drew)
   have hx3 : w3.drew.heap[gb]? = some (.cells #[.int .i64 0, .int .i64 0, .string ⟨#[]⟩] 50 (0, 0)) := HX3.out
   clear c0 c1 HR3 HX3 W3
   generalize w3.drew = w4 at *
   have hx0 : w4.cell? ⟨gb, 0, none⟩ = some (.int .i64 0) := (blk_cell hx3 0).trans rfl
   have hx1 : w4.cell? ⟨gb, 1, none⟩ = some (.int .i64 0) := (blk_cell hx3 1).trans rfl
   have hx2 : w4.cell? ⟨gb, 2, none⟩ = some (.string ⟨#[]⟩) := (blk_cell hx3 2).trans rfl
   have fx0 := blk_frozen hx3 0
   have fx1 := blk_frozen hx3 1
   have fx2 := blk_frozen hx3 2
   clear hx3
   go_wp2
   refine bodyPost_ret (v := bareV (4, 0, _)) (by simp [results, Tryd.results84, go_sem, bareV, hx0, hx1, hx2]; try rfl) rfl ?_
   exact ⟨rfl, HR4.out.far3 HG.out _ _ _, W4.out.far3 HGE.out _ _ _⟩
end Go.Proofs.YtclkclcacnpmbaaDoorW.PrintWords
