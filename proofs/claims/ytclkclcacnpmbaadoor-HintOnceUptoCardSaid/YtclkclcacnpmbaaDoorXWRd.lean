/- Layer 9's reader: what its methods do, by hand: each answers, or gives up with a fault (a panic with its place and its error). -/
import Derived.Test.YtclkclcacnpmbaaDoorXW
import Derived.Test.YtclkclcacnpmbaaDoorProg
import Derived.WalkSmall
import Derived.Deep.QuietTactic
import Derived.BigQuiet
import Derived.Recover
import Derived.Laws.Pointers
namespace Go.Proofs.YtclkclcacnpmbaaDoorW.PrintWords
open Go.RowKit

def fault (at_ e : Int) : List PanicEntry := [{ v := .iface 128 (.agg #[.int .i64 at_, .int .i64 e]), recovered := false }]
def RdAt (w : World) (g : Nat) (s : ByteArray) (at_ : Int) : Prop := w.heap[g]? = some (.cells #[.string s, .int .i64 at_] 132 (0, 0))
namespace RdAt
variable {w : World} {g : Nat} {s : ByteArray} {at_ : Int}
theorem c0 (h : RdAt w g s at_) : w.cell? ⟨g, 0, none⟩ = some (.string s) := (blk_cell h 0).trans rfl
theorem c1 (h : RdAt w g s at_) : w.cell? ⟨g, 1, none⟩ = some (.int .i64 at_) := (blk_cell h 1).trans rfl
theorem f1 (h : RdAt w g s at_) : w.frozen? ⟨g, 1, none⟩ = false := blk_frozen h 1
theorem set (h : RdAt w g s at_) (n : Int) : RdAt (w.setCell ⟨g, 1, none⟩ (.int .i64 n)) g s n := blk_set h 1 _
end RdAt
structure Went (w w' : World) (g : Nat) : Prop where
 os : w'.os = w.os
 tape : w'.tape = w.tape
 output : w'.output = w.output
 keep : KeepBut w w' g none
namespace Went
variable {w w1 w2 : World} {g : Nat}
theorem refl (w : World) (g : Nat) : Went w w g := ⟨rfl, rfl, rfl, KeepBut.refl _ _ _⟩
theorem set (h : Went w w1 g) (j : Nat) (u : Value) : Went w (w1.setCell ⟨g, j, none⟩ u) g := ⟨h.os, h.tape, h.output, h.keep.set_ _ _⟩
theorem drew (h : Went w w1 g) : Went w w1.drew g := ⟨h.os, h.tape, h.output, ⟨h.keep.1, h.keep.2⟩⟩
theorem drewN (h : Went w w1 g) (n : Nat) : Went w (w1.drewN n) g := ⟨h.os, h.tape, h.output, ⟨h.keep.1, h.keep.2⟩⟩
theorem more (h : Went w w1 g) (hb : Below w1.heap.size w1 w2) : Went w w2 g := ⟨hb.os.trans h.os, hb.tape.trans h.tape, hb.output.trans h.output, h.keep.trans (KeepBut.of_below hb g none) (.inl rfl)⟩
theorem trans (h : Went w w1 g) (k : Went w1 w2 g) : Went w w2 g := ⟨k.os.trans h.os, k.tape.trans h.tape, k.output.trans h.output, h.keep.trans k.keep (.inl rfl)⟩
theorem far (h : Went w w1 g) {q : Nat} (hq : w.heap.size ≤ q) (j : Nat) (u : Value) : Went w (w1.setCell ⟨q, j, none⟩ u) g := ⟨h.os, h.tape, h.output, ⟨Nat.le_trans h.keep.1 (Nat.le_of_eq (by simp [World.setCell])), fun i hi hg hr => (Below.heap_setCell w1 ⟨q, j, none⟩ u i (by show i ≠ q; omega)).trans (h.keep.2 i hi hg hr)⟩⟩
theorem below (h : Went w w1 g) {b : Nat} (hb : b ≤ g) (hs : b ≤ w.heap.size) : Below b w w1 := ⟨h.os, h.tape, h.output, h.keep.1, fun i hi => h.keep.2 i (by omega) (by omega) (by simp)⟩
end Went
theorem RdAt.more {w w1 : World} {g : Nat} {s : ByteArray} {at_ : Int} (h : RdAt w g s at_) (hb : Below w.heap.size w w1) : RdAt w1 g s at_ := blk_below h hb

theorem stop_calls (p : Value) (at_ e : Int) (w : World) :
  Calls Tryd.prog 89 #[p, .int .i64 at_, .int .i64 e] w fun x w' => x = .panicked (fault at_ e) ∧ w' = w := by
 go_enter Tryd.func89, Tryd.ntmps89
 go_wp2
 exact ⟨rfl, rfl, rfl⟩
theorem end_calls (g : Nat) (s : ByteArray) (at_ : Int) (w : World) (hr : RdAt w g s at_) :
  Calls Tryd.prog 90 #[.pointer (some ⟨g, 0, none⟩)] w fun x w' => x = .returned (.bool (decide (at_ ≥ (s.size : Int)))) ∧ Drawn0 w w' := by
 have h0 := hr.c0
 have h1 := hr.c1
 go_enter Tryd.func90, Tryd.ntmps90
 go_wp2
 go_quiet (fail)
 go_wp2
 go_ret
 exact ⟨by first | rfl | (simp; done), ⟨⟨_, rfl⟩⟩⟩
theorem need_ok (g : Nat) (s : ByteArray) (at_ : Int) (w : World) (hr : RdAt w g s at_) (h0 : 0 ≤ at_) (h : at_ < (s.size : Int)) (hs : s.size ≤ 9223372036854775806) :
  Calls Tryd.prog 92 #[.pointer (some ⟨g, 0, none⟩)] w fun x w' => x = .returned (.int .u8 (bt s at_)) ∧ RdAt w' g s (at_ + 1) ∧ Went w w' g := by
 have hd : decide (at_ ≥ (s.size : Int)) = false := decide_eq_false (by omega)
 have HE := Aside0.mk (end_calls g s at_ w hr)
 rw [hd] at HE
 go_enter Tryd.func92, Tryd.ntmps92
 go_wp2_with (go_at_call 90; refine HE.out.mono ?_; rintro e w' ⟨rfl, ⟨⟨nd, rfl⟩⟩⟩; have hr1 : RdAt (w.drewN nd) g s at_ := hr.more (pw_below_drewN (Below.refl _ _) nd); have W1 := Aside0.mk ((Went.refl w g).drewN nd); have hc1 := hr1.c1; have hf1 := hr1.f1; have hr2 := Aside0.mk (hr1.set (at_ + 1)); have W2 := Aside0.mk (W1.out.set 1 (.int .i64 (at_ + 1))); clear HE hr W1; generalize w.drewN nd = w1 at *)
 generalize w1.setCell ⟨g, 1, none⟩ (.int .i64 (at_ + 1)) = w2 at *
 have q0 := hr2.out.c0
 have q1 := hr2.out.c1
 have hi : 0 ≤ at_ ∧ at_ < (s.size : Int) := ⟨h0, h⟩
 have hw : ((at_ + 1 - 1 + 9223372036854775808) % 18446744073709551616 - 9223372036854775808) = at_ := by omega
 have hb := bt_at s at_ (by omega)
 go_quiet (fail)
 go_wp2
 go_ret
 exact ⟨rfl, hr2.out.more (pw_below_drewN (Below.refl _ _) nq), W2.out.drewN nq⟩
theorem need_end (g : Nat) (s : ByteArray) (at_ : Int) (w : World) (hr : RdAt w g s at_) (h : (s.size : Int) ≤ at_) :
  Calls Tryd.prog 92 #[.pointer (some ⟨g, 0, none⟩)] w fun x w' => x = .panicked (fault s.size 99) ∧ Went w w' g := by
 have hd : decide (at_ ≥ (s.size : Int)) = true := decide_eq_true (by omega)
 have HE := Aside0.mk (end_calls g s at_ w hr)
 rw [hd] at HE
 go_enter Tryd.func92, Tryd.ntmps92
 go_wp2_with (first | (go_at_call 90; refine HE.out.mono ?_; rintro e w' ⟨rfl, ⟨⟨nd, rfl⟩⟩⟩; have hr1 : RdAt (w.drewN nd) g s at_ := hr.more (pw_below_drewN (Below.refl _ _) nd); have W1 := Aside0.mk ((Went.refl w g).drewN nd); have hc0 := hr1.c0; clear HE hr; generalize w.drewN nd = w1 at *) | (go_at_call 89; refine (stop_calls _ _ _ _).mono ?_; rintro e w' ⟨rfl, rfl⟩))
 exact ⟨rfl, rfl, W1.out⟩

abbrev RR := (Int × Int) ⊕ ((Int × Int × ByteArray) × Int)
def bareV (b : Int × Int × ByteArray) : Value := .agg #[.int .i64 b.1, .int .i64 b.2.1, .string b.2.2]
def Gives (x : Ending) (w w' : World) (g : Nat) (s : ByteArray) : RR → Prop
 | .inl f => x = .panicked (fault f.1 f.2) ∧ Went w w' g
 | .inr (b, at_) => x = .returned (bareV b) ∧ RdAt w' g s at_ ∧ Went w w' g
def rdBool (s : ByteArray) (at_ : Int) : RR :=
 if at_ + 1 < (s.size : Int) then (if bt s (at_ + 1) = 48 ∨ bt s (at_ + 1) = 49 then .inr ((6, bt s (at_ + 1) - 48, ⟨#[]⟩), at_ + 1 + 1) else .inl (at_ + 1, 95)) else .inl (s.size, 99)
theorem RdAt.far3 {w : World} {g gb : Nat} {s : ByteArray} {at_ : Int} (h : RdAt w g s at_) (hg : gb ≠ g) (u0 u1 u2 : Value) : RdAt (((w.setCell ⟨gb, 0, none⟩ u0).setCell ⟨gb, 1, none⟩ u1).setCell ⟨gb, 2, none⟩ u2) g s at_ :=
 blk_far (blk_far (blk_far h (p := ⟨gb, 0, none⟩) (Ne.symm hg) u0) (p := ⟨gb, 1, none⟩) (Ne.symm hg) u1) (p := ⟨gb, 2, none⟩) (Ne.symm hg) u2
theorem Went.far3 {w w1 : World} {g gb : Nat} (h : Went w w1 g) (hb : w.heap.size ≤ gb) (u0 u1 u2 : Value) : Went w (((w1.setCell ⟨gb, 0, none⟩ u0).setCell ⟨gb, 1, none⟩ u1).setCell ⟨gb, 2, none⟩ u2) g := ((h.far hb 0 u0).far hb 1 u1).far hb 2 u2
theorem boolean_calls (g : Nat) (s : ByteArray) (at_ : Int) (w : World) (hr : RdAt w g s at_) (h0 : 0 ≤ at_) (h1 : at_ < (s.size : Int)) (hs : s.size ≤ 9223372036854775806) :
  Calls Tryd.prog 86 #[.pointer (some ⟨g, 0, none⟩)] w fun x w' => Gives x w w' g s (rdBool s at_) := by
 by_cases h : at_ + 1 < (s.size : Int)
 ·have hcb := bt_range s (at_ + 1)
  have hsp : rdBool s at_ = if bt s (at_ + 1) = 48 ∨ bt s (at_ + 1) = 49 then .inr ((6, bt s (at_ + 1) - 48, ⟨#[]⟩), at_ + 1 + 1) else .inl (at_ + 1, 95) := if_pos h
  rw [hsp]
  clear hsp
  have HN := Aside0.mk (fun w1 (hr1 : RdAt w1 g s (at_ + 1)) => need_ok g s (at_ + 1) w1 hr1 (by omega) h hs)
  generalize bt s (at_ + 1) = c at *
  by_cases hc : c = 48 ∨ c = 49
  ·rw [if_pos hc]
   rcases hc with rfl | rfl
   all_goals (
    go_enter Tryd.func86, Tryd.ntmps86
    go_wp2_with (first
     | ((with_reducible refine gate_dst (N := 2) rfl ?_); refine box_event ?hg (N := 2) ?hd (cs := #[.int .i64 0, .int .i64 0, .string ⟨#[]⟩]) (t := 50) ?hr ?_; (case hd => rfl); (case hg => rfl); (case hr => first | (go_simp; done) | (go_simp; rfl)); intro gb hg w1 hbox hb; have W0 := (Went.refl w g).more hb; have hr1 := hr.more hb; have hc1 := hr1.c1; have hf1 := hr1.f1; have HR2 := Aside0.mk (hr1.set (at_ + 1)); have W2 := Aside0.mk (W0.set 1 (.int .i64 (at_ + 1))); have HG := Aside0.mk (show gb ≠ g from fun e => by have := blk_lt hr; omega); have HGE := Aside0.mk (show w.heap.size ≤ gb by omega); have HX := Aside0.mk (blk_far hbox (p := ⟨g, 1, none⟩) HG.out (.int .i64 (at_ + 1))); clear hb hbox W0 hg)
     | (go_at_call 92; refine (HN.out _ HR2.out).mono ?_; rintro e w2 ⟨rfl, hr3, W3⟩; have HR3 := Aside0.mk hr3; have W4 := Aside0.mk (W2.out.trans W3); have hx := W3.keep.blk HX.out HG.out (by simp); have hx0 : w2.cell? ⟨gb, 0, none⟩ = some (.int .i64 0) := (blk_cell hx 0).trans rfl; have hx1 : w2.cell? ⟨gb, 1, none⟩ = some (.int .i64 0) := (blk_cell hx 1).trans rfl; have hx2 : w2.cell? ⟨gb, 2, none⟩ = some (.string ⟨#[]⟩) := (blk_cell hx 2).trans rfl; have fx0 := blk_frozen hx 0; have fx1 := blk_frozen hx 1; have fx2 := blk_frozen hx 2; have HX2 := Aside0.mk hx; clear W2 HX HR2 hr3 W3 hx))
    refine bodyPost_ret (v := bareV (6, _, ⟨#[]⟩)) (by simp [results, Tryd.results86, go_sem, bareV, hx0, hx1, hx2]; try rfl) rfl ?_
    refine ⟨rfl, HR3.out.far3 HG.out _ _ _, W4.out.far3 HGE.out _ _ _⟩)
  ·rw [if_neg hc]
   have hc8 : (c != 48) = true := by simp; omega
   have hc9 : (c != 49) = true := by simp; omega
   have hw : ((at_ + 1 + 1 - 1 + 9223372036854775808) % 18446744073709551616 - 9223372036854775808) = at_ + 1 := by omega
   clear hc
   go_enter Tryd.func86, Tryd.ntmps86
   go_wp2_with (first
    | ((with_reducible refine gate_dst (N := 2) rfl ?_); refine box_event ?hg (N := 2) ?hd (cs := #[.int .i64 0, .int .i64 0, .string ⟨#[]⟩]) (t := 50) ?hr ?_; (case hd => rfl); (case hg => rfl); (case hr => first | (go_simp; done) | (go_simp; rfl)); intro gb hg w1 hbox hb; have W0 := (Went.refl w g).more hb; have hr1 := hr.more hb; have hc1 := hr1.c1; have hf1 := hr1.f1; have HR2 := Aside0.mk (hr1.set (at_ + 1)); have W2 := Aside0.mk (W0.set 1 (.int .i64 (at_ + 1))); have HG := Aside0.mk (show gb ≠ g from fun e => by have := blk_lt hr; omega); have HGE := Aside0.mk (show w.heap.size ≤ gb by omega); have HX := Aside0.mk (blk_far hbox (p := ⟨g, 1, none⟩) HG.out (.int .i64 (at_ + 1))); clear hb hbox W0 hg)
    | (go_at_call 92; refine (HN.out _ HR2.out).mono ?_; rintro e w2 ⟨rfl, hr3, W3⟩; have HR3 := Aside0.mk hr3; have W4 := Aside0.mk (W2.out.trans W3); have hc1_ := hr3.c1; have hx := W3.keep.blk HX.out HG.out (by simp); have hx0 : w2.cell? ⟨gb, 0, none⟩ = some (.int .i64 0) := (blk_cell hx 0).trans rfl; have hx1 : w2.cell? ⟨gb, 1, none⟩ = some (.int .i64 0) := (blk_cell hx 1).trans rfl; have hx2 : w2.cell? ⟨gb, 2, none⟩ = some (.string ⟨#[]⟩) := (blk_cell hx 2).trans rfl; have fx0 := blk_frozen hx 0; have fx1 := blk_frozen hx 1; have fx2 := blk_frozen hx 2; have HX2 := Aside0.mk hx; clear W2 HX HR2 hr3 W3 hx)
    | (go_at_call 89; refine (stop_calls _ _ _ _).mono ?_; rintro e w3 ⟨rfl, rfl⟩))
   exact ⟨rfl, by simp [fault]; try omega, W4.out⟩
 ·have hsp : rdBool s at_ = .inl (s.size, 99) := if_neg h
  rw [hsp]
  clear hsp
  have HN := Aside0.mk (fun w1 (hr1 : RdAt w1 g s (at_ + 1)) => need_end g s (at_ + 1) w1 hr1 (by omega))
  go_enter Tryd.func86, Tryd.ntmps86
  go_wp2_with (first
   | ((with_reducible refine gate_dst (N := 2) rfl ?_); refine box_event ?hg (N := 2) ?hd (cs := #[.int .i64 0, .int .i64 0, .string ⟨#[]⟩]) (t := 50) ?hr ?_; (case hd => rfl); (case hg => rfl); (case hr => first | (go_simp; done) | (go_simp; rfl)); intro gb hg w1 hbox hb; have W0 := (Went.refl w g).more hb; have hr1 := hr.more hb; have hc1 := hr1.c1; have hf1 := hr1.f1; have HR2 := Aside0.mk (hr1.set (at_ + 1)); have W2 := Aside0.mk (W0.set 1 (.int .i64 (at_ + 1))); have HG := Aside0.mk (show gb ≠ g from fun e => by have := blk_lt hr; omega); have HGE := Aside0.mk (show w.heap.size ≤ gb by omega); have HX := Aside0.mk (blk_far hbox (p := ⟨g, 1, none⟩) HG.out (.int .i64 (at_ + 1))); clear hb hbox W0 hg)
   | (go_at_call 92; refine (HN.out _ HR2.out).mono ?_; rintro e w2 ⟨rfl, W3⟩; have W4 := Aside0.mk (W2.out.trans W3); clear W2 HX HR2 W3))
  exact ⟨rfl, rfl, W4.out⟩

def tell (n b : Int) : Int := n * 10 ^ (3 - b).toNat
theorem tell_step (n b : Int) (h : b < 3) : tell (n * 10) (b + 1) = tell n b := by
 unfold tell
 rw [show (3 - b).toNat = (3 - (b + 1)).toNat + 1 by omega, Int.pow_succ, Int.mul_assoc, Int.mul_comm (10 : Int)]
theorem tell_end (n b : Int) (h : ¬ b < 3) : tell n b = n := by
 unfold tell
 rw [show (3 - b).toNat = 0 by omega, Int.pow_zero, Int.mul_one]
def rdTold (at_ n dot behind : Int) : RR := if dot < 0 then .inr ((1, n, ⟨#[]⟩), at_) else if behind = 0 then .inl (at_, 92) else .inr ((2, tell n behind, ⟨#[]⟩), at_)
theorem told_calls (g : Nat) (s : ByteArray) (at_ n dot behind : Int) (w : World) (hr : RdAt w g s at_) (hb0 : 0 ≤ behind) (hb3 : behind ≤ 3) (hn : -1000000000000000 ≤ n ∧ n ≤ 1000000000000000) :
  Calls Tryd.prog 91 #[.pointer (some ⟨g, 0, none⟩), .int .i64 n, .int .i64 dot, .int .i64 behind] w fun x w' => Gives x w w' g s (rdTold at_ n dot behind) := by
 unfold rdTold
 by_cases hd : dot < 0
 ·rw [if_pos hd]
  go_enter Tryd.func91, Tryd.ntmps91
  go_wp2_with (first
   | ((with_reducible refine gate_dst (N := 8) rfl ?_); refine box_event ?hg (N := 8) ?hd (cs := #[.int .i64 0, .int .i64 0, .string ⟨#[]⟩]) (t := 50) ?hr ?_; (case hd => rfl); (case hg => rfl); (case hr => first | (go_simp; done) | (go_simp; rfl)); intro gb hg w1 hbox hb; have W0 := (Went.refl w g).more hb; have hr1 := hr.more hb; have hc1 := hr1.c1; have hf1 := hr1.f1; have W4 := Aside0.mk W0; have HR3 := Aside0.mk hr1; have HG := Aside0.mk (show gb ≠ g from fun e => by have := blk_lt hr; omega); have HGE := Aside0.mk (show w.heap.size ≤ gb by omega); have hx0 : w1.cell? ⟨gb, 0, none⟩ = some (.int .i64 0) := (blk_cell hbox 0).trans rfl; have hx1 : w1.cell? ⟨gb, 1, none⟩ = some (.int .i64 0) := (blk_cell hbox 1).trans rfl; have hx2 : w1.cell? ⟨gb, 2, none⟩ = some (.string ⟨#[]⟩) := (blk_cell hbox 2).trans rfl; have fx0 := blk_frozen hbox 0; have fx1 := blk_frozen hbox 1; have fx2 := blk_frozen hbox 2; clear hb hbox W0 hg))
  refine bodyPost_ret (v := bareV (1, n, ⟨#[]⟩)) (by simp [results, Tryd.results91, go_sem, bareV, hx0, hx1, hx2]; try rfl) rfl ?_
  exact ⟨rfl, HR3.out.far3 HG.out _ _ _, W4.out.far3 HGE.out _ _ _⟩
 ·rw [if_neg hd]
  by_cases hz : behind = 0
  ·rw [if_pos hz]
   subst hz
   go_enter Tryd.func91, Tryd.ntmps91
   go_wp2_with (first
    | ((with_reducible refine gate_dst (N := 8) rfl ?_); refine box_event ?hg (N := 8) ?hd (cs := #[.int .i64 0, .int .i64 0, .string ⟨#[]⟩]) (t := 50) ?hr ?_; (case hd => rfl); (case hg => rfl); (case hr => first | (go_simp; done) | (go_simp; rfl)); intro gb hg w1 hbox hb; have W0 := (Went.refl w g).more hb; have hr1 := hr.more hb; have hc1 := hr1.c1; have hf1 := hr1.f1; have W4 := Aside0.mk W0; have HR3 := Aside0.mk hr1; have HG := Aside0.mk (show gb ≠ g from fun e => by have := blk_lt hr; omega); have HGE := Aside0.mk (show w.heap.size ≤ gb by omega); have hx0 : w1.cell? ⟨gb, 0, none⟩ = some (.int .i64 0) := (blk_cell hbox 0).trans rfl; have hx1 : w1.cell? ⟨gb, 1, none⟩ = some (.int .i64 0) := (blk_cell hbox 1).trans rfl; have hx2 : w1.cell? ⟨gb, 2, none⟩ = some (.string ⟨#[]⟩) := (blk_cell hbox 2).trans rfl; have fx0 := blk_frozen hbox 0; have fx1 := blk_frozen hbox 1; have fx2 := blk_frozen hbox 2; clear hb hbox W0 hg)
    | (go_at_call 89; refine (stop_calls _ _ _ _).mono ?_; rintro e w3 ⟨rfl, rfl⟩))
   exact ⟨rfl, rfl, W4.out⟩
  ·rw [if_neg hz]
   have hz2 : (behind == 0) = false := by simpa using hz
   have HT := Aside0.mk (rfl : tell n behind = tell n behind)
   go_enter Tryd.func91, Tryd.ntmps91
   go_wp2_with (first
    | ((with_reducible refine gate_dst (N := 8) rfl ?_); refine box_event ?hg (N := 8) ?hd (cs := #[.int .i64 0, .int .i64 0, .string ⟨#[]⟩]) (t := 50) ?hr ?_; (case hd => rfl); (case hg => rfl); (case hr => first | (go_simp; done) | (go_simp; rfl)); intro gb hg w1 hbox hb; have W0 := (Went.refl w g).more hb; have hr1 := hr.more hb; have hc1 := hr1.c1; have hf1 := hr1.f1; have W4 := Aside0.mk W0; have HR3 := Aside0.mk hr1; have HG := Aside0.mk (show gb ≠ g from fun e => by have := blk_lt hr; omega); have HGE := Aside0.mk (show w.heap.size ≤ gb by omega); have hx0 : w1.cell? ⟨gb, 0, none⟩ = some (.int .i64 0) := (blk_cell hbox 0).trans rfl; have hx1 : w1.cell? ⟨gb, 1, none⟩ = some (.int .i64 0) := (blk_cell hbox 1).trans rfl; have hx2 : w1.cell? ⟨gb, 2, none⟩ = some (.string ⟨#[]⟩) := (blk_cell hbox 2).trans rfl; have fx0 := blk_frozen hbox 0; have fx1 := blk_frozen hbox 1; have fx2 := blk_frozen hbox 2; clear hb hbox W0 hg))
   go_loopw [1, 3] (fun v1 v3 wr => ∃ m b : Int, v1 = .int .i64 m ∧ v3 = .int .i64 b ∧ Aside0 (tell m b = tell n behind) ∧ 0 ≤ b ∧ b ≤ 3 ∧ (b = 0 → -1000000000000000 ≤ m ∧ m ≤ 1000000000000000) ∧ (b = 1 → -10000000000000000 ≤ m ∧ m ≤ 10000000000000000) ∧ (b = 2 → -100000000000000000 ≤ m ∧ m ≤ 100000000000000000) ∧ wr = w1) (fun _ v3 _ => (3 - intOf v3).toNat)
   case atStart => exact ⟨n, behind, rfl, rfl, ⟨rfl⟩, hb0, hb3, by omega, by omega, by omega, rfl⟩
   case round =>
    obtain ⟨m, b, rfl, rfl, HT, hb0, hb3, m0, m1, m2, rfl⟩ := hrel
    by_cases hlt : b < 3
    ·have HT2 := Aside0.mk ((tell_step m b hlt).trans HT.out)
     have hw1 : ((m * 10 + 9223372036854775808) % 18446744073709551616 - 9223372036854775808) = m * 10 := by omega
     go_wp2
     exact ⟨⟨m * 10, b + 1, by first | rfl | go_num, by first | rfl | go_num, HT2, by omega, by omega, by omega, by omega, by omega, by first | rfl | trivial⟩, by simp [intOf]; omega⟩
    ·have HM := Aside0.mk ((tell_end m b hlt).symm.trans HT.out : m = tell n behind)
     go_wp2
     refine bodyPost_ret (v := bareV (2, m, ⟨#[]⟩)) (by simp [results, Tryd.results91, go_sem, bareV, hx0, hx1, hx2]; try rfl) rfl ?_
     exact ⟨by rw [HM.out], HR3.out.far3 HG.out _ _ _, W4.out.far3 HGE.out _ _ _⟩
theorem catch_idle (p0 p1 p2 : Value) (w : World) :
  CallsD Tryd.prog 79 #[p0, p1, p2] .returning w fun e u' w' => e = .returned (.tuple #[]) ∧ u' = .returning ∧ w' = w := by
 refine callsD_of_wpS Tryd.func79 rfl fun c₀ cs hu => ?_
 apply wpS_seq
 apply wpS_region
 simp [wpOpsS, go_sem, recoverD, hu, Tryd.ntmps79, Exit.thenS]
 apply wpS_seq
 apply wpS_region
 simp [wpOpsS, go_sem, Exit.thenS]
 refine wpS_cond (t := false) (by simp [Act.eval, Array.replicate]) ?_
 simp only [Bool.false_eq_true, if_false]
 refine wpS_of_wp (wp_skip ?_)
 cases c₀
 simp_all [bodyPostS, results, Tryd.results79]
end Go.Proofs.YtclkclcacnpmbaaDoorW.PrintWords
