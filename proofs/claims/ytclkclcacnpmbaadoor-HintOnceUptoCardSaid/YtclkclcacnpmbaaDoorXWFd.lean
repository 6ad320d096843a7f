/- Layer 10's reader (fields): what its small methods do, by hand: fail, done, is, skip. -/
import Derived.Test.YtclkclcacnpmbaaDoorXWRead
import Derived.StillTailTactics
namespace Go.Proofs.YtclkclcacnpmbaaDoorW.PrintWords
open Go.RowKit

def wrongF (e at_ : Int) : List PanicEntry := [{ v := .iface 97 (.agg #[.int .i64 e, .int .i64 at_]), recovered := false }]
def FdAt (w : World) (g : Nat) (s : ByteArray) (at_ : Int) : Prop := w.heap[g]? = some (.cells #[.string s, .int .i64 at_] 77 (0, 0))
namespace FdAt
variable {w : World} {g : Nat} {s : ByteArray} {at_ : Int}
theorem c0 (h : FdAt w g s at_) : w.cell? ⟨g, 0, none⟩ = some (.string s) := (blk_cell h 0).trans rfl
theorem c1 (h : FdAt w g s at_) : w.cell? ⟨g, 1, none⟩ = some (.int .i64 at_) := (blk_cell h 1).trans rfl
theorem f1 (h : FdAt w g s at_) : w.frozen? ⟨g, 1, none⟩ = false := blk_frozen h 1
theorem set (h : FdAt w g s at_) (n : Int) : FdAt (w.setCell ⟨g, 1, none⟩ (.int .i64 n)) g s n := blk_set h 1 _
theorem more {w1 : World} (h : FdAt w g s at_) (hb : Below w.heap.size w w1) : FdAt w1 g s at_ := blk_below h hb
theorem lt (h : FdAt w g s at_) : g < w.heap.size := blk_lt h
theorem pos (h : FdAt w g s at_) : posOf w g = at_ := by unfold posOf; rw [h.c1]
theorem drewN (h : FdAt w g s at_) (n : Nat) : FdAt (w.drewN n) g s at_ := h
theorem drew (h : FdAt w g s at_) : FdAt w.drew g s at_ := h
end FdAt
theorem fail_calls (p : Value) (e at_ : Int) (w : World) :
  Calls Tryd.prog 32 #[p, .int .i64 e, .int .i64 at_] w fun x w' => x = .panicked (wrongF e at_) ∧ w' = w := by
 go_enter Tryd.func32, Tryd.ntmps32
 go_wp2
 exact ⟨rfl, rfl, rfl⟩
theorem done_calls (g : Nat) (s : ByteArray) (at_ : Int) (w : World) (hr : FdAt w g s at_) :
  Calls Tryd.prog 51 #[.pointer (some ⟨g, 0, none⟩)] w fun x w' => x = .returned (.bool (decide (at_ = (s.size : Int)))) ∧ Drawn0 w w' := by
 have h0 := hr.c0
 have h1 := hr.c1
 go_enter Tryd.func51, Tryd.ntmps51
 go_wp2
 go_quiet (fail)
 go_wp2
 go_ret
 exact ⟨by first | rfl | (simp; done) | (congr 2; exact Bool.eq_iff_iff.2 (by simp)), ⟨⟨_, rfl⟩⟩⟩
theorem done_quiet {g : Nat} {s : ByteArray} {a : Int} {w : World} (hr : FdAt w g s a) (b : Bool) (h : decide (a = (s.size : Int)) = b) (n : Nat) :
  Calls Tryd.prog 51 #[.pointer (some ⟨g, 0, none⟩)] (w.drewN n) fun x w' => x = .returned (.bool b) ∧ ∃ m, w' = w.drewN m := by
 have HE := done_calls g s a (w.drewN n) (hr.drewN n)
 rw [h] at HE
 exact Calls.quiet_of (HE.mono fun _ _ ⟨he, ⟨h⟩⟩ => ⟨he, h⟩)
def isB (s : ByteArray) (a c : Int) : Bool := decide (a < (s.size : Int)) && (bt s a == c)
set_option maxHeartbeats 2000000 in
theorem is_calls (g : Nat) (s : ByteArray) (a c : Int) (w : World) (hr : FdAt w g s a) (h0 : 0 ≤ a) (h1 : a ≤ (s.size : Int)) :
  Calls Tryd.prog 53 #[.pointer (some ⟨g, 0, none⟩), .int .u8 c] w fun x w' => x = .returned (.bool (isB s a c)) ∧ Drawn0 w w' := by
 have q0 := hr.c0
 have q1 := hr.c1
 by_cases hlt : a < (s.size : Int)
 ·have hb := bt_at s a (by omega)
  have hi : 0 ≤ a ∧ a < (s.size : Int) := ⟨h0, hlt⟩
  have HD := Aside0.mk (done_quiet hr false (decide_eq_false (by omega)))
  unfold isB
  rw [decide_eq_true hlt, Bool.true_and]
  generalize bt s a = x at *
  clear hr
  go_enter Tryd.func53, Tryd.ntmps53
  go_wp2
  go_quiet (first | (go_at_call 51; exact HD.out _))
  go_wp2
  go_ret
  exact ⟨by first | rfl | (simp; done), ⟨⟨_, rfl⟩⟩⟩
 ·have HD := Aside0.mk (done_quiet hr true (decide_eq_true (by omega)))
  unfold isB
  rw [decide_eq_false hlt, Bool.false_and]
  clear hr
  go_enter Tryd.func53, Tryd.ntmps53
  go_wp2
  go_quiet (first | (go_at_call 51; exact HD.out _))
  go_wp2
  go_ret
  exact ⟨by first | rfl | (simp; done), ⟨⟨_, rfl⟩⟩⟩
def inSet (IX : ByteArray → Int → Int) (B : ByteArray) (c : Int) : Bool := decide (0 ≤ IX B c)
set_option maxHeartbeats 4000000 in
set_option maxRecDepth 100000 in
theorem skip_calls (IX : ByteArray → Int → Int) (HI : ∀ (a : ByteArray) (c : Int) (w : World), 0 ≤ c → c < 256 → Calls Tryd.prog 66 #[.string a, .int .u8 c] w fun x w' => x = .returned (.int .i64 (IX a c)) ∧ Drawn0 w w')
  (B : ByteArray) (g : Nat) (s : ByteArray) (at_ : Int) (w : World) (hr : FdAt w g s at_) (h0 : 0 ≤ at_) (h1 : at_ ≤ (s.size : Int)) (hs : s.size ≤ 9223372036854775806) :
  Calls Tryd.prog 50 #[.pointer (some ⟨g, 0, none⟩), .string B] w fun x w' => x = .returned (.tuple #[]) ∧ FdAt w' g s (tokE (inSet IX B) s at_) ∧ Went w w' g := by
 obtain ⟨E, hE⟩ : ∃ E, tokE (inSet IX B) s at_ = E := ⟨_, rfl⟩
 rw [hE]
 have HIQ : ∀ (a : Int) (w : World) (n : Nat), Calls Tryd.prog 66 #[.string B, .int .u8 (bt s a)] (w.drewN n) fun x w' => x = .returned (.int .i64 (IX B (bt s a))) ∧ ∃ m, w' = w.drewN m := fun a w n => Calls.quiet_of ((HI B (bt s a) (w.drewN n) (bt_range s a).1 (by have := (bt_range s a).2; omega)).mono fun _ _ ⟨he, ⟨h⟩⟩ => ⟨he, h⟩)
 have HIQ' := Aside0.mk HIQ
 have W0 := Aside0.mk (Went.refl w g)
 have HR0 := Aside0.mk hr
 clear HIQ HI hr
 go_enter Tryd.func50, Tryd.ntmps50
 go_wp2
 go_loopw [] (fun wr => ∃ a : Int, FdAt wr g s a ∧ Aside0 (Went w wr g) ∧ at_ ≤ a ∧ a ≤ (s.size : Int) ∧ Aside0 (tokE (inSet IX B) s a = E)) (fun wr => ((s.size : Int) - posOf wr g).toNat)
 case atStart => exact ⟨at_, HR0.out, W0, by omega, by omega, ⟨hE⟩⟩
 case round =>
  obtain ⟨a, hr2, HW, ha0, ha1, HE⟩ := hrel
  have HR := Aside0.mk hr2
  have q0 := hr2.c0
  have q1 := hr2.c1
  have f1 := hr2.f1
  by_cases hlt : a < (s.size : Int)
  ·have HQ := Aside0.mk (done_quiet hr2 false (decide_eq_false (by omega)))
   have hi : 0 ≤ a ∧ a < (s.size : Int) := ⟨by omega, hlt⟩
   have hb := bt_at s a (by omega)
   have HQT := Aside0.mk (fun n => HIQ'.out a wr n)
   have hst := fun h : inSet IX B (bt s a) = true => tokE_step hlt h
   have hsp := fun h : ¬ inSet IX B (bt s a) = true => tokE_stop (T := inSet IX B) (s := s) (a := a) fun k => h k.2
   unfold inSet at hst hsp
   generalize IX B (bt s a) = ix at *
   by_cases hT : 0 ≤ ix
   ·have HE2 := Aside0.mk ((hst (decide_eq_true hT)).symm.trans HE.out)
    clear hr2 HIQ' HE hst hsp
    go_wp2
    go_quiet (first | (go_at_call 51; exact HQ.out _) | (go_at_call 66; exact HQT.out _))
    go_wp2
    exact ⟨⟨a + 1, (HR.out.drewN nq).set _, ⟨(HW.out.drewN nq).set _ _⟩, by omega, by omega, HE2⟩, by rw [HR.out.pos, ((HR.out.drewN nq).set (a + 1)).pos]; omega⟩
   ·have HE2 : a = E := (hsp (by simpa using hT)).symm.trans HE.out
    subst HE2
    clear hr2 HIQ' HE hst hsp
    go_wp2
    go_quiet (first | (go_at_call 51; exact HQ.out _) | (go_at_call 66; exact HQT.out _))
    go_wp2
    go_end0
    exact ⟨rfl, HR.out.drewN nq, HW.out.drewN nq⟩
  ·have HQ := Aside0.mk (done_quiet hr2 true (decide_eq_true (by omega)))
   have HE2 : a = E := (tokE_stop fun h => hlt h.1).symm.trans HE.out
   subst HE2
   clear hr2 HIQ' HE
   go_wp2
   go_quiet (first | (go_at_call 51; exact HQ.out _))
   go_wp2
   go_end0
   exact ⟨rfl, HR.out.drewN nq, HW.out.drewN nq⟩
end Go.Proofs.YtclkclcacnpmbaaDoorW.PrintWords
