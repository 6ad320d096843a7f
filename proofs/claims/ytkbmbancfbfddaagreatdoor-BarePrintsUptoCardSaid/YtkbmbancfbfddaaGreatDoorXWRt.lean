/- Layer 9's reader: its token, by hand. -/
import Derived.Test.YtkbmbancfbfddaaGreatDoorXWRd
import Derived.StillTailTactics
namespace Go.Proofs.YtkbmbancfbfddaaGreatDoorW.PrintWords
open Go.RowKit

def dig (c : Int) : Bool := decide (c ≥ 48) && decide (c ≤ 57)
theorem digit_calls (c : Int) (w : World) : Calls Tryz.prog 35 #[.int .u8 c] w fun x w' => x = .returned (.bool (dig c)) ∧ w' = w := by
 unfold dig
 by_cases h1 : c ≥ 48
 ·by_cases h2 : c ≤ 57
  all_goals (
   first | rw [decide_eq_true h1, decide_eq_true h2] | rw [decide_eq_true h1, decide_eq_false h2]
   have h3 : 48 ≤ c := h1
   go_enter Tryz.func35, Tryz.ntmps35
   go_wp2
   go_ret
   exact ⟨rfl, rfl⟩)
 ·rw [decide_eq_false h1]
  have h3 : ¬ 48 ≤ c := h1
  go_enter Tryz.func35, Tryz.ntmps35
  go_wp2
  go_ret
  exact ⟨rfl, rfl⟩

def tokEnd (T : Int → Bool) (s : ByteArray) : Nat → Int → Int
 | 0, a => a
 | k + 1, a => if a < (s.size : Int) ∧ T (bt s a) = true then tokEnd T s k (a + 1) else a
def tokE (T : Int → Bool) (s : ByteArray) (a : Int) : Int := tokEnd T s ((s.size : Int) - a).toNat a
theorem tokE_step {T : Int → Bool} {s : ByteArray} {a : Int} (h : a < (s.size : Int)) (hT : T (bt s a) = true) : tokE T s a = tokE T s (a + 1) := by
 unfold tokE
 rw [show ((s.size : Int) - a).toNat = ((s.size : Int) - (a + 1)).toNat + 1 by omega]
 exact if_pos ⟨h, hT⟩
theorem tokE_stop {T : Int → Bool} {s : ByteArray} {a : Int} (h : ¬ (a < (s.size : Int) ∧ T (bt s a) = true)) : tokE T s a = a := by
 unfold tokE
 cases ((s.size : Int) - a).toNat with
 | zero => rfl
 | succ k => exact if_neg h
theorem end_quiet {g : Nat} {s : ByteArray} {a : Int} {w : World} (hr : RdAt w g s a) (h : a < (s.size : Int)) (n : Nat) :
  Calls Tryz.prog 71 #[.pointer (some ⟨g, 0, none⟩)] (w.drewN n) fun x w' => x = .returned (.bool false) ∧ ∃ m, w' = w.drewN m := by
 have HE := end_calls g s a (w.drewN n) (hr.more (pw_below_drewN (Below.refl _ _) n))
 rw [show decide (a ≥ (s.size : Int)) = false from decide_eq_false (by omega)] at HE
 exact Calls.quiet_of (HE.mono fun _ _ ⟨he, ⟨h⟩⟩ => ⟨he, h⟩)
theorem end_quiet' {g : Nat} {s : ByteArray} {a : Int} {w : World} (hr : RdAt w g s a) (h : ¬ a < (s.size : Int)) (n : Nat) :
  Calls Tryz.prog 71 #[.pointer (some ⟨g, 0, none⟩)] (w.drewN n) fun x w' => x = .returned (.bool true) ∧ ∃ m, w' = w.drewN m := by
 have HE := end_calls g s a (w.drewN n) (hr.more (pw_below_drewN (Below.refl _ _) n))
 rw [show decide (a ≥ (s.size : Int)) = true from decide_eq_true (by omega)] at HE
 exact Calls.quiet_of (HE.mono fun _ _ ⟨he, ⟨h⟩⟩ => ⟨he, h⟩)
theorem digit_quiet {c : Int} {b : Bool} (h : dig c = b) (w : World) (n : Nat) :
  Calls Tryz.prog 35 #[.int .u8 c] (w.drewN n) fun x w' => x = .returned (.bool b) ∧ ∃ m, w' = w.drewN m :=
 Calls.quiet_of_same (by rw [← h]; exact digit_calls c _)
def posOf (w : World) (g : Nat) : Int := match w.cell? ⟨g, 1, none⟩ with | some (.int _ n) => n | _ => 0
theorem RdAt.pos {w : World} {g : Nat} {s : ByteArray} {a : Int} (h : RdAt w g s a) : posOf w g = a := by unfold posOf; rw [h.c1]

end Go.Proofs.YtkbmbancfbfddaaGreatDoorW.PrintWords
