/- Where a run of bytes ends (tokE), a text with a byte behind it, and a token's own check (carved out of XPKeyEnd). -/
import Derived.Test.YtkbmbancfbfddaaGreatDoorX2
import Derived.Test.YtkbmbancfbfddaaGreatDoorX6
import Derived.Test.YtkbmbancfbfddaaGreatDoorPBase
namespace Go.Proofs.YtkbmbancfbfddaaGreatDoor.Pure
open Go.RowKit Go.Proofs.YtkbmbancfbfddaaGreatDoor.X Go.Proofs.YtkbmbancfbfddaaGreatDoorW.PrintWords Go.Proofs.YtkbmbancfbfddaaGreatDoorW.PrintLast Go.Proofs.YtkbmbancfbfddaaGreatDoorW.PrintMore

theorem ev_pos {α : Type} {c : Prop} [Decidable c] (h : c) {f g : Nat → Option α} {r : α} (hf : Ev f r) : Ev (fun k => if c then f k else g k) r := Ev.congr (fun _ => if_pos h) hf
theorem ev_neg {α : Type} {c : Prop} [Decidable c] (h : ¬ c) {f g : Nat → Option α} {r : α} (hf : Ev g r) : Ev (fun k => if c then f k else g k) r := Ev.congr (fun _ => if_neg h) hf
theorem tokE_to {T : Int → Bool} {s : ByteArray} {n : Int} (hn : n ≤ (s.size : Int)) (hT : ∀ i, 0 ≤ i → i < n → T (bt s i) = true) (hs : n < (s.size : Int) → T (bt s n) = false) : ∀ (d : Nat) (a : Int), 0 ≤ a → a + d = n → tokE T s a = n := by
 intro d
 induction d with
 | zero =>
  intro a h0 ha
  have : a = n := by omega
  subst this
  exact tokE_stop fun h => by rw [hs h.1] at h; exact absurd h.2 (by decide)
 | succ d ih =>
  intro a h0 ha
  rw [tokE_step (by omega) (hT a h0 (by omega))]
  exact ih (a + 1) (by omega) (by omega)
theorem tokE_spec (T : Int → Bool) (s : ByteArray) : ∀ (d : Nat) (a : Int), 0 ≤ a → a + d = (s.size : Int) → a ≤ tokE T s a ∧ tokE T s a ≤ (s.size : Int) ∧ (∀ i, a ≤ i → i < tokE T s a → T (bt s i) = true) := by
 intro d
 induction d with
 | zero =>
  intro a h0 ha
  rw [tokE_stop (fun h => by omega)]
  exact ⟨by omega, by omega, fun i h1 h2 => by omega⟩
 | succ d ih =>
  intro a h0 ha
  by_cases hT : T (bt s a) = true
  ·rw [tokE_step (by omega) hT]
   obtain ⟨h1, h2, h3⟩ := ih (a + 1) (by omega) (by omega)
   refine ⟨by omega, h2, fun i hi hlt => ?_⟩
   by_cases he : i = a
   ·rw [he]; exact hT
   ·exact h3 i (by omega) hlt
  ·rw [tokE_stop (fun h => hT h.2)]
   exact ⟨by omega, by omega, fun i h1 h2 => by omega⟩
theorem bytesOf_append (s t : ByteArray) : bytesOf (s ++ t) = bytesOf s ++ bytesOf t := by
 unfold bytesOf
 simp [ByteArray.data_append]
theorem byte_of (s : ByteArray) (i : Int) : 0 ≤ bt s i ∧ bt s i < 256 := ⟨(bt_range s i).1, by have := (bt_range s i).2; omega⟩
/-! tokens -/
theorem inTok_f {c : Int} (h : 0 ≤ c ∧ c < 256) : bare_inToken.f c = some (inTok c) := if_pos h
theorem tok_l0 (s : ByteArray) (hs : s.size ≤ 140737488355328) (d : Nat) : ∀ (j : Nat), j + d = s.size → Ev (fun k => bare_IsToken.l0 k s (s.size : Int) (j : Int)) (decide (tokE inTok s (j : Int) = (s.size : Int))) := by
 induction d with
 | zero =>
  intro j hj
  refine Ev.step (f := fun _ => some true) (fun k => ?_) ?_
  ·rw [bare_IsToken.l0, if_neg (by omega)]
  ·rw [tokE_stop (fun h => by omega), show decide ((j : Int) = (s.size : Int)) = true from decide_eq_true (by omega)]
   exact Ev.now _
 | succ d ih =>
  intro j hj
  have hw : wrap64 ((j : Int) + 1) = ((j + 1 : Nat) : Int) := by unfold wrap64; omega
  refine Ev.step (f := fun k => if inTok (bt s (j : Int)) = true then bare_IsToken.l0 k s (s.size : Int) ((j + 1 : Nat) : Int) else some false) (fun k => ?_) ?_
  ·rw [bare_IsToken.l0, if_pos (by omega), if_pos (by omega), if_pos (by omega), inTok_f (byte_of s _), Option.bind_some, hw]
  ·by_cases hT : inTok (bt s (j : Int)) = true
   ·rw [tokE_step (by omega) hT]
    exact ev_pos hT (ih (j + 1) (by omega))
   ·rw [tokE_stop (fun h => hT h.2), show decide ((j : Int) = (s.size : Int)) = false from decide_eq_false (by omega)]
    exact ev_neg hT (Ev.now _)
theorem letB_c {c : Int} (h : 0 ≤ c ∧ c < 256) : bare_letter.f c = some (letB c) := by
 have := letB_f c.toNat (by omega)
 rwa [show ((c.toNat : Nat) : Int) = c by omega] at this
def istok (s : ByteArray) : Bool := decide (s.size ≠ 0) && letB (bt s 0) && decide (tokE inTok s 0 = (s.size : Int))
theorem empty_iff (s : ByteArray) : s.toList = ([] : List UInt8) ↔ s.size = 0 := by
 rw [toList_data]
 constructor
 ·intro h
  have := Lib.size_eq s
  rw [h] at this
  simpa using this
 ·intro h
  exact List.eq_nil_of_length_eq_zero (by rw [Array.length_toList]; exact h)
theorem istok_f (s : ByteArray) (hs : s.size ≤ 140737488355328) : Ev (fun k => bare_IsToken.f k s) (istok s) := by
 unfold istok
 by_cases h0 : s.size = 0
 ·rw [show decide (s.size ≠ 0) = false from decide_eq_false (fun h => h h0)]
  refine Ev.congr (fun k => ?_ : ∀ k, bare_IsToken.f k s = bare_IsToken.j0 k s true) ?_
  ·unfold bare_IsToken.f
   rw [if_pos ((empty_iff s).2 h0)]
  ·refine Ev.step (f := fun _ => some false) (fun k => ?_) (Ev.now _)
   rw [bare_IsToken.j0, if_pos rfl]
 ·rw [show decide (s.size ≠ 0) = true from decide_eq_true h0, Bool.true_and]
  refine Ev.congr (fun k => ?_ : ∀ k, bare_IsToken.f k s = bare_IsToken.j0 k s (!letB (bt s 0))) ?_
  ·unfold bare_IsToken.f
   rw [if_neg (fun h => h0 ((empty_iff s).1 h)), if_pos (by omega), letB_c (byte_of s 0), Option.bind_some]
  ·cases hl : letB (bt s 0) with
   | false =>
    refine Ev.step (f := fun _ => some false) (fun k => ?_) (Ev.now _)
    rw [bare_IsToken.j0, if_pos (show (!false) = true from rfl)]
   | true =>
    refine Ev.step (f := fun k => bare_IsToken.l0 k s (s.size : Int) 0) (fun k => ?_) ?_
    ·rw [bare_IsToken.j0, if_neg (show ¬ (!true) = true by decide)]
    ·rw [Bool.true_and]
     exact tok_l0 s hs s.size 0 (by omega)
theorem let_not {c : Int} (h : 0 ≤ c ∧ c < 256) : letB c = true → dig c = false ∧ c ≠ 45 ∧ c ≠ 34 :=
 byte_all (p := fun c => letB c = true → dig c = false ∧ c ≠ 45 ∧ c ≠ 34) (by decide +kernel) h
end Go.Proofs.YtkbmbancfbfddaaGreatDoor.Pure
