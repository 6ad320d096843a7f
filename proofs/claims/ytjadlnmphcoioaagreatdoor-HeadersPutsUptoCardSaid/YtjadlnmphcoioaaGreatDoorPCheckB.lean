/- headers.Check and the page's answer the same. -/
import Derived.Test.YtjadlnmphcoioaaGreatDoorPCheck
import Derived.Test.YtjadlnmphcoioaaGreatDoorPROne
import Derived.Test.YtjadlnmphcoioaaGreatDoorX9
namespace Go.Proofs.YtjadlnmphcoioaaGreatDoor.Pure
open Go.RowKit Go.Proofs.YtjadlnmphcoioaaGreatDoor.X Go.Proofs.YtjadlnmphcoioaaGreatDoorW.PrintWords Go.Proofs.YtjadlnmphcoioaaGreatDoorW.PrintLast Go.Proofs.YtjadlnmphcoioaaGreatDoorW.PrintMore

/-! Check, by both -/
theorem check_both_l0 (l : List Hd) (hl : l.length ≤ 1048576) (hs : ∀ h ∈ l, Small h) (d : Nat) : ∀ (i : Nat), i + d = l.length →
  ∃ e at_ : Int, Ev (fun k => headers_Check.l0 k l (l.length : Int) (i : Int)) (e, at_) ∧ Ev (fun k => pergolaref11_Check.l0 k l (i : Int)) (e, at_) ∧ (e = 0 ↔ ∀ h ∈ l.drop i, ok1 h) := by
 induction d with
 | zero =>
  intro i hi
  refine ⟨0, 0, Ev.step (f := fun _ => some (0, 0)) (fun k => ?_) (Ev.now _), Ev.step (f := fun _ => some (0, 0)) (fun k => ?_) (Ev.now _), ?_⟩
  ·rw [headers_Check.l0, if_neg (by omega)]
  ·rw [pergolaref11_Check.l0, if_neg (by omega)]
  ·rw [List.drop_of_length_le (by omega)]
   simp
 | succ d ih =>
  intro i hi
  have hi' : i < l.length := by omega
  obtain ⟨h0, h1⟩ := hs _ (List.getElem_mem hi')
  have hw : wrap64 ((i : Int) + 1) = ((i + 1 : Nat) : Int) := by unfold wrap64; omega
  have e1 : ∀ k, headers_Check.l0 (k + 1) l (l.length : Int) (i : Int) = (headers_one.f k (l[i]'hi').f0 (l[i]'hi').f1).bind fun t => if t = 0 then headers_Check.l0 k l (l.length : Int) ((i + 1 : Nat) : Int) else some (t, (i : Int)) := fun k => by
   rw [headers_Check.l0, if_pos (by omega), if_pos (by omega), if_pos (by omega), rd_at l i hi', hw]
  have e2 : ∀ k, pergolaref11_Check.l0 (k + 1) l (i : Int) = (pergolaref11_one.f k (l[i]'hi').f0 (l[i]'hi').f1).bind fun t => if t = 0 then pergolaref11_Check.l0 k l ((i + 1 : Nat) : Int) else some (t, (i : Int)) := fun k => by
   rw [pergolaref11_Check.l0, if_pos (by omega), if_pos (by omega), rd_at l i hi', hw]
  have ho := one_f _ _ h0 h1
  have ho2 := rone_f _ _ h0 h1
  rw [List.drop_eq_getElem_cons hi']
  by_cases h : oneOf (l[i]'hi').f0 (l[i]'hi').f1 = 0
  ·obtain ⟨e, a, he, he2, hiff⟩ := ih (i + 1) (by omega)
   refine ⟨e, a, Ev.step e1 (Ev.bind ho (ev_pos h he)), Ev.step e2 (Ev.bind ho2 (ev_pos h he2)), ?_⟩
   rw [hiff]
   refine ⟨fun H x hx => ?_, fun H x hx => H x (List.mem_cons_of_mem _ hx)⟩
   rcases List.mem_cons.1 hx with rfl | h2
   ·exact h
   ·exact H x h2
  ·refine ⟨_, (i : Int), Ev.step e1 (Ev.bind ho (ev_not h (Ev.now _))), Ev.step e2 (Ev.bind ho2 (ev_not h (Ev.now _))), ?_⟩
   exact ⟨fun H => absurd H h, fun H => absurd (H _ (List.mem_cons_self ..)) h⟩
theorem check_both (l : List Hd) (hl : l.length ≤ 1048576) (hs : ∀ h ∈ l, Small h) :
  ∃ e at_ : Int, Ev (fun k => headers_Check.f k l) (e, at_) ∧ Ev (fun k => pergolaref11_Check.f k l) (e, at_) ∧ (e = 0 ↔ l.length ≤ 256 ∧ ∀ h ∈ l, ok1 h) := by
 by_cases h : (l.length : Int) > 256
 ·refine ⟨3, 0, Ev.congr (fun k => by rw [headers_Check.f, if_pos h]) (Ev.now _), Ev.congr (fun k => by rw [pergolaref11_Check.f, if_pos h]) (Ev.now _), ?_⟩
  exact ⟨fun H => by omega, fun H => by omega⟩
 ·obtain ⟨e, a, he, he2, hiff⟩ := check_both_l0 l hl hs l.length 0 (by omega)
  refine ⟨e, a, Ev.congr (fun k => by rw [headers_Check.f, if_neg h]; rfl) he, Ev.congr (fun k => by rw [pergolaref11_Check.f, if_neg h]; rfl) he2, ?_⟩
  rw [hiff, List.drop_zero]
  exact ⟨fun H => ⟨by omega, H⟩, fun H => H.2⟩
end Go.Proofs.YtjadlnmphcoioaaGreatDoor.Pure
