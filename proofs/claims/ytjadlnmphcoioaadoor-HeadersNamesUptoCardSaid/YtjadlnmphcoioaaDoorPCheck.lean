/- What headers.Check computes; a list is the same as itself. -/
import Derived.Test.YtjadlnmphcoioaaDoorPHead
import Derived.Test.YtjadlnmphcoioaaDoorX5
import Derived.Test.YtjadlnmphcoioaaDoorX2
namespace Go.Proofs.YtjadlnmphcoioaaDoor.Pure
open Go.RowKit Go.Proofs.YtjadlnmphcoioaaDoor.X Go.Proofs.YtjadlnmphcoioaaDoorW.PrintWords Go.Proofs.YtjadlnmphcoioaaDoorW.PrintLast Go.Proofs.YtjadlnmphcoioaaDoorW.PrintMore

def Small (h : Hd) : Prop := h.f0.size ≤ 1048576 ∧ h.f1.size ≤ 1048576
def ok1 (h : Hd) : Prop := oneOf h.f0 h.f1 = 0
theorem rd_at (l : List Hd) (i : Nat) (hi : i < l.length) : rd_T63 l (i : Int) = l[i]'hi := by
  unfold rd_T63
  rw [Int.toNat_natCast, List.getD_eq_getElem?_getD, List.getElem?_eq_getElem hi]
  rfl

/-! Check -/
theorem check_l0 (l : List Hd) (hl : l.length ≤ 1048576) (hs : ∀ h ∈ l, Small h) (d : Nat) : ∀ (i : Nat), i + d = l.length →
    ∃ e at_ : Int, Ev (fun k => headers_Check.l0 k l (l.length : Int) (i : Int)) (e, at_) ∧ (e = 0 ↔ ∀ h ∈ l.drop i, ok1 h) := by
  induction d with
  | zero =>
    intro i hi
    refine ⟨0, 0, Ev.step (f := fun _ => some (0, 0)) (fun k => ?_) (Ev.now _), ?_⟩
    · rw [headers_Check.l0, if_neg (by omega)]
    · rw [List.drop_of_length_le (by omega)]
      simp
  | succ d ih =>
    intro i hi
    have hi' : i < l.length := by omega
    obtain ⟨h0, h1⟩ := hs _ (List.getElem_mem hi')
    have hw : wrap64 ((i : Int) + 1) = ((i + 1 : Nat) : Int) := by unfold wrap64; omega
    have e1 : ∀ k, headers_Check.l0 (k + 1) l (l.length : Int) (i : Int) = (headers_one.f k (l[i]'hi').f0 (l[i]'hi').f1).bind fun t => if t = 0 then headers_Check.l0 k l (l.length : Int) ((i + 1 : Nat) : Int) else some (t, (i : Int)) := fun k => by
      rw [headers_Check.l0, if_pos (by omega), if_pos (by omega), if_pos (by omega), rd_at l i hi', hw]
    have ho := one_f _ _ h0 h1
    rw [List.drop_eq_getElem_cons hi']
    by_cases h : oneOf (l[i]'hi').f0 (l[i]'hi').f1 = 0
    · obtain ⟨e, a, he, hiff⟩ := ih (i + 1) (by omega)
      refine ⟨e, a, Ev.step e1 (Ev.bind ho (ev_pos h he)), ?_⟩
      rw [hiff]
      refine ⟨fun H x hx => ?_, fun H x hx => H x (List.mem_cons_of_mem _ hx)⟩
      rcases List.mem_cons.1 hx with rfl | h2
      · exact h
      · exact H x h2
    · refine ⟨_, (i : Int), Ev.step e1 (Ev.bind ho (Ev.congr (fun _ => if_neg h) (Ev.now _))), ?_⟩
      exact ⟨fun H => absurd H h, fun H => absurd (H _ (List.mem_cons_self ..)) h⟩
theorem check_f (l : List Hd) (hl : l.length ≤ 1048576) (hs : ∀ h ∈ l, Small h) :
    ∃ e at_ : Int, Ev (fun k => headers_Check.f k l) (e, at_) ∧ (e = 0 ↔ l.length ≤ 256 ∧ ∀ h ∈ l, ok1 h) := by
  by_cases h : (l.length : Int) > 256
  · refine ⟨3, 0, Ev.congr (fun k => ?_) (Ev.now _), ?_⟩
    · rw [headers_Check.f, if_pos h]
    · exact ⟨fun H => by omega, fun H => by omega⟩
  · obtain ⟨e, a, he, hiff⟩ := check_l0 l hl hs l.length 0 (by omega)
    refine ⟨e, a, Ev.congr (fun k => ?_) he, ?_⟩
    · rw [headers_Check.f, if_neg h]
      rfl
    · rw [hiff, List.drop_zero]
      exact ⟨fun H => ⟨by omega, H⟩, fun H => H.2⟩

/-! the same list -/
theorem sameh_l0 (l : List Hd) (hn : l.length ≤ 1048576) (d : Nat) : ∀ (i : Nat), i + d = l.length → Ev (fun k => pergolaplain_SameHeaders.l0 k l l (i : Int)) true := by
  induction d with
  | zero =>
    intro i hi
    refine Ev.step (f := fun _ => some true) (fun k => ?_) (Ev.now _)
    rw [pergolaplain_SameHeaders.l0, if_neg (by omega)]
  | succ d ih =>
    intro i hi
    have hw : wrap64 ((i : Int) + 1) = ((i + 1 : Nat) : Int) := by unfold wrap64; omega
    refine Ev.step (fun k => ?_) (ih (i + 1) (by omega))
    rw [pergolaplain_SameHeaders.l0, if_pos (by omega), if_pos (by omega), if_pos (by omega), if_neg (by simp), hw]
theorem sameh_f (l : List Hd) (hn : l.length ≤ 1048576) : Ev (fun k => pergolaplain_SameHeaders.f k l l) true :=
  Ev.congr (fun k => by rw [pergolaplain_SameHeaders.f, if_pos rfl]; rfl) (sameh_l0 l hn l.length 0 (by omega))
end Go.Proofs.YtjadlnmphcoioaaDoor.Pure
