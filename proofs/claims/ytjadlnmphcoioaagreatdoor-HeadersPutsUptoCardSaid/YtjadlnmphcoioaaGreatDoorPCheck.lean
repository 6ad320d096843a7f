/- What headers.Check computes; a list is the same as itself. -/
import Derived.Test.YtjadlnmphcoioaaGreatDoorPHeadA
import Derived.Test.YtjadlnmphcoioaaGreatDoorX4
import Derived.Test.YtjadlnmphcoioaaGreatDoorX10
namespace Go.Proofs.YtjadlnmphcoioaaGreatDoor.Pure
open Go.RowKit Go.Proofs.YtjadlnmphcoioaaGreatDoor.X Go.Proofs.YtjadlnmphcoioaaGreatDoorW.PrintWords Go.Proofs.YtjadlnmphcoioaaGreatDoorW.PrintLast Go.Proofs.YtjadlnmphcoioaaGreatDoorW.PrintMore

def Small (h : Hd) : Prop := h.f0.size ≤ 1048576 ∧ h.f1.size ≤ 1048576
def ok1 (h : Hd) : Prop := oneOf h.f0 h.f1 = 0
theorem rd_at (l : List Hd) (i : Nat) (hi : i < l.length) : rd_T72 l (i : Int) = l[i]'hi := by
 unfold rd_T72
 rw [Int.toNat_natCast, List.getD_eq_getElem?_getD, List.getElem?_eq_getElem hi]
 rfl

/-! Check -/
/-! the same list -/
theorem sameh_l0 (l : List Hd) (hn : l.length ≤ 1048576) (d : Nat) : ∀ (i : Nat), i + d = l.length → Ev (fun k => pergolaplain_SameHeaders.l0 k l l (i : Int)) true := by
 induction d with
 | zero =>
  intro i hi
  refine Ev.step (f := fun _ => some true) (fun k => ?_) (Ev.now _)
  rw [pergolaplain_SameHeaders.l0, if_neg (by omega)]
 | succ d ih =>
  intro i hi
  have hw : wrap64 ((i : Int) + 1) = ((i + 1 : Nat) : Int) := by unfold wrap64; omega
  refine Ev.step (fun k => ?_) (ih (i + 1) (by omega))
  rw [pergolaplain_SameHeaders.l0, if_pos (by omega), if_pos (by omega), if_pos (by omega), if_neg (by simp), hw]
theorem sameh_f (l : List Hd) (hn : l.length ≤ 1048576) : Ev (fun k => pergolaplain_SameHeaders.f k l l) true :=
 Ev.congr (fun k => by rw [pergolaplain_SameHeaders.f, if_pos rfl]; rfl) (sameh_l0 l hn l.length 0 (by omega))
end Go.Proofs.YtjadlnmphcoioaaGreatDoor.Pure
