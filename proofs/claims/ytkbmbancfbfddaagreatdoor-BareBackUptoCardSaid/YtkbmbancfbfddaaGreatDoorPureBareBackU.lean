/- BareBack: Read of Print is the item, to its end; what Read answers may be, and its Print is read as it again. -/
import Derived.Test.YtkbmbancfbfddaaGreatDoorX7
import Derived.Test.YtkbmbancfbfddaaGreatDoorPAlive
import Derived.Test.YtkbmbancfbfddaaGreatDoorPGood
import Derived.Test.YtkbmbancfbfddaaGreatDoorPRound
namespace Go.Proofs.YtkbmbancfbfddaaGreatDoor.Pure
open Go.RowKit Go.Proofs.YtkbmbancfbfddaaGreatDoor.X Go.Proofs.YtkbmbancfbfddaaGreatDoorW.PrintWords Go.Proofs.YtkbmbancfbfddaaGreatDoorW.PrintLast Go.Proofs.YtkbmbancfbfddaaGreatDoorW.PrintMore

theorem num_f (e : Int) : pergolalaw09_num.f e = some e := rfl
theorem alive_ev : Ev (fun k => pergolalaw09_alive.f k) true := Ev.of (fun k => pergolalaw09_alive.mono k) alive_20
theorem num_ev {β : Type} (e : Int) {g : Nat → Int → Option β} {r : β} (h : Ev (fun k => g k e) r) : Ev (fun k => (pergolalaw09_num.f e).bind (g k)) r := Ev.congr (fun k => by rw [num_f, Option.bind_some]) h
theorem ev_o {α β : Type} {o : Option α} {a : α} (ho : o = some a) {g : Nat → α → Option β} {r : β} (h : Ev (fun k => g k a) r) : Ev (fun k => o.bind (g k)) r := Ev.congr (fun k => by rw [ho, Option.bind_some]) h
theorem back_j0 (s : ByteArray) (at_ : Int) (hs : s.size ≤ 1048576) : Ev (fun k => pergolalaw09_BareBack.j0 k s at_) true := by
 obtain ⟨c0, c1, c2, i, e, hr, hbad, hok⟩ := read_good s at_ (by omega)
 refine Ev.step (fun k => pergolalaw09_BareBack.j0.eq_2 _ _ k) ?_
 refine ev_o hr (num_ev e ?_)
 by_cases he : e = 0
 ·obtain ⟨h1, h2, h3, h4⟩ := hok he
  refine ev_pos he ?_
  refine Ev.bind (print_ok c0 c1 c2 (by omega) h3) ?_
  refine ev_o (round_trip c0 c1 c2 (by omega) h3) ?_
  refine Ev.bind (check_f c0 c1 c2 (by omega)) ?_
  refine num_ev _ (ev_pos h3 ?_)
  refine num_ev _ (ev_pos rfl ?_)
  refine num_ev _ (ev_pos rfl ?_)
  refine ev_pos rfl (ev_pos (by simp) (ev_pos h1 ?_))
  rw [decide_eq_true h2]
  exact Ev.now _
 ·obtain ⟨rfl, rfl, rfl, hp⟩ := hbad he
  refine ev_neg he (ev_pos (by rw [toList_data]; rfl) ?_)
  by_cases h1 : at_ < 0
  ·exact ev_pos h1 (Ev.now _)
  refine ev_neg h1 ?_
  by_cases h2 : at_ > (s.size : Int)
  ·exact ev_pos h2 (Ev.now _)
  refine ev_neg h2 ?_
  obtain ⟨h3, h4⟩ := hp h1 h2
  refine ev_pos h3 ?_
  rw [decide_eq_true h4]
  exact Ev.now _
theorem BareBackU (a0 a1 : Int) (a2 s : ByteArray) (at_ : Int) (ha : a2.size ≤ 1048576) (hs : s.size ≤ 1048576) : ∃ k, pergolalaw09_BareBack.f k a0 a1 a2 s at_ = some true := by
 refine Ev.rounds ?_
 unfold pergolalaw09_BareBack.f
 refine Ev.bind alive_ev (ev_pos rfl ?_)
 by_cases h : CK a0 a1 a2 = 0
 ·refine Ev.bind (print_ok a0 a1 a2 (by omega) h) (num_ev _ (ev_pos rfl ?_))
  refine ev_o (round_trip a0 a1 a2 (by omega) h) (num_ev _ (ev_pos rfl ?_))
  exact ev_pos rfl (ev_neg (by simp) (back_j0 s at_ hs))
 ·refine Ev.bind (print_bad a0 a1 a2 (by omega) h) (num_ev _ (ev_neg h ?_))
  refine ev_pos (by rw [toList_data]) ?_
  refine Ev.bind (check_f a0 a1 a2 (by omega)) ?_
  exact ev_pos rfl (back_j0 s at_ hs)
end Go.Proofs.YtkbmbancfbfddaaGreatDoor.Pure
