/- BareKeys: a key is read whole, to where no key's byte comes; a token reads as itself. -/
import Derived.Test.YtkbmbancfbfddaaGreatDoorX7
import Derived.Test.YtkbmbancfbfddaaGreatDoorPAlive
import Derived.Test.YtkbmbancfbfddaaGreatDoorPKeyEnd
namespace Go.Proofs.YtkbmbancfbfddaaGreatDoor.Pure
open Go.RowKit Go.Proofs.YtkbmbancfbfddaaGreatDoor.X Go.Proofs.YtkbmbancfbfddaaGreatDoorW.PrintWords Go.Proofs.YtkbmbancfbfddaaGreatDoorW.PrintLast Go.Proofs.YtkbmbancfbfddaaGreatDoorW.PrintMore

theorem num_f (e : Int) : pergolalaw09_num.f e = some e := rfl
theorem alive_ev : Ev (fun k => pergolalaw09_alive.f k) true := Ev.of (fun k => pergolalaw09_alive.mono k) alive_20
theorem keys_j0 (s : ByteArray) (hs : s.size ≤ 140737488351232) : Ev (fun k => pergolalaw09_BareKeys.j0 k s) true := by
 refine Ev.step (f := fun k => (bare_IsToken.f k s).bind fun t => if t = true then (if s.size + 1 ≤ 9223372036854775807 then ((bare_Read.f (s ++ (⟨#[32]⟩ : ByteArray)) 0).bind fun b => ((pergolalaw09_num.f b.2.2.2.2).bind fun t174 => (if t174 = 0 then (if b.2.2.2.1 = (s.size : Int) then (if b.1 = 4 then (some (b.2.2.1.toList == s.toList)) else (some false)) else (some false)) else (some false)))) else (none)) else (some true)) (fun k => ?_) ?_
 ·rw [pergolalaw09_BareKeys.j0]
 ·refine Ev.bind (istok_f s (by omega)) ?_
  by_cases h : istok s = true
  ·rw [if_pos h, if_pos (by omega), tok_whole s (by omega) 32 (by decide +kernel) h]
   refine ev_some ?_
   simp [num_f]
  ·rw [if_neg h]
   exact Ev.now _
theorem BareKeys : pergolalaw09_BareKeys.Pure := by
 intro s hs
 refine Ev.rounds ?_
 unfold pergolalaw09_BareKeys.f
 refine Ev.bind alive_ev ?_
 refine ev_pos rfl ?_
 refine Ev.bind (iskey_f s (by omega)) ?_
 by_cases h : iskey s = true
 ·refine ev_pos h ?_
  refine ev_pos (by omega) ?_
  have hz := size_one s 61
  refine Ev.bind (rkey_f (s ++ ⟨#[61]⟩) (by omega)) ?_
  rw [key_whole s 61 (by decide +kernel) h]
  refine Ev.bind (ev_some (num_f _)) ?_
  refine ev_pos rfl ?_
  refine ev_pos rfl ?_
  refine ev_pos rfl ?_
  exact keys_j0 s hs
 ·refine ev_neg h ?_
  exact keys_j0 s hs
end Go.Proofs.YtkbmbancfbfddaaGreatDoor.Pure
