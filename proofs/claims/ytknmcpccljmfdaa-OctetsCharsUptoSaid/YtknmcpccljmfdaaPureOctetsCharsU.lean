/- OctetsChars for bytes and texts of up to 1048576: the program's characters, bytes and sums are the document's. -/
import Derived.Test.YtknmcpccljmfdaaPRefChars
import Derived.Test.YtknmcpccljmfdaaX15
namespace Go.Proofs.Ytknmcpccljmfdaa.Pure
open Go.RowKit Go.Proofs.Ytknmcpccljmfdaa.X Go.Proofs.YtknmcpccljmfdaaW.PrintWords Go.Proofs.YtknmcpccljmfdaaW.PrintLast Go.Proofs.YtknmcpccljmfdaaW.PrintMore

theorem chars_alive : Ev (fun k => pergolalaw01_alive.f k) true := Ev.of pergolalaw01_alive.mono (k := 200) (by decide +kernel)
theorem chars_pos {α : Type} {c : Prop} [Decidable c] (h : c) {f g : Nat → Option α} {r : α} (hf : Ev f r) : Ev (fun k => if c then f k else g k) r := Ev.congr (fun _ => if_pos h) hf
theorem chars_same (l : List Int) (hn : l.length ≤ 140737488355328) : Ev (fun k => pergolaplain_SameBytes.f k l l) true :=
  Ev.of (pergolaplain_SameBytes.mono l l) (pergolaplain_Given_Intact.same l hn)
theorem OctetsCharsU : pergolalaw01_OctetsChars.PureU := by
  intro l s _ hl hw hs
  have hb := bytes_of_wf hw
  refine Ev.rounds ?_
  obtain ⟨U, e1, e2, hU⟩ := bytes_same s (by omega)
  have e3 := chars_f l hb (by omega)
  have e4 := rchars_f l hb (by omega)
  have e5 := sum_f l hb (by omega)
  have e6 := rsum_f l hb (by omega)
  have sU := chars_same U.1 (by omega)
  generalize strOfNums (chL l) = X at *
  generalize ((~~~ reg (bitAt l) 4294967295#32 (8 * l.length)).toNat : Int) = Y at *
  refine Ev.congr (fun k => if_pos (show l.length ≤ 140737488351232 by omega)) ?_
  refine Ev.congr (fun k => Option.bind_some _ _) ?_
  refine Ev.bind e1 (Ev.bind e2 (Ev.bind e3 (Ev.bind e4 (chars_pos rfl (Ev.bind e5 (Ev.bind e6 (chars_pos rfl (Ev.bind sU (chars_pos rfl ?_)))))))))
  refine Ev.congr (f := fun k => if U.2.1 = U.2.1 then (if U.2.2 = U.2.2 then ((pergolalaw01_alive.f k).bind fun t265 => (some t265)) else (some false)) else (some false)) (fun k => rfl) ?_
  exact chars_pos rfl (chars_pos rfl (Ev.bind chars_alive (Ev.now _)))
end Go.Proofs.Ytknmcpccljmfdaa.Pure
