/- HintOnce, the plain law. -/
import Derived.Test.YtclkclcacnpmbaaDoorX4
import Derived.Test.YtclkclcacnpmbaaDoorPHintMiss
import Derived.Test.YtclkclcacnpmbaaDoorPHintWorks
namespace Go.Proofs.YtclkclcacnpmbaaDoor.Pure
open Go.RowKit Go.Proofs.YtclkclcacnpmbaaDoor.X Go.Proofs.YtclkclcacnpmbaaDoorW.PrintWords Go.Proofs.YtclkclcacnpmbaaDoorW.PrintLast Go.Proofs.YtclkclcacnpmbaaDoorW.PrintMore

theorem in_l0 (l : List Int) (a : Int) (hl : l.length ≤ 17592186043904) : ∀ n i : Nat, i + n = l.length → Ev (fun k => pergolalaw20_in.l0 k l a (i : Int)) (decide (a ∈ l.drop i))
 | 0, i, hi => by
  rw [List.drop_eq_nil_of_le (by omega)]
  exact Ev.step (f := fun _ => some false) (fun k => by rw [pergolalaw20_in.l0, if_neg (by omega)]) (Ev.now _)
 | n + 1, i, hi => by
  have hlt : i < l.length := by omega
  by_cases he : l[i]'hlt = a
  ·rw [decide_eq_true ((mem_drop hlt a).2 (.inl he.symm))]
   exact Ev.step (f := fun _ => some true) (fun k => by rw [pergolalaw20_in.l0, if_pos (by omega), if_pos (by omega), rd_nat l i hlt, if_pos he]) (Ev.now _)
  ·have := in_l0 l a hl n (i + 1) (by omega)
   have hd : decide (a ∈ l.drop i) = decide (a ∈ l.drop (i + 1)) := decide_eq_decide.2 ⟨fun h => ((mem_drop hlt a).1 h).resolve_left (Ne.symm he), fun h => (mem_drop hlt a).2 (.inr h)⟩
   rw [hd]
   exact Ev.step (fun k => by rw [pergolalaw20_in.l0, if_pos (by omega), if_pos (by omega), rd_nat l i hlt, if_neg he, wrap1 i (by omega)]) this
theorem in_ev (l : List Int) (a : Int) (hl : l.length ≤ 17592186043904) : Ev (fun k => pergolalaw20_in.f k l a) (decide (a ∈ l)) := by
 have := in_l0 l a hl l.length 0 (by omega)
 rwa [List.drop_zero] at this
section
variable (x0 x1 x2 x3 : List Int) (h0 : x0.length ≤ 1048576) (h1 : x1.length ≤ 1048576) (h2 : x2.length ≤ 1048576) (h3 : x3.length ≤ 1048576)
include h0 h1 h2 h3
theorem once_end : Ev (fun k => (pergolaplain_CopyInts.f x3).bind fun t181 => (if t181.length + (missL x0 x1 x2 x3).length < 17592186044416 then ((hint_Restart.f k x0 x1 x2 x3 false).bind fun t187 => (if (t187 == (decide (((missL x0 x1 x2 x3).length : Int) > 0))) = true then ((hint_Restart.f k x0 x1 x2 x3 true).bind fun t188 => (if t188 = true then (some false) else ((hint_Restart.f k x0 x1 x2 (t181 ++ (missL x0 x1 x2 x3)) false).bind fun t189 => (some (!t189))))) else (some false))) else (none))) true := by
 have hm := missL_len x0 x1 x2 x3
 have hc : pergolaplain_CopyInts.f x3 = some x3 := by
  unfold pergolaplain_CopyInts.f
  rw [if_pos (by simp; omega), List.nil_append]
 refine Ev.congr (fun k => by rw [hc, Option.bind_some, if_pos (by omega)]) ?_
 refine Ev.bind (restart_ev x0 x1 x2 x3 false (by omega) (by omega) (by omega) (by omega)) ?_
 refine Ev.congr (fun k => if_pos (by simp)) ?_
 refine Ev.bind (restart_ev x0 x1 x2 x3 true (by omega) (by omega) (by omega) (by omega)) ?_
 refine Ev.congr (fun k => if_neg (by simp)) ?_
 refine Ev.bind (restart_ev x0 x1 x2 (x3 ++ missL x0 x1 x2 x3) false (by omega) (by omega) (by omega) (by rw [List.length_append]; omega)) ?_
 have he : missL x0 x1 x2 (x3 ++ missL x0 x1 x2 x3) = [] := by
  rw [List.eq_nil_iff_forall_not_mem]
  intro a ha
  rw [mem_missL, List.mem_append, mem_missL] at ha
  obtain ⟨m0, m1, m2, m3⟩ := ha
  exact m3 (.inr ⟨m0, m1, m2, fun h => m3 (.inl h)⟩)
 refine Ev.congr (f := fun _ => some true) (fun k => ?_) (Ev.now _)
 rw [he]
 rfl
theorem once_l1 : ∀ n i : Nat, i + n = x0.length → Ev (fun k => pergolalaw20_HintOnce.l1 k x0 x1 x2 x3 (missL x0 x1 x2 x3) (i : Int)) true
 | 0, i, hi => Ev.step (fun k => by rw [pergolalaw20_HintOnce.l1, if_neg (by omega)]) (once_end x0 x1 x2 x3 h0 h1 h2 h3)
 | n + 1, i, hi => by
  have hlt : i < x0.length := by omega
  have hn := once_l1 n (i + 1) (by omega)
  have hm := missL_len x0 x1 x2 x3
  refine Ev.step (fun k => by rw [pergolalaw20_HintOnce.l1, if_pos (by omega), if_pos (by omega), rd_nat x0 i hlt, wrap1 i (by omega)]) ?_
  refine Ev.bind (in_ev x1 (x0[i]'hlt) (by omega)) ?_
  by_cases m1 : x0[i]'hlt ∈ x1
  ·refine Ev.congr (fun k => if_pos (decide_eq_true m1)) ?_
   refine Ev.bind (in_ev x2 (x0[i]'hlt) (by omega)) ?_
   by_cases m2 : x0[i]'hlt ∈ x2
   ·refine Ev.congr (fun k => if_pos (decide_eq_true m2)) ?_
    refine Ev.bind (in_ev x3 (x0[i]'hlt) (by omega)) ?_
    by_cases m3 : x0[i]'hlt ∈ x3
    ·exact Ev.congr (fun k => if_pos (decide_eq_true m3)) hn
    ·refine Ev.congr (fun k => if_neg (by simp [m3])) ?_
     refine Ev.bind (in_ev (missL x0 x1 x2 x3) (x0[i]'hlt) (by omega)) ?_
     exact Ev.congr (fun k => if_pos (decide_eq_true ((mem_missL x0 x1 x2 x3 _).2 ⟨List.getElem_mem hlt, m1, m2, m3⟩))) hn
   ·exact Ev.congr (fun k => if_neg (by simp [m2])) hn
  ·exact Ev.congr (fun k => if_neg (by simp [m1])) hn
theorem once_in (a : Int) (ha : a ∈ missL x0 x1 x2 x3) {g : Nat → Option Bool} (hg : Ev g true) :
  Ev (fun k => (pergolalaw20_in.f k x0 a).bind fun t161 => (if t161 = true then ((pergolalaw20_in.f k x1 a).bind fun t163 => (if t163 = true then ((pergolalaw20_in.f k x2 a).bind fun t165 => (if t165 = true then ((pergolalaw20_in.f k x3 a).bind fun t167 => (if t167 = true then (some false) else (g k))) else (some false))) else (some false))) else (some false))) true := by
 obtain ⟨m0, m1, m2, m3⟩ := (mem_missL x0 x1 x2 x3 a).1 ha
 refine Ev.bind (in_ev x0 a (by omega)) (Ev.congr (fun k => if_pos (decide_eq_true m0)) ?_)
 refine Ev.bind (in_ev x1 a (by omega)) (Ev.congr (fun k => if_pos (decide_eq_true m1)) ?_)
 refine Ev.bind (in_ev x2 a (by omega)) (Ev.congr (fun k => if_pos (decide_eq_true m2)) ?_)
 exact Ev.bind (in_ev x3 a (by omega)) (Ev.congr (fun k => if_neg (by simp [m3])) hg)
theorem once_l0 : ∀ n i : Nat, i + n = (missL x0 x1 x2 x3).length → Ev (fun k => pergolalaw20_HintOnce.l0 k x0 x1 x2 x3 (missL x0 x1 x2 x3) (i : Int)) true
 | 0, i, hi => Ev.step (fun k => by rw [pergolalaw20_HintOnce.l0, if_neg (by omega)]; rfl) (once_l1 x0 x1 x2 x3 h0 h1 h2 h3 x0.length 0 (by omega))
 | n + 1, i, hi => by
  have hlt : i < (missL x0 x1 x2 x3).length := by omega
  have hn := once_l0 n (i + 1) (by omega)
  have hm := missL_len x0 x1 x2 x3
  have hr := List.pairwise_iff_getElem.1 (canonI_rise (x0.filter (missB x1 x2 x3)))
  have hi2 := once_in x0 x1 x2 x3 h0 h1 h2 h3 ((missL x0 x1 x2 x3)[i]'hlt) (List.getElem_mem hlt) hn
  cases i with
  | zero => exact Ev.step (fun k => by rw [pergolalaw20_HintOnce.l0, if_pos (by omega), if_neg (by omega), if_pos (by omega), rd_nat _ 0 hlt, wrap1 0 (by omega)]) hi2
  | succ j =>
   have hj : wrap64 (((j + 1 : Nat) : Int) - 1) = (j : Int) := by unfold wrap64; omega
   have hlt2 : j < (missL x0 x1 x2 x3).length := by omega
   have hjr := hr j (j + 1) hlt2 hlt (by omega)
   refine Ev.step (fun k => by rw [pergolalaw20_HintOnce.l0, if_pos (by omega), if_pos (by omega), if_pos (by omega), hj, if_pos (by omega), if_pos (by omega), rd_nat _ (j + 1) hlt, rd_nat _ j hlt2, if_neg (by exact Int.not_le.2 hjr), wrap1 (j + 1) (by omega)]) hi2
end
theorem HintOnceU : pergolalaw20_HintOnce.PureU := by
 intro l0 l1 l2 l3 _ h0 _ _ h1 _ _ h2 _ _ h3 _
 refine Ev.rounds ?_
 unfold pergolalaw20_HintOnce.f
 refine Ev.bind works_ev (Ev.congr (fun k => if_pos rfl) ?_)
 refine Ev.bind (missing_ev l0 l1 l2 l3 (by omega) (by omega) (by omega) (by omega)) ?_
 exact once_l0 l0 l1 l2 l3 h0 h1 h2 h3 (missL l0 l1 l2 l3).length 0 (by omega)
end Go.Proofs.YtclkclcacnpmbaaDoor.Pure
