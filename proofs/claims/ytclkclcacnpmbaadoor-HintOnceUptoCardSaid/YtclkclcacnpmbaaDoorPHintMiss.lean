/- Layer 20: Contains, Missing, Restart told plainly. -/
import Derived.Test.YtclkclcacnpmbaaDoorX3
import Derived.Test.YtclkclcacnpmbaaDoorPIntSort
namespace Go.Proofs.YtclkclcacnpmbaaDoor.Pure
open Go.RowKit Go.Proofs.YtclkclcacnpmbaaDoor.X Go.Proofs.YtclkclcacnpmbaaDoorW.PrintWords Go.Proofs.YtclkclcacnpmbaaDoorW.PrintLast Go.Proofs.YtclkclcacnpmbaaDoorW.PrintMore

theorem rd_nat (l : List Int) (i : Nat) (h : i < l.length) : rd l (i : Int) = l[i]'h := by
 unfold rd
 rw [Int.toNat_natCast, List.getD_eq_getElem?_getD, List.getElem?_eq_getElem h]
 rfl
theorem mem_drop {l : List Int} {i : Nat} (h : i < l.length) (a : Int) : a ∈ l.drop i ↔ a = l[i]'h ∨ a ∈ l.drop (i + 1) := by
 rw [List.drop_eq_getElem_cons h, List.mem_cons]
theorem wrap1 (i : Nat) (h : i < 4611686018427387904) : wrap64 ((i : Int) + 1) = ((i + 1 : Nat) : Int) := by unfold wrap64; omega
theorem idx_ev (l : List Int) (a : Int) (hl : l.length ≤ 17592186043904) : ∀ n i : Nat, i + n = l.length → ∃ r, Ev (fun k => slices_Index_int_int.l0 k l a (l.length : Int) (i : Int)) r ∧ decide (r ≥ 0) = decide (a ∈ l.drop i)
 | 0, i, hi => by
  refine ⟨-1, Ev.step (f := fun _ => some (-1)) (fun k => by rw [slices_Index_int_int.l0, if_neg (by omega)]) (Ev.now _), ?_⟩
  rw [List.drop_eq_nil_of_le (by omega)]
  simp
 | n + 1, i, hi => by
  have hlt : i < l.length := by omega
  by_cases he : a = l[i]
  ·refine ⟨(i : Int), Ev.step (f := fun _ => some (i : Int)) (fun k => by rw [slices_Index_int_int.l0, if_pos (by omega), if_pos (by omega), if_pos (by omega), rd_nat l i hlt, if_pos he]) (Ev.now _), ?_⟩
   rw [decide_eq_true (by omega), decide_eq_true ((mem_drop hlt a).2 (.inl he))]
  ·obtain ⟨r, hr, hd⟩ := idx_ev l a hl n (i + 1) (by omega)
   refine ⟨r, Ev.step (fun k => by rw [slices_Index_int_int.l0, if_pos (by omega), if_pos (by omega), if_pos (by omega), rd_nat l i hlt, if_neg he, wrap1 i (by omega)]) hr, ?_⟩
   rw [hd]
   exact decide_eq_decide.2 ⟨fun h => (mem_drop hlt a).2 (.inr h), fun h => ((mem_drop hlt a).1 h).resolve_left he⟩
theorem contains_ev (l : List Int) (a : Int) (hl : l.length ≤ 17592186043904) : Ev (fun k => slices_Contains_int_int.f k l a) (decide (a ∈ l)) := by
 obtain ⟨r, hr, hd⟩ := idx_ev l a hl l.length 0 (by omega)
 unfold slices_Contains_int_int.f slices_Index_int_int.f
 refine Ev.bind hr (Ev.congr (f := fun _ => some (decide (a ∈ l))) (fun k => ?_) (Ev.now _))
 rw [hd, List.drop_zero]
/-- Is a number missing? -/
def missB (x1 x2 x3 : List Int) (n : Int) : Bool := decide (n ∈ x1) && (decide (n ∈ x2) && !decide (n ∈ x3))
theorem miss_l0 (x1 x2 x3 l : List Int) (hl : l.length ≤ 17592186043904) (h1 : x1.length ≤ 17592186043904) (h2 : x2.length ≤ 17592186043904) (h3 : x3.length ≤ 35184372087808) (H3 : ∀ a, Ev (fun k => slices_Contains_int_int.f k x3 a) (decide (a ∈ x3))) :
  ∀ (n i : Nat) (out : List Int), i + n = l.length → out.length ≤ i → Ev (fun k => hint_Missing.l0 k x1 x2 x3 out l (l.length : Int) (i : Int)) (canonI (out ++ (l.drop i).filter (missB x1 x2 x3)))
 | 0, i, out, hi, ho => by
  rw [List.drop_eq_nil_of_le (by omega), List.filter_nil, List.append_nil]
  exact Ev.step (f := fun _ => some (canonI out)) (fun k => by rw [hint_Missing.l0, if_neg (by omega), if_pos (by omega)]; rfl) (Ev.now _)
 | n + 1, i, out, hi, ho => by
  have hlt : i < l.length := by omega
  have hn := miss_l0 x1 x2 x3 l hl h1 h2 h3 H3 n (i + 1)
  have hc1 := contains_ev x1 (l[i]'hlt) h1
  have hc2 := contains_ev x2 (l[i]'hlt) h2
  have hc3 := H3 (l[i]'hlt)
  rw [List.drop_eq_getElem_cons hlt, List.filter_cons]
  refine Ev.step (fun k => by rw [hint_Missing.l0, if_pos (by omega), if_pos (by omega), if_pos (by omega), rd_nat l i hlt, wrap1 i (by omega)]) ?_
  refine Ev.bind hc1 ?_
  by_cases m1 : l[i]'hlt ∈ x1
  ·refine Ev.congr (fun k => if_pos (decide_eq_true m1)) ?_
   refine Ev.bind hc2 ?_
   by_cases m2 : l[i]'hlt ∈ x2
   ·refine Ev.congr (fun k => if_pos (decide_eq_true m2)) ?_
    refine Ev.bind hc3 ?_
    by_cases m3 : l[i]'hlt ∈ x3
    ·refine Ev.congr (fun k => if_pos (decide_eq_true m3)) ?_
     rw [if_neg (by simp [missB, m3])]
     exact hn out (by omega) (by omega)
    ·refine Ev.congr (fun k => if_neg (by simp [m3])) ?_
     rw [if_pos (by simp [missB, m1, m2, m3])]
     refine Ev.congr (fun k => if_pos (by omega)) ?_
     have := hn (out ++ [l[i]'hlt]) (by omega) (by rw [List.length_append, List.length_singleton]; omega)
     rwa [List.append_assoc] at this
   ·refine Ev.congr (fun k => if_neg (by simp [m2])) ?_
    rw [if_neg (by simp [missB, m2])]
    exact hn out (by omega) (by omega)
  ·refine Ev.congr (fun k => if_neg (by simp [m1])) ?_
   rw [if_neg (by simp [missB, m1])]
   exact hn out (by omega) (by omega)
def missL (l x1 x2 x3 : List Int) : List Int := canonI (l.filter (missB x1 x2 x3))
theorem missing_ev (l x1 x2 x3 : List Int) (hl : l.length ≤ 17592186043904) (h1 : x1.length ≤ 17592186043904) (h2 : x2.length ≤ 17592186043904) (h3 : x3.length ≤ 17592186043904) : Ev (fun k => hint_Missing.f k l x1 x2 x3) (missL l x1 x2 x3) := by
 have := miss_l0 x1 x2 x3 l hl h1 h2 (by omega) (fun a => contains_ev x3 a h3) l.length 0 [] (by omega) (by simp)
 rw [List.drop_zero, List.nil_append] at this
 exact this
theorem mem_missL (l x1 x2 x3 : List Int) (a : Int) : a ∈ missL l x1 x2 x3 ↔ a ∈ l ∧ a ∈ x1 ∧ a ∈ x2 ∧ a ∉ x3 := by
 unfold missL
 rw [mem_canonI, List.mem_filter]
 simp [missB]
theorem restart_ev (l x1 x2 x3 : List Int) (b : Bool) (hl : l.length ≤ 17592186043904) (h1 : x1.length ≤ 17592186043904) (h2 : x2.length ≤ 17592186043904) (h3 : x3.length ≤ 17592186043904) : Ev (fun k => hint_Restart.f k l x1 x2 x3 b) (!b && decide (((missL l x1 x2 x3).length : Int) > 0)) := by
 unfold hint_Restart.f
 cases b with
 | true => exact Ev.congr (f := fun _ => some false) (fun k => if_pos rfl) (Ev.now _)
 | false =>
  refine Ev.congr (fun k => if_neg (by simp)) ?_
  exact Ev.bind (missing_ev l x1 x2 x3 hl h1 h2 h3) (Ev.now _)
theorem missL_len (l x1 x2 x3 : List Int) : (missL l x1 x2 x3).length ≤ l.length := by
 unfold missL canonI compI
 refine Nat.le_trans (compactI_len _) ?_
 rw [sortI_length]
 exact List.length_filter_le _ _
end Go.Proofs.YtclkclcacnpmbaaDoor.Pure
