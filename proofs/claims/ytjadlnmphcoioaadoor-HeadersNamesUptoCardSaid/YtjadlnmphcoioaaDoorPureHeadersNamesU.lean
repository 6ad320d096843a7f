/- Of any list of at most 1048576 headers with names and values of at most 1048576 bytes, any name and value of at most as many: Get hangs on headers of that name alone, in their order; a name's case does not count; behind Set it is just that value, behind Remove none: the law HeadersNames answers true. -/
import Derived.Test.YtjadlnmphcoioaaDoorPNames
namespace Go.Proofs.YtjadlnmphcoioaaDoor.Pure
open Go.RowKit Go.Proofs.YtjadlnmphcoioaaDoor.X Go.Proofs.YtjadlnmphcoioaaDoorW.PrintWords Go.Proofs.YtjadlnmphcoioaaDoorW.PrintLast Go.Proofs.YtjadlnmphcoioaaDoorW.PrintMore

theorem names_j1 (l : List Hd) (hl : l.length ≤ 1048576) (hs : ∀ h ∈ l, Small h) (name value : ByteArray) (hn : name.size ≤ 1048576) (hv : value.size ≤ 1048576) :
    Ev (fun k => pergolalaw11_HeadersNames.j1 k l name value false) true := by
  have hvs := around_size value n4
  have hnol : (no_ name l).length ≤ l.length := List.length_filter_le _ _
  have hrl := remove_f l (by omega) (fun h hh => (hs h hh).1) name hn
  have hgn := get_f (no_ name l) (by omega) (fun h hh => hs h (List.mem_filter.1 hh).1) name hn
  rw [of_no] at hgn
  obtain ⟨m, e, hset, hz, hne⟩ := set_f l hl hs name value hn hv
  refine Ev.step (fun k => by rw [pergolalaw11_HeadersNames.j1, if_neg (by decide), hrl, Option.bind_some]) (Ev.bind hgn ?_)
  refine ev_not (c := decide (0 < ([] : List Hd).length) = true) (by decide) (Ev.bind hset ?_)
  by_cases h0 : e = 0
  · obtain ⟨h256, hof, hno, hml, hmem⟩ := hz h0
    have hsm : ∀ h ∈ m, Small h := fun h hh => by
      rcases hmem h hh with h1 | rfl
      · exact hs h h1
      · exact ⟨hn, by show (around value n4).size ≤ _; omega⟩
    have hgm := get_f m (by omega) hsm name hn
    rw [hof] at hgm
    have hrm := remove_f m (by omega) (fun h hh => (hsm h hh).1) name hn
    refine Ev.congr (fun k => by rw [pergolalaw11_num.f, Option.bind_some]) (ev_pos h0 (Ev.bind hgm (ev_pos rfl ?_)))
    refine Ev.congr (f := fun k => (pergolaplain_SameHeaders.f k (no_ name m) (no_ name l)).bind fun t => some t) (fun k => ?_) ?_
    · show ((headers_Normal.f value).bind fun t => _) = _
      rw [normal_f value hv, Option.bind_some, if_pos (by
        show (joined [around value n4]).toList = (around value n4).toList
        rw [joined_one])]
      simp only [hrm, Option.bind_some]
    · rw [hno]
      exact Ev.bind (sameh_f (no_ name l) (by omega)) (Ev.now _)
  · obtain rfl := hne h0
    refine Ev.congr (fun k => by rw [pergolalaw11_num.f, Option.bind_some]) (ev_not h0 ?_)
    exact ev_some rfl
theorem names_l0 (l : List Hd) (hl : l.length ≤ 1048576) (hs : ∀ h ∈ l, Small h) (name value : ByteArray) (hn : name.size ≤ 1048576) (hv : value.size ≤ 1048576) (d : Nat) : ∀ (i : Nat), i + d = l.length →
    Ev (fun k => pergolalaw11_HeadersNames.l0 k l name value (of_ name (l.take i)) (i : Int)) true := by
  induction d with
  | zero =>
    intro i hi
    obtain rfl : i = l.length := by omega
    rw [List.take_length]
    have hle : (of_ name l).length ≤ l.length := List.length_filter_le _ _
    have hup : (upper name).size ≤ 1048576 := by unfold upper; rw [size_map]; exact hn
    have hg1 := get_f l (by omega) hs name hn
    have hg2 := get_f (of_ name l) (by omega) (fun h hh => hs h (List.mem_filter.1 hh).1) (upper name) hup
    have e1 : of_ (upper name) (of_ name l) = of_ name l := by
      refine Eq.trans ?_ (of_of name l)
      exact filter_alike _ fun h _ => eqn_upper h.f0 name
    rw [e1] at hg2
    refine Ev.step (fun k => by rw [pergolalaw11_HeadersNames.l0, if_neg (by omega)]) (Ev.bind hg1 ?_)
    refine Ev.congr (f := fun k => (headers_Get.f k (of_ name l) (upper name)).bind fun bt => if (joined ((of_ name l).map (·.f1))).toList = bt.1.toList then (if (decide (0 < (of_ name l).length) != bt.2) = true then pergolalaw11_HeadersNames.j1 k l name value true else pergolalaw11_HeadersNames.j1 k l name value (decide (0 < (of_ name l).length) != decide (((of_ name l).length : Int) > 0))) else pergolalaw11_HeadersNames.j1 k l name value true) (fun k => ?_) (Ev.bind hg2 (ev_pos rfl (ev_not (by simp) ?_)))
    · rw [upper_f name (by omega), Option.bind_some]
      rfl
    · have e2 : (decide (0 < (of_ name l).length) != decide (((of_ name l).length : Int) > 0)) = false := by
        have : decide (((of_ name l).length : Int) > 0) = decide (0 < (of_ name l).length) := by
          rw [decide_eq_decide]
          omega
        rw [this]
        simp
      rw [e2]
      exact names_j1 l hl hs name value hn hv
  | succ d ih =>
    intro i hi
    have hi' : i < l.length := by omega
    have hw : wrap64 ((i : Int) + 1) = ((i + 1 : Nat) : Int) := by unfold wrap64; omega
    have hm := hs _ (List.getElem_mem hi')
    have hle : (of_ name (l.take i)).length ≤ i := by
      have := List.length_filter_le (fun h : Hd => eqn h.f0 name) (l.take i)
      rw [List.length_take] at this
      show (List.filter _ _).length ≤ i
      omega
    have hstep : of_ name (l.take (i + 1)) = of_ name (l.take i) ++ (if eqn (l[i]'hi').f0 name = true then [l[i]'hi'] else []) := by
      rw [List.take_succ_eq_append_getElem hi']
      unfold of_
      rw [List.filter_append]
      congr 1
      cases h : eqn (l[i]'hi').f0 name <;> simp [h]
    have := ih (i + 1) (by omega)
    rw [hstep] at this
    refine Ev.step (f := fun k => if eqn (l[i]'hi').f0 name = true then pergolalaw11_HeadersNames.l0 k l name value (of_ name (l.take i) ++ [l[i]'hi']) ((i + 1 : Nat) : Int) else pergolalaw11_HeadersNames.l0 k l name value (of_ name (l.take i)) ((i + 1 : Nat) : Int)) (fun k => ?_) ?_
    · rw [pergolalaw11_HeadersNames.l0, if_pos (by omega), if_pos (by omega), rd_at l i hi', same_f _ _ hm.1 hn, Option.bind_some, hw, if_pos (show (of_ name (l.take i)).length < 4398046511104 by omega)]
    · by_cases h : eqn (l[i]'hi').f0 name = true
      · rw [if_pos h] at this
        exact ev_pos h this
      · rw [if_neg h, List.append_nil] at this
        exact ev_not h this
theorem HeadersNames (l : List Hd) (name value : ByteArray) (hl : l.length ≤ 1048576) (hs : ∀ h ∈ l, Small h) (hn : name.size ≤ 1048576) (hv : value.size ≤ 1048576) : ∃ k, pergolalaw11_HeadersNames.f k l name value = some true := by
  have := names_l0 l hl hs name value hn hv l.length 0 (by omega)
  have key : Ev (fun k => pergolalaw11_HeadersNames.f k l name value) true :=
    Ev.congr (fun k => by rw [pergolalaw11_HeadersNames.f]) (Ev.bind names_alive (ev_pos rfl this))
  exact key.rounds
end Go.Proofs.YtjadlnmphcoioaaDoor.Pure
