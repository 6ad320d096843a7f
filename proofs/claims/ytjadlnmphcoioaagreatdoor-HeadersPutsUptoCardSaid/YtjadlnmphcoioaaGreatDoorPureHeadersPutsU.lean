/- Of any list of at most 1048576 headers with names and values of at most 1048576 bytes, any name and value of at most as many: headers.Set and Add answer what the page's do: the law HeadersPuts answers true. -/
import Derived.Test.YtjadlnmphcoioaaGreatDoorPSame
import Derived.Test.YtjadlnmphcoioaaGreatDoorPCheckB
import Derived.Test.YtjadlnmphcoioaaGreatDoorX12
import Derived.Test.YtjadlnmphcoioaaGreatDoorX13
namespace Go.Proofs.YtjadlnmphcoioaaGreatDoor.Pure
open Go.RowKit Go.Proofs.YtjadlnmphcoioaaGreatDoor.X Go.Proofs.YtjadlnmphcoioaaGreatDoorW.PrintWords Go.Proofs.YtjadlnmphcoioaaGreatDoorW.PrintLast Go.Proofs.YtjadlnmphcoioaaGreatDoorW.PrintMore

theorem puts_alive : Ev (fun k => pergolalaw11_alive.f k) true := Ev.of pergolalaw11_alive.mono (k := 200) (by decide +kernel)
/-! given -/
theorem given_both (l : List Hd) (hl : l.length ≤ 1048576) (hs : ∀ h ∈ l, Small h) (name value : ByteArray) (hn : name.size ≤ 1048576) (hv : value.size ≤ 1048576) :
  ∃ e : Int, Ev (fun k => headers_given.f k l name value) (name, around value n4, e) ∧ (e = 0 → l.length ≤ 256) ∧
   ∀ b : Bool, Ev (fun k => pergolaref11_given.f k l name (around value n4) b) (if e = 0 then (if b = true then (if (l.length : Int) = 256 then 3 else 0) else 0) else e) := by
 obtain ⟨c, q, hc, hc2, hiff⟩ := check_both l hl hs
 have hvs := around_size value n4
 have e1 : ∀ k, headers_given.f k l name value = (headers_Check.f k l).bind fun bt => if bt.1 = 0 then (headers_one.f k name (around value n4)).bind fun t => some (name, around value n4, t) else some (name, around value n4, bt.1) := fun k => by
  rw [headers_given.f, normal_f value hv, Option.bind_some]
 have h1 := one_f name (around value n4) hn (by omega)
 have h2 := rone_f name (around value n4) hn (by omega)
 by_cases h0 : c = 0
 ·refine ⟨_, Ev.congr e1 (Ev.bind hc (ev_pos h0 (Ev.bind h1 (Ev.now _)))), fun _ => (hiff.1 h0).1, fun b => Ev.bind hc2 (ev_pos h0 (Ev.bind h2 ?_))⟩
  by_cases hz : oneOf name (around value n4) = 0
  ·rw [if_pos hz, if_pos hz]
   cases b
   ·exact ev_not (by decide) (Ev.now _)
   ·refine ev_pos rfl ?_
    rw [if_pos rfl]
    by_cases h256 : (l.length : Int) = 256
    ·rw [if_pos h256, if_pos h256]
     exact Ev.now _
    ·rw [if_neg h256, if_neg h256]
     exact Ev.now _
  ·rw [if_neg hz, if_neg hz]
   exact Ev.now _
 ·refine ⟨c, Ev.congr e1 (Ev.bind hc (ev_not h0 (Ev.now _))), fun h => absurd h h0, fun b => Ev.bind hc2 (ev_not h0 ?_)⟩
  rw [if_neg h0]
  exact Ev.now _
/-! Add -/
def added (l : List Hd) (h : Hd) (e : Int) : List Hd × Int := if e = 0 then (if (l.length : Int) = 256 then ([], 3) else (l ++ [h], 0)) else ([], e)
theorem add_j0 (l : List Hd) (hl : l.length ≤ 1048576) (e : Int) (b : Bool) (n v : ByteArray) : Ev (fun k => headers_Add.j0 k l e b n v) (if b = true then ([], 3) else if e = 0 then (l ++ [⟨n, v⟩], 0) else ([], e)) := by
 have hc : api_Header_45.f l = some l := by
  unfold api_Header_45.f
  rw [Option.bind_some, if_pos (by simp; omega)]
  rfl
 cases b with
 | true => exact Ev.step (f := fun _ => some (([] : List Hd), 3)) (fun k => by rw [headers_Add.j0, if_pos rfl]; rfl) (Ev.now _)
 | false =>
  rw [if_neg (by decide)]
  by_cases h0 : e = 0
  ·rw [if_pos h0]
   refine Ev.step (f := fun _ => some (l ++ [(⟨n, v⟩ : Hd)], 0)) (fun k => ?_) (Ev.now _)
   rw [headers_Add.j0, if_neg (by decide), if_pos h0, hc, Option.bind_some, Option.bind_some, if_pos (by simp; omega)]
  ·rw [if_neg h0]
   refine Ev.step (f := fun _ => some (([] : List Hd), e)) (fun k => ?_) (Ev.now _)
   rw [headers_Add.j0, if_neg (by decide), if_neg h0]
theorem add_of (l : List Hd) (hl : l.length ≤ 1048576) (name value : ByteArray) (e : Int) (hg : Ev (fun k => headers_given.f k l name value) (name, around value n4, e)) (h256 : e = 0 → l.length ≤ 256) :
  Ev (fun k => headers_Add.f k l name value) (added l ⟨name, around value n4⟩ e) := by
 refine Ev.congr (fun k => by rw [headers_Add.f]) (Ev.bind hg ?_)
 unfold added
 by_cases h0 : e = 0
 ·have hle := h256 h0
  have := add_j0 l hl e (decide ((l.length : Int) ≥ 256)) name (around value n4)
  rw [if_pos h0]
  refine ev_pos h0 ?_
  by_cases h : (l.length : Int) = 256
  ·rw [if_pos h]
   rw [if_pos (decide_eq_true (by omega))] at this
   exact this
  ·rw [if_neg h]
   rw [if_neg (by simp; omega), if_pos h0] at this
   exact this
 ·have := add_j0 l hl e false name (around value n4)
  rw [if_neg (by decide), if_neg h0] at this
  rw [if_neg h0]
  exact ev_not h0 this
theorem radd_of (l : List Hd) (hl : l.length ≤ 1048576) (name value : ByteArray) (hv : value.size ≤ 1048576) (e : Int) (hg : Ev (fun k => pergolaref11_given.f k l name (around value n4) true) (if e = 0 then (if (l.length : Int) = 256 then 3 else 0) else e)) :
  Ev (fun k => pergolaref11_Add.f k l name value) (added l ⟨name, around value n4⟩ e) := by
 refine Ev.bind (rnormal_f value hv) (Ev.bind hg ?_)
 unfold added
 have hnil : ([] : List Hd).length + l.length < 4398046511104 := by simp; omega
 by_cases h0 : e = 0
 ·rw [if_pos h0, if_pos h0]
  by_cases h : (l.length : Int) = 256
  ·rw [if_pos h, if_pos h]
   exact ev_not (by decide) (Ev.now _)
  ·rw [if_neg h, if_neg h]
   refine ev_pos rfl (ev_pos hnil (Ev.congr (fun k => ?_) (Ev.now _)))
   rw [Option.bind_some, if_pos (by simp; omega)]
   rfl
 ·rw [if_neg h0, if_neg h0, if_neg h0]
  exact Ev.now _
/-! Set -/
def put (name : ByteArray) (h : Hd) : List Hd → List Hd
 | [] => [h]
 | a :: l => if eqn a.f0 name = true then h :: no_ name l else a :: put name h l
theorem put_pre (name : ByteArray) (h : Hd) : ∀ (pre rest : List Hd), (∀ a ∈ pre, eqn a.f0 name = false) → put name h (pre ++ rest) = pre ++ put name h rest
 | [], _, _ => rfl
 | a :: pre, rest, hp => by
  rw [List.cons_append, put, if_neg (by rw [hp a (List.mem_cons_self ..)]; decide), put_pre name h pre rest (fun b hb => hp b (List.mem_cons_of_mem _ hb))]
  rfl
theorem no_cons (name : ByteArray) (a : Hd) (l : List Hd) : no_ name (a :: l) = if eqn a.f0 name = true then no_ name l else a :: no_ name l := by
 unfold no_
 cases h : eqn a.f0 name <;> simp [h]
def setOf (l : List Hd) (name : ByteArray) (h : Hd) (e : Int) : List Hd × Int :=
 if e = 0 then (if (of_ name l).length = 0 ∧ (l.length : Int) = 256 then ([], 3) else (put name h l, 0)) else ([], e)
theorem rall_l0 (l : List Hd) (hl : l.length ≤ 1048577) (hs : ∀ h ∈ l, Small h) (name : ByteArray) (hn : name.size ≤ 1048576) (d : Nat) : ∀ (i : Nat) (acc : List ByteArray), i + d = l.length → acc.length ≤ i →
  Ev (fun k => pergolaref11_All.l0 k l name acc (i : Int)) (acc ++ (of_ name (l.drop i)).map (·.f1)) := by
 induction d with
 | zero =>
  intro i acc hi ha
  rw [List.drop_of_length_le (by omega)]
  refine Ev.step (f := fun _ => some acc) (fun k => ?_) (ev_some (by simp [of_]))
  rw [pergolaref11_All.l0, if_neg (by omega)]
 | succ d ih =>
  intro i acc hi ha
  have hi' : i < l.length := by omega
  have hw : wrap64 ((i : Int) + 1) = ((i + 1 : Nat) : Int) := by unfold wrap64; omega
  have hm := hs _ (List.getElem_mem hi')
  have e1 : ∀ k, pergolaref11_All.l0 (k + 1) l name acc (i : Int) = (pergolaref01_Same.f k (l[i]'hi').f0 name).bind fun t => if t = true then pergolaref11_All.l0 k l name (acc ++ [(l[i]'hi').f1]) ((i + 1 : Nat) : Int) else pergolaref11_All.l0 k l name acc ((i + 1 : Nat) : Int) := fun k => by
   rw [pergolaref11_All.l0, if_pos (by omega), if_pos (by omega), rd_at l i hi', hw, if_pos (show acc.length < 8796093022208 by omega)]
  rw [List.drop_eq_getElem_cons hi']
  refine Ev.step e1 (Ev.bind (rsame_f _ _ hm.1 hn) ?_)
  by_cases h : eqn (l[i]'hi').f0 name = true
  ·have := ih (i + 1) (acc ++ [(l[i]'hi').f1]) (by omega) (by rw [List.length_append]; simp; omega)
   rw [List.append_assoc] at this
   refine ev_pos h ?_
   unfold of_ at this ⊢
   rw [List.filter_cons_of_pos (p := fun h : Hd => eqn h.f0 name) h]
   exact this
  ·refine ev_not h ?_
   have := ih (i + 1) acc (by omega) (by omega)
   unfold of_ at this ⊢
   rw [List.filter_cons_of_neg (p := fun h : Hd => eqn h.f0 name) h]
   exact this
theorem rset_l0 (l : List Hd) (hl : l.length ≤ 1048576) (hs : ∀ h ∈ l, Small h) (name : ByteArray) (hn : name.size ≤ 1048576) (n v : ByteArray) (d : Nat) : ∀ (i : Nat) (out : List Hd) (b : Bool), i + d = l.length → out.length ≤ i + 1 →
  Ev (fun k => pergolaref11_Set.l0 k l name out b (i : Int) n v) (out ++ (if b = true then no_ name (l.drop i) else put name ⟨n, v⟩ (l.drop i)), 0) := by
 induction d with
 | zero =>
  intro i out b hi ho
  rw [List.drop_of_length_le (by omega)]
  cases b
  ·refine Ev.step (f := fun _ => some (out ++ [(⟨n, v⟩ : Hd)], 0)) (fun k => ?_) (Ev.now _)
   rw [pergolaref11_Set.l0, if_neg (by omega), if_neg (by decide), if_pos (by omega)]
  ·refine Ev.step (f := fun _ => some (out, 0)) (fun k => ?_) (ev_some (by simp [no_]))
   rw [pergolaref11_Set.l0, if_neg (by omega), if_pos rfl]
 | succ d ih =>
  intro i out b hi ho
  have hi' : i < l.length := by omega
  have hw : wrap64 ((i : Int) + 1) = ((i + 1 : Nat) : Int) := by unfold wrap64; omega
  have hm := hs _ (List.getElem_mem hi')
  rw [List.drop_eq_getElem_cons hi', no_cons, put]
  have e1 : ∀ k, pergolaref11_Set.l0 (k + 1) l name out b (i : Int) n v = (pergolaref01_Same.f k (l[i]'hi').f0 name).bind fun t => if t = true then (if b = true then pergolaref11_Set.l0 k l name out b ((i + 1 : Nat) : Int) n v else pergolaref11_Set.l0 k l name (out ++ [(⟨n, v⟩ : Hd)]) true ((i + 1 : Nat) : Int) n v) else pergolaref11_Set.l0 k l name (out ++ [l[i]'hi']) b ((i + 1 : Nat) : Int) n v := fun k => by
   rw [pergolaref11_Set.l0, if_pos (by omega), if_pos (by omega), rd_at l i hi', hw, if_pos (show out.length < 4398046511104 by omega), if_pos (show out.length < 4398046511104 by omega)]
  refine Ev.step e1 (Ev.bind (rsame_f _ _ hm.1 hn) ?_)
  by_cases h : eqn (l[i]'hi').f0 name = true
  ·rw [if_pos h, if_pos h]
   refine ev_pos h ?_
   cases b
   ·have := ih (i + 1) (out ++ [(⟨n, v⟩ : Hd)]) true (by omega) (by rw [List.length_append]; simp; omega)
    rw [if_pos rfl, List.append_assoc] at this
    exact ev_not (by decide) this
   ·exact ev_pos rfl (ih (i + 1) out true (by omega) (by omega))
  ·rw [if_neg h, if_neg h]
   refine ev_not h ?_
   have := ih (i + 1) (out ++ [l[i]'hi']) b (by omega) (by rw [List.length_append]; simp; omega)
   rw [List.append_assoc] at this
   cases b
   ·exact this
   ·exact this
theorem rset_of (l : List Hd) (hl : l.length ≤ 1048576) (hs : ∀ h ∈ l, Small h) (name value : ByteArray) (hn : name.size ≤ 1048576) (hv : value.size ≤ 1048576) (e : Int)
  (hg : ∀ b : Bool, Ev (fun k => pergolaref11_given.f k l name (around value n4) b) (if e = 0 then (if b = true then (if (l.length : Int) = 256 then 3 else 0) else 0) else e)) :
  Ev (fun k => pergolaref11_Set.f k l name value) (setOf l name ⟨name, around value n4⟩ e) := by
 have ha := rall_l0 l (by omega) hs name hn l.length 0 [] (by omega) (by simp)
 rw [List.drop_zero, List.nil_append] at ha
 have hset := rset_l0 l hl hs name hn name (around value n4) l.length 0 [] false (by omega) (by simp)
 rw [List.drop_zero, List.nil_append, if_neg (by decide)] at hset
 refine Ev.bind (rnormal_f value hv) (Ev.bind ha ?_)
 have hb : (((((of_ name l).map (·.f1)).length : Nat) : Int) == 0) = decide ((of_ name l).length = 0) := by
  rw [List.length_map, Bool.eq_iff_iff]
  simp
 rw [hb]
 refine Ev.bind (hg _) ?_
 unfold setOf
 by_cases h0 : e = 0
 ·rw [if_pos h0, if_pos h0]
  by_cases hz : (of_ name l).length = 0
  ·rw [if_pos (decide_eq_true hz)]
   by_cases h : (l.length : Int) = 256
   ·rw [if_pos h, if_pos ⟨hz, h⟩]
    exact ev_not (by decide) (Ev.now _)
   ·rw [if_neg h, if_neg (fun x => h x.2)]
    exact ev_pos rfl hset
  ·rw [if_neg (by simpa using hz), if_neg (fun x => hz x.1)]
   exact ev_pos rfl hset
 ·rw [if_neg h0, if_neg h0]
  exact ev_not h0 (Ev.now _)
theorem set_of (l : List Hd) (hl : l.length ≤ 1048576) (hs : ∀ h ∈ l, Small h) (name value : ByteArray) (hn : name.size ≤ 1048576) (e : Int) (hg : Ev (fun k => headers_given.f k l name value) (name, around value n4, e)) (h256 : e = 0 → l.length ≤ 256) :
  Ev (fun k => headers_Set.f k l name value) (setOf l name ⟨name, around value n4⟩ e) := by
 have hix : headers_Set.ix l name = some (fdx (fun h => sameB h.f0 name) l) := if_pos (List.all_eq_true.2 fun h hh => by rw [same_f _ _ (hs h hh).1 hn]; rfl)
 have hpe : ∀ h ∈ l, sameB h.f0 name = eqn h.f0 name := fun h hh => sameB_eqn _ _ (hs h hh).1 hn
 by_cases hf : l.findIdx (fun h => sameB h.f0 name) < l.length
 ·have hfd : fdx (fun h => sameB h.f0 name) l = ((l.findIdx (fun h => sameB h.f0 name) : Nat) : Int) := if_pos hf
  have hlt : ∀ h ∈ l.take (l.findIdx (fun h => sameB h.f0 name)), eqn h.f0 name = false := by
   intro h hh
   rw [← hpe h (List.mem_of_mem_take hh)]
   obtain ⟨j, hj, rfl⟩ := List.getElem_of_mem hh
   rw [List.length_take] at hj
   rw [List.getElem_take]
   have := List.not_of_lt_findIdx (p := fun h : Hd => sameB h.f0 name) (xs := l) (i := j) (by omega)
   simpa using this
  have hat : eqn (l[l.findIdx (fun h => sameB h.f0 name)]'hf).f0 name = true := by
   rw [← hpe _ (List.getElem_mem hf)]
   exact List.findIdx_getElem (w := hf)
  rw [hfd] at hix
  generalize l.findIdx (fun h => sameB h.f0 name) = i at *
  have hrm := remove_f (l.drop i) (by rw [List.length_drop]; omega) (fun h hh => (hs h (List.mem_of_mem_drop hh)).1) name hn
  have hle : (no_ name (l.drop i)).length ≤ l.length - i := by
   have := List.length_filter_le (fun h : Hd => !eqn h.f0 name) (l.drop i)
   rw [List.length_drop] at this
   exact this
  have htl : (l.take i).length = i := by rw [List.length_take]; omega
  have hcc : api_Header_42.f [l.take i, [⟨name, around value n4⟩], no_ name (l.drop i)] = some (l.take i ++ ([⟨name, around value n4⟩] ++ no_ name (l.drop i))) := by
   unfold api_Header_42.f
   have e : [l.take i, [(⟨name, around value n4⟩ : Hd)], no_ name (l.drop i)].flatten = l.take i ++ ([⟨name, around value n4⟩] ++ no_ name (l.drop i)) := by simp
   rw [e, if_pos (by rw [List.length_append, List.length_append]; simp; omega)]
  have hput : put name ⟨name, around value n4⟩ l = l.take i ++ ([⟨name, around value n4⟩] ++ no_ name (l.drop i)) := by
   conv => lhs; rw [← List.take_append_drop i l]
   rw [put_pre _ _ _ _ hlt, List.drop_eq_getElem_cons hf, put, if_pos hat, no_cons, if_pos hat]
   rfl
  have hne : ¬ (of_ name l).length = 0 := fun h => by
   have : l[i]'hf ∈ of_ name l := List.mem_filter.2 ⟨List.getElem_mem hf, hat⟩
   rw [List.eq_nil_of_length_eq_zero h] at this
   cases this
  unfold setOf
  by_cases h0 : e = 0
  ·rw [if_pos h0, if_neg (fun x => hne x.1), hput]
   refine Ev.congr (fun k => by rw [headers_Set.f, hix, Option.bind_some, if_neg (by omega)]) (Ev.bind hg (ev_pos h0 (Ev.congr (fun k => ?_) (Ev.now _))))
   rw [if_pos (by omega), if_pos (by omega), Int.toNat_natCast, hrm, Option.bind_some, hcc, Option.bind_some]
  ·rw [if_neg h0]
   exact Ev.congr (fun k => by rw [headers_Set.f, hix, Option.bind_some, if_neg (by omega)]) (Ev.bind hg (ev_not h0 (Ev.now _)))
 ·have hfd : fdx (fun h => sameB h.f0 name) l = -1 := if_neg hf
  rw [hfd] at hix
  have hnone : ∀ h ∈ l, eqn h.f0 name = false := by
   intro h hh
   rw [← hpe h hh]
   have hge : l.length ≤ l.findIdx (fun h => sameB h.f0 name) := by omega
   have := List.findIdx_eq_length.1 (Nat.le_antisymm List.findIdx_le_length hge) h hh
   simpa using this
  have hof : of_ name l = [] := List.filter_eq_nil_iff.2 fun h hh => by rw [hnone h hh]; simp
  have hput : put name ⟨name, around value n4⟩ l = l ++ [⟨name, around value n4⟩] := by
   have := put_pre name ⟨name, around value n4⟩ l [] hnone
   rw [List.append_nil] at this
   exact this
  have heq : setOf l name ⟨name, around value n4⟩ e = added l ⟨name, around value n4⟩ e := by
   unfold setOf added
   rw [hof, hput]
   simp
  rw [heq]
  exact Ev.congr (fun k => by rw [headers_Set.f, hix, Option.bind_some, if_pos (by decide)]) (Ev.bind (add_of l hl name value e hg h256) (Ev.now _))
theorem put_len (name : ByteArray) (h : Hd) : ∀ l : List Hd, (put name h l).length ≤ l.length + 1
 | [] => by simp [put]
 | a :: l => by
  rw [put]
  split
  ·have := List.length_filter_le (fun h : Hd => !eqn h.f0 name) l
   show (no_ name l).length + 1 ≤ _
   unfold no_
   rw [List.length_cons]
   omega
  ·rw [List.length_cons, List.length_cons]
   have := put_len name h l
   omega
theorem HeadersPuts (l : List Hd) (name value : ByteArray) (hl : l.length ≤ 1048576) (hs : ∀ h ∈ l, Small h) (hn : name.size ≤ 1048576) (hv : value.size ≤ 1048576) : ∃ k, pergolalaw11_HeadersPuts.f k l name value = some true := by
 obtain ⟨e, hg, h256, hr⟩ := given_both l hl hs name value hn hv
 have h1 := set_of l hl hs name value hn e hg h256
 have h2 := rset_of l hl hs name value hn hv e hr
 have h3 := add_of l hl name value e hg h256
 have hrt := hr true
 rw [if_pos rfl] at hrt
 have h4 := radd_of l hl name value hv e hrt
 have hA : (added l ⟨name, around value n4⟩ e).1.length ≤ 1048576 := by
  unfold added
  split
  ·rename_i h0
   have := h256 h0
   split
   ·simp
   ·simp; omega
  ·simp
 have hS : (setOf l name ⟨name, around value n4⟩ e).1.length ≤ 1048576 := by
  unfold setOf
  split
  ·rename_i h0
   have := h256 h0
   have hp := put_len name ⟨name, around value n4⟩ l
   split
   ·simp
   ·show (put _ _ l).length ≤ _
    omega
  ·simp
 have key : Ev (fun k => pergolalaw11_HeadersPuts.f k l name value) true := by
  refine Ev.congr (fun k => by rw [pergolalaw11_HeadersPuts.f, if_pos (show l.length ≤ 4398046511000 by omega), Option.bind_some]) ?_
  refine Ev.bind h1 (Ev.bind h2 (Ev.bind h3 (Ev.bind h4 (Ev.bind (sameh_f _ hS) (ev_pos rfl ?_)))))
  refine Ev.congr (fun k => by rw [pergolalaw11_num.f, Option.bind_some]) (ev_pos rfl (Ev.bind (sameh_f _ hA) (ev_pos rfl ?_)))
  exact Ev.congr (fun k => by rw [pergolalaw11_num.f, Option.bind_some]) (ev_pos rfl (Ev.bind puts_alive (Ev.now _)))
 exact key.rounds
end Go.Proofs.YtjadlnmphcoioaaGreatDoor.Pure
