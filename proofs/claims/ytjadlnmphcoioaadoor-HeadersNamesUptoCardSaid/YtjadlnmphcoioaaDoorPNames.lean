/- What headers.Get, Remove, Add, Set compute: Get hangs on headers of that name alone; behind Set it is just that value, behind Remove none: the law HeadersNames answers true. -/
import Derived.Test.YtjadlnmphcoioaaDoorPCheck
import Derived.Test.YtjadlnmphcoioaaDoorPCase
import Derived.Test.YtjadlnmphcoioaaDoorX4
import Derived.Test.YtjadlnmphcoioaaDoorX7
namespace Go.Proofs.YtjadlnmphcoioaaDoor.Pure
open Go.RowKit Go.Proofs.YtjadlnmphcoioaaDoor.X Go.Proofs.YtjadlnmphcoioaaDoorW.PrintWords Go.Proofs.YtjadlnmphcoioaaDoorW.PrintLast Go.Proofs.YtjadlnmphcoioaaDoorW.PrintMore

theorem names_alive : Ev (fun k => pergolalaw11_alive.f k) true := Ev.of pergolalaw11_alive.mono (k := 200) (by decide +kernel)
theorem ev_not {α : Type} {c : Prop} [Decidable c] (h : ¬ c) {f g : Nat → Option α} {r : α} (hf : Ev g r) : Ev (fun k => if c then f k else g k) r := Ev.congr (fun _ => if_neg h) hf

/-! the same name -/
def lw (s : ByteArray) : List Int := (bytesOf s).map low
def eqn (n name : ByteArray) : Bool := decide (lw n = lw name)
theorem same_f (a b : ByteArray) (ha : a.size ≤ 1048576) (hb : b.size ≤ 1048576) : octets_Same.f a b = some (eqn a b) := by
  rw [octets_Same.f, lower_f a (by omega), Option.bind_some, lower_f b (by omega), Option.bind_some, toList_beq]
  congr 1
  unfold eqn lw
  rw [decide_eq_decide]
  exact ⟨fun h => str_inj (map_bytes (fun _ => low_byte) a) (map_bytes (fun _ => low_byte) b) h, fun h => by rw [h]⟩
theorem sameB_eqn (a b : ByteArray) (ha : a.size ≤ 1048576) (hb : b.size ≤ 1048576) : sameB a b = eqn a b := by
  unfold sameB
  rw [same_f a b ha hb]
  cases eqn a b <;> rfl
def upper (s : ByteArray) : ByteArray := strOfNums ((bytesOf s).map upp)
theorem eqn_upper (n name : ByteArray) : eqn n (upper name) = eqn n name := by
  unfold eqn lw upper
  rw [bytesOf_str (map_bytes (fun _ => upp_byte) name), List.map_map]
  have : (bytesOf name).map (low ∘ upp) = (bytesOf name).map low := List.map_congr_left fun c hc => low_upp (Bytes.of name c hc)
  rw [this]
theorem eqn_self (n : ByteArray) : eqn n n = true := decide_eq_true rfl
def of_ (name : ByteArray) (l : List Hd) : List Hd := l.filter fun h => eqn h.f0 name
def no_ (name : ByteArray) (l : List Hd) : List Hd := l.filter fun h => !eqn h.f0 name

/-! Get -/
theorem all_l0 (l : List Hd) (hl : l.length ≤ 1048577) (hs : ∀ h ∈ l, Small h) (name : ByteArray) (hn : name.size ≤ 1048576) (d : Nat) : ∀ (i : Nat) (acc : List ByteArray), i + d = l.length → acc.length ≤ i →
    Ev (fun k => headers_All.l0 k name acc l (l.length : Int) (i : Int)) (acc ++ (of_ name (l.drop i)).map (·.f1)) := by
  induction d with
  | zero =>
    intro i acc hi ha
    rw [List.drop_of_length_le (by omega)]
    refine Ev.step (f := fun _ => some acc) (fun k => ?_) (ev_some (by simp [of_]))
    rw [headers_All.l0, if_neg (by omega)]
  | succ d ih =>
    intro i acc hi ha
    have hi' : i < l.length := by omega
    have hw : wrap64 ((i : Int) + 1) = ((i + 1 : Nat) : Int) := by unfold wrap64; omega
    have hm := hs _ (List.getElem_mem hi')
    have e1 : ∀ k, headers_All.l0 (k + 1) name acc l (l.length : Int) (i : Int) = if eqn (l[i]'hi').f0 name = true then headers_All.l0 k name (acc ++ [(l[i]'hi').f1]) l (l.length : Int) ((i + 1 : Nat) : Int) else headers_All.l0 k name acc l (l.length : Int) ((i + 1 : Nat) : Int) := fun k => by
      rw [headers_All.l0, if_pos (by omega), if_pos (by omega), if_pos (by omega), rd_at l i hi', same_f _ _ hm.1 hn, Option.bind_some, hw, if_pos (show acc.length < 8796093022208 by omega)]
    rw [List.drop_eq_getElem_cons hi']
    refine Ev.step e1 ?_
    by_cases h : eqn (l[i]'hi').f0 name = true
    · have := ih (i + 1) (acc ++ [(l[i]'hi').f1]) (by omega) (by rw [List.length_append]; simp; omega)
      rw [List.append_assoc] at this
      refine ev_pos h ?_
      unfold of_ at this ⊢
      rw [List.filter_cons_of_pos (p := fun h : Hd => eqn h.f0 name) h]
      exact this
    · refine ev_not h ?_
      have := ih (i + 1) acc (by omega) (by omega)
      unfold of_ at this ⊢
      rw [List.filter_cons_of_neg (p := fun h : Hd => eqn h.f0 name) h]
      exact this
theorem join_len (vs : List (List UInt8)) (n : Nat) (h : ∀ v ∈ vs, v.length ≤ n) (sep : List UInt8) : (Lib.join vs sep).length ≤ vs.length * (n + sep.length) := by
  induction vs with
  | nil => simp [Lib.join]
  | cons a t ih =>
    have h1 := h a (List.mem_cons_self ..)
    have h2 := ih (fun v hv => h v (List.mem_cons_of_mem _ hv))
    cases t with
    | nil => simp [Lib.join]; omega
    | cons b t =>
      have e : (Lib.join (a :: b :: t) sep).length = a.length + sep.length + (Lib.join (b :: t) sep).length := by
        simp [Lib.join, List.intercalate, List.intersperse]
        omega
      rw [e, List.length_cons, Nat.add_mul]
      omega
def joined (vs : List ByteArray) : ByteArray := ⟨(strings_Join.text vs (⟨#[44, 32]⟩ : ByteArray)).toArray⟩
theorem get_f (l : List Hd) (hl : l.length ≤ 1048577) (hs : ∀ h ∈ l, Small h) (name : ByteArray) (hn : name.size ≤ 1048576) :
    Ev (fun k => headers_Get.f k l name) (joined ((of_ name l).map (·.f1)), decide (0 < (of_ name l).length)) := by
  have ha := all_l0 l hl hs name hn l.length 0 [] (by omega) (by simp)
  rw [List.drop_zero, List.nil_append] at ha
  have hle : (of_ name l).length ≤ 1048577 := Nat.le_trans (List.length_filter_le _ _) hl
  have hj : strings_Join.f ((of_ name l).map (·.f1)) (⟨#[44, 32]⟩ : ByteArray) = some (joined ((of_ name l).map (·.f1))) := by
    refine if_pos ⟨by rw [List.length_map]; omega, ?_⟩
    refine Nat.le_trans (join_len _ 1048576 (fun v hv => ?_) _) ?_
    · obtain ⟨s, hs1, rfl⟩ := List.mem_map.1 hv
      obtain ⟨h, hh, rfl⟩ := List.mem_map.1 hs1
      have := (hs h (List.mem_filter.1 hh).1).2
      rw [← Lib.size_eq]
      exact this
    · rw [List.length_map, List.length_map]
      show (of_ name l).length * (1048576 + 2) ≤ _
      omega
  refine Ev.bind ha (Ev.congr (fun k => ?_) (Ev.now _))
  rw [hj, Option.bind_some, List.length_map]
  congr 2
  rw [decide_eq_decide]
  omega
theorem joined_one (v : ByteArray) : joined [v] = v := by
  unfold joined strings_Join.text
  show (⟨(Lib.join [v.data.toList] _).toArray⟩ : ByteArray) = v
  rw [show Lib.join [v.data.toList] (⟨#[44, 32]⟩ : ByteArray).data.toList = v.data.toList by simp [Lib.join]]
  try exact Lib.mk_data v

/-! Remove -/
theorem filter_alike {p q : Hd → Bool} (l : List Hd) (h : ∀ x ∈ l, p x = q x) : l.filter p = l.filter q := List.filter_congr h
theorem remove_f (l : List Hd) (hl : l.length ≤ 1048577) (hs : ∀ h ∈ l, h.f0.size ≤ 1048576) (name : ByteArray) (hn : name.size ≤ 1048576) : headers_Remove.f l name = some (no_ name l) := by
  rw [headers_Remove.f, if_pos ⟨by omega, List.all_eq_true.2 fun h hh => by rw [same_f _ _ (hs h hh) hn]; rfl⟩]
  congr 1
  exact filter_alike l fun h hh => by rw [sameB_eqn _ _ (hs h hh) hn]
theorem of_no (name : ByteArray) (l : List Hd) : of_ name (no_ name l) = [] := by
  unfold of_ no_
  rw [List.filter_filter, List.filter_eq_nil_iff]
  intro h _
  cases eqn h.f0 name <;> simp
theorem of_of (name : ByteArray) (l : List Hd) : of_ name (of_ name l) = of_ name l := by
  unfold of_
  rw [List.filter_filter]
  exact filter_alike l fun h _ => by cases eqn h.f0 name <;> rfl

/-! Set -/
theorem given_f (l : List Hd) (hl : l.length ≤ 1048576) (hs : ∀ h ∈ l, Small h) (name value : ByteArray) (hn : name.size ≤ 1048576) (hv : value.size ≤ 1048576) :
    ∃ e : Int, Ev (fun k => headers_given.f k l name value) (name, around value n4, e) ∧ (e = 0 → l.length ≤ 256) := by
  obtain ⟨c, q, hc, hiff⟩ := check_f l hl hs
  have hvs := around_size value n4
  have e1 : ∀ k, headers_given.f k l name value = (headers_Check.f k l).bind fun bt => if bt.1 = 0 then (headers_one.f k name (around value n4)).bind fun t => some (name, around value n4, t) else some (name, around value n4, bt.1) := fun k => by
    rw [headers_given.f, normal_f value hv, Option.bind_some]
  by_cases h0 : c = 0
  · exact ⟨_, Ev.congr e1 (Ev.bind hc (ev_pos h0 (Ev.bind (one_f name (around value n4) hn (by omega)) (Ev.now _)))), fun _ => (hiff.1 h0).1⟩
  · exact ⟨c, Ev.congr e1 (Ev.bind hc (ev_not h0 (Ev.now _))), fun h => absurd h h0⟩
theorem add_f (l : List Hd) (hl : l.length ≤ 1048576) (hs : ∀ h ∈ l, Small h) (name value : ByteArray) (hn : name.size ≤ 1048576) (hv : value.size ≤ 1048576) :
    ∃ (m : List Hd) (e : Int), Ev (fun k => headers_Add.f k l name value) (m, e) ∧ (e = 0 → m = l ++ [⟨name, around value n4⟩] ∧ l.length ≤ 256) ∧ (e ≠ 0 → m = []) := by
  obtain ⟨e, hg, h256⟩ := given_f l hl hs name value hn hv
  have j0 : ∀ (e : Int) (b : Bool), ∃ (m : List Hd) (e2 : Int), Ev (fun k => headers_Add.j0 k l e b name (around value n4)) (m, e2) ∧ (e2 = 0 → m = l ++ [⟨name, around value n4⟩] ∧ e = 0) ∧ (e2 ≠ 0 → m = []) := by
    intro e b
    have hc : api_Header_53.f l = some l := by
      unfold api_Header_53.f
      rw [Option.bind_some, if_pos (by simp; omega)]
      rfl
    cases b with
    | true => exact ⟨[], 3, Ev.step (f := fun _ => some (([] : List Hd), 3)) (fun k => by rw [headers_Add.j0, if_pos rfl]; rfl) (Ev.now _), fun h => absurd h (by decide), fun _ => rfl⟩
    | false =>
      by_cases h0 : e = 0
      · refine ⟨l ++ [⟨name, around value n4⟩], 0, Ev.step (f := fun _ => some (l ++ [(⟨name, around value n4⟩ : Hd)], 0)) (fun k => ?_) (Ev.now _), fun _ => ⟨rfl, h0⟩, fun h => absurd rfl h⟩
        rw [headers_Add.j0, if_neg (by decide), if_pos h0, hc, Option.bind_some, Option.bind_some, if_pos (by simp; omega)]
      · refine ⟨[], e, Ev.step (f := fun _ => some (([] : List Hd), e)) (fun k => ?_) (Ev.now _), fun h => absurd h h0, fun _ => rfl⟩
        rw [headers_Add.j0, if_neg (by decide), if_neg h0]
  by_cases h0 : e = 0
  · obtain ⟨m, e2, hj, hz, hne⟩ := j0 e (decide ((l.length : Int) ≥ 256))
    exact ⟨m, e2, Ev.congr (fun k => by rw [headers_Add.f]) (Ev.bind hg (ev_pos h0 hj)), fun h => ⟨(hz h).1, h256 h0⟩, hne⟩
  · obtain ⟨m, e2, hj, hz, hne⟩ := j0 e false
    exact ⟨m, e2, Ev.congr (fun k => by rw [headers_Add.f]) (Ev.bind hg (ev_not h0 hj)), fun h => absurd (hz h).2 h0, hne⟩
/-- What Set answers. -/
theorem set_f (l : List Hd) (hl : l.length ≤ 1048576) (hs : ∀ h ∈ l, Small h) (name value : ByteArray) (hn : name.size ≤ 1048576) (hv : value.size ≤ 1048576) :
    ∃ (m : List Hd) (e : Int), Ev (fun k => headers_Set.f k l name value) (m, e) ∧ (e = 0 → l.length ≤ 256 ∧ of_ name m = [⟨name, around value n4⟩] ∧ no_ name m = no_ name l ∧ m.length ≤ l.length + 1 ∧ ∀ h ∈ m, h ∈ l ∨ h = ⟨name, around value n4⟩) ∧ (e ≠ 0 → m = []) := by
  have hix : headers_Set.ix l name = some (fdx (fun h => sameB h.f0 name) l) := if_pos (List.all_eq_true.2 fun h hh => by rw [same_f _ _ (hs h hh).1 hn]; rfl)
  have hpe : ∀ h ∈ l, sameB h.f0 name = eqn h.f0 name := fun h hh => sameB_eqn _ _ (hs h hh).1 hn
  by_cases hf : l.findIdx (fun h => sameB h.f0 name) < l.length
  · have hfd : fdx (fun h => sameB h.f0 name) l = ((l.findIdx (fun h => sameB h.f0 name) : Nat) : Int) := if_pos hf
    have hlt : ∀ h ∈ l.take (l.findIdx (fun h => sameB h.f0 name)), eqn h.f0 name = false := by
      intro h hh
      rw [← hpe h (List.mem_of_mem_take hh)]
      obtain ⟨j, hj, rfl⟩ := List.getElem_of_mem hh
      rw [List.length_take] at hj
      rw [List.getElem_take]
      have := List.not_of_lt_findIdx (p := fun h : Hd => sameB h.f0 name) (xs := l) (i := j) (by omega)
      simpa using this
    rw [hfd] at hix
    generalize l.findIdx (fun h => sameB h.f0 name) = i at *
    obtain ⟨e, hg, h256⟩ := given_f l hl hs name value hn hv
    have hrm := remove_f (l.drop i) (by rw [List.length_drop]; omega) (fun h hh => (hs h (List.mem_of_mem_drop hh)).1) name hn
    have hno1 : no_ name (l.take i) = l.take i := List.filter_eq_self.2 fun h hh => by rw [hlt h hh]; rfl
    have hof1 : of_ name (l.take i) = [] := List.filter_eq_nil_iff.2 fun h hh => by rw [hlt h hh]; simp
    have hnl : no_ name l = l.take i ++ no_ name (l.drop i) := by
      conv => lhs; rw [← List.take_append_drop i l]
      show List.filter _ (_ ++ _) = _
      rw [List.filter_append]
      show no_ name (l.take i) ++ no_ name (l.drop i) = _
      rw [hno1]
    have hle : (no_ name (l.drop i)).length ≤ l.length - i := by
      have := List.length_filter_le (fun h : Hd => !eqn h.f0 name) (l.drop i)
      rw [List.length_drop] at this
      exact this
    have htl : (l.take i).length = i := by rw [List.length_take]; omega
    have hcc : api_Header_59.f [l.take i, [⟨name, around value n4⟩], no_ name (l.drop i)] = some (l.take i ++ ([⟨name, around value n4⟩] ++ no_ name (l.drop i))) := by
      unfold api_Header_59.f
      have e : [l.take i, [(⟨name, around value n4⟩ : Hd)], no_ name (l.drop i)].flatten = l.take i ++ ([⟨name, around value n4⟩] ++ no_ name (l.drop i)) := by simp
      rw [e, if_pos (by rw [List.length_append, List.length_append]; simp; omega)]
    by_cases h0 : e = 0
    · refine ⟨l.take i ++ ([⟨name, around value n4⟩] ++ no_ name (l.drop i)), 0, Ev.congr (fun k => by rw [headers_Set.f, hix, Option.bind_some, if_neg (by omega)]) (Ev.bind hg (ev_pos h0 (Ev.congr (fun k => ?_) (Ev.now _)))), fun _ => ⟨h256 h0, ?_, ?_, ?_, ?_⟩, fun h => absurd rfl h⟩
      · rw [if_pos (by omega), if_pos (by omega), Int.toNat_natCast, hrm, Option.bind_some, hcc, Option.bind_some]
      · unfold of_
        rw [List.filter_append, List.filter_append]
        show of_ name (l.take i) ++ (_ ++ of_ name (no_ name (l.drop i))) = _
        rw [hof1, of_no]
        simp [eqn_self]
      · unfold no_
        rw [List.filter_append, List.filter_append]
        show no_ name (l.take i) ++ (_ ++ no_ name (no_ name (l.drop i))) = no_ name l
        rw [hnl, hno1]
        have : no_ name (no_ name (l.drop i)) = no_ name (l.drop i) := List.filter_eq_self.2 fun h hh => (List.mem_filter.1 hh).2
        rw [this]
        simp [eqn_self]
      · rw [List.length_append, List.length_append, htl]
        simp
        omega
      · intro h hh
        rcases List.mem_append.1 hh with h1 | h1
        · exact .inl (List.mem_of_mem_take h1)
        · rcases List.mem_append.1 h1 with h2 | h2
          · exact .inr (List.mem_singleton.1 h2)
          · exact .inl (List.mem_of_mem_drop (List.mem_filter.1 h2).1)
    · exact ⟨[], e, Ev.congr (fun k => by rw [headers_Set.f, hix, Option.bind_some, if_neg (by omega)]) (Ev.bind hg (ev_not h0 (Ev.now _))), fun h => absurd h h0, fun _ => rfl⟩
  · have hfd : fdx (fun h => sameB h.f0 name) l = -1 := if_neg hf
    rw [hfd] at hix
    have hnone : ∀ h ∈ l, eqn h.f0 name = false := by
      intro h hh
      rw [← hpe h hh]
      have hge : l.length ≤ l.findIdx (fun h => sameB h.f0 name) := by omega
      have := List.findIdx_eq_length.1 (Nat.le_antisymm List.findIdx_le_length hge) h hh
      simpa using this
    have hof : of_ name l = [] := List.filter_eq_nil_iff.2 fun h hh => by rw [hnone h hh]; simp
    have hno : no_ name l = l := List.filter_eq_self.2 fun h hh => by rw [hnone h hh]; rfl
    obtain ⟨m, e, ha, hz, hne⟩ := add_f l hl hs name value hn hv
    refine ⟨m, e, Ev.congr (fun k => by rw [headers_Set.f, hix, Option.bind_some, if_pos (by decide)]) (Ev.bind ha (Ev.now _)), fun h => ?_, hne⟩
    obtain ⟨rfl, h256⟩ := hz h
    refine ⟨h256, ?_, ?_, by rw [List.length_append]; simp, fun x hx => ?_⟩
    · unfold of_ at hof ⊢
      rw [List.filter_append, hof]
      simp [eqn_self]
    · rw [hno]
      unfold no_ at hno ⊢
      rw [List.filter_append, hno]
      simp [eqn_self]
    · rcases List.mem_append.1 hx with h1 | h1
      · exact .inl h1
      · exact .inr (List.mem_singleton.1 h1)
end Go.Proofs.YtjadlnmphcoioaaDoor.Pure
