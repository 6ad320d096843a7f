/- Parse of Print is the flags; of two texts one behind the other the flags that both have; Print of what Parse has read is as short at least: the law SandboxBack answers true, for texts of together at most 1048576 bytes. -/
import Derived.Test.YtlaiggkgflbjhaaDoorPPrint
import Derived.Test.YtlaiggkgflbjhaaDoorX5
namespace Go.Proofs.YtlaiggkgflbjhaaDoor.Pure
open Go.RowKit Go.Proofs.YtlaiggkgflbjhaaDoor.X Go.Proofs.YtlaiggkgflbjhaaDoorW.PrintWords Go.Proofs.YtlaiggkgflbjhaaDoorW.PrintLast Go.Proofs.YtlaiggkgflbjhaaDoorW.PrintMore

/-! Words of two texts, one behind the other -/
theorem wd_two (c : Int) (hc : bl c = true) (m : List Int) : ∀ (l cur : List Int), wd (l ++ c :: m) cur = wd l cur ++ wd m [] := by
  intro l
  induction l with
  | nil =>
    intro cur
    simp only [List.nil_append, wd, hc, if_true]
    by_cases h : cur = [] <;> simp [h]
  | cons a t ih =>
    intro cur
    rw [List.cons_append, wd, wd]
    by_cases ha : bl a = true
    · rw [if_pos ha, if_pos ha]
      by_cases h : cur = []
      · rw [if_pos h, if_pos h, ih]
      · rw [if_neg h, if_neg h, ih]
        rfl
    · rw [if_neg ha, if_neg ha, ih]
theorem bytesOf_app (a b : ByteArray) : bytesOf (a ++ b) = bytesOf a ++ bytesOf b := by
  unfold bytesOf
  rw [ByteArray.data_append, Array.toList_append, List.map_append]
theorem ws_two (s t : ByteArray) : ws (s ++ ⟨#[32]⟩ ++ t) = ws s ++ ws t := by
  unfold ws
  rw [bytesOf_app, bytesOf_app, List.append_assoc, show bytesOf ⟨#[32]⟩ = [32] from by decide +kernel, List.singleton_append, wd_two 32 (by decide), List.map_append]
theorem wl_two (s t : ByteArray) : wl (s ++ ⟨#[32]⟩ ++ t) = wl s ++ wl t := by
  unfold wl
  rw [ws_two, List.map_append]

/-! Words of tokens, joined -/
theorem wd_nb' (u : List Int) (hu : ∀ c ∈ u, bl c = false) : ∀ (t cur : List Int), wd (u ++ t) cur = wd t (cur ++ u) := by
  induction u with
  | nil => intro t cur; rw [List.nil_append, List.append_nil]
  | cons a u ih =>
    intro t cur
    have ha : bl a = false := hu a (by simp)
    rw [List.cons_append, wd, ha, if_neg (by decide), ih (fun c h => hu c (List.mem_cons_of_mem a h)), List.append_assoc]
    rfl
def nums (l : List UInt8) : List Int := l.map fun b => ((b.toNat : Nat) : Int)
theorem bytesOf_nums (s : ByteArray) : bytesOf s = nums s.data.toList := rfl
theorem wd_tail (l : List (List UInt8)) (h : ∀ x ∈ l, x ≠ [] ∧ ∀ c ∈ nums x, bl c = false) : ∀ cur : List Int, cur ≠ [] → wd (nums (Lib.joinTail [32] l)) cur = cur :: l.map nums := by
  induction l with
  | nil =>
    intro cur hc
    show wd [] cur = _
    rw [wd, if_neg hc]
    rfl
  | cons x t ih =>
    intro cur hc
    obtain ⟨h1, h2⟩ := h x (by simp)
    have e : nums (Lib.joinTail [32] (x :: t)) = 32 :: (nums x ++ nums (Lib.joinTail [32] t)) := by
      unfold nums Lib.joinTail
      simp
    have hne : nums x ≠ [] := fun e => h1 (List.map_eq_nil_iff.1 e)
    rw [e, wd, if_pos (by decide), if_neg hc, wd_nb' _ h2, List.nil_append, ih (fun y hy => h y (List.mem_cons_of_mem x hy)) _ hne]
    rfl
theorem wd_join (l : List (List UInt8)) (h : ∀ x ∈ l, x ≠ [] ∧ ∀ c ∈ nums x, bl c = false) : wd (nums (Lib.join l [32])) [] = l.map nums := by
  cases l with
  | nil => rfl
  | cons x t =>
    obtain ⟨h1, h2⟩ := h x (by simp)
    have hne : nums x ≠ [] := fun e => h1 (List.map_eq_nil_iff.1 e)
    rw [Lib.join_cons, show nums (x ++ Lib.joinTail [32] t) = nums x ++ nums (Lib.joinTail [32] t) from List.map_append, wd_nb' _ h2, List.nil_append, wd_tail t (fun y hy => h y (List.mem_cons_of_mem x hy)) _ hne]
    rfl
theorem tok_words : ∀ t ∈ tokS, t.f0.data.toList ≠ [] ∧ ∀ c ∈ nums t.f0.data.toList, bl c = false := by
  have h : (tokS.all fun t => decide (t.f0.data.toList ≠ []) && (nums t.f0.data.toList).all fun c => !bl c) = true := by decide +kernel
  intro t ht
  have := List.all_eq_true.1 h t ht
  rw [Bool.and_eq_true, List.all_eq_true] at this
  exact ⟨of_decide_eq_true this.1, fun c hc => by
    have := this.2 c hc
    cases hb : bl c
    · rfl
    · rw [hb] at this
      cases this⟩
theorem ws_joined (l : List STok) (hm : ∀ t ∈ l, t ∈ tokS) : ws (joined l) = l.map (·.f0) := by
  unfold ws
  rw [bytesOf_nums, show (joined l).data.toList = strings_Join.text (l.map (·.f0)) sp1 by unfold joined; rfl]
  unfold strings_Join.text
  rw [show sp1.data.toList = [32] from rfl, wd_join _ (fun x hx => by
    rw [List.map_map] at hx
    obtain ⟨t, ht, rfl⟩ := List.mem_map.1 hx
    exact tok_words t (hm t ht)), List.map_map, List.map_map, List.map_map]
  exact List.map_congr_left fun (t : STok) _ => str_bytesOf t.f0
theorem tok_self : ∀ t ∈ tokS, lw t.f0 = t.f0 ∧ ¬ tokIdx t.f0 < 0 ∧ offN t.f0 = t.f1.toNat := by
  have h : (tokS.all fun t => decide (lw t.f0 = t.f0) && decide (¬ tokIdx t.f0 < 0) && decide (offN t.f0 = t.f1.toNat)) = true := by decide +kernel
  intro t ht
  have := List.all_eq_true.1 h t ht
  simp only [Bool.and_eq_true, decide_eq_true_eq] at this
  exact ⟨this.1.1, this.1.2, this.2⟩
theorem wl_joined (l : List STok) (hm : ∀ t ∈ l, t ∈ tokS) : wl (joined l) = l.map (·.f0) := by
  unfold wl
  rw [ws_joined l hm, List.map_map]
  exact List.map_congr_left fun t ht => (tok_self t (hm t ht)).1
theorem unk_tokens (l : List STok) (hm : ∀ t ∈ l, t ∈ tokS) : unk (l.map (·.f0)) = [] := by
  unfold unk
  rw [List.filter_eq_nil_iff]
  intro v hv
  obtain ⟨t, ht, rfl⟩ := List.mem_map.1 hv
  rw [decide_eq_true_eq]
  exact (tok_self t (hm t ht)).2.1
theorem flF_tokens (l : List STok) (hm : ∀ t ∈ l, t ∈ tokS) : flF (l.map (·.f0)) 65535 = an 65535 (orF l 0) := by
  have hg : Good l := fun t ht => tokS_good t (hm t ht)
  have ho := orF_lt l hg 0 (by omega)
  apply Nat.eq_of_testBit_eq
  intro i
  rw [flF_bit _ i 65535 (by omega), an_bit 65535 _ i (by omega) (by omega), orF_bit, Nat.zero_testBit, Bool.false_or]
  congr 1
  rw [List.all_map]
  have : (l.all ((fun v => decide (tokIdx v < 0) || !(offN v).testBit i) ∘ fun x => x.f0)) = l.all fun t : STok => !t.f1.toNat.testBit i := by
    rw [Bool.eq_iff_iff, List.all_eq_true, List.all_eq_true]
    have e : ∀ t ∈ l, ((fun v => decide (tokIdx v < 0) || !(offN v).testBit i) ∘ fun x : STok => x.f0) t = !t.f1.toNat.testBit i := fun t ht => by
      obtain ⟨_, h2, h3⟩ := tok_self t (hm t ht)
      show (decide (tokIdx t.f0 < 0) || !(offN t.f0).testBit i) = _
      rw [decide_eq_false h2, h3, Bool.false_or]
    exact ⟨fun h t ht => by rw [← e t ht]; exact h t ht, fun h t ht => by rw [e t ht]; exact h t ht⟩
  rw [this, ← List.not_any_eq_all_not]
theorem an_an (f : Nat) (hf : f ≤ 65535) : an 65535 (an 65535 f) = f := by
  have hle := an_le 65535 f
  apply Nat.eq_of_testBit_eq
  intro i
  rw [an_bit _ _ i (by omega) (by omega), an_bit _ _ i (by omega) (by omega)]
  by_cases hi : i < 16
  · have h : ∀ j : Fin 16, (65535 : Nat).testBit j.val = true := by decide +kernel
    rw [h ⟨i, hi⟩]
    cases f.testBit i <;> rfl
  · have : f.testBit i = false := Nat.testBit_lt_two_pow (Nat.lt_of_lt_of_le (show f < 2 ^ 16 by omega) (Nat.pow_le_pow_right (by omega) (by omega)))
    have h2 : (65535 : Nat).testBit i = false := Nat.testBit_lt_two_pow (Nat.lt_of_lt_of_le (show 65535 < 2 ^ 16 by omega) (Nat.pow_le_pow_right (by omega) (by omega)))
    rw [this, h2]
    rfl
theorem an_small (f : Nat) (hf : f < 4294967296) (h : an f 65535 = 0) : f ≤ 65535 := by
  refine Classical.byContradiction fun hn => ?_
  obtain ⟨i, hi1, hi2⟩ := Nat.exists_ge_and_testBit_of_ge_two_pow (x := f) (n := 16) (by omega)
  have := an_bit f 65535 i hf (by omega)
  rw [h, Nat.zero_testBit, hi2, Nat.testBit_lt_two_pow (Nat.lt_of_lt_of_le (show 65535 < 2 ^ 16 by omega) (Nat.pow_le_pow_right (by omega) hi1))] at this
  cases this

/-! What Parse has read can be printed, with at most as many words -/
theorem known_tok (v : ByteArray) (h : ¬ tokIdx v < 0) : ∃ t ∈ tokS, t.f0 = v := by
  have key : ∀ (d i : Nat), i + d = 14 → ¬ tokFrom v d i < 0 → ∃ j : Nat, j < 14 ∧ tokName j = v := by
    intro d
    induction d with
    | zero => intro i _ h; exact absurd (show tokFrom v 0 i < 0 by rw [tokFrom]; decide) h
    | succ d ih =>
      intro i hi h
      rw [tokFrom] at h
      split at h
      · rename_i he
        exact ⟨i, by omega, he⟩
      · exact ih (i + 1) (by omega) h
  obtain ⟨j, hj, e⟩ := key 14 0 (by omega) h
  have h2 : ∀ j : Fin 14, (tokS.getD j.val zTok).f0 = tokName j.val := by decide +kernel
  refine ⟨tokS.getD j zTok, ?_, (h2 ⟨j, hj⟩).trans e⟩
  rw [List.getD_eq_getElem?_getD, List.getElem?_eq_getElem (by rw [tokS_len]; exact hj)]
  exact List.getElem_mem _
theorem names_apart : (tokS.map (·.f0)).Nodup := by
  have h : ∀ i j : Fin 14, tokName i.val = tokName j.val → i = j := by decide +kernel
  have e : tokS.map (·.f0) = (List.range 14).map tokName := by decide +kernel
  rw [e, List.nodup_iff_pairwise_ne, List.pairwise_map]
  refine List.Pairwise.imp_of_mem (fun {a b} ha hb hab => ?_) (List.nodup_range (n := 14))
  exact fun k => hab (congrArg Fin.val (h ⟨a, List.mem_range.1 ha⟩ ⟨b, List.mem_range.1 hb⟩ k))
def inL (L : List ByteArray) (v : ByteArray) : Bool := L.any fun w => decide (v = w)
theorem inL_iff (L : List ByteArray) (v : ByteArray) : inL L v = true ↔ v ∈ L := by
  unfold inL
  rw [List.any_eq_true]
  exact ⟨fun ⟨w, hw, e⟩ => of_decide_eq_true e ▸ hw, fun h => ⟨v, h, decide_eq_true rfl⟩⟩
theorem read_set (L : List ByteArray) : ∃ s, s < 2 ^ (may (an 65535 (flF L 65535))).length ∧ orF (sel (may (an 65535 (flF L 65535))) s) 0 = an 65535 (flF L 65535) ∧ (sel (may (an 65535 (flF L 65535))) s).length ≤ L.length := by
  obtain ⟨s, h1, h2⟩ := sel_filter (fun t => inL L t.f0) (may (an 65535 (flF L 65535)))
  have hle := flF_le L 65535
  have hoffle := an_le 65535 (flF L 65535)
  -- the flags that are off: those of a known word
  have hoff : ∀ i, (an 65535 (flF L 65535)).testBit i = true ↔ ∃ v ∈ L, ¬ tokIdx v < 0 ∧ (offN v).testBit i = true := by
    intro i
    rw [an_bit _ _ i (by omega) (by omega), flF_bit L i 65535 (by omega)]
    constructor
    · intro h
      rw [Bool.and_eq_true] at h
      rw [h.1, Bool.true_and, Bool.not_eq_true'] at h
      have h3 := h.2
      rw [← Bool.not_eq_true, List.all_eq_true] at h3
      obtain ⟨v, hv⟩ := Classical.not_forall.1 h3
      obtain ⟨hv1, hv2⟩ := Classical.not_imp.1 hv
      refine ⟨v, hv1, ?_⟩
      rw [Bool.or_eq_true, decide_eq_true_eq, Bool.not_eq_true'] at hv2
      exact ⟨fun k => hv2 (.inl k), by
        cases hb : (offN v).testBit i
        · exact absurd (.inr hb) hv2
        · rfl⟩
    · rintro ⟨v, hv, hk, hb⟩
      have hlt := offN_lt v
      have hi : i < 16 := by
        refine Classical.byContradiction fun hn => ?_
        rw [Nat.testBit_lt_two_pow (Nat.lt_of_lt_of_le (show offN v < 2 ^ 15 by omega) (Nat.pow_le_pow_right (by omega) (by omega)))] at hb
        cases hb
      have h65 : ∀ j : Fin 16, (65535 : Nat).testBit j.val = true := by decide +kernel
      rw [h65 ⟨i, hi⟩, Bool.true_and, Bool.true_and, Bool.not_eq_true', ← Bool.not_eq_true, List.all_eq_true]
      intro k
      have := k v hv
      rw [decide_eq_false hk, hb] at this
      cases this
  refine ⟨s, h1, ?_, ?_⟩
  · rw [h2]
    apply Nat.eq_of_testBit_eq
    intro i
    rw [Bool.eq_iff_iff, orF_bit, Nat.zero_testBit, Bool.false_or, List.any_eq_true, hoff i]
    constructor
    · rintro ⟨t, ht, hb⟩
      obtain ⟨ht1, ht2⟩ := List.mem_filter.1 ht
      obtain ⟨_, hk, ho⟩ := tok_self t (List.mem_filter.1 ht1).1
      exact ⟨t.f0, (inL_iff L _).1 ht2, hk, by rw [ho]; exact hb⟩
    · rintro ⟨v, hv, hk, hb⟩
      obtain ⟨t, ht, rfl⟩ := known_tok v hk
      obtain ⟨_, _, ho⟩ := tok_self t ht
      have hg := tokS_good t ht
      refine ⟨t, List.mem_filter.2 ⟨List.mem_filter.2 ⟨ht, decide_eq_true ?_⟩, (inL_iff L _).2 hv⟩, by rw [← ho]; exact hb⟩
      apply Nat.eq_of_testBit_eq
      intro j
      rw [an_bit _ _ j (by omega) (by omega), Nat.zero_testBit]
      cases hj : t.f1.toNat.testBit j
      · rfl
      · rw [(hoff j).2 ⟨t.f0, hv, hk, by rw [ho]; exact hj⟩]
        rfl
  · rw [h2]
    have hn : (((may (an 65535 (flF L 65535))).filter fun t => inL L t.f0).map (·.f0)).Nodup :=
      List.Nodup.sublist (List.Sublist.map _ ((List.filter_sublist).trans List.filter_sublist)) names_apart
    have := List.Nodup.length_le_of_subset hn (l₂ := L) (fun v hv => by
      obtain ⟨t, ht, rfl⟩ := List.mem_map.1 hv
      exact (inL_iff L _).1 (List.mem_filter.1 ht).2)
    rw [List.length_map] at this
    exact this
theorem tail_back (x1 x2 : ByteArray) (h1 : x1.size ≤ 1048576) (h2 : x2.size ≤ 1048576) : Ev (fun k => pergolalaw17_SandboxBack.j0 k x1 x2) true := by
  have hle1 := flF_le (wl x1) 65535
  have hle2 := flF_le (wl x2) 65535
  have hsz : (x1 ++ (⟨#[32]⟩ : ByteArray)).size = x1.size + 1 := by rw [ByteArray.size_append]; rfl
  have hc := parse_f (x1 ++ (⟨#[32]⟩ : ByteArray) ++ x2) (by rw [ByteArray.size_append, hsz]; omega)
  obtain ⟨s, hs1, hs2, hs3⟩ := read_set (wl x1)
  have hand : ((flF (wl (x1 ++ (⟨#[32]⟩ : ByteArray) ++ x2)) 65535 : Nat) : Int) = Go.bits .and .u32 ((flF (wl x1) 65535 : Nat) : Int) ((flF (wl x2) 65535 : Nat) : Int) := by
    rw [u32_and_nat _ _ (by omega) (by omega)]
    congr 1
    apply Nat.eq_of_testBit_eq
    intro i
    rw [Nat.testBit_and, flF_bit _ i 65535 (by omega), flF_bit _ i 65535 (by omega), flF_bit _ i 65535 (by omega), wl_two, List.all_append]
    cases (65535 : Nat).testBit i <;> simp
  rcases print_f (flF (wl x1) 65535) (by omega) with ⟨h, _⟩ | ⟨_, h, _⟩ | ⟨_, n, hn, hv, hb, hp⟩
  · refine absurd ?_ h
    apply Nat.eq_of_testBit_eq
    intro i
    rw [an_bit _ _ i (by omega) (by omega), Nat.zero_testBit, flF_bit _ i 65535 (by omega)]
    cases (65535 : Nat).testBit i <;> simp
  · exact absurd hs2 (h s hs1)
  · have hm : ∀ t ∈ sel (may (an 65535 (flF (wl x1) 65535))) n, t ∈ tokS := fun t ht => (List.mem_filter.1 (sel_mem _ n t ht)).1
    have hq : (joined (sel (may (an 65535 (flF (wl x1) 65535))) n)).size ≤ 4194304 := by
      have := (join_ok (sel (may (an 65535 (flF (wl x1) 65535))) n) (by rw [sel_len]; exact Nat.le_trans (pcn_le _ _) (may_len _)) hm).1
      show (joined _).data.size ≤ _
      unfold joined
      rw [List.size_toArray]
      omega
    have hd := parse_f _ hq
    rw [wl_joined _ hm, flF_tokens _ hm, hv, an_an _ hle1] at hd
    have hwq := words_f _ hq
    have hwx := words_f x1 (by omega)
    have hlen : (ws (joined (sel (may (an 65535 (flF (wl x1) 65535))) n))).length ≤ (ws x1).length := by
      rw [ws_joined _ hm, List.length_map]
      have := hb s hs1 hs2
      unfold wl at hs3 ⊢
      rw [List.length_map] at hs3
      unfold wl at this
      omega
    refine Ev.step (f := fun k => (sandbox_Parse.f k x1).bind fun bt129 => ((sandbox_Parse.f k x2).bind fun bt133 => (if x1.size + 1 ≤ 9223372036854775807 then (if (x1 ++ (⟨#[32]⟩ : ByteArray)).size + x2.size ≤ 9223372036854775807 then ((sandbox_Parse.f k ((x1 ++ (⟨#[32]⟩ : ByteArray)) ++ x2)).bind fun bt137 => ((sandbox_Print.f k bt129.1).bind fun bt141 => ((sandbox_Parse.f k bt141.1).bind fun bt143 => (if bt137.1 = (Go.bits .and .u32 bt129.1 bt133.1) then ((pergolalaw17_num.f bt141.2).bind fun t147 => (if t147 = 0 then (if bt143.1 = bt129.1 then ((octets_Words.f k bt141.1).bind fun t148 => ((octets_Words.f k x1).bind fun t151 => (some (decide ((t148.length : Int) ≤ (t151.length : Int)))))) else (some false)) else (some false))) else (some false))))) else (none)) else (none)))) (fun k => ?_) (Ev.bind (parse_f x1 (by omega)) (Ev.bind (parse_f x2 (by omega)) ?_))
    · rw [pergolalaw17_SandboxBack.j0]
    · refine Ev.congr (fun k => if_pos (by omega)) (Ev.congr (fun k => if_pos (by omega)) (Ev.bind hc (Ev.bind hp (Ev.bind hd (Ev.congr (fun k => if_pos hand) (Ev.congr (fun k => by rw [show pergolalaw17_num.f 0 = some 0 by decide +kernel, Option.bind_some]; exact if_pos rfl) (Ev.congr (fun k => if_pos rfl) (Ev.bind hwq (Ev.bind hwx (Ev.congr (fun k => ?_) (Ev.now true)))))))))))
      rw [decide_eq_true]
      have : (ws (joined (sel (may (an 65535 (flF (wl x1) 65535))) n))).length ≤ (ws x1).length := hlen
      unfold ws at this
      omega
theorem SandboxBackU : pergolalaw17_SandboxBack.PureU := by
  intro a x1 x2 ha h1 h2
  have ha1 : 0 ≤ a ∧ a ≤ 4294967295 := by simpa [Lit.wf, IntKind.min, IntKind.max, IntKind.signed, IntKind.bits] using ha
  obtain ⟨f, rfl⟩ := Int.eq_ofNat_of_zero_le ha1.1
  have ht := tail_back x1 x2 h1 h2
  have n0 : pergolalaw17_num.f 0 = some 0 := by decide +kernel
  have n1 : pergolalaw17_num.f 1 = some 1 := by decide +kernel
  have n171 : pergolalaw17_num.f 171 = some 171 := by decide +kernel
  have h : Ev (fun k => pergolalaw17_SandboxBack.f k (f : Int) x1 x2) true := by
    refine Ev.bind sand_alive (Ev.congr (fun k => if_pos rfl) ?_)
    rcases print_f f (by omega) with ⟨_, hp⟩ | ⟨_, _, hp⟩ | ⟨h0, n, hn, hv, _, hp⟩
    · exact Ev.bind hp (Ev.congr (fun k => by rw [n171, Option.bind_some, if_neg (by decide), if_pos (by decide +kernel)]) ht)
    · exact Ev.bind hp (Ev.congr (fun k => by rw [n1, Option.bind_some, if_neg (by decide), if_pos (by decide +kernel)]) ht)
    · have hf := an_small f (by omega) h0
      have hm : ∀ t ∈ sel (may (an 65535 f)) n, t ∈ tokS := fun t ht => (List.mem_filter.1 (sel_mem _ n t ht)).1
      have hq : (joined (sel (may (an 65535 f)) n)).size ≤ 4194304 := by
        have := (join_ok (sel (may (an 65535 f)) n) (by rw [sel_len]; exact Nat.le_trans (pcn_le _ _) (may_len _)) hm).1
        show (joined _).data.size ≤ _
        unfold joined
        rw [List.size_toArray]
        omega
      have hd := parse_f _ hq
      rw [wl_joined _ hm, flF_tokens _ hm, hv, an_an f hf, unk_tokens _ hm] at hd
      exact Ev.bind hp (Ev.congr (fun k => by rw [n0, Option.bind_some]; exact if_pos rfl) (Ev.bind hd (Ev.congr (fun k => if_pos rfl) (Ev.congr (fun k => if_pos (by
        have := canon_len []
        rw [List.length_nil] at this
        show ((canon []).length : Int) = 0
        omega)) ht))))
  obtain ⟨k, hk⟩ := h
  exact ⟨k, hk k (Nat.le_refl _)⟩
end Go.Proofs.YtlaiggkgflbjhaaDoor.Pure
