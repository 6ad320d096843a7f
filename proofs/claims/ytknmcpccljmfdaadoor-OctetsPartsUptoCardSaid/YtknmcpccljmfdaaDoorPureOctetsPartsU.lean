/- Parts with the byte between are the text, words with blanks between have the same words, around twice is once: for every text of at most 1048576 bytes and every byte the law OctetsParts answers true. -/
import Derived.Test.YtknmcpccljmfdaaDoorX5
import Derived.Test.YtknmcpccljmfdaaDoorPParts
namespace Go.Proofs.YtknmcpccljmfdaaDoor.Pure
open Go.RowKit Go.Proofs.YtknmcpccljmfdaaDoor.X Go.Proofs.YtknmcpccljmfdaaDoorW.PrintWords Go.Proofs.YtknmcpccljmfdaaDoorW.PrintLast Go.Proofs.YtknmcpccljmfdaaDoorW.PrintMore

/-! Plain facts on parts -/
def tj (b : Int) (R : List (List Int)) : List Int := R.flatMap fun x => b :: x
theorem tj_append (b : Int) (x y : List (List Int)) : tj b (x ++ y) = tj b x ++ tj b y := List.flatMap_append
theorem tj_cons (b : Int) (x : List Int) (y : List (List Int)) : tj b (x :: y) = b :: (x ++ tj b y) := by
  unfold tj
  rw [List.flatMap_cons, List.cons_append]
theorem head_at (P : List (List Int)) (h : 0 < P.length) : P.headD [] = P[0]'h := by
  cases P with
  | nil => exact absurd h (by decide)
  | cons x R => rfl
theorem sp_join (b : Int) : ∀ (l cur : List Int), ∃ x R, sp b l cur = x :: R ∧ x ++ tj b R = cur ++ l := by
  intro l
  induction l with
  | nil => intro cur; exact ⟨cur, [], rfl, by simp [tj]⟩
  | cons c t ih =>
    intro cur
    rw [sp]
    by_cases h : c = b
    · rw [if_pos h]
      obtain ⟨x, R, h1, h2⟩ := ih []
      refine ⟨cur, sp b t [], rfl, ?_⟩
      rw [h1, h]
      simp only [tj, List.flatMap_cons] at h2 ⊢
      rw [List.cons_append, h2, List.nil_append]
    · rw [if_neg h]
      obtain ⟨x, R, h1, h2⟩ := ih (cur ++ [c])
      exact ⟨x, R, h1, by rw [h2, List.append_assoc]; rfl⟩
theorem sp_good (b : Int) : ∀ (l cur : List Int), (∀ c ∈ cur, c ≠ b) → ∀ x ∈ sp b l cur, ∀ c ∈ x, c ≠ b := by
  intro l
  induction l with
  | nil => intro cur h x hx; rw [sp, List.mem_singleton] at hx; subst hx; exact h
  | cons a t ih =>
    intro cur h x hx
    rw [sp] at hx
    by_cases hb : a = b
    · rw [if_pos hb] at hx
      rcases List.mem_cons.1 hx with rfl | hx
      · exact h
      · exact ih [] (fun c hc => by cases hc) x hx
    · rw [if_neg hb] at hx
      refine ih (cur ++ [a]) (fun c hc => ?_) x hx
      rcases List.mem_append.1 hc with hc | hc
      · exact h c hc
      · rw [List.mem_singleton] at hc; subst hc; exact hb
theorem sp_bytes (b : Int) : ∀ (l cur : List Int), Bytes l → Bytes cur → ∀ x ∈ sp b l cur, Bytes x := by
  intro l
  induction l with
  | nil => intro cur _ h x hx; rw [sp, List.mem_singleton] at hx; subst hx; exact h
  | cons a t ih =>
    intro cur hl h x hx
    rw [sp] at hx
    by_cases hb : a = b
    · rw [if_pos hb] at hx
      rcases List.mem_cons.1 hx with rfl | hx
      · exact h
      · exact ih [] hl.tail Bytes.nil x hx
    · rw [if_neg hb] at hx
      exact ih (cur ++ [a]) hl.tail (h.append (Bytes.cons hl.head Bytes.nil)) x hx
theorem sp_len (b : Int) : ∀ (l cur : List Int), (sp b l cur).length ≤ l.length + 1 := by
  intro l
  induction l with
  | nil => intro cur; exact Nat.le_refl _
  | cons a t ih =>
    intro cur
    rw [sp]
    by_cases hb : a = b
    · rw [if_pos hb, List.length_cons, List.length_cons]; have := ih []; omega
    · rw [if_neg hb, List.length_cons]; have := ih (cur ++ [a]); omega

/-! Plain facts on words -/
def Word (w : List Int) : Prop := w ≠ [] ∧ ∀ c ∈ w, bl c = false
theorem wd_good : ∀ (l cur : List Int), (∀ c ∈ cur, bl c = false) → ∀ w ∈ wd l cur, Word w := by
  intro l
  induction l with
  | nil =>
    intro cur h w hw
    rw [wd] at hw
    by_cases hc : cur = []
    · rw [if_pos hc] at hw; cases hw
    · rw [if_neg hc, List.mem_singleton] at hw; subst hw; exact ⟨hc, h⟩
  | cons a t ih =>
    intro cur h w hw
    rw [wd] at hw
    cases ha : bl a
    · rw [ha, if_neg (by decide)] at hw
      refine ih (cur ++ [a]) (fun c hc => ?_) w hw
      rcases List.mem_append.1 hc with hc | hc
      · exact h c hc
      · rw [List.mem_singleton] at hc; subst hc; exact ha
    · rw [ha, if_pos rfl] at hw
      by_cases hc : cur = []
      · rw [if_pos hc] at hw; exact ih [] (fun c hc => by cases hc) w hw
      · rw [if_neg hc] at hw
        rcases List.mem_cons.1 hw with rfl | hw
        · exact ⟨hc, h⟩
        · exact ih [] (fun c hc => by cases hc) w hw
theorem wd_bytes : ∀ (l cur : List Int), Bytes l → Bytes cur → ∀ w ∈ wd l cur, Bytes w := by
  intro l
  induction l with
  | nil =>
    intro cur _ h w hw
    rw [wd] at hw
    by_cases hc : cur = []
    · rw [if_pos hc] at hw; cases hw
    · rw [if_neg hc, List.mem_singleton] at hw; subst hw; exact h
  | cons a t ih =>
    intro cur hl h w hw
    rw [wd] at hw
    cases ha : bl a
    · rw [ha, if_neg (by decide)] at hw
      exact ih (cur ++ [a]) hl.tail (h.append (Bytes.cons hl.head Bytes.nil)) w hw
    · rw [ha, if_pos rfl] at hw
      by_cases hc : cur = []
      · rw [if_pos hc] at hw; exact ih [] hl.tail Bytes.nil w hw
      · rw [if_neg hc] at hw
        rcases List.mem_cons.1 hw with rfl | hw
        · exact h
        · exact ih [] hl.tail Bytes.nil w hw
theorem wd_len : ∀ (l cur : List Int), (tj 32 (wd l cur)).length ≤ cur.length + l.length + 1 ∧ (wd l cur).length ≤ l.length + 1 := by
  intro l
  induction l with
  | nil =>
    intro cur
    rw [wd]
    by_cases hc : cur = []
    · rw [if_pos hc]; simp [tj]
    · rw [if_neg hc]; simp [tj]
  | cons a t ih =>
    intro cur
    rw [wd]
    cases ha : bl a
    · rw [if_neg (by decide)]
      have := ih (cur ++ [a])
      rw [List.length_append, List.length_singleton] at this
      rw [List.length_cons]
      omega
    · rw [if_pos rfl]
      have := ih []
      rw [List.length_nil] at this
      by_cases hc : cur = []
      · rw [if_pos hc, List.length_cons]; omega
      · rw [if_neg hc, List.length_cons, List.length_cons]
        simp only [tj, List.flatMap_cons, List.length_append, List.length_cons] at this ⊢
        omega
theorem wd_word (rest : List Int) : ∀ (w cur : List Int), (∀ c ∈ w, bl c = false) → wd (w ++ rest) cur = wd rest (cur ++ w) := by
  intro w
  induction w with
  | nil => intro cur _; simp
  | cons a t ih =>
    intro cur h
    rw [List.cons_append, wd, h a (by simp), if_neg (by decide), ih _ (fun c hc => h c (by simp [hc])), List.append_assoc]
    rfl
theorem wd_flat : ∀ (ws : List (List Int)), (∀ w ∈ ws, Word w) → ∀ cur, wd (tj 32 ws) cur = if cur = [] then ws else cur :: ws := by
  intro ws
  induction ws with
  | nil => intro _ cur; rfl
  | cons w t ih =>
    intro h cur
    obtain ⟨hw, hb⟩ := h w (by simp)
    have e : tj 32 (w :: t) = 32 :: (w ++ tj 32 t) := by simp [tj]
    have e2 : wd (w ++ tj 32 t) [] = w :: t := by rw [wd_word _ w [] hb, List.nil_append, ih (fun w hw => h w (by simp [hw])), if_neg hw]
    rw [e, wd, show bl 32 = true from by decide, if_pos rfl, e2]

/-! The law's loops -/
theorem str_append (x y : List Int) : strOfNums x ++ strOfNums y = strOfNums (x ++ y) := by
  refine ByteArray.ext (Array.ext' ?_)
  rw [ByteArray.data_append, Array.toList_append, strOfNums_data, strOfNums_data, strOfNums_data, List.map_append]
theorem rd_map (P : List (List Int)) (i : Nat) (x : List Int) (h : P[i]? = some x) : rdOf ByteArray.empty (P.map strOfNums) (i : Int) = strOfNums x := by
  unfold rdOf
  rw [Int.toNat_natCast, List.getD_eq_getElem?_getD, List.getElem?_map, h]
  rfl
theorem low_of_upp (s : ByteArray) : strOfNums ((bytesOf (strOfNums ((bytesOf s).map upp))).map low) = strOfNums ((bytesOf s).map low) := by
  rw [bytesOf_str (map_bytes (fun c h => upp_byte h) s), List.map_map]
  congr 1
  exact List.map_congr_left fun c hc => low_upp (Bytes.of s c hc)
theorem upp_of_low (s : ByteArray) : strOfNums ((bytesOf (strOfNums ((bytesOf s).map low))).map upp) = strOfNums ((bytesOf s).map upp) := by
  rw [bytesOf_str (map_bytes (fun c h => low_byte h) s), List.map_map]
  congr 1
  exact List.map_congr_left fun c hc => upp_low (Bytes.of s c hc)
theorem parts_l1 (s : ByteArray) (b : Int) (P : List (List Int)) (t : ByteArray) (i : Nat) (x : List Int) (hx : P[i]? = some x) (hxb : Bytes x) (hn : ∀ c ∈ x, c ≠ b) (hl : x.length ≤ 4194304) (ht : t.size ≤ 4194304) (hi : i ≤ 4194304)
    (h : Ev (fun k => pergolalaw01_OctetsParts.l0 k s b (P.map strOfNums) (t ++ strOfNums x) ((i + 1 : Nat) : Int)) true) (d : Nat) : ∀ (j : Nat), j + d = x.length →
    Ev (fun k => pergolalaw01_OctetsParts.l1 k s b (P.map strOfNums) t (i : Int) (j : Int)) true := by
  have hr := rd_map P i x hx
  have hiP : i < P.length := (List.getElem?_eq_some_iff.1 hx).1
  have hwi : wrap64 ((i : Int) + 1) = ((i + 1 : Nat) : Int) := by unfold wrap64; omega
  induction d with
  | zero =>
    intro j hj
    refine Ev.step (fun k => ?_) h
    rw [pergolalaw01_OctetsParts.l1, if_pos (by omega), if_pos (by rw [List.length_map]; omega), hr, if_neg (by rw [size_str]; omega), if_pos (by rw [size_str]; omega), hwi]
  | succ d ih =>
    intro j hj
    have hw : wrap64 ((j : Int) + 1) = ((j + 1 : Nat) : Int) := by unfold wrap64; omega
    refine Ev.step (fun k => ?_) (ih (j + 1) (by omega))
    rw [pergolalaw01_OctetsParts.l1, if_pos (by omega), if_pos (by rw [List.length_map]; omega), hr, if_pos (by rw [size_str]; omega), if_pos (by omega), if_neg ?_, hw]
    rw [bt_str hxb]
    refine hn _ ?_
    rw [List.getD_eq_getElem?_getD, List.getElem?_eq_getElem (show j < x.length by omega)]
    exact List.getElem_mem _
theorem parts_l2 (s : ByteArray) (hs : s.size ≤ 1048576) (P : List ByteArray) (hP : 0 < P.length) (d : Nat) : ∀ (i : Nat), i + d = (wd (bytesOf s) []).length →
    Ev (fun k => pergolalaw01_OctetsParts.l2 k s P s ((wd (bytesOf s) []).map strOfNums) (strOfNums (tj 32 ((wd (bytesOf s) []).take i))) (i : Int)) true := by
  have hl := bytesOf_length s
  have hlen := wd_len (bytesOf s) []
  have hgood := wd_good (bytesOf s) [] (fun c hc => by cases hc)
  have hby := wd_bytes (bytesOf s) [] (Bytes.of s) Bytes.nil
  have hflat := wd_flat (wd (bytesOf s) []) hgood []
  generalize wd (bytesOf s) [] = W at *
  rw [if_pos rfl] at hflat
  rw [List.length_nil] at hlen
  induction d with
  | zero =>
    intro i hi
    rw [List.take_of_length_le (by omega)]
    have htb : Bytes (tj 32 W) := fun x hx => by
      obtain ⟨w, hw, hx⟩ := List.mem_flatMap.1 hx
      exact Bytes.cons (by omega) (hby w hw) x hx
    have hW := words_f (strOfNums (tj 32 W)) (by rw [size_str]; omega)
    rw [bytesOf_str htb, hflat] at hW
    refine Ev.step (f := fun k => (octets_Words.f k (strOfNums (tj 32 W))).bind fun t180 => ((pergolaplain_SameStrings.f k t180 (W.map strOfNums)).bind fun t183 => if t183 = true then some true else some false)) (fun k => ?_) (Ev.bind hW (Ev.bind (sames_f _ (by rw [List.length_map]; omega)) (Ev.now _)))
    rw [pergolalaw01_OctetsParts.l2, if_neg (by rw [List.length_map]; omega), if_pos (by omega), if_pos rfl]
    congr 1
    funext t180
    congr 1
    funext t183
    by_cases h : t183 = true
    · have hst := strip_f s (by omega)
      have hst2 := strip_f (around s [9, 10, 12, 13, 32]) (by have := around_size s [9, 10, 12, 13, 32]; omega)
      have htr := trim_f s (by omega)
      have htr2 := trim_f (around s [9, 32]) (by have := around_size s [9, 32]; omega)
      have hlo := lower_f s (by omega)
      have hup := upper_f s (by omega)
      have hlo2 := lower_f (strOfNums ((bytesOf s).map upp)) (by rw [size_map]; omega)
      have hup2 := upper_f (strOfNums ((bytesOf s).map low)) (by rw [size_map]; omega)
      rw [around_twice] at hst2 htr2
      rw [low_of_upp] at hlo2
      rw [upp_of_low] at hup2
      rw [if_pos h, if_pos h, hst, Option.bind_some, hst2, Option.bind_some, Option.bind_some, if_pos rfl, htr, Option.bind_some, htr2, Option.bind_some, Option.bind_some, if_pos rfl, hup, Option.bind_some, hlo2, Option.bind_some, hlo, Option.bind_some, if_pos rfl, Option.bind_some, hup2, Option.bind_some, Option.bind_some, beq_self_eq_true]
    · rw [if_neg h, if_neg h]
  | succ d ih =>
    intro i hi
    have hw : wrap64 ((i : Int) + 1) = ((i + 1 : Nat) : Int) := by unfold wrap64; omega
    have hx : W[i]? = some (W[i]'(by omega)) := List.getElem?_eq_getElem (by omega)
    have htk : tj 32 (W.take (i + 1)) = tj 32 (W.take i) ++ 32 :: W[i]'(by omega) := by
      rw [List.take_succ_eq_append_getElem (by omega), tj_append, tj_cons]
      show _ ++ 32 :: (_ ++ []) = _
      rw [List.append_nil]
    have hle : (tj 32 (W.take (i + 1))).length ≤ (tj 32 W).length := by
      have : tj 32 W = tj 32 (W.take (i + 1)) ++ tj 32 (W.drop (i + 1)) := by
        unfold tj
        rw [← List.flatMap_append, List.take_append_drop]
      rw [this, List.length_append]
      omega
    have e32 : (⟨#[32]⟩ : ByteArray) = strOfNums [32] := by decide +kernel
    refine Ev.step (fun k => ?_) (ih (i + 1) (by omega))
    rw [htk, List.length_append, List.length_cons] at hle
    rw [pergolalaw01_OctetsParts.l2, if_pos (by rw [List.length_map]; omega), if_pos (by rw [size_str]; omega), if_pos (by omega), rd_map W i _ hx, e32, str_append, if_pos (by rw [size_str, size_str, List.length_append, List.length_singleton]; omega), str_append, hw, htk]
    simp
theorem parts_l0 (s : ByteArray) (hs : s.size ≤ 1048576) (b : Int) (P : List (List Int)) (hPb : ∀ x ∈ P, Bytes x) (hPn : ∀ x ∈ P, ∀ c ∈ x, c ≠ b) (hPl : P.length ≤ 2097152) (hP : 0 < P.length) (d : Nat) :
    ∀ (i : Nat) (acc : List Int), i + d = P.length → (acc ++ (if i = 0 then (P.headD []) ++ tj b P.tail else tj b (P.drop i)) = bytesOf s) → (i = 0 → acc = []) →
    Ev (fun k => pergolalaw01_OctetsParts.l0 k s b (P.map strOfNums) (strOfNums acc) (i : Int)) true := by
  have hl := bytesOf_length s
  induction d with
  | zero =>
    intro i acc hi ha h0
    rw [if_neg (by omega), List.drop_of_length_le (by omega)] at ha
    have e : strOfNums acc = s := by
      have : acc = bytesOf s := by simpa [tj] using ha
      rw [this, str_bytesOf]
    rw [e]
    have h2 := parts_l2 s hs (P.map strOfNums) (by rw [List.length_map]; exact hP) (wd (bytesOf s) []).length 0 (by omega)
    refine Ev.step (f := fun k => (octets_Words.f k s).bind fun t176 => (pergolalaw01_OctetsParts.l2 k s (P.map strOfNums) s t176 (⟨#[]⟩ : ByteArray) 0)) (fun k => ?_) (Ev.bind (words_f s (by omega)) h2)
    rw [pergolalaw01_OctetsParts.l0, if_neg (by rw [List.length_map]; omega)]
  | succ d ih =>
    intro i acc hi ha h0
    have hx : P[i]? = some (P[i]'(by omega)) := List.getElem?_eq_getElem (by omega)
    have hm : P[i]'(by omega) ∈ P := List.getElem_mem _
    have key : ∀ acc2 : List Int, (acc2 ++ P[i]'(by omega) ++ tj b (P.drop (i + 1)) = bytesOf s) → Ev (fun k => pergolalaw01_OctetsParts.l1 k s b (P.map strOfNums) (strOfNums acc2) (i : Int) 0) true := by
      intro acc2 h2
      have hlen := congrArg List.length h2
      rw [List.length_append, List.length_append] at hlen
      refine parts_l1 s b P (strOfNums acc2) i _ hx (hPb _ hm) (hPn _ hm) (by omega) (by rw [size_str]; omega) (by omega) ?_ _ 0 (Nat.zero_add _)
      rw [str_append]
      exact ih (i + 1) _ (by omega) (by rw [if_neg (by omega)]; exact h2) (fun h => by omega)
    by_cases hz : i = 0
    · subst hz
      have e := h0 rfl
      subst e
      refine Ev.step (f := fun k => pergolalaw01_OctetsParts.j1 k s b (P.map strOfNums) (strOfNums []) 0) (fun k => ?_) (Ev.step (fun k => ?_) (key [] ?_))
      · rw [pergolalaw01_OctetsParts.l0, if_pos (by rw [List.length_map]; omega), if_neg (by decide)]
        rfl
      · rw [pergolalaw01_OctetsParts.j1]
        rfl
      · rw [if_pos rfl] at ha
        rw [List.nil_append, head_at P hP, ← List.drop_one] at ha
        exact ha
    · rw [if_neg hz] at ha
      have hd : tj b (P.drop i) = b :: (P[i]'(by omega) ++ tj b (P.drop (i + 1))) := by
        rw [List.drop_eq_getElem_cons (by omega), tj_cons]
      rw [hd] at ha
      have hlen := congrArg List.length ha
      rw [List.length_append, List.length_cons] at hlen
      refine Ev.step (f := fun k => pergolalaw01_OctetsParts.j1 k s b (P.map strOfNums) (strOfNums (acc ++ [b])) (i : Int)) (fun k => ?_) (Ev.step (fun k => ?_) (key (acc ++ [b]) (by rw [← ha]; simp)))
      · rw [pergolalaw01_OctetsParts.l0, if_pos (by rw [List.length_map]; omega), if_pos (by omega), Option.bind_some, if_pos (by rw [size_str, size_str, List.length_singleton]; omega), str_append]
      · rw [pergolalaw01_OctetsParts.j1]
theorem parts_alive : Ev (fun k => pergolalaw01_alive.f k) true := Ev.of pergolalaw01_alive.mono (k := 200) (by decide +kernel)
theorem OctetsPartsU : pergolalaw01_OctetsParts.PureU := by
  intro s b hs _
  have hl := bytesOf_length s
  obtain ⟨x, R, h1, h2⟩ := sp_join b (bytesOf s) []
  have hlen := sp_len b (bytesOf s) []
  have h3 := parts_l0 s hs b (sp b (bytesOf s) []) (sp_bytes b _ _ (Bytes.of s) Bytes.nil) (sp_good b _ _ (fun c hc => by cases hc)) (by omega) (by rw [h1, List.length_cons]; omega) (sp b (bytesOf s) []).length 0 [] (by omega) (by rw [if_pos rfl, h1]; simpa using h2) (fun _ => rfl)
  refine Ev.rounds (Ev.congr (fun k => ?_) (Ev.bind (f := fun k t => if t = true then ((octets_Split.f k s b).bind fun t167 => (pergolalaw01_OctetsParts.l0 k s b t167 (⟨#[]⟩ : ByteArray) 0)) else (some false)) parts_alive ?_))
  · rw [pergolalaw01_OctetsParts.f]
  · refine Ev.congr (fun k => ?_) (Ev.bind (f := fun k t167 => pergolalaw01_OctetsParts.l0 k s b t167 (⟨#[]⟩ : ByteArray) 0) (split_f s (by omega) b) h3)
    rw [if_pos rfl]
end Go.Proofs.YtknmcpccljmfdaaDoor.Pure
