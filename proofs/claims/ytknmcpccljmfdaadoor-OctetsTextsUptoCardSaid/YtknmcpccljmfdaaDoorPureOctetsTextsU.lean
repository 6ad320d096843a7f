/- IsToken, Lower, Upper, Same, Trim, Strip, Split, Words of any texts of together at most 1048576 bytes are the document's: the law OctetsTexts answers true. -/
import Derived.Test.YtknmcpccljmfdaaDoorX8
import Derived.Test.YtknmcpccljmfdaaDoorPParts
namespace Go.Proofs.YtknmcpccljmfdaaDoor.Pure
open Go.RowKit Go.Proofs.YtknmcpccljmfdaaDoor.X Go.Proofs.YtknmcpccljmfdaaDoorW.PrintWords Go.Proofs.YtknmcpccljmfdaaDoorW.PrintLast Go.Proofs.YtknmcpccljmfdaaDoorW.PrintMore

theorem ev_pos {α : Type} {c : Prop} [Decidable c] (h : c) {f g : Nat → Option α} {r : α} (hf : Ev f r) : Ev (fun k => if c then f k else g k) r := Ev.congr (fun _ => if_pos h) hf
theorem ev_some {α : Type} {o : Option α} {r : α} (h : o = some r) : Ev (fun _ => o) r := Ev.congr (fun _ => h) (Ev.now r)

/-! Tokens -/
def tok (c : Int) : Bool := decide ((97 ≤ c ∧ c ≤ 122) ∨ (65 ≤ c ∧ c ≤ 90) ∨ (48 ≤ c ∧ c ≤ 57) ∨ c ∈ [33, 35, 36, 37, 38, 39, 42, 43, 45, 46, 94, 95, 96, 124, 126])
def sym : ByteArray := ⟨#[33, 35, 36, 37, 38, 39, 42, 43, 45, 46, 94, 95, 96, 124, 126]⟩
def symO (c : Int) (R : Option Bool) : Option Bool := if c < 48 then ((strings_IndexByte.f sym c).bind fun t => (if t < 0 then (some false) else R)) else (if c > 57 then ((strings_IndexByte.f sym c).bind fun t => (if t < 0 then (some false) else R)) else R)
def tokO (c : Int) (R : Option Bool) : Option Bool := if (Go.bits .or .u8 c 32) ≥ 97 then (if ((Go.bits .or .u8 c 32) ≤ 122) then R else symO c R) else symO c R
theorem symO_bind (c : Int) (R : Option Bool) : symO c R = (symO c (some true)).bind fun b => if b = true then R else some false := by
  unfold symO
  simp only [strings_IndexByte.f, Option.bind_some]
  repeat' split
  all_goals first | rfl | simp
theorem tokO_bind (c : Int) (R : Option Bool) : tokO c R = (tokO c (some true)).bind fun b => if b = true then R else some false := by
  unfold tokO
  repeat' split
  all_goals first | rfl | exact symO_bind c R | simp
theorem tokO_tok {c : Int} (h : 0 ≤ c ∧ c < 256) : tokO c (some true) = some (tok c) := byte_all (p := fun c => tokO c (some true) = some (tok c)) (by decide +kernel) h
theorem token_f {c : Int} (h : 0 ≤ c ∧ c < 256) : Ev (fun k => pergolaref01_Token.f k c) (tok c) :=
  Ev.of (pergolaref01_Token.mono c) (k := 40) (byte_all (p := fun c => pergolaref01_Token.f 40 c = some (tok c)) (by decide +kernel) h)
def toks (s : ByteArray) : Bool := (bytesOf s).all tok && decide (0 < s.size)
theorem isEmpty_size (s : ByteArray) : (!s.toList.isEmpty) = decide (0 < s.size) := by
  rw [toList_data]
  have := Lib.size_eq s
  cases h : s.data.toList with
  | nil => rw [h] at this; simp at this; simp [this]
  | cons a t => rw [h] at this; simp at this; simp [this]
theorem istok_l0 (s : ByteArray) (hs : s.size ≤ 1048576) (d : Nat) : ∀ (i : Nat), i + d = s.size → Ev (fun k => octets_IsToken.l0 k s (s.size : Int) (i : Int)) (((bytesOf s).drop i).all tok && decide (0 < s.size)) := by
  have hl := bytesOf_length s
  induction d with
  | zero =>
    intro i hi
    rw [List.drop_of_length_le (by omega)]
    refine Ev.step (f := fun _ => some (!s.toList.isEmpty)) (fun k => ?_) (ev_some (by rw [isEmpty_size]; rfl))
    rw [octets_IsToken.l0, if_neg (by omega)]
  | succ d ih =>
    intro i hi
    have hw : wrap64 ((i : Int) + 1) = ((i + 1 : Nat) : Int) := by unfold wrap64; omega
    have hcb := (Bytes.of s).at_ i
    rw [getD_drop (show i < (bytesOf s).length by omega), List.all_cons]
    refine Ev.step (f := fun k => if tok ((bytesOf s).getD i 0) = true then octets_IsToken.l0 k s (s.size : Int) ((i + 1 : Nat) : Int) else some false) (fun k => ?_) ?_
    · rw [octets_IsToken.l0, if_pos (by omega), if_pos (by omega), if_pos (by omega), bt_at', hw]
      exact (tokO_bind _ _).trans (by rw [tokO_tok hcb, Option.bind_some])
    · cases h : tok ((bytesOf s).getD i 0)
      · exact Ev.now _
      · exact ih (i + 1) (by omega)
theorem rtok_l0 (s : ByteArray) (hs : s.size ≤ 1048576) (d : Nat) : ∀ (i : Nat), i + d = s.size → Ev (fun k => pergolaref01_IsToken.l0 k s (i : Int)) (((bytesOf s).drop i).all tok && decide (0 < s.size)) := by
  have hl := bytesOf_length s
  induction d with
  | zero =>
    intro i hi
    rw [List.drop_of_length_le (by omega)]
    refine Ev.step (f := fun _ => some (decide ((s.size : Int) > 0))) (fun k => ?_) (ev_some ?_)
    · rw [pergolaref01_IsToken.l0, if_neg (by omega)]
    · simp
  | succ d ih =>
    intro i hi
    have hw : wrap64 ((i : Int) + 1) = ((i + 1 : Nat) : Int) := by unfold wrap64; omega
    have hcb := (Bytes.of s).at_ i
    rw [getD_drop (show i < (bytesOf s).length by omega), List.all_cons]
    refine Ev.step (f := fun k => (pergolaref01_Token.f k ((bytesOf s).getD i 0)).bind fun t => if t = true then pergolaref01_IsToken.l0 k s ((i + 1 : Nat) : Int) else some false) (fun k => ?_) (Ev.bind (token_f hcb) ?_)
    · rw [pergolaref01_IsToken.l0, if_pos (by omega), if_pos (by omega), bt_at', hw]
    · cases h : tok ((bytesOf s).getD i 0)
      · exact Ev.now _
      · exact ih (i + 1) (by omega)

/-! Letters -/
theorem take_map (f : Int → Int) (l : List Int) (i : Nat) (h : i < l.length) : (l.take i).map f ++ [f (l.getD i 0)] = (l.take (i + 1)).map f := by
  rw [List.take_succ_eq_append_getElem h, List.map_append, List.getD_eq_getElem?_getD, List.getElem?_eq_getElem h]
  rfl
theorem low_in {c : Int} (h : 0 ≤ c ∧ c < 256) : c ≥ 65 → c ≤ 90 → (c + 32) % 256 = low c := byte_all (p := fun c => c ≥ 65 → c ≤ 90 → (c + 32) % 256 = low c) (by decide +kernel) h
theorem upp_in {c : Int} (h : 0 ≤ c ∧ c < 256) : c ≥ 97 → c ≤ 122 → (c - 32) % 256 = upp c := byte_all (p := fun c => c ≥ 97 → c ≤ 122 → (c - 32) % 256 = upp c) (by decide +kernel) h
theorem rlower_l0 (s : ByteArray) (hs : s.size ≤ 1048576) (d : Nat) : ∀ (i : Nat), i + d = s.size → Ev (fun k => pergolaref01_Lower.l0 k s (((bytesOf s).take i).map low) (i : Int)) (strOfNums ((bytesOf s).map low)) := by
  have hl := bytesOf_length s
  induction d with
  | zero =>
    intro i hi
    refine Ev.step (f := fun _ => some (strOfNums ((bytesOf s).map low))) (fun k => ?_) (Ev.now _)
    rw [pergolaref01_Lower.l0, if_neg (by omega), List.take_of_length_le (by omega)]
  | succ d ih =>
    intro i hi
    have hw : wrap64 ((i : Int) + 1) = ((i + 1 : Nat) : Int) := by unfold wrap64; omega
    have hcb := (Bytes.of s).at_ i
    have hlen : (((bytesOf s).take i).map low).length < 140737488355328 := by rw [List.length_map, List.length_take]; omega
    have htk := take_map low (bytesOf s) i (by omega)
    have h := ih (i + 1) (by omega)
    rw [← htk] at h
    refine Ev.step (fun k => ?_) h
    rw [pergolaref01_Lower.l0, if_pos (by omega), if_pos (by omega), bt_at', hw, if_pos hlen, if_pos hlen]
    have hin := low_in hcb
    generalize (bytesOf s).getD i 0 = c at *
    by_cases h1 : c ≥ 65
    · by_cases h2 : c ≤ 90
      · rw [if_pos h1, if_pos h2, hin h1 h2]
      · rw [if_pos h1, if_neg h2, show low c = c from by unfold low turn1; rw [if_pos h1, if_neg h2]]
    · rw [if_neg h1, show low c = c from by unfold low turn1; rw [if_neg h1]]
theorem rupper_l0 (s : ByteArray) (hs : s.size ≤ 1048576) (d : Nat) : ∀ (i : Nat), i + d = s.size → Ev (fun k => pergolaref01_Upper.l0 k s (((bytesOf s).take i).map upp) (i : Int)) (strOfNums ((bytesOf s).map upp)) := by
  have hl := bytesOf_length s
  induction d with
  | zero =>
    intro i hi
    refine Ev.step (f := fun _ => some (strOfNums ((bytesOf s).map upp))) (fun k => ?_) (Ev.now _)
    rw [pergolaref01_Upper.l0, if_neg (by omega), List.take_of_length_le (by omega)]
  | succ d ih =>
    intro i hi
    have hw : wrap64 ((i : Int) + 1) = ((i + 1 : Nat) : Int) := by unfold wrap64; omega
    have hcb := (Bytes.of s).at_ i
    have hlen : (((bytesOf s).take i).map upp).length < 140737488355328 := by rw [List.length_map, List.length_take]; omega
    have htk := take_map upp (bytesOf s) i (by omega)
    have h := ih (i + 1) (by omega)
    rw [← htk] at h
    refine Ev.step (fun k => ?_) h
    rw [pergolaref01_Upper.l0, if_pos (by omega), if_pos (by omega), bt_at', hw, if_pos hlen, if_pos hlen]
    have hin := upp_in hcb
    generalize (bytesOf s).getD i 0 = c at *
    by_cases h1 : c ≥ 97
    · by_cases h2 : c ≤ 122
      · rw [if_pos h1, if_pos h2, hin h1 h2]
      · rw [if_pos h1, if_neg h2, show upp c = c from by unfold upp turn1; rw [if_pos h1, if_neg h2]]
    · rw [if_neg h1, show upp c = c from by unfold upp turn1; rw [if_neg h1]]
theorem rlower_f (s : ByteArray) (hs : s.size ≤ 1048576) : Ev (fun k => pergolaref01_Lower.f k s) (strOfNums ((bytesOf s).map low)) := rlower_l0 s hs s.size 0 (by omega)
theorem rupper_f (s : ByteArray) (hs : s.size ≤ 1048576) : Ev (fun k => pergolaref01_Upper.f k s) (strOfNums ((bytesOf s).map upp)) := rupper_l0 s hs s.size 0 (by omega)

/-! Around -/
def HasIs (t : ByteArray) (cs : List UInt8) : Prop := ∀ c : Int, 0 ≤ c ∧ c < 256 → Ev (fun k => pergolaref01_Has.f k t c) (cs.contains (UInt8.ofNat c.toNat))
theorem has_tab : HasIs ⟨#[9, 32]⟩ [9, 32] := fun c h =>
  Ev.of (pergolaref01_Has.mono _ c) (k := 40) (byte_all (p := fun c => pergolaref01_Has.f 40 ⟨#[9, 32]⟩ c = some (([9, 32] : List UInt8).contains (UInt8.ofNat c.toNat))) (by decide +kernel) h)
theorem has_blank : HasIs ⟨#[9, 10, 12, 13, 32]⟩ [9, 10, 12, 13, 32] := fun c h =>
  Ev.of (pergolaref01_Has.mono _ c) (k := 40) (byte_all (p := fun c => pergolaref01_Has.f 40 ⟨#[9, 10, 12, 13, 32]⟩ c = some (([9, 10, 12, 13, 32] : List UInt8).contains (UInt8.ofNat c.toNat))) (by decide +kernel) h)
theorem has_at {t : ByteArray} {cs : List UInt8} (h : HasIs t cs) (s : ByteArray) (i : Nat) (hi : i < s.size) : Ev (fun k => pergolaref01_Has.f k t (bt s (i : Int))) (cs.contains (s[i]'hi)) := by
  have e : UInt8.ofNat (bt s (i : Int)).toNat = s[i]'hi := by
    rw [← bt_at s (i : Int) hi]
    simp
  have := h (bt s (i : Int)) (by rw [bt_at']; exact (Bytes.of s).at_ i)
  rw [e] at this
  exact this
theorem row_size (s : ByteArray) : s.data.toList.length = s.size := (Lib.size_eq s).symm
theorem around_l1 (t : ByteArray) (cs : List UInt8) (ht : HasIs t cs) (n : Nat) : ∀ (s : ByteArray), s.size = n → n ≤ 1048576 → Ev (fun k => pergolaref01_around.l1 k s t) ⟨(Lib.trimRightS s.data.toList cs).toArray⟩ := by
  induction n with
  | zero =>
    intro s hs _
    refine Ev.step (f := fun _ => some s) (fun k => ?_) (ev_some ?_)
    · rw [pergolaref01_around.l1, if_neg (by omega)]
    · have : s.data.toList = [] := List.eq_nil_of_length_eq_zero (by rw [row_size]; exact hs)
      rw [this]
      congr 1
      rw [← Lib.mk_data s, this]
      rfl
  | succ n ih =>
    intro s hs hn
    have hw : wrap64 ((s.size : Int) - 1) = ((n : Nat) : Int) := by unfold wrap64; omega
    have h1 : n < s.size := by omega
    refine Ev.step (f := fun k => (pergolaref01_Has.f k t (bt s (n : Int))).bind fun t223 => (if t223 = true then pergolaref01_around.l1 k (s.extract 0 n) t else some s)) (fun k => ?_) (Ev.bind (has_at ht s n h1) ?_)
    · rw [pergolaref01_around.l1, hw, if_pos (by omega), if_pos (by omega), if_pos (by omega), if_pos (by omega)]
      rfl
    · have hstep := trimR_step s cs (by omega)
      have hstop := trimR_stop s cs (by omega)
      have e : s.size - 1 = n := by omega
      simp only [e] at hstep hstop
      cases h : cs.contains (s[n]'h1)
      · rw [hstop h, Lib.mk_data]
        exact Ev.now _
      · have := ih (s.extract 0 n) (by simp [ByteArray.size_extract]; omega) (by omega)
        rw [hstep h] at this
        exact this
theorem around_l0 (t : ByteArray) (cs : List UInt8) (ht : HasIs t cs) (n : Nat) : ∀ (s : ByteArray), s.size = n → n ≤ 1048576 → Ev (fun k => pergolaref01_around.l0 k s t) ⟨(Lib.trimRightS (Lib.trimLeftS s.data.toList cs) cs).toArray⟩ := by
  induction n with
  | zero =>
    intro s hs _
    have hnil : s.data.toList = [] := List.eq_nil_of_length_eq_zero (by rw [row_size]; exact hs)
    have h1 := around_l1 t cs ht 0 s hs (by omega)
    rw [hnil] at h1
    rw [hnil]
    refine Ev.step (f := fun k => pergolaref01_around.j1 k s t) (fun k => ?_) (Ev.step (fun k => ?_) h1)
    · rw [pergolaref01_around.l0, if_neg (by omega)]
    · rw [pergolaref01_around.j1]
  | succ n ih =>
    intro s hs hn
    have h0 : 0 < s.size := by omega
    refine Ev.step (f := fun k => (pergolaref01_Has.f k t (bt s ((0 : Nat) : Int))).bind fun t222 => (if t222 = true then pergolaref01_around.l0 k (s.extract 1 s.size) t else pergolaref01_around.j1 k s t)) (fun k => ?_) (Ev.bind (has_at ht s 0 h0) ?_)
    · rw [pergolaref01_around.l0, if_pos (by omega), if_pos (by omega), if_pos (by omega)]
      rfl
    · have hstep := trimL_step s cs h0
      have hstop := trimL_stop s cs h0
      cases h : cs.contains (s[0]'h0)
      · rw [hstop h]
        refine Ev.congr (fun k => ?_) (Ev.step (f := fun k => pergolaref01_around.l1 k s t) (g := fun k => pergolaref01_around.j1 k s t) (fun k => ?_) (around_l1 t cs ht (n + 1) s hs hn))
        · rw [if_neg (by decide)]
        · rw [pergolaref01_around.j1]
      · have := ih (s.extract 1 s.size) (by simp [ByteArray.size_extract]; omega) (by omega)
        rw [hstep h] at this
        exact this
theorem around_f (t : ByteArray) (cs : List UInt8) (ht : HasIs t cs) (s : ByteArray) (hs : s.size ≤ 1048576) : Ev (fun k => pergolaref01_around.f k s t) (around s cs) := by
  have := around_l0 t cs ht s.size s rfl hs
  rw [around_comm] at this
  exact this

/-! Parts and words -/
theorem rsplit_l0 (s : ByteArray) (hs : s.size ≤ 1048576) (b : Int) (d : Nat) : ∀ (i f : Nat) (acc : List ByteArray), i + d = s.size → f ≤ i → acc.length ≤ i →
    Ev (fun k => pergolaref01_Split.l0 k s b acc (f : Int) (i : Int)) (acc ++ (sp b ((bytesOf s).drop i) (cut s f i)).map strOfNums) := by
  have hl := bytesOf_length s
  induction d with
  | zero =>
    intro i f acc hi hf ha
    obtain rfl : i = s.size := by omega
    rw [List.drop_of_length_le (by omega)]
    refine Ev.step (f := fun _ => some (acc ++ (sp b [] (cut s f s.size)).map strOfNums)) (fun k => ?_) (Ev.now _)
    rw [pergolaref01_Split.l0, if_neg (by omega), if_pos (by omega), if_pos (by omega), if_pos (by omega), Int.toNat_natCast, extract_cut]
    rfl
  | succ d ih =>
    intro i f acc hi hf ha
    have hw : wrap64 ((i : Int) + 1) = ((i + 1 : Nat) : Int) := by unfold wrap64; omega
    rw [getD_drop (show i < (bytesOf s).length by omega)]
    by_cases hb : (bytesOf s).getD i 0 = b
    · refine Ev.step (f := fun k => pergolaref01_Split.l0 k s b (acc ++ [strOfNums (cut s f i)]) ((i + 1 : Nat) : Int) ((i + 1 : Nat) : Int)) (fun k => ?_) ?_
      · rw [pergolaref01_Split.l0, if_pos (by omega), if_pos (by omega), if_pos (by rw [bt_at', hb]), if_pos (by omega), if_pos (by omega), if_pos (by omega), if_pos (by omega), hw, Int.toNat_natCast, Int.toNat_natCast, extract_cut]
      · have := ih (i + 1) (i + 1) (acc ++ [strOfNums (cut s f i)]) (by omega) (Nat.le_refl _) (by simp; omega)
        rw [cut_self, List.append_assoc] at this
        rw [sp, if_pos hb]
        exact this
    · refine Ev.step (f := fun k => pergolaref01_Split.l0 k s b acc (f : Int) ((i + 1 : Nat) : Int)) (fun k => ?_) ?_
      · rw [pergolaref01_Split.l0, if_pos (by omega), if_pos (by omega), if_neg (by rw [bt_at']; exact hb), hw]
      · have := ih (i + 1) f acc (by omega) (by omega) (by omega)
        rw [cut_succ s f i hf (by omega)] at this
        rw [sp, if_neg hb]
        exact this
theorem rsplit_f (s : ByteArray) (hs : s.size ≤ 1048576) (b : Int) : Ev (fun k => pergolaref01_Split.f k s b) ((sp b (bytesOf s) []).map strOfNums) := by
  have := rsplit_l0 s hs b s.size 0 0 [] (by omega) (Nat.le_refl _) (Nat.le_refl _)
  rw [cut_self, List.drop_zero, List.nil_append] at this
  exact this
theorem has_bl {c : Int} (h : 0 ≤ c ∧ c < 256) : Ev (fun k => pergolaref01_Has.f k ⟨#[9, 10, 12, 13, 32]⟩ c) (bl c) :=
  Ev.of (pergolaref01_Has.mono _ c) (k := 40) (byte_all (p := fun c => pergolaref01_Has.f 40 ⟨#[9, 10, 12, 13, 32]⟩ c = some (bl c)) (by decide +kernel) h)
theorem rwords_in (s : ByteArray) (hs : s.size ≤ 1048576) (i : Nat) (hi : i ≤ s.size) (acc : List ByteArray) (ha : acc.length ≤ i) (f : Int) (cur : List Int) (hf : Since s f i cur) (R : List ByteArray)
    (h : Ev (fun k => pergolaref01_Words.l0 k s (if cur = [] then acc else acc ++ [strOfNums cur]) (-1) ((i + 1 : Nat) : Int)) R) :
    Ev (fun k => pergolaref01_Words.j1 k s acc f (i : Int) false) R := by
  have hw : wrap64 ((i : Int) + 1) = ((i + 1 : Nat) : Int) := by unfold wrap64; omega
  by_cases hc : cur = []
  · have e := hf.nil hc
    subst e
    rw [if_pos hc] at h
    refine Ev.step (fun k => ?_) h
    rw [pergolaref01_Words.j1, if_neg (by decide), if_neg (by decide), hw]
  · obtain ⟨n, rfl, hn, hcc⟩ := hf.ne hc
    rw [if_neg hc] at h
    refine Ev.step (fun k => ?_) h
    rw [pergolaref01_Words.j1, if_neg (by decide), if_pos (by omega), if_pos (by omega), if_pos (by omega), if_pos (by omega), if_pos (by omega), hw, Int.toNat_natCast, Int.toNat_natCast, extract_cut, hcc]
theorem rwords_out (s : ByteArray) (hs : s.size ≤ 1048576) (i : Nat) (hi : i < s.size) (acc : List ByteArray) (f : Int) (cur : List Int) (hf : Since s f i cur) (R : List ByteArray)
    (h : ∀ f', Since s f' (i + 1) (cur ++ [(bytesOf s).getD i 0]) → Ev (fun k => pergolaref01_Words.l0 k s acc f' ((i + 1 : Nat) : Int)) R) :
    Ev (fun k => pergolaref01_Words.j1 k s acc f (i : Int) true) R := by
  have hw : wrap64 ((i : Int) + 1) = ((i + 1 : Nat) : Int) := by unfold wrap64; omega
  rcases hf with ⟨rfl, rfl⟩ | ⟨n, rfl, hn, hi2, rfl⟩
  · refine Ev.step (fun k => ?_) (h (i : Int) (.inr ⟨i, rfl, by omega, by omega, by rw [cut_succ s i i (Nat.le_refl _) hi, cut_self]⟩))
    rw [pergolaref01_Words.j1, if_pos rfl, if_pos (by omega), hw]
  · refine Ev.step (fun k => ?_) (h (n : Int) (.inr ⟨n, rfl, by omega, by omega, by rw [cut_succ s n i (by omega) hi]⟩))
    rw [pergolaref01_Words.j1, if_pos rfl, if_neg (by omega), hw]
theorem rwords_l0 (s : ByteArray) (hs : s.size ≤ 1048576) (d : Nat) : ∀ (i : Nat) (f : Int) (acc : List ByteArray) (cur : List Int), i + d = s.size → Since s f i cur → acc.length ≤ i →
    Ev (fun k => pergolaref01_Words.l0 k s acc f (i : Int)) (acc ++ (wd ((bytesOf s).drop i) cur).map strOfNums) := by
  have hl := bytesOf_length s
  induction d with
  | zero =>
    intro i f acc cur hi hf ha
    obtain rfl : i = s.size := by omega
    rw [List.drop_of_length_le (by omega)]
    refine Ev.step (f := fun k => pergolaref01_Words.j1 k s acc f (s.size : Int) false) (fun k => ?_) (rwords_in s hs s.size (Nat.le_refl _) acc ha f cur hf _ ?_)
    · rw [pergolaref01_Words.l0, if_pos (by omega), if_neg (by omega)]
    · refine Ev.step (f := fun _ => some (acc ++ (wd [] cur).map strOfNums)) (fun k => ?_) (Ev.now _)
      rw [pergolaref01_Words.l0, if_neg (by omega), wd]
      by_cases hc : cur = []
      · rw [if_pos hc, if_pos hc, List.map_nil, List.append_nil]
      · rw [if_neg hc, if_neg hc, List.map_cons, List.map_nil]
  | succ d ih =>
    intro i f acc cur hi hf ha
    have hcb := (Bytes.of s).at_ i
    rw [getD_drop (show i < (bytesOf s).length by omega), wd]
    refine Ev.step (f := fun k => (pergolaref01_Has.f k ⟨#[9, 10, 12, 13, 32]⟩ ((bytesOf s).getD i 0)).bind fun t => pergolaref01_Words.j1 k s acc f (i : Int) (!t)) (fun k => ?_) (Ev.bind (has_bl hcb) ?_)
    · rw [pergolaref01_Words.l0, if_pos (by omega), if_pos (by omega), if_pos (by omega), bt_at']
    · cases hbl : bl ((bytesOf s).getD i 0)
      · rw [if_neg (by decide)]
        exact rwords_out s hs i (by omega) acc f cur hf _ fun f' hf' => ih (i + 1) f' acc _ (by omega) hf' (by omega)
      · rw [if_pos rfl]
        refine rwords_in s hs i (by omega) acc ha f cur hf _ ?_
        have := ih (i + 1) (-1) (if cur = [] then acc else acc ++ [strOfNums cur]) [] (by omega) (.inl ⟨rfl, rfl⟩) (by split <;> (try rw [List.length_append, List.length_singleton]) <;> omega)
        by_cases hc : cur = []
        · rw [if_pos hc] at this ⊢
          rw [if_pos hc]
          exact this
        · rw [if_neg hc] at this ⊢
          rw [if_neg hc]
          rw [List.append_assoc] at this
          exact this
theorem rwords_f (s : ByteArray) (hs : s.size ≤ 1048576) : Ev (fun k => pergolaref01_Words.f k s) ((wd (bytesOf s) []).map strOfNums) := by
  have := rwords_l0 s hs s.size 0 (-1) [] [] (by omega) (.inl ⟨rfl, rfl⟩) (Nat.le_refl _)
  rw [List.drop_zero, List.nil_append] at this
  exact this
theorem sp_len' (b : Int) : ∀ (l cur : List Int), (sp b l cur).length ≤ l.length + 1 := by
  intro l
  induction l with
  | nil => intro cur; exact Nat.le_refl _
  | cons a t ih =>
    intro cur
    rw [sp]
    by_cases hb : a = b
    · rw [if_pos hb, List.length_cons, List.length_cons]; have := ih []; omega
    · rw [if_neg hb, List.length_cons]; have := ih (cur ++ [a]); omega
theorem wd_len' : ∀ (l cur : List Int), (wd l cur).length ≤ l.length + 1 := by
  intro l
  induction l with
  | nil => intro cur; rw [wd]; split <;> simp
  | cons a t ih =>
    intro cur
    rw [wd]
    have h1 := ih []
    have h2 := ih (cur ++ [a])
    split
    · split
      · rw [List.length_cons]; omega
      · rw [List.length_cons, List.length_cons]; omega
    · rw [List.length_cons]; omega
theorem texts_alive : Ev (fun k => pergolalaw01_alive.f k) true := Ev.of pergolalaw01_alive.mono (k := 200) (by decide +kernel)
theorem OctetsTextsU : pergolalaw01_OctetsTexts.PureU := by
  intro a b c ha hb _
  have hla := bytesOf_length a
  have hsp := sp_len' c (bytesOf a) []
  have hwd := wd_len' (bytesOf a) []
  have htok : Ev (fun k => octets_IsToken.f k a) (toks a) := istok_l0 a ha a.size 0 (by omega)
  have hrtok : Ev (fun k => pergolaref01_IsToken.f k a) (toks a) := rtok_l0 a ha a.size 0 (by omega)
  have hsame : octets_Same.f a b = some ((strOfNums ((bytesOf a).map low)).toList == (strOfNums ((bytesOf b).map low)).toList) := by
    rw [octets_Same.f, lower_f a (by omega), Option.bind_some, lower_f b (by omega), Option.bind_some]
  have hrsame : Ev (fun k => pergolaref01_Same.f k a b) ((strOfNums ((bytesOf a).map low)).toList == (strOfNums ((bytesOf b).map low)).toList) :=
    Ev.bind (rlower_f a ha) (Ev.bind (rlower_f b hb) (Ev.now _))
  have hrtrim : Ev (fun k => pergolaref01_Trim.f k a) (around a [9, 32]) := Ev.bind (around_f _ _ has_tab a ha) (Ev.now _)
  have hrstrip : Ev (fun k => pergolaref01_Strip.f k a) (around a [9, 10, 12, 13, 32]) := Ev.bind (around_f _ _ has_blank a ha) (Ev.now _)
  refine Ev.rounds (Ev.bind htok (Ev.bind hrtok (ev_pos (by rw [beq_self_eq_true]) ?_)))
  refine Ev.bind (ev_some (lower_f a (by omega))) (Ev.bind (rlower_f a ha) (ev_pos rfl ?_))
  refine Ev.bind (ev_some (upper_f a (by omega))) (Ev.bind (rupper_f a ha) (ev_pos rfl ?_))
  refine Ev.bind (ev_some hsame) (Ev.bind hrsame (ev_pos (by rw [beq_self_eq_true]) ?_))
  refine Ev.bind (ev_some (trim_f a (by omega))) (Ev.bind hrtrim (ev_pos rfl ?_))
  refine Ev.bind (ev_some (strip_f a (by omega))) (Ev.bind hrstrip (ev_pos rfl ?_))
  refine Ev.bind (split_f a (by omega) c) (Ev.bind (rsplit_f a ha c) (Ev.bind (sames_f _ (by rw [List.length_map]; omega)) (ev_pos rfl ?_)))
  refine Ev.bind (words_f a (by omega)) (Ev.bind (rwords_f a ha) (Ev.bind (sames_f _ (by rw [List.length_map]; omega)) (ev_pos rfl ?_)))
  exact Ev.bind texts_alive (Ev.now _)
end Go.Proofs.YtknmcpccljmfdaaDoor.Pure
