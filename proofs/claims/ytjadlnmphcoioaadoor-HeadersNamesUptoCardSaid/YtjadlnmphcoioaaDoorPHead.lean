/- What headers.one, line, Normal compute, and strings.Cut at a colon; on lists of bytes. -/
import Derived.Test.YtjadlnmphcoioaaDoorX3
import Derived.Test.YtjadlnmphcoioaaDoorPTok
import Derived.Test.YtjadlnmphcoioaaDoorPTrim
import Derived.Test.YtjadlnmphcoioaaDoorPCut
namespace Go.Proofs.YtjadlnmphcoioaaDoor.Pure
open Go.RowKit Go.Proofs.YtjadlnmphcoioaaDoor.X Go.Proofs.YtjadlnmphcoioaaDoorW.PrintWords Go.Proofs.YtjadlnmphcoioaaDoorW.PrintLast Go.Proofs.YtjadlnmphcoioaaDoorW.PrintMore

abbrev Hd := S63

/-! may a header be -/
def nlb (v : ByteArray) : Bool := Lib.containsAny v.data.toList crlf0.data.toList
def oneOf (n v : ByteArray) : Int := if toks n = true then (if (n.size : Int) > 64 then 5 else if nlb v = true then 112 else if around v [9, 32] = v then 0 else 112) else 111
theorem one_f (n v : ByteArray) (hn : n.size ≤ 1048576) (hv : v.size ≤ 1048576) : Ev (fun k => headers_one.f k n v) (oneOf n v) := by
  unfold oneOf
  have e : ∀ k, headers_one.f k n v = (octets_IsToken.f k n).bind fun t => if t = true then (if (n.size : Int) > 64 then some 5 else if nlb v = true then some 112 else if around v [9, 32] = v then some 0 else some 112) else some 111 := fun k => by
    rw [headers_one.f]
    congr 1
    funext t
    rw [show strings_ContainsAny.f v (⟨#[0, 10, 13]⟩ : ByteArray) = some (nlb v) from if_pos ⟨by omega, rfl⟩, Option.bind_some, trim_f v (by omega), Option.bind_some]
    simp only [toList_inj]
  refine Ev.congr e (Ev.bind (istok_l0 n hn n.size 0 (by omega)) (ev_some ?_))
  show (if toks n = true then _ else _) = _
  repeat' split
  all_goals rfl

/-! a line -/
theorem indexByte_app (s t : List UInt8) (c : UInt8) (h : c ∉ s) : Lib.indexByte (s ++ c :: t) c = s.length := by
  induction s with
  | nil => simp [Lib.indexByte]
  | cons b s ih =>
    have hb : (b == c) = false := by
      rw [beq_eq_false_iff_ne]
      rintro rfl
      exact h (List.mem_cons_self ..)
    rw [List.cons_append, Lib.indexByte, ih (fun hc => h (List.mem_cons_of_mem _ hc)), hb]
    simp
theorem indexByte_out (s : List UInt8) (c : UInt8) (h : c ∉ s) : Lib.indexByte s c = -1 := by
  induction s with
  | nil => rfl
  | cons b s ih =>
    have hb : (b == c) = false := by
      rw [beq_eq_false_iff_ne]
      rintro rfl
      exact h (List.mem_cons_self ..)
    rw [Lib.indexByte, ih (fun hc => h (List.mem_cons_of_mem _ hc)), hb]
    rfl
def u8 (n : Int) : UInt8 := UInt8.ofNat n.toNat
theorem u8_inj {a b : Int} (ha : 0 ≤ a ∧ a < 256) (hb : 0 ≤ b ∧ b < 256) (h : u8 a = u8 b) : a = b := by
  have := congrArg UInt8.toNat h
  unfold u8 at this
  rw [UInt8.toNat_ofNat', UInt8.toNat_ofNat'] at this
  omega
theorem u8_mem {l : List Int} (h : Bytes l) {c : Int} (hc : 0 ≤ c ∧ c < 256) (hm : c ∉ l) : u8 c ∉ l.map u8 := fun h1 => by
  obtain ⟨x, hx, e⟩ := List.mem_map.1 h1
  exact hm (u8_inj (h x hx) hc e ▸ hx)
theorem lib_bytes (l : List Int) : Lib.bytesOf l = l.map u8 := rfl
theorem str_data (l : List Int) : (strOfNums l).data.toList = l.map u8 := rfl
theorem data_str (s : ByteArray) : s.data.toList = (bytesOf s).map u8 := by
  conv => lhs; rw [← str_bytesOf s]
  rfl
def chop (s : List Int) : List Int := if [13].isSuffixOf s = true then s.take (s.length - 1) else s
theorem isSuffix_u8 {s : List Int} (h : Bytes s) : ([u8 13] : List UInt8).isSuffixOf (s.map u8) = ([13] : List Int).isSuffixOf s := by
  rw [Bool.eq_iff_iff, List.isSuffixOf_iff_suffix, List.isSuffixOf_iff_suffix]
  constructor
  · rintro ⟨t, ht⟩
    have hl : s ≠ [] := by rintro rfl; simp at ht
    have e : s.dropLast ++ [s.getLast hl] = s := List.dropLast_concat_getLast hl
    have e2 := congrArg (List.map u8) e
    rw [List.map_append, ← ht] at e2
    have e3 := List.append_inj_right' e2 rfl
    have : u8 (s.getLast hl) = u8 13 := by simpa using e3
    have := u8_inj (h _ (List.getLast_mem hl)) (by omega) this
    exact ⟨s.dropLast, by rw [← this]; exact e⟩
  · rintro ⟨t, rfl⟩
    exact ⟨t.map u8, by rw [List.map_append]; rfl⟩
theorem chop_f (s : List Int) (h : Bytes s) (hs : s.length ≤ 1048576) : strings_TrimSuffix.f (strOfNums s) (⟨#[13]⟩ : ByteArray) = some (strOfNums (chop s)) := by
  rw [strings_TrimSuffix.f, if_pos (by rw [size_str]; omega)]
  congr 1
  have e : Lib.trimSuffix (strOfNums s).data.toList (⟨#[13]⟩ : ByteArray).data.toList = (chop s).map u8 := by
    show (if ([u8 13] : List UInt8).isSuffixOf (s.map u8) = true then (s.map u8).take ((s.map u8).length - 1) else s.map u8) = _
    rw [isSuffix_u8 h]
    unfold chop
    split
    · rw [List.map_take, List.length_map]
    · rfl
  rw [e]
  rfl
theorem chop_cr (s : List Int) : chop (s ++ [13]) = s := by
  unfold chop
  rw [if_pos (by rw [List.isSuffixOf_iff_suffix]; exact ⟨s, rfl⟩)]
  simp
theorem chop_len (s : List Int) : (chop s).length ≤ s.length := by
  unfold chop
  split
  · rw [List.length_take]; omega
  · exact Nat.le_refl _
theorem chop_bytes {s : List Int} (h : Bytes s) : Bytes (chop s) := by
  unfold chop
  split
  · exact h.take _
  · exact h
theorem line_hit (pre s post : List Int) (hs : Bytes s) (h : 10 ∉ s) (hn : pre.length + s.length + 1 ≤ 1048576) (_ : Bytes post) :
    headers_line.f (pre ++ s ++ 10 :: post) (pre.length : Int) = some (strOfNums (chop s), ((pre.length + s.length + 1 : Nat) : Int)) := by
  have hlen : ((pre ++ s ++ 10 :: post).length : Int) = pre.length + s.length + 1 + post.length := by simp; omega
  have hd : (pre ++ s ++ 10 :: post).drop (pre.length : Int).toNat = s ++ 10 :: post := by rw [Int.toNat_natCast, List.append_assoc, List.drop_left]
  have hi : bytes_IndexByte.f (s ++ 10 :: post) 10 = some (s.length : Int) := by
    rw [bytes_IndexByte.f, lib_bytes, List.map_append, List.map_cons]
    congr 1
    have := indexByte_app (s.map u8) (post.map u8) (u8 10) (u8_mem hs (by omega) h)
    rw [List.length_map] at this
    exact this
  have hw : wrap64 ((pre.length : Int) + (s.length : Int)) = (((pre ++ s).length : Nat) : Int) := by rw [w64 (by omega) (by omega), List.length_append]; omega
  have hl2 : (((pre ++ s).length : Nat) : Int) = pre.length + s.length := by rw [List.length_append]; omega
  have hm : ((pre ++ s ++ 10 :: post).take (((pre ++ s).length : Nat) : Int).toNat).drop (pre.length : Int).toNat = s := by
    simp only [Int.toNat_natCast]
    rw [List.take_left, List.drop_left]
  rw [headers_line.f, if_pos (by omega), if_pos (by omega), hd, hi, Option.bind_some, if_neg (by omega), hw, if_pos (by omega), if_pos (by omega), hm, chop_f s hs (by omega), Option.bind_some, w64 (by omega) (by omega)]
  congr 2
  rw [hl2]
  omega
theorem line_end (pre s : List Int) (hs : Bytes s) (h : 10 ∉ s) : headers_line.f (pre ++ s) (pre.length : Int) = some (strOfNums s, ((pre ++ s).length : Int)) := by
  have hlen : ((pre ++ s).length : Int) = pre.length + s.length := by simp
  have hi : bytes_IndexByte.f s 10 = some (-1) := by
    rw [bytes_IndexByte.f, lib_bytes]
    congr 1
    exact indexByte_out _ _ (u8_mem hs (by omega) h)
  rw [headers_line.f, if_pos (by omega), if_pos (by omega), Int.toNat_natCast, List.drop_left, hi, Option.bind_some, if_pos (by omega)]
/-- A line of whatever block. -/
theorem line_any (l : List Int) (hl : Bytes l) (hn : l.length ≤ 1048576) (i : Nat) (hi : i < l.length) :
    ∃ s nxt : _, headers_line.f l (i : Int) = some (strOfNums s, ((nxt : Nat) : Int)) ∧ Bytes s ∧ s.length ≤ 1048576 ∧ i < nxt ∧ nxt ≤ l.length := by
  have hl1 : l = l.take i ++ l.drop i := (List.take_append_drop i l).symm
  have hp : (l.take i).length = i := by rw [List.length_take]; omega
  have hdb := hl.drop i
  have hdl : (l.drop i).length = l.length - i := List.length_drop
  by_cases h : (10 : Int) ∈ l.drop i
  · obtain ⟨s, post, e, hs⟩ := List.eq_append_cons_of_mem h
    rw [e] at hdb hdl
    rw [List.length_append, List.length_cons] at hdl
    have hs' : Bytes s := hdb.left
    have e2 : l = l.take i ++ s ++ 10 :: post := by rw [List.append_assoc, ← e]; exact hl1
    have := line_hit (l.take i) s post hs' hs (by omega) hdb.right.tail
    rw [← e2, hp] at this
    have hc := chop_len s
    exact ⟨chop s, _, this, chop_bytes hs', by omega, by omega, by omega⟩
  · have := line_end (l.take i) (l.drop i) hdb h
    rw [← hl1, hp] at this
    exact ⟨l.drop i, l.length, this, hdb, by omega, hi, Nat.le_refl _⟩

/-! a colon -/
theorem cut_in (a b : List Int) (ha : Bytes a) (hb : Bytes b) (h : 58 ∉ a) : cutAt (strOfNums (a ++ 58 :: b)) 58 = (strOfNums a, strOfNums b, true) := by
  have hi : Lib.indexByte (strOfNums (a ++ 58 :: b)).data.toList 58 = (a.length : Int) := by
    rw [str_data, List.map_append, List.map_cons]
    have := indexByte_app (a.map u8) (b.map u8) (u8 58) (u8_mem ha (by omega) h)
    rw [List.length_map] at this
    exact this
  have hB : Bytes (a ++ 58 :: b) := ha.append (hb.cons (by omega))
  unfold cutAt
  rw [hi, if_pos (by omega), Int.toNat_natCast]
  congr 1
  · apply bytesOf_inj
    rw [bytesOf_extract, bytesOf_str ha]
    unfold cut
    rw [bytesOf_str hB, Nat.sub_zero, List.drop_zero, List.take_left]
  · congr 1
    apply bytesOf_inj
    rw [bytesOf_extract, bytesOf_str hb, size_str]
    unfold cut
    rw [bytesOf_str hB, show a ++ 58 :: b = (a ++ [58]) ++ b by simp, show a.length + 1 = (a ++ [58]).length by simp, List.drop_left, List.length_append]
    exact List.take_of_length_le (by omega)
theorem cut_size (s : ByteArray) (c : UInt8) : (cutAt s c).1.size ≤ s.size ∧ (cutAt s c).2.1.size ≤ s.size := by
  unfold cutAt
  split
  · simp only [ByteArray.size_extract]
    omega
  · exact ⟨Nat.le_refl _, Nat.zero_le _⟩
theorem cut_f (s : ByteArray) (hs : s.size ≤ 1048576) : strings_Cut.f s (⟨#[58]⟩ : ByteArray) = some (cutAt s 58) := if_pos ⟨by omega, rfl⟩

/-! what surrounds a value -/
def n4 : List UInt8 := [9, 10, 13, 32]
theorem normal_f (s : ByteArray) (hs : s.size ≤ 1048576) : headers_Normal.f s = some (around s n4) := by
  rw [headers_Normal.f, strings_Trim.f, if_pos ⟨by omega, by decide, by decide, by decide⟩, Option.bind_some]
  rfl
theorem dropWhile_alike {p q : UInt8 → Bool} : ∀ l : List UInt8, (∀ b ∈ l, p b = q b) → l.dropWhile p = l.dropWhile q
  | [], _ => rfl
  | a :: l, h => by
    rw [List.dropWhile_cons, List.dropWhile_cons, h a (List.mem_cons_self ..), dropWhile_alike l (fun b hb => h b (List.mem_cons_of_mem _ hb))]
theorem trim_alike {c d : List UInt8} (l : List UInt8) (h : ∀ b ∈ l, c.contains b = d.contains b) : Lib.trimS l c = Lib.trimS l d := by
  have e1 : Lib.trimRightS l c = Lib.trimRightS l d := by
    unfold Lib.trimRightS
    rw [dropWhile_alike l.reverse (fun b hb => h b (List.mem_reverse.1 hb))]
  unfold Lib.trimS
  rw [e1]
  unfold Lib.trimLeftS
  refine dropWhile_alike _ (fun b hb => h b ?_)
  have h1 := (List.dropWhile_suffix (l := l.reverse) (fun x => d.contains x)).mem (List.mem_reverse.1 hb)
  exact List.mem_reverse.1 h1
theorem nlb_no {v : ByteArray} (hn : nlb v = false) : ∀ b ∈ v.data.toList, crlf0.data.toList.contains b = false := by
  intro b hb
  unfold nlb Lib.containsAny at hn
  have hlt : Lib.indexAny v.data.toList crlf0.data.toList < 0 := by have := of_decide_eq_false hn; omega
  have key : ∀ (l : List UInt8), Lib.indexAny l crlf0.data.toList < 0 → ∀ b ∈ l, crlf0.data.toList.contains b = false := by
    intro l
    induction l with
    | nil => intro _ b hb; cases hb
    | cons a l ih =>
      intro hl b hb
      rw [Lib.indexAny] at hl
      have hge := Lib.indexAny_ge crlf0.data.toList l
      cases hc : crlf0.data.toList.contains a
      · rw [hc, if_neg (by simp)] at hl
        rcases List.mem_cons.1 hb with rfl | h1
        · exact hc
        · refine ih ?_ b h1
          split at hl
          · rename_i h2
            have := beq_iff_eq.1 h2
            omega
          · omega
      · rw [hc, if_pos rfl] at hl
        omega
  exact key _ hlt b hb
/-- A value that may be, with a blank ahead. -/
theorem normal_blank (v : ByteArray) (hn : nlb v = false) (ht : around v [9, 32] = v) : around (strOfNums (32 :: bytesOf v)) n4 = v := by
  have hno := nlb_no hn
  have hvl : Lib.trimS v.data.toList [9, 32] = v.data.toList := congrArg (fun x : ByteArray => x.data.toList) ht
  have ha : Lib.trimS v.data.toList n4 = v.data.toList := by
    refine Eq.trans (trim_alike _ fun b hb => ?_) hvl
    have := hno b hb
    have h2 : ∀ b : UInt8, ([0, 10, 13] : List UInt8).contains b = false → n4.contains b = ([9, 32] : List UInt8).contains b := by
      intro b hb
      have h10 : b ≠ 10 := fun e => by subst e; revert hb; decide
      have h13 : b ≠ 13 := fun e => by subst e; revert hb; decide
      simp [n4, h10, h13]
    exact h2 b this
  have e32 : (strOfNums (32 :: bytesOf v)).data.toList = 32 :: v.data.toList := by
    rw [str_data, List.map_cons, ← data_str]
    rfl
  unfold around
  rw [e32]
  have hcons : Lib.trimS (32 :: v.data.toList) n4 = Lib.trimS v.data.toList n4 := by
    rw [Lib.trimS, ← around_comm, Lib.trimS, ← around_comm]
    congr 1
  rw [hcons, ha]
end Go.Proofs.YtjadlnmphcoioaaDoor.Pure
