/- What headers.one, line, Normal compute, and strings.Cut at a colon; on lists of bytes. -/
import Derived.Test.YtjadlnmphcoioaaDoorX3
import Derived.Test.YtjadlnmphcoioaaDoorPTok
import Derived.Test.YtjadlnmphcoioaaDoorPTrim
import Derived.Test.YtjadlnmphcoioaaDoorPCut
namespace Go.Proofs.YtjadlnmphcoioaaDoor.Pure
open Go.RowKit Go.Proofs.YtjadlnmphcoioaaDoor.X Go.Proofs.YtjadlnmphcoioaaDoorW.PrintWords Go.Proofs.YtjadlnmphcoioaaDoorW.PrintLast Go.Proofs.YtjadlnmphcoioaaDoorW.PrintMore

abbrev Hd := S63

/-! may a header be -/
def nlb (v : ByteArray) : Bool := Lib.containsAny v.data.toList crlf0.data.toList
def oneOf (n v : ByteArray) : Int := if toks n = true then (if (n.size : Int) > 64 then 5 else if nlb v = true then 112 else if around v [9, 32] = v then 0 else 112) else 111
theorem one_f (n v : ByteArray) (hn : n.size ≤ 1048576) (hv : v.size ≤ 1048576) : Ev (fun k => headers_one.f k n v) (oneOf n v) := by
 unfold oneOf
 have e : ∀ k, headers_one.f k n v = (octets_IsToken.f k n).bind fun t => if t = true then (if (n.size : Int) > 64 then some 5 else if nlb v = true then some 112 else if around v [9, 32] = v then some 0 else some 112) else some 111 := fun k => by
  rw [headers_one.f]
  congr 1
  funext t
  rw [show strings_ContainsAny.f v (⟨#[0, 10, 13]⟩ : ByteArray) = some (nlb v) from if_pos ⟨by omega, rfl⟩, Option.bind_some, trim_f v (by omega), Option.bind_some]
  simp only [toList_inj]
 refine Ev.congr e (Ev.bind (istok_l0 n hn n.size 0 (by omega)) (ev_some ?_))
 show (if toks n = true then _ else _) = _
 repeat' split
 all_goals rfl

/-! a line -/
theorem indexByte_app (s t : List UInt8) (c : UInt8) (h : c ∉ s) : Lib.indexByte (s ++ c :: t) c = s.length := by
 induction s with
 | nil => simp [Lib.indexByte]
 | cons b s ih =>
  have hb : (b == c) = false := by
   rw [beq_eq_false_iff_ne]
   rintro rfl
   exact h (List.mem_cons_self ..)
  rw [List.cons_append, Lib.indexByte, ih (fun hc => h (List.mem_cons_of_mem _ hc)), hb]
  simp
theorem indexByte_out (s : List UInt8) (c : UInt8) (h : c ∉ s) : Lib.indexByte s c = -1 := by
 induction s with
 | nil => rfl
 | cons b s ih =>
  have hb : (b == c) = false := by
   rw [beq_eq_false_iff_ne]
   rintro rfl
   exact h (List.mem_cons_self ..)
  rw [Lib.indexByte, ih (fun hc => h (List.mem_cons_of_mem _ hc)), hb]
  rfl
def u8 (n : Int) : UInt8 := UInt8.ofNat n.toNat
theorem u8_inj {a b : Int} (ha : 0 ≤ a ∧ a < 256) (hb : 0 ≤ b ∧ b < 256) (h : u8 a = u8 b) : a = b := by
 have := congrArg UInt8.toNat h
 unfold u8 at this
 rw [UInt8.toNat_ofNat', UInt8.toNat_ofNat'] at this
 omega
theorem u8_mem {l : List Int} (h : Bytes l) {c : Int} (hc : 0 ≤ c ∧ c < 256) (hm : c ∉ l) : u8 c ∉ l.map u8 := fun h1 => by
 obtain ⟨x, hx, e⟩ := List.mem_map.1 h1
 exact hm (u8_inj (h x hx) hc e ▸ hx)
theorem lib_bytes (l : List Int) : Lib.bytesOf l = l.map u8 := rfl
theorem str_data (l : List Int) : (strOfNums l).data.toList = l.map u8 := rfl
theorem data_str (s : ByteArray) : s.data.toList = (bytesOf s).map u8 := by
 conv => lhs; rw [← str_bytesOf s]
 rfl
def chop (s : List Int) : List Int := if [13].isSuffixOf s = true then s.take (s.length - 1) else s
theorem isSuffix_u8 {s : List Int} (h : Bytes s) : ([u8 13] : List UInt8).isSuffixOf (s.map u8) = ([13] : List Int).isSuffixOf s := by
 rw [Bool.eq_iff_iff, List.isSuffixOf_iff_suffix, List.isSuffixOf_iff_suffix]
 constructor
 ·rintro ⟨t, ht⟩
  have hl : s ≠ [] := by rintro rfl; simp at ht
  have e : s.dropLast ++ [s.getLast hl] = s := List.dropLast_concat_getLast hl
  have e2 := congrArg (List.map u8) e
  rw [List.map_append, ← ht] at e2
  have e3 := List.append_inj_right' e2 rfl
  have : u8 (s.getLast hl) = u8 13 := by simpa using e3
  have := u8_inj (h _ (List.getLast_mem hl)) (by omega) this
  exact ⟨s.dropLast, by rw [← this]; exact e⟩
 ·rintro ⟨t, rfl⟩
  exact ⟨t.map u8, by rw [List.map_append]; rfl⟩
theorem chop_f (s : List Int) (h : Bytes s) (hs : s.length ≤ 1048576) : strings_TrimSuffix.f (strOfNums s) (⟨#[13]⟩ : ByteArray) = some (strOfNums (chop s)) := by
 rw [strings_TrimSuffix.f, if_pos (by rw [size_str]; omega)]
 congr 1
 have e : Lib.trimSuffix (strOfNums s).data.toList (⟨#[13]⟩ : ByteArray).data.toList = (chop s).map u8 := by
  show (if ([u8 13] : List UInt8).isSuffixOf (s.map u8) = true then (s.map u8).take ((s.map u8).length - 1) else s.map u8) = _
  rw [isSuffix_u8 h]
  unfold chop
  split
  ·rw [List.map_take, List.length_map]
  ·rfl
 rw [e]
 rfl
theorem chop_len (s : List Int) : (chop s).length ≤ s.length := by
 unfold chop
 split
 ·rw [List.length_take]; omega
 ·exact Nat.le_refl _
theorem line_hit (pre s post : List Int) (hs : Bytes s) (h : 10 ∉ s) (hn : pre.length + s.length + 1 ≤ 1048576) (_ : Bytes post) :
  headers_line.f (pre ++ s ++ 10 :: post) (pre.length : Int) = some (strOfNums (chop s), ((pre.length + s.length + 1 : Nat) : Int)) := by
 have hlen : ((pre ++ s ++ 10 :: post).length : Int) = pre.length + s.length + 1 + post.length := by simp; omega
 have hd : (pre ++ s ++ 10 :: post).drop (pre.length : Int).toNat = s ++ 10 :: post := by rw [Int.toNat_natCast, List.append_assoc, List.drop_left]
 have hi : bytes_IndexByte.f (s ++ 10 :: post) 10 = some (s.length : Int) := by
  rw [bytes_IndexByte.f, lib_bytes, List.map_append, List.map_cons]
  congr 1
  have := indexByte_app (s.map u8) (post.map u8) (u8 10) (u8_mem hs (by omega) h)
  rw [List.length_map] at this
  exact this
 have hw : wrap64 ((pre.length : Int) + (s.length : Int)) = (((pre ++ s).length : Nat) : Int) := by rw [w64 (by omega) (by omega), List.length_append]; omega
 have hl2 : (((pre ++ s).length : Nat) : Int) = pre.length + s.length := by rw [List.length_append]; omega
 have hm : ((pre ++ s ++ 10 :: post).take (((pre ++ s).length : Nat) : Int).toNat).drop (pre.length : Int).toNat = s := by
  simp only [Int.toNat_natCast]
  rw [List.take_left, List.drop_left]
 rw [headers_line.f, if_pos (by omega), if_pos (by omega), hd, hi, Option.bind_some, if_neg (by omega), hw, if_pos (by omega), if_pos (by omega), hm, chop_f s hs (by omega), Option.bind_some, w64 (by omega) (by omega)]
 congr 2
 rw [hl2]
 omega
theorem line_end (pre s : List Int) (hs : Bytes s) (h : 10 ∉ s) : headers_line.f (pre ++ s) (pre.length : Int) = some (strOfNums s, ((pre ++ s).length : Int)) := by
 have hlen : ((pre ++ s).length : Int) = pre.length + s.length := by simp
 have hi : bytes_IndexByte.f s 10 = some (-1) := by
  rw [bytes_IndexByte.f, lib_bytes]
  congr 1
  exact indexByte_out _ _ (u8_mem hs (by omega) h)
 rw [headers_line.f, if_pos (by omega), if_pos (by omega), Int.toNat_natCast, List.drop_left, hi, Option.bind_some, if_pos (by omega)]
/-! a colon -/
theorem cut_in (a b : List Int) (ha : Bytes a) (hb : Bytes b) (h : 58 ∉ a) : cutAt (strOfNums (a ++ 58 :: b)) 58 = (strOfNums a, strOfNums b, true) := by
 have hi : Lib.indexByte (strOfNums (a ++ 58 :: b)).data.toList 58 = (a.length : Int) := by
  rw [str_data, List.map_append, List.map_cons]
  have := indexByte_app (a.map u8) (b.map u8) (u8 58) (u8_mem ha (by omega) h)
  rw [List.length_map] at this
  exact this
 have hB : Bytes (a ++ 58 :: b) := ha.append (hb.cons (by omega))
 unfold cutAt
 rw [hi, if_pos (by omega), Int.toNat_natCast]
 congr 1
 ·apply bytesOf_inj
  rw [bytesOf_extract, bytesOf_str ha]
  unfold cut
  rw [bytesOf_str hB, Nat.sub_zero, List.drop_zero, List.take_left]
 ·congr 1
  apply bytesOf_inj
  rw [bytesOf_extract, bytesOf_str hb, size_str]
  unfold cut
  rw [bytesOf_str hB, show a ++ 58 :: b = (a ++ [58]) ++ b by simp, show a.length + 1 = (a ++ [58]).length by simp, List.drop_left, List.length_append]
  exact List.take_of_length_le (by omega)
theorem cut_size (s : ByteArray) (c : UInt8) : (cutAt s c).1.size ≤ s.size ∧ (cutAt s c).2.1.size ≤ s.size := by
 unfold cutAt
 split
 ·simp only [ByteArray.size_extract]
  omega
 ·exact ⟨Nat.le_refl _, Nat.zero_le _⟩
theorem cut_f (s : ByteArray) (hs : s.size ≤ 1048576) : strings_Cut.f s (⟨#[58]⟩ : ByteArray) = some (cutAt s 58) := if_pos ⟨by omega, rfl⟩

/-! what surrounds a value -/
def n4 : List UInt8 := [9, 10, 13, 32]
theorem normal_f (s : ByteArray) (hs : s.size ≤ 1048576) : headers_Normal.f s = some (around s n4) := by
 rw [headers_Normal.f, strings_Trim.f, if_pos ⟨by omega, by decide, by decide, by decide⟩, Option.bind_some]
 rfl
end Go.Proofs.YtjadlnmphcoioaaDoor.Pure
