/- What the page's one, line, read compute: as headers'. -/
import Derived.Test.YtjadlnmphcoioaaDoorPHeadA
import Derived.Test.YtjadlnmphcoioaaDoorPRAround
import Derived.Test.YtjadlnmphcoioaaDoorX6
import Derived.Test.YtjadlnmphcoioaaDoorX4
namespace Go.Proofs.YtjadlnmphcoioaaDoor.Pure
open Go.RowKit Go.Proofs.YtjadlnmphcoioaaDoor.X Go.Proofs.YtjadlnmphcoioaaDoorW.PrintWords Go.Proofs.YtjadlnmphcoioaaDoorW.PrintLast Go.Proofs.YtjadlnmphcoioaaDoorW.PrintMore

/-! may a header be -/
def bad3 (c : Int) : Bool := decide (c = 0 ∨ c = 10 ∨ c = 13)
theorem indexAny_any (cs : List UInt8) : ∀ l : List UInt8, decide (0 ≤ Lib.indexAny l cs) = l.any fun b => cs.contains b
 | [] => rfl
 | a :: l => by
  have ih := indexAny_any cs l
  have hge := Lib.indexAny_ge cs l
  rw [Lib.indexAny, List.any_cons, ← ih]
  cases hc : cs.contains a
  ·rw [if_neg (by simp), Bool.false_or]
   by_cases h : Lib.indexAny l cs = -1
   ·rw [h]; rfl
   ·rw [if_neg (by simpa using h), decide_eq_decide]
    omega
  ·rw [if_pos rfl]; rfl
theorem bad3_u8 {c : Int} (h : 0 ≤ c ∧ c < 256) : crlf0.data.toList.contains (u8 c) = bad3 c := byte_all (p := fun c => crlf0.data.toList.contains (u8 c) = bad3 c) (by decide +kernel) h
theorem any_u8 : ∀ l : List Int, Bytes l → ((l.map u8).any fun b => crlf0.data.toList.contains b) = l.any bad3
 | [], _ => rfl
 | a :: l, h => by rw [List.map_cons, List.any_cons, List.any_cons, bad3_u8 h.head, any_u8 l h.tail]
theorem nlb_any (v : ByteArray) : nlb v = (bytesOf v).any bad3 := by
 unfold nlb Lib.containsAny
 rw [indexAny_any, data_str, any_u8 _ (Bytes.of v)]
theorem rone_l0 (n v : ByteArray) (hv : v.size ≤ 1048576) (d : Nat) : ∀ (i : Nat), i + d = v.size → Ev (fun k => pergolaref11_one.l0 k (i : Int) n v) (if ((bytesOf v).drop i).any bad3 = true then 112 else 0) := by
 have hl := bytesOf_length v
 induction d with
 | zero =>
  intro i hi
  rw [List.drop_of_length_le (by omega)]
  refine Ev.step (f := fun _ => some 0) (fun k => ?_) (Ev.now _)
  rw [pergolaref11_one.l0, if_neg (by omega)]
 | succ d ih =>
  intro i hi
  have hw : wrap64 ((i : Int) + 1) = ((i + 1 : Nat) : Int) := by unfold wrap64; omega
  rw [getD_drop (show i < (bytesOf v).length by omega), List.any_cons]
  generalize hc : (bytesOf v).getD i 0 = c
  refine Ev.step (f := fun k => if bad3 c = true then some 112 else pergolaref11_one.l0 k ((i + 1 : Nat) : Int) n v) (fun k => ?_) ?_
  ·rw [pergolaref11_one.l0, if_pos (by omega), if_pos (by omega), bt_at', hw, hc]
   unfold bad3
   by_cases h0 : c = 0
   ·rw [if_pos h0, if_pos (by simp [h0])]
   ·by_cases h1 : c = 10
    ·rw [if_neg h0, if_pos h1, if_pos (by simp [h1])]
    ·by_cases h2 : c = 13
     ·rw [if_neg h0, if_neg h1, if_pos h2, if_pos (by simp [h2])]
     ·rw [if_neg h0, if_neg h1, if_neg h2, if_neg (by simp [h0, h1, h2])]
  ·cases h : bad3 c
   ·rw [Bool.false_or]
    exact ev_not (by decide) (ih (i + 1) (by omega))
   ·exact ev_pos rfl (Ev.now _)
theorem rone_f (n v : ByteArray) (hn : n.size ≤ 1048576) (hv : v.size ≤ 1048576) : Ev (fun k => pergolaref11_one.f k n v) (oneOf n v) := by
 unfold oneOf
 have h1 := rtok_l0 n hn n.size 0 (by omega)
 refine Ev.bind h1 ?_
 show Ev _ (if toks n = true then _ else _)
 rw [List.drop_zero]
 show Ev (fun k => if toks n = true then _ else _) _
 by_cases ht : toks n = true
 ·rw [if_pos ht]
  refine ev_pos ht ?_
  by_cases h64 : (n.size : Int) > 64
  ·rw [if_pos h64]
   exact ev_pos h64 (Ev.now _)
  ·rw [if_neg h64]
   refine ev_not h64 ?_
   have ht2 : Ev (fun k => pergolaref01_Trim.f k v) (around v [9, 32]) := Ev.bind (around_f _ _ has_tab v hv) (Ev.now _)
   refine Ev.bind ht2 ?_
   by_cases ha : around v [9, 32] = v
   ·have hr := rone_l0 n v hv v.size 0 (by omega)
    rw [List.drop_zero, ← nlb_any] at hr
    rw [if_pos ha]
    exact ev_pos (by rw [ha]) hr
   ·rw [if_neg ha, ite_self]
    exact ev_not (fun h => ha (toList_inj.1 h).symm) (Ev.now _)
 ·rw [if_neg ht]
  exact ev_not ht (Ev.now _)
theorem rnormal_f (s : ByteArray) (hs : s.size ≤ 1048576) : Ev (fun k => pergolaref11_Normal.f k s) (around s n4) := by
 have h : Ev (fun k => pergolaref01_Around.f k s (⟨#[9, 10, 13, 32]⟩ : ByteArray)) (around s n4) := Ev.bind (around_f _ _ has_four s hs) (Ev.now _)
 exact Ev.bind h (Ev.now _)

/-! a line -/
theorem rd_app (pre s post : List Int) (j : Nat) (h : j < s.length) : rd (pre ++ s ++ post) ((pre.length + j : Nat) : Int) = s[j]'h := by
 unfold rd
 rw [Int.toNat_natCast, List.getD_eq_getElem?_getD, List.append_assoc, List.getElem?_append_right (by omega), Nat.add_sub_cancel_left, List.getElem?_append_left h, List.getElem?_eq_getElem h]
 rfl
theorem rline_run (pre s post : List Int) (h : 10 ∉ s) (hn : pre.length + s.length ≤ 1048576) (R : Int × Int) (at_ : Int) (hend : Ev (fun k => pergolaref11_line.l0 k (pre ++ s ++ post) at_ ((pre.length + s.length : Nat) : Int)) R) (d : Nat) :
  ∀ (j : Nat), j + d = s.length → Ev (fun k => pergolaref11_line.l0 k (pre ++ s ++ post) at_ ((pre.length + j : Nat) : Int)) R := by
 induction d with
 | zero =>
  intro j hj
  obtain rfl : j = s.length := by omega
  exact hend
 | succ d ih =>
  intro j hj
  have hjl : j < s.length := by omega
  have hlen : ((pre ++ s ++ post).length : Int) = pre.length + s.length + post.length := by simp; omega
  refine Ev.step (fun k => ?_) (ih (j + 1) (by omega))
  rw [pergolaref11_line.l0, if_pos (by omega), if_pos (by omega), rd_app pre s post j hjl, if_neg (fun e : s[j]'hjl = 10 => h (by rw [← e]; exact List.getElem_mem hjl)), w64 (by omega) (by omega)]
  rfl
theorem chop_eq (s : List Int) : chop s = if s.getLast? = some 13 then s.take (s.length - 1) else s := by
 unfold chop
 congr 1
 rw [eq_iff_iff, List.isSuffixOf_iff_suffix]
 constructor
 ·rintro ⟨t, rfl⟩
  simp
 ·intro h
  obtain ⟨t, rfl⟩ := List.getLast?_eq_some_iff.1 h
  exact ⟨t, rfl⟩
theorem chop_take (s : List Int) : chop s = s.take (chop s).length := by
 rw [chop_eq]
 split
 ·rw [List.length_take, Nat.min_eq_left (by omega)]
 ·rw [List.take_length]
theorem rline_hit (pre s post : List Int) (h : 10 ∉ s) (hn : pre.length + s.length + 1 ≤ 1048576) :
  Ev (fun k => pergolaref11_line.f k (pre ++ s ++ 10 :: post) (pre.length : Int)) (((pre.length + (chop s).length : Nat) : Int), ((pre.length + s.length + 1 : Nat) : Int)) := by
 have hrun := rline_run pre s (10 :: post) h (by omega) (((pre.length + (chop s).length : Nat) : Int), ((pre.length + s.length + 1 : Nat) : Int)) (pre.length : Int)
 refine hrun ?_ s.length 0 (by omega)
 clear hrun
 have hlen : ((pre ++ s ++ 10 :: post).length : Int) = pre.length + s.length + 1 + post.length := by simp; omega
 have hrd10 : rd (pre ++ s ++ 10 :: post) ((pre.length + s.length : Nat) : Int) = 10 := by
  unfold rd
  rw [Int.toNat_natCast, List.getD_eq_getElem?_getD, List.getElem?_append_right (by simp)]
  simp
 have hrdl := fun hs0 : 0 < s.length => rd_app pre s (10 :: post) (s.length - 1) (by omega)
 have hgl : ∀ hs0 : 0 < s.length, s.getLast? = some (s[s.length - 1]'(by omega)) := fun hs0 => by rw [List.getLast?_eq_getElem?, List.getElem?_eq_getElem (by omega)]
 have hc := chop_eq s
 generalize hL : pre ++ s ++ 10 :: post = L at *
 have ew2 : wrap64 (((pre.length + s.length : Nat) : Int) + 1) = ((pre.length + s.length + 1 : Nat) : Int) := by unfold wrap64; omega
 refine Ev.step (f := fun _ => some (((pre.length + (chop s).length : Nat) : Int), ((pre.length + s.length + 1 : Nat) : Int))) (fun k => ?_) (Ev.now _)
 by_cases hs0 : 0 < s.length
 ·have ew : wrap64 (((pre.length + s.length : Nat) : Int) - 1) = ((pre.length + (s.length - 1) : Nat) : Int) := by unfold wrap64; omega
  have hl := hrdl hs0
  rw [hgl hs0] at hc
  rw [pergolaref11_line.l0, if_pos (by omega), if_pos (by omega), if_pos hrd10, if_pos (by omega), ew, ew2, if_pos (by omega), if_pos (by omega), hl]
  by_cases h13 : s[s.length - 1]'(by omega) = 13
  ·rw [h13, if_pos rfl] at hc
   rw [if_pos h13, hc, List.length_take, Nat.min_eq_left (by omega)]
  ·rw [if_neg (by simpa using h13)] at hc
   rw [if_neg h13, hc]
 ·have h0 : s.length = 0 := by omega
  have hc0 : (chop s).length = 0 := by have := chop_len s; omega
  rw [pergolaref11_line.l0, if_pos (by omega), if_pos (by omega), if_pos hrd10, if_neg (by omega), ew2, h0, hc0]
/-- A line of whatever block, by both. -/
theorem line_both (l : List Int) (hl : Bytes l) (hn : l.length ≤ 1048576) (i : Nat) (hi : i < l.length) :
  ∃ e nxt : Nat, headers_line.f l (i : Int) = some (strOfNums ((l.take e).drop i), (nxt : Int)) ∧ Ev (fun k => pergolaref11_line.f k l (i : Int)) ((e : Int), (nxt : Int)) ∧ i ≤ e ∧ e ≤ l.length ∧ i < nxt ∧ nxt ≤ l.length := by
 have hl1 : l = l.take i ++ l.drop i := (List.take_append_drop i l).symm
 have hp : (l.take i).length = i := by rw [List.length_take]; omega
 have hdb := hl.drop i
 have hdl : (l.drop i).length = l.length - i := List.length_drop
 by_cases h : (10 : Int) ∈ l.drop i
 ·obtain ⟨s, post, e, hs⟩ := List.eq_append_cons_of_mem h
  rw [e] at hdb hdl hl1
  rw [List.length_append, List.length_cons] at hdl
  generalize l.take i = pre at *
  obtain rfl : l = pre ++ s ++ 10 :: post := by rw [List.append_assoc]; exact hl1
  have hm := line_hit pre s post hdb.left hs (by omega) hdb.right.tail
  have hr := rline_hit pre s post hs (by omega)
  have hc := chop_len s
  have htd : ((pre ++ s ++ 10 :: post).take (i + (chop s).length)).drop i = chop s := by
   rw [List.append_assoc, ← hp, List.take_length_add_append, List.drop_left, List.take_append_of_le_length hc, ← chop_take]
  rw [hp] at hm hr
  refine ⟨i + (chop s).length, i + s.length + 1, ?_, hr, by omega, by omega, by omega, by omega⟩
  rw [htd]
  exact hm
 ·have := line_end (l.take i) (l.drop i) hdb h
  have hrun := rline_run (l.take i) (l.drop i) [] h (by omega)
  rw [List.append_nil, ← hl1, hp] at hrun
  rw [← hl1, hp] at this
  refine ⟨l.length, l.length, ?_, ?_, by omega, by omega, hi, by omega⟩
  ·rw [List.take_length]
   exact this
  ·refine hrun ((l.length : Int), (l.length : Int)) (i : Int) (Ev.step (f := fun _ => some ((l.length : Int), (l.length : Int))) (fun k => ?_) (Ev.now _)) (l.drop i).length 0 (by omega)
   rw [pergolaref11_line.l0, if_neg (by omega)]

/-! a header out of a line -/
def readOf (s : ByteArray) : ByteArray × ByteArray × Int := if (cutAt s 58).2.2 = true then ((cutAt s 58).1, around (cutAt s 58).2.1 n4, oneOf (cutAt s 58).1 (around (cutAt s 58).2.1 n4)) else (⟨#[]⟩, ⟨#[]⟩, 111)
theorem cut_out (s : List Int) (hs : Bytes s) (h : 58 ∉ s) : cutAt (strOfNums s) 58 = (strOfNums s, ByteArray.empty, false) := by
 have hi : Lib.indexByte (strOfNums s).data.toList 58 = -1 := by
  rw [str_data]
  exact indexByte_out _ _ (u8_mem hs (by omega) h)
 unfold cutAt
 rw [hi, if_neg (by omega)]
theorem rread_run (a post : List Int) (ha : Bytes (a ++ post)) (h : 58 ∉ a) (hn : (a ++ post).length ≤ 1048576) (R : ByteArray × ByteArray × Int) (hend : Ev (fun k => pergolaref11_read.l0 k (strOfNums (a ++ post)) (a.length : Int)) R) (d : Nat) :
  ∀ (j : Nat), j + d = a.length → Ev (fun k => pergolaref11_read.l0 k (strOfNums (a ++ post)) (j : Int)) R := by
 have hsz := size_str (a ++ post)
 have hlen : (a ++ post).length = a.length + post.length := by simp
 induction d with
 | zero =>
  intro j hj
  obtain rfl : j = a.length := by omega
  exact hend
 | succ d ih =>
  intro j hj
  have hjl : j < a.length := by omega
  have hb : bt (strOfNums (a ++ post)) (j : Int) = a[j]'hjl := by
   rw [bt_str ha, List.getD_eq_getElem?_getD, List.getElem?_append_left hjl, List.getElem?_eq_getElem hjl]
   rfl
  have hw : wrap64 ((j : Int) + 1) = ((j + 1 : Nat) : Int) := by unfold wrap64; omega
  refine Ev.step (fun k => ?_) (ih (j + 1) (by omega))
  rw [pergolaref11_read.l0, if_pos (by omega), if_pos (by omega), hb, if_neg (fun e : a[j]'hjl = 58 => h (by rw [← e]; exact List.getElem_mem hjl)), hw]
theorem rread_f (s : List Int) (hs : Bytes s) (hn : s.length ≤ 1048576) : Ev (fun k => pergolaref11_read.f k (strOfNums s)) (readOf (strOfNums s)) := by
 by_cases h : (58 : Int) ∈ s
 ·obtain ⟨a, b, rfl, ha⟩ := List.eq_append_cons_of_mem h
  have hsz := size_str (a ++ 58 :: b)
  have hlen : (a ++ 58 :: b).length = a.length + 1 + b.length := by simp; omega
  have hc := cut_in a b hs.left hs.right.tail ha
  have hb : bt (strOfNums (a ++ 58 :: b)) (a.length : Int) = 58 := by
   rw [bt_str hs, List.getD_eq_getElem?_getD, List.getElem?_append_right (by omega), Nat.sub_self]
   rfl
  have hx1 : (strOfNums (a ++ 58 :: b)).extract 0 a.length = strOfNums a := by
   apply bytesOf_inj
   rw [bytesOf_extract, bytesOf_str hs.left]
   unfold cut
   rw [bytesOf_str hs, Nat.sub_zero, List.drop_zero, List.take_left]
  have hx2 : (strOfNums (a ++ 58 :: b)).extract (a.length + 1) (strOfNums (a ++ 58 :: b)).size = strOfNums b := by
   apply bytesOf_inj
   rw [bytesOf_extract, bytesOf_str hs.right.tail, size_str]
   unfold cut
   rw [bytesOf_str hs, show a ++ 58 :: b = (a ++ [58]) ++ b by simp, show a.length + 1 = (a ++ [58]).length by simp, List.drop_left, List.length_append]
   exact List.take_of_length_le (by omega)
  have hw : wrap64 ((a.length : Int) + 1) = ((a.length + 1 : Nat) : Int) := by unfold wrap64; omega
  have hnb : (strOfNums b).size ≤ 1048576 := by rw [size_str]; omega
  have hna : (strOfNums a).size ≤ 1048576 := by rw [size_str]; omega
  have hns := around_size (strOfNums b) n4
  have hro : readOf (strOfNums (a ++ 58 :: b)) = (strOfNums a, around (strOfNums b) n4, oneOf (strOfNums a) (around (strOfNums b) n4)) := by
   unfold readOf
   rw [hc, if_pos rfl]
  rw [hro]
  refine rread_run a (58 :: b) hs ha hn _ ?_ a.length 0 (by omega)
  refine Ev.step (f := fun k => (pergolaref11_Normal.f k (strOfNums b)).bind fun t151 => (pergolaref11_one.f k (strOfNums a) t151).bind fun t153 => some (strOfNums a, t151, t153)) (fun k => ?_) (Ev.bind (rnormal_f _ hnb) (Ev.bind (rone_f _ _ hna (by omega)) (Ev.now _)))
  rw [pergolaref11_read.l0, if_pos (by omega), if_pos (by omega), if_pos hb, if_pos (by omega), hw, if_pos (by omega), if_pos (by omega), Int.toNat_natCast, Int.toNat_natCast, hx1, hx2]
 ·have hro : readOf (strOfNums s) = (⟨#[]⟩, ⟨#[]⟩, 111) := by
   unfold readOf
   rw [cut_out s hs h, if_neg (by simp)]
  rw [hro]
  have hsz := size_str s
  have := rread_run s [] (by rw [List.append_nil]; exact hs) h (by simpa using hn) (⟨#[]⟩, ⟨#[]⟩, 111) ?_ s.length 0 (by omega)
  ·rw [List.append_nil] at this
   exact this
  ·rw [List.append_nil]
   refine Ev.step (f := fun _ => some ((⟨#[]⟩ : ByteArray), (⟨#[]⟩ : ByteArray), 111)) (fun k => ?_) (Ev.now _)
   rw [pergolaref11_read.l0, if_neg (by omega)]
end Go.Proofs.YtjadlnmphcoioaaDoor.Pure
