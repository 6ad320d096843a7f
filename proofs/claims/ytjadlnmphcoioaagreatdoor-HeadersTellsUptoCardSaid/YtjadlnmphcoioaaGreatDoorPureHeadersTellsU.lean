/- Of any list of at most 1048576 headers with names and values of at most 1048576 bytes, any name and value of at most as many: headers.Check, Get, All, Names, Remove, Normal, Text answer what the page's do: the law HeadersTells answers true. -/
import Derived.Test.YtjadlnmphcoioaaGreatDoorX5
import Derived.Test.YtjadlnmphcoioaaGreatDoorX4
import Derived.Test.YtjadlnmphcoioaaGreatDoorXW
import Derived.Laws.BitsAllLaws
import Derived.Test.YtjadlnmphcoioaaGreatDoorX2
import Derived.Test.YtjadlnmphcoioaaGreatDoorX3
import Derived.Test.YtjadlnmphcoioaaGreatDoorX7
import Derived.Test.YtjadlnmphcoioaaGreatDoorX8
import Derived.Test.YtjadlnmphcoioaaGreatDoorX6
import Derived.Test.YtjadlnmphcoioaaGreatDoorX9
import Derived.Test.YtjadlnmphcoioaaGreatDoorXWSort
import Derived.Test.YtjadlnmphcoioaaGreatDoorX10
namespace Go.Proofs.YtjadlnmphcoioaaGreatDoor.Pure
open Go.RowKit Go.Proofs.YtjadlnmphcoioaaGreatDoorW.PrintWords Go.Proofs.YtjadlnmphcoioaaGreatDoorW.PrintLast Go.Proofs.YtjadlnmphcoioaaGreatDoorW.PrintMore

def Bytes (l : List Int) : Prop := ∀ x ∈ l, 0 ≤ x ∧ x < 256
theorem Bytes.at_ {l : List Int} (h : Bytes l) (i : Nat) : 0 ≤ l.getD i 0 ∧ l.getD i 0 < 256 := by
 rw [List.getD_eq_getElem?_getD]
 cases hx : l[i]? with
 | none => simp
 | some x => exact h x (List.mem_of_getElem? hx)
theorem Bytes.nil : Bytes [] := fun x hx => by cases hx
theorem Bytes.cons {a : Int} {l : List Int} (ha : 0 ≤ a ∧ a < 256) (h : Bytes l) : Bytes (a :: l) := fun x hx => by
 rcases List.mem_cons.1 hx with rfl | h1
 ·exact ha
 ·exact h x h1
theorem Bytes.head {a : Int} {l : List Int} (h : Bytes (a :: l)) : 0 ≤ a ∧ a < 256 := h a (by simp)
theorem Bytes.tail {a : Int} {l : List Int} (h : Bytes (a :: l)) : Bytes l := fun x hx => h x (by simp [hx])
theorem Bytes.append {l m : List Int} (h : Bytes l) (k : Bytes m) : Bytes (l ++ m) := fun x hx => by
 rcases List.mem_append.1 hx with h1 | h1
 ·exact h x h1
 ·exact k x h1
theorem Bytes.left {l m : List Int} (h : Bytes (l ++ m)) : Bytes l := fun x hx => h x (by simp [hx])
theorem Bytes.right {l m : List Int} (h : Bytes (l ++ m)) : Bytes m := fun x hx => h x (by simp [hx])
theorem Bytes.drop {l : List Int} (h : Bytes l) (n : Nat) : Bytes (l.drop n) := fun x hx => h x (List.mem_of_mem_drop hx)
theorem Bytes.take {l : List Int} (h : Bytes l) (n : Nat) : Bytes (l.take n) := fun x hx => h x (List.mem_of_mem_take hx)
theorem Bytes.of (s : ByteArray) : Bytes (bytesOf s) := fun x hx => by
 obtain ⟨b, _, rfl⟩ := List.mem_map.1 hx
 have := b.toNat_lt
 omega
theorem bytesOf_str {l : List Int} (h : Bytes l) : bytesOf (strOfNums l) = l := by
 unfold bytesOf
 rw [strOfNums_data, List.map_map]
 apply List.ext_getElem
 ·simp
 ·intro i h1 h2
  have := h l[i] (List.getElem_mem h2)
  simp
  omega
theorem str_bytesOf (s : ByteArray) : strOfNums (bytesOf s) = s := by
 have h : (strOfNums (bytesOf s)).data.toList = s.data.toList := by
  rw [strOfNums_data]
  unfold bytesOf
  rw [List.map_map]
  apply List.ext_getElem
  ·simp
  ·intro i h1 h2
   simp
 exact ByteArray.ext (Array.ext' h)
theorem toList_data (s : ByteArray) : s.toList = s.data.toList := by
 have h : ∀ (d i : Nat) (r : List UInt8), i + d = s.size → ByteArray.toList.loop s i r = r.reverse ++ s.data.toList.drop i := by
  intro d
  induction d with
  | zero =>
   intro i r hi
   unfold ByteArray.toList.loop
   rw [if_neg (by omega), List.drop_of_length_le (by rw [Array.length_toList]; show s.size ≤ i; omega)]
   simp
  | succ d ih =>
   intro i r hi
   unfold ByteArray.toList.loop
   rw [if_pos (by omega), ih (i + 1) _ (by omega)]
   have hl : i < s.data.toList.length := by rw [Array.length_toList]; show i < s.size; omega
   rw [List.drop_eq_getElem_cons hl]
   have hg : s.get! i = s.data.toList[i] := by
    have hi2 : i < s.data.size := by show i < s.size; omega
    show s.data[i]! = _
    rw [getElem!_pos s.data i hi2]
    simp
   rw [hg]
   simp
 have := h s.size 0 [] (by omega)
 unfold ByteArray.toList
 simpa using this
theorem toList_inj {s t : ByteArray} : s.toList = t.toList ↔ s = t := by
 rw [toList_data, toList_data]
 exact ⟨fun h => ByteArray.ext (Array.ext' h), fun h => by rw [h]⟩
theorem toList_beq (s t : ByteArray) : (s.toList == t.toList) = decide (s = t) := by
 by_cases h : s = t
 ·subst h; simp
 ·have : s.toList ≠ t.toList := fun e => h (toList_inj.1 e)
  simp [h, this]
theorem str_inj {l m : List Int} (h : Bytes l) (k : Bytes m) (e : strOfNums l = strOfNums m) : l = m := by
 rw [← bytesOf_str h, e, bytesOf_str k]
theorem bt_rd (s : ByteArray) (i : Int) : bt s i = rd (bytesOf s) i := (rd_bytesOf s i).symm
theorem bt_at' (s : ByteArray) (i : Nat) : bt s (i : Int) = (bytesOf s).getD i 0 := by rw [bt_rd]; unfold rd; rw [Int.toNat_natCast]
theorem getD_drop {l : List Int} {i : Nat} (h : i < l.length) : l.drop i = l.getD i 0 :: l.drop (i + 1) := by
 rw [List.drop_eq_getElem_cons h, List.getD_eq_getElem?_getD, List.getElem?_eq_getElem h]
 rfl
/-- A byte's property is looked at for each byte. -/
theorem byte_all {p : Int → Prop} [DecidablePred p] (h : ∀ i : Fin 256, p (i.val : Int)) {x : Int} (hx : 0 ≤ x ∧ x < 256) : p x := by
 obtain ⟨n, rfl⟩ := Int.eq_ofNat_of_zero_le hx.1
 exact h ⟨n, by omega⟩
end Go.Proofs.YtjadlnmphcoioaaGreatDoor.Pure
namespace Go.Proofs.YtjadlnmphcoioaaGreatDoor.Pure
open Go.RowKit Go.Proofs.YtjadlnmphcoioaaGreatDoor.X Go.Proofs.YtjadlnmphcoioaaGreatDoorW.PrintWords Go.Proofs.YtjadlnmphcoioaaGreatDoorW.PrintLast Go.Proofs.YtjadlnmphcoioaaGreatDoorW.PrintMore

theorem ev_pos {α : Type} {c : Prop} [Decidable c] (h : c) {f g : Nat → Option α} {r : α} (hf : Ev f r) : Ev (fun k => if c then f k else g k) r := Ev.congr (fun _ => if_pos h) hf
theorem ev_some {α : Type} {o : Option α} {r : α} (h : o = some r) : Ev (fun _ => o) r := Ev.congr (fun _ => h) (Ev.now r)

/-! Tokens -/
def tok (c : Int) : Bool := decide ((97 ≤ c ∧ c ≤ 122) ∨ (65 ≤ c ∧ c ≤ 90) ∨ (48 ≤ c ∧ c ≤ 57) ∨ c ∈ [33, 35, 36, 37, 38, 39, 42, 43, 45, 46, 94, 95, 96, 124, 126])
def sym : ByteArray := ⟨#[33, 35, 36, 37, 38, 39, 42, 43, 45, 46, 94, 95, 96, 124, 126]⟩
def symO (c : Int) (R : Option Bool) : Option Bool := if c < 48 then ((strings_IndexByte.f sym c).bind fun t => (if t < 0 then (some false) else R)) else (if c > 57 then ((strings_IndexByte.f sym c).bind fun t => (if t < 0 then (some false) else R)) else R)
def tokO (c : Int) (R : Option Bool) : Option Bool := if (Go.bits .or .u8 c 32) ≥ 97 then (if ((Go.bits .or .u8 c 32) ≤ 122) then R else symO c R) else symO c R
theorem symO_bind (c : Int) (R : Option Bool) : symO c R = (symO c (some true)).bind fun b => if b = true then R else some false := by
 unfold symO
 simp only [strings_IndexByte.f, Option.bind_some]
 repeat' split
 all_goals first | rfl | simp
theorem tokO_bind (c : Int) (R : Option Bool) : tokO c R = (tokO c (some true)).bind fun b => if b = true then R else some false := by
 unfold tokO
 repeat' split
 all_goals first | rfl | exact symO_bind c R | simp
theorem tokO_tok {c : Int} (h : 0 ≤ c ∧ c < 256) : tokO c (some true) = some (tok c) := byte_all (p := fun c => tokO c (some true) = some (tok c)) (by decide +kernel) h
def toks (s : ByteArray) : Bool := (bytesOf s).all tok && decide (0 < s.size)
theorem isEmpty_size (s : ByteArray) : (!s.toList.isEmpty) = decide (0 < s.size) := by
 rw [toList_data]
 have := Lib.size_eq s
 cases h : s.data.toList with
 | nil => rw [h] at this; simp at this; simp [this]
 | cons a t => rw [h] at this; simp at this; simp [this]
theorem istok_l0 (s : ByteArray) (hs : s.size ≤ 1048576) (d : Nat) : ∀ (i : Nat), i + d = s.size → Ev (fun k => octets_IsToken.l0 k s (s.size : Int) (i : Int)) (((bytesOf s).drop i).all tok && decide (0 < s.size)) := by
 have hl := bytesOf_length s
 induction d with
 | zero =>
  intro i hi
  rw [List.drop_of_length_le (by omega)]
  refine Ev.step (f := fun _ => some (!s.toList.isEmpty)) (fun k => ?_) (ev_some (by rw [isEmpty_size]; rfl))
  rw [octets_IsToken.l0, if_neg (by omega)]
 | succ d ih =>
  intro i hi
  have hw : wrap64 ((i : Int) + 1) = ((i + 1 : Nat) : Int) := by unfold wrap64; omega
  have hcb := (Bytes.of s).at_ i
  rw [getD_drop (show i < (bytesOf s).length by omega), List.all_cons]
  refine Ev.step (f := fun k => if tok ((bytesOf s).getD i 0) = true then octets_IsToken.l0 k s (s.size : Int) ((i + 1 : Nat) : Int) else some false) (fun k => ?_) ?_
  ·rw [octets_IsToken.l0, if_pos (by omega), if_pos (by omega), if_pos (by omega), bt_at', hw]
   exact (tokO_bind _ _).trans (by rw [tokO_tok hcb, Option.bind_some])
  ·cases h : tok ((bytesOf s).getD i 0)
   ·exact Ev.now _
   ·exact ih (i + 1) (by omega)
end Go.Proofs.YtjadlnmphcoioaaGreatDoor.Pure
namespace Go.Proofs.YtjadlnmphcoioaaGreatDoor.Pure
open Go.RowKit Go.Proofs.YtjadlnmphcoioaaGreatDoor.X Go.Proofs.YtjadlnmphcoioaaGreatDoorW.PrintWords Go.Proofs.YtjadlnmphcoioaaGreatDoorW.PrintLast Go.Proofs.YtjadlnmphcoioaaGreatDoorW.PrintMore

theorem rdw_cons (p : UInt8 → Bool) (a : UInt8) (t : List UInt8) : ((a :: t).reverse.dropWhile p).reverse = if (t.reverse.dropWhile p).reverse = [] ∧ p a = true then [] else a :: (t.reverse.dropWhile p).reverse := by
 rw [List.reverse_cons, List.dropWhile_append]
 by_cases h : t.reverse.dropWhile p = []
 ·rw [h]
  cases ha : p a <;> simp [ha]
 ·have h2 : ¬ (t.reverse.dropWhile p).reverse = [] := fun x => h (by rw [← List.reverse_reverse (t.reverse.dropWhile p), x]; rfl)
  rw [if_neg (by rw [List.isEmpty_iff]; exact h), if_neg (fun x => h2 x.1)]
  simp
theorem right_cons (a : UInt8) (t cs : List UInt8) : Lib.trimRightS (a :: t) cs = if Lib.trimRightS t cs = [] ∧ cs.contains a = true then [] else a :: Lib.trimRightS t cs :=
 rdw_cons (fun x => cs.contains x) a t
theorem around_comm (l cs : List UInt8) : Lib.trimRightS (Lib.trimLeftS l cs) cs = Lib.trimLeftS (Lib.trimRightS l cs) cs := by
 induction l with
 | nil => rfl
 | cons a t ih =>
  rw [right_cons]
  cases ha : cs.contains a
  ·rw [if_neg (by simp)]
   unfold Lib.trimLeftS
   rw [List.dropWhile_cons, List.dropWhile_cons, ha]
   simp only [Bool.false_eq_true, if_false]
   rw [right_cons, ha, if_neg (by simp)]
  ·have hL : ∀ m, Lib.trimLeftS (a :: m) cs = Lib.trimLeftS m cs := fun m => by
    unfold Lib.trimLeftS
    rw [List.dropWhile_cons, ha, if_pos rfl]
   rw [hL, ih]
   by_cases h : Lib.trimRightS t cs = []
   ·rw [if_pos ⟨h, rfl⟩, h]
   ·rw [if_neg (fun x => h x.1), hL]
def around (s : ByteArray) (cs : List UInt8) : ByteArray := ⟨(Lib.trimS s.data.toList cs).toArray⟩
theorem trim_f (s : ByteArray) (hs : s.size ≤ 140737488355328) : octets_Trim.f s = some (around s [9, 32]) := by
 rw [octets_Trim.f, strings_Trim.f, if_pos ⟨by omega, by decide, by decide, by decide⟩, Option.bind_some]
 rfl
end Go.Proofs.YtjadlnmphcoioaaGreatDoor.Pure
namespace Go.Proofs.YtjadlnmphcoioaaGreatDoor.Pure
open Go.RowKit Go.Proofs.YtjadlnmphcoioaaGreatDoorW.PrintWords Go.Proofs.YtjadlnmphcoioaaGreatDoorW.PrintLast Go.Proofs.YtjadlnmphcoioaaGreatDoorW.PrintMore

end Go.Proofs.YtjadlnmphcoioaaGreatDoor.Pure
namespace Go.Proofs.YtjadlnmphcoioaaGreatDoor.Pure
open Go.RowKit Go.Proofs.YtjadlnmphcoioaaGreatDoor.X Go.Proofs.YtjadlnmphcoioaaGreatDoorW.PrintWords Go.Proofs.YtjadlnmphcoioaaGreatDoorW.PrintLast Go.Proofs.YtjadlnmphcoioaaGreatDoorW.PrintMore

abbrev Hd := S72

/-! may a header be -/
def nlb (v : ByteArray) : Bool := Lib.containsAny v.data.toList crlf0.data.toList
def oneOf (n v : ByteArray) : Int := if toks n = true then (if (n.size : Int) > 64 then 5 else if nlb v = true then 112 else if around v [9, 32] = v then 0 else 112) else 111
theorem one_f (n v : ByteArray) (hn : n.size ≤ 1048576) (hv : v.size ≤ 1048576) : Ev (fun k => headers_one.f k n v) (oneOf n v) := by
 unfold oneOf
 have e : ∀ k, headers_one.f k n v = (octets_IsToken.f k n).bind fun t => if t = true then (if (n.size : Int) > 64 then some 5 else if nlb v = true then some 112 else if around v [9, 32] = v then some 0 else some 112) else some 111 := fun k => by
  rw [headers_one.f]
  congr 1
  funext t
  rw [show strings_ContainsAny.f v (⟨#[0, 10, 13]⟩ : ByteArray) = some (nlb v) from if_pos ⟨by omega, rfl⟩, Option.bind_some, trim_f v (by omega), Option.bind_some]
  simp only [toList_inj]
 refine Ev.congr e (Ev.bind (istok_l0 n hn n.size 0 (by omega)) (ev_some ?_))
 show (if toks n = true then _ else _) = _
 repeat' split
 all_goals rfl

/-! a line -/
def u8 (n : Int) : UInt8 := UInt8.ofNat n.toNat
theorem data_str (s : ByteArray) : s.data.toList = (bytesOf s).map u8 := by
 conv => lhs; rw [← str_bytesOf s]
 rfl
/-! a colon -/
/-! what surrounds a value -/
def n4 : List UInt8 := [9, 10, 13, 32]
theorem normal_f (s : ByteArray) (hs : s.size ≤ 1048576) : headers_Normal.f s = some (around s n4) := by
 rw [headers_Normal.f, strings_Trim.f, if_pos ⟨by omega, by decide, by decide, by decide⟩, Option.bind_some]
 rfl
end Go.Proofs.YtjadlnmphcoioaaGreatDoor.Pure
namespace Go.Proofs.YtjadlnmphcoioaaGreatDoor.Pure
open Go.RowKit Go.Proofs.YtjadlnmphcoioaaGreatDoor.X Go.Proofs.YtjadlnmphcoioaaGreatDoorW.PrintWords Go.Proofs.YtjadlnmphcoioaaGreatDoorW.PrintLast Go.Proofs.YtjadlnmphcoioaaGreatDoorW.PrintMore

def Small (h : Hd) : Prop := h.f0.size ≤ 1048576 ∧ h.f1.size ≤ 1048576
def ok1 (h : Hd) : Prop := oneOf h.f0 h.f1 = 0
theorem rd_at (l : List Hd) (i : Nat) (hi : i < l.length) : rd_T72 l (i : Int) = l[i]'hi := by
 unfold rd_T72
 rw [Int.toNat_natCast, List.getD_eq_getElem?_getD, List.getElem?_eq_getElem hi]
 rfl

/-! Check -/
/-! the same list -/
theorem sameh_l0 (l : List Hd) (hn : l.length ≤ 1048576) (d : Nat) : ∀ (i : Nat), i + d = l.length → Ev (fun k => pergolaplain_SameHeaders.l0 k l l (i : Int)) true := by
 induction d with
 | zero =>
  intro i hi
  refine Ev.step (f := fun _ => some true) (fun k => ?_) (Ev.now _)
  rw [pergolaplain_SameHeaders.l0, if_neg (by omega)]
 | succ d ih =>
  intro i hi
  have hw : wrap64 ((i : Int) + 1) = ((i + 1 : Nat) : Int) := by unfold wrap64; omega
  refine Ev.step (fun k => ?_) (ih (i + 1) (by omega))
  rw [pergolaplain_SameHeaders.l0, if_pos (by omega), if_pos (by omega), if_pos (by omega), if_neg (by simp), hw]
theorem sameh_f (l : List Hd) (hn : l.length ≤ 1048576) : Ev (fun k => pergolaplain_SameHeaders.f k l l) true :=
 Ev.congr (fun k => by rw [pergolaplain_SameHeaders.f, if_pos rfl]; rfl) (sameh_l0 l hn l.length 0 (by omega))
end Go.Proofs.YtjadlnmphcoioaaGreatDoor.Pure
namespace Go.Proofs.YtjadlnmphcoioaaGreatDoor.Pure
open Go.RowKit Go.Proofs.YtjadlnmphcoioaaGreatDoor.X Go.Proofs.YtjadlnmphcoioaaGreatDoorW.PrintWords Go.Proofs.YtjadlnmphcoioaaGreatDoorW.PrintLast Go.Proofs.YtjadlnmphcoioaaGreatDoorW.PrintMore

def low (c : Int) : Int := turn1 65 90 c
theorem low_byte {c : Int} (h : 0 ≤ c ∧ c < 256) : 0 ≤ low c ∧ low c < 256 := byte_all (p := fun c => 0 ≤ low c ∧ low c < 256) (by decide +kernel) h
theorem map_bytes {f : Int → Int} (hf : ∀ c, 0 ≤ c ∧ c < 256 → 0 ≤ f c ∧ f c < 256) (s : ByteArray) : Bytes ((bytesOf s).map f) := fun x hx => by
 obtain ⟨c, hc, rfl⟩ := List.mem_map.1 hx
 exact hf c (Bytes.of s c hc)
theorem lower_f (s : ByteArray) (hs : s.size ≤ 140737488355328) : octets_Lower.f s = some (strOfNums ((bytesOf s).map low)) := by
 rw [octets_Lower.f, octets_turned.f, if_pos (by omega)]
 rfl
theorem take_map (f : Int → Int) (l : List Int) (i : Nat) (h : i < l.length) : (l.take i).map f ++ [f (l.getD i 0)] = (l.take (i + 1)).map f := by
 rw [List.take_succ_eq_append_getElem h, List.map_append, List.getD_eq_getElem?_getD, List.getElem?_eq_getElem h]
 rfl
theorem low_in {c : Int} (h : 0 ≤ c ∧ c < 256) : c ≥ 65 → c ≤ 90 → (c + 32) % 256 = low c := byte_all (p := fun c => c ≥ 65 → c ≤ 90 → (c + 32) % 256 = low c) (by decide +kernel) h
theorem rlower_l0 (s : ByteArray) (hs : s.size ≤ 1048576) (d : Nat) : ∀ (i : Nat), i + d = s.size → Ev (fun k => pergolaref01_Lower.l0 k s (((bytesOf s).take i).map low) (i : Int)) (strOfNums ((bytesOf s).map low)) := by
 have hl := bytesOf_length s
 induction d with
 | zero =>
  intro i hi
  refine Ev.step (f := fun _ => some (strOfNums ((bytesOf s).map low))) (fun k => ?_) (Ev.now _)
  rw [pergolaref01_Lower.l0, if_neg (by omega), List.take_of_length_le (by omega)]
 | succ d ih =>
  intro i hi
  have hw : wrap64 ((i : Int) + 1) = ((i + 1 : Nat) : Int) := by unfold wrap64; omega
  have hcb := (Bytes.of s).at_ i
  have hlen : (((bytesOf s).take i).map low).length < 140737488355328 := by rw [List.length_map, List.length_take]; omega
  have htk := take_map low (bytesOf s) i (by omega)
  have h := ih (i + 1) (by omega)
  rw [← htk] at h
  refine Ev.step (fun k => ?_) h
  rw [pergolaref01_Lower.l0, if_pos (by omega), if_pos (by omega), bt_at', hw, if_pos hlen, if_pos hlen]
  have hin := low_in hcb
  generalize (bytesOf s).getD i 0 = c at *
  by_cases h1 : c ≥ 65
  ·by_cases h2 : c ≤ 90
   ·rw [if_pos h1, if_pos h2, hin h1 h2]
   ·rw [if_pos h1, if_neg h2, show low c = c from by unfold low turn1; rw [if_pos h1, if_neg h2]]
  ·rw [if_neg h1, show low c = c from by unfold low turn1; rw [if_neg h1]]
theorem rlower_f (s : ByteArray) (hs : s.size ≤ 1048576) : Ev (fun k => pergolaref01_Lower.f k s) (strOfNums ((bytesOf s).map low)) := rlower_l0 s hs s.size 0 (by omega)
/-! the same name -/
def lw (s : ByteArray) : List Int := (bytesOf s).map low
def eqn (n name : ByteArray) : Bool := decide (lw n = lw name)
theorem low_eq (a b : ByteArray) : ((strOfNums ((bytesOf a).map low)).toList == (strOfNums ((bytesOf b).map low)).toList) = eqn a b := by
 rw [toList_beq]
 unfold eqn lw
 rw [decide_eq_decide]
 exact ⟨fun h => str_inj (map_bytes (fun _ => low_byte) a) (map_bytes (fun _ => low_byte) b) h, fun h => by rw [h]⟩
theorem rsame_f (a b : ByteArray) (ha : a.size ≤ 1048576) (hb : b.size ≤ 1048576) : Ev (fun k => pergolaref01_Same.f k a b) (eqn a b) :=
 Ev.bind (rlower_f a ha) (Ev.bind (rlower_f b hb) (ev_some (by rw [low_eq])))
end Go.Proofs.YtjadlnmphcoioaaGreatDoor.Pure
namespace Go.Proofs.YtjadlnmphcoioaaGreatDoor.Pure
open Go.RowKit Go.Proofs.YtjadlnmphcoioaaGreatDoor.X Go.Proofs.YtjadlnmphcoioaaGreatDoorW.PrintWords Go.Proofs.YtjadlnmphcoioaaGreatDoorW.PrintLast Go.Proofs.YtjadlnmphcoioaaGreatDoorW.PrintMore

theorem token_f {c : Int} (h : 0 ≤ c ∧ c < 256) : Ev (fun k => pergolaref01_Token.f k c) (tok c) :=
 Ev.of (pergolaref01_Token.mono c) (k := 40) (byte_all (p := fun c => pergolaref01_Token.f 40 c = some (tok c)) (by decide +kernel) h)
theorem rtok_l0 (s : ByteArray) (hs : s.size ≤ 1048576) (d : Nat) : ∀ (i : Nat), i + d = s.size → Ev (fun k => pergolaref01_IsToken.l0 k s (i : Int)) (((bytesOf s).drop i).all tok && decide (0 < s.size)) := by
 have hl := bytesOf_length s
 induction d with
 | zero =>
  intro i hi
  rw [List.drop_of_length_le (by omega)]
  refine Ev.step (f := fun _ => some (decide ((s.size : Int) > 0))) (fun k => ?_) (ev_some ?_)
  ·rw [pergolaref01_IsToken.l0, if_neg (by omega)]
  ·simp
 | succ d ih =>
  intro i hi
  have hw : wrap64 ((i : Int) + 1) = ((i + 1 : Nat) : Int) := by unfold wrap64; omega
  have hcb := (Bytes.of s).at_ i
  rw [getD_drop (show i < (bytesOf s).length by omega), List.all_cons]
  refine Ev.step (f := fun k => (pergolaref01_Token.f k ((bytesOf s).getD i 0)).bind fun t => if t = true then pergolaref01_IsToken.l0 k s ((i + 1 : Nat) : Int) else some false) (fun k => ?_) (Ev.bind (token_f hcb) ?_)
  ·rw [pergolaref01_IsToken.l0, if_pos (by omega), if_pos (by omega), bt_at', hw]
  ·cases h : tok ((bytesOf s).getD i 0)
   ·exact Ev.now _
   ·exact ih (i + 1) (by omega)
def HasIs (t : ByteArray) (cs : List UInt8) : Prop := ∀ c : Int, 0 ≤ c ∧ c < 256 → Ev (fun k => pergolaref01_Has.f k t c) (cs.contains (UInt8.ofNat c.toNat))
theorem has_tab : HasIs ⟨#[9, 32]⟩ [9, 32] := fun c h =>
 Ev.of (pergolaref01_Has.mono _ c) (k := 40) (byte_all (p := fun c => pergolaref01_Has.f 40 ⟨#[9, 32]⟩ c = some (([9, 32] : List UInt8).contains (UInt8.ofNat c.toNat))) (by decide +kernel) h)
theorem has_at {t : ByteArray} {cs : List UInt8} (h : HasIs t cs) (s : ByteArray) (i : Nat) (hi : i < s.size) : Ev (fun k => pergolaref01_Has.f k t (bt s (i : Int))) (cs.contains (s[i]'hi)) := by
 have e : UInt8.ofNat (bt s (i : Int)).toNat = s[i]'hi := by
  rw [← bt_at s (i : Int) hi]
  simp
 have := h (bt s (i : Int)) (by rw [bt_at']; exact (Bytes.of s).at_ i)
 rw [e] at this
 exact this
theorem row_size (s : ByteArray) : s.data.toList.length = s.size := (Lib.size_eq s).symm
theorem around_l1 (t : ByteArray) (cs : List UInt8) (ht : HasIs t cs) (n : Nat) : ∀ (s : ByteArray), s.size = n → n ≤ 1048576 → Ev (fun k => pergolaref01_around.l1 k s t) ⟨(Lib.trimRightS s.data.toList cs).toArray⟩ := by
 induction n with
 | zero =>
  intro s hs _
  refine Ev.step (f := fun _ => some s) (fun k => ?_) (ev_some ?_)
  ·rw [pergolaref01_around.l1, if_neg (by omega)]
  ·have : s.data.toList = [] := List.eq_nil_of_length_eq_zero (by rw [row_size]; exact hs)
   rw [this]
   congr 1
   rw [← Lib.mk_data s, this]
   rfl
 | succ n ih =>
  intro s hs hn
  have hw : wrap64 ((s.size : Int) - 1) = ((n : Nat) : Int) := by unfold wrap64; omega
  have h1 : n < s.size := by omega
  refine Ev.step (f := fun k => (pergolaref01_Has.f k t (bt s (n : Int))).bind fun t223 => (if t223 = true then pergolaref01_around.l1 k (s.extract 0 n) t else some s)) (fun k => ?_) (Ev.bind (has_at ht s n h1) ?_)
  ·rw [pergolaref01_around.l1, hw, if_pos (by omega), if_pos (by omega), if_pos (by omega), if_pos (by omega)]
   rfl
  ·have hstep := trimR_step s cs (by omega)
   have hstop := trimR_stop s cs (by omega)
   have e : s.size - 1 = n := by omega
   simp only [e] at hstep hstop
   cases h : cs.contains (s[n]'h1)
   ·rw [hstop h, Lib.mk_data]
    exact Ev.now _
   ·have := ih (s.extract 0 n) (by simp [ByteArray.size_extract]; omega) (by omega)
    rw [hstep h] at this
    exact this
theorem around_l0 (t : ByteArray) (cs : List UInt8) (ht : HasIs t cs) (n : Nat) : ∀ (s : ByteArray), s.size = n → n ≤ 1048576 → Ev (fun k => pergolaref01_around.l0 k s t) ⟨(Lib.trimRightS (Lib.trimLeftS s.data.toList cs) cs).toArray⟩ := by
 induction n with
 | zero =>
  intro s hs _
  have hnil : s.data.toList = [] := List.eq_nil_of_length_eq_zero (by rw [row_size]; exact hs)
  have h1 := around_l1 t cs ht 0 s hs (by omega)
  rw [hnil] at h1
  rw [hnil]
  refine Ev.step (f := fun k => pergolaref01_around.j1 k s t) (fun k => ?_) (Ev.step (fun k => ?_) h1)
  ·rw [pergolaref01_around.l0, if_neg (by omega)]
  ·rw [pergolaref01_around.j1]
 | succ n ih =>
  intro s hs hn
  have h0 : 0 < s.size := by omega
  refine Ev.step (f := fun k => (pergolaref01_Has.f k t (bt s ((0 : Nat) : Int))).bind fun t222 => (if t222 = true then pergolaref01_around.l0 k (s.extract 1 s.size) t else pergolaref01_around.j1 k s t)) (fun k => ?_) (Ev.bind (has_at ht s 0 h0) ?_)
  ·rw [pergolaref01_around.l0, if_pos (by omega), if_pos (by omega), if_pos (by omega)]
   rfl
  ·have hstep := trimL_step s cs h0
   have hstop := trimL_stop s cs h0
   cases h : cs.contains (s[0]'h0)
   ·rw [hstop h]
    refine Ev.congr (fun k => ?_) (Ev.step (f := fun k => pergolaref01_around.l1 k s t) (g := fun k => pergolaref01_around.j1 k s t) (fun k => ?_) (around_l1 t cs ht (n + 1) s hs hn))
    ·rw [if_neg (by decide)]
    ·rw [pergolaref01_around.j1]
   ·have := ih (s.extract 1 s.size) (by simp [ByteArray.size_extract]; omega) (by omega)
    rw [hstep h] at this
    exact this
theorem around_f (t : ByteArray) (cs : List UInt8) (ht : HasIs t cs) (s : ByteArray) (hs : s.size ≤ 1048576) : Ev (fun k => pergolaref01_around.f k s t) (around s cs) := by
 have := around_l0 t cs ht s.size s rfl hs
 rw [around_comm] at this
 exact this

/-! Parts and words -/
theorem has_four : HasIs ⟨#[9, 10, 13, 32]⟩ [9, 10, 13, 32] := fun c h =>
 Ev.of (pergolaref01_Has.mono _ c) (k := 40) (byte_all (p := fun c => pergolaref01_Has.f 40 ⟨#[9, 10, 13, 32]⟩ c = some (([9, 10, 13, 32] : List UInt8).contains (UInt8.ofNat c.toNat))) (by decide +kernel) h)
theorem ev_not {α : Type} {c : Prop} [Decidable c] (h : ¬ c) {f g : Nat → Option α} {r : α} (hf : Ev g r) : Ev (fun k => if c then f k else g k) r := Ev.congr (fun _ => if_neg h) hf
end Go.Proofs.YtjadlnmphcoioaaGreatDoor.Pure
namespace Go.Proofs.YtjadlnmphcoioaaGreatDoor.Pure
open Go.RowKit Go.Proofs.YtjadlnmphcoioaaGreatDoor.X Go.Proofs.YtjadlnmphcoioaaGreatDoorW.PrintWords Go.Proofs.YtjadlnmphcoioaaGreatDoorW.PrintLast Go.Proofs.YtjadlnmphcoioaaGreatDoorW.PrintMore

theorem same_f (a b : ByteArray) (ha : a.size ≤ 1048576) (hb : b.size ≤ 1048576) : octets_Same.f a b = some (eqn a b) := by
 rw [octets_Same.f, lower_f a (by omega), Option.bind_some, lower_f b (by omega), Option.bind_some, low_eq]
theorem sameB_eqn (a b : ByteArray) (ha : a.size ≤ 1048576) (hb : b.size ≤ 1048576) : sameB a b = eqn a b := by
 unfold sameB
 rw [same_f a b ha hb]
 cases eqn a b <;> rfl
def of_ (name : ByteArray) (l : List Hd) : List Hd := l.filter fun h => eqn h.f0 name
def no_ (name : ByteArray) (l : List Hd) : List Hd := l.filter fun h => !eqn h.f0 name

/-! Get -/
theorem all_l0 (l : List Hd) (hl : l.length ≤ 1048577) (hs : ∀ h ∈ l, Small h) (name : ByteArray) (hn : name.size ≤ 1048576) (d : Nat) : ∀ (i : Nat) (acc : List ByteArray), i + d = l.length → acc.length ≤ i →
  Ev (fun k => headers_All.l0 k name acc l (l.length : Int) (i : Int)) (acc ++ (of_ name (l.drop i)).map (·.f1)) := by
 induction d with
 | zero =>
  intro i acc hi ha
  rw [List.drop_of_length_le (by omega)]
  refine Ev.step (f := fun _ => some acc) (fun k => ?_) (ev_some (by simp [of_]))
  rw [headers_All.l0, if_neg (by omega)]
 | succ d ih =>
  intro i acc hi ha
  have hi' : i < l.length := by omega
  have hw : wrap64 ((i : Int) + 1) = ((i + 1 : Nat) : Int) := by unfold wrap64; omega
  have hm := hs _ (List.getElem_mem hi')
  have e1 : ∀ k, headers_All.l0 (k + 1) name acc l (l.length : Int) (i : Int) = if eqn (l[i]'hi').f0 name = true then headers_All.l0 k name (acc ++ [(l[i]'hi').f1]) l (l.length : Int) ((i + 1 : Nat) : Int) else headers_All.l0 k name acc l (l.length : Int) ((i + 1 : Nat) : Int) := fun k => by
   rw [headers_All.l0, if_pos (by omega), if_pos (by omega), if_pos (by omega), rd_at l i hi', same_f _ _ hm.1 hn, Option.bind_some, hw, if_pos (show acc.length < 8796093022208 by omega)]
  rw [List.drop_eq_getElem_cons hi']
  refine Ev.step e1 ?_
  by_cases h : eqn (l[i]'hi').f0 name = true
  ·have := ih (i + 1) (acc ++ [(l[i]'hi').f1]) (by omega) (by rw [List.length_append]; simp; omega)
   rw [List.append_assoc] at this
   refine ev_pos h ?_
   unfold of_ at this ⊢
   rw [List.filter_cons_of_pos (p := fun h : Hd => eqn h.f0 name) h]
   exact this
  ·refine ev_not h ?_
   have := ih (i + 1) acc (by omega) (by omega)
   unfold of_ at this ⊢
   rw [List.filter_cons_of_neg (p := fun h : Hd => eqn h.f0 name) h]
   exact this
theorem join_len (vs : List (List UInt8)) (n : Nat) (h : ∀ v ∈ vs, v.length ≤ n) (sep : List UInt8) : (Lib.join vs sep).length ≤ vs.length * (n + sep.length) := by
 induction vs with
 | nil => simp [Lib.join]
 | cons a t ih =>
  have h1 := h a (List.mem_cons_self ..)
  have h2 := ih (fun v hv => h v (List.mem_cons_of_mem _ hv))
  cases t with
  | nil => simp [Lib.join]; omega
  | cons b t =>
   have e : (Lib.join (a :: b :: t) sep).length = a.length + sep.length + (Lib.join (b :: t) sep).length := by
    simp [Lib.join, List.intercalate, List.intersperse]
    omega
   rw [e, List.length_cons, Nat.add_mul]
   omega
def joined (vs : List ByteArray) : ByteArray := ⟨(strings_Join.text vs (⟨#[44, 32]⟩ : ByteArray)).toArray⟩
theorem get_f (l : List Hd) (hl : l.length ≤ 1048577) (hs : ∀ h ∈ l, Small h) (name : ByteArray) (hn : name.size ≤ 1048576) :
  Ev (fun k => headers_Get.f k l name) (joined ((of_ name l).map (·.f1)), decide (0 < (of_ name l).length)) := by
 have ha := all_l0 l hl hs name hn l.length 0 [] (by omega) (by simp)
 rw [List.drop_zero, List.nil_append] at ha
 have hle : (of_ name l).length ≤ 1048577 := Nat.le_trans (List.length_filter_le _ _) hl
 have hj : strings_Join.f ((of_ name l).map (·.f1)) (⟨#[44, 32]⟩ : ByteArray) = some (joined ((of_ name l).map (·.f1))) := by
  refine if_pos ⟨by rw [List.length_map]; omega, ?_⟩
  refine Nat.le_trans (join_len _ 1048576 (fun v hv => ?_) _) ?_
  ·obtain ⟨s, hs1, rfl⟩ := List.mem_map.1 hv
   obtain ⟨h, hh, rfl⟩ := List.mem_map.1 hs1
   have := (hs h (List.mem_filter.1 hh).1).2
   rw [← Lib.size_eq]
   exact this
  ·rw [List.length_map, List.length_map]
   show (of_ name l).length * (1048576 + 2) ≤ _
   omega
 refine Ev.bind ha (Ev.congr (fun k => ?_) (Ev.now _))
 rw [hj, Option.bind_some, List.length_map]
 congr 2
 rw [decide_eq_decide]
 omega
/-! Remove -/
theorem filter_alike {p q : Hd → Bool} (l : List Hd) (h : ∀ x ∈ l, p x = q x) : l.filter p = l.filter q := List.filter_congr h
theorem remove_f (l : List Hd) (hl : l.length ≤ 1048577) (hs : ∀ h ∈ l, h.f0.size ≤ 1048576) (name : ByteArray) (hn : name.size ≤ 1048576) : headers_Remove.f l name = some (no_ name l) := by
 rw [headers_Remove.f, if_pos ⟨by omega, List.all_eq_true.2 fun h hh => by rw [same_f _ _ (hs h hh) hn]; rfl⟩]
 congr 1
 exact filter_alike l fun h hh => by rw [sameB_eqn _ _ (hs h hh) hn]
end Go.Proofs.YtjadlnmphcoioaaGreatDoor.Pure
namespace Go.Proofs.YtjadlnmphcoioaaGreatDoor.Pure
open Go.RowKit Go.Proofs.YtjadlnmphcoioaaGreatDoor.X Go.Proofs.YtjadlnmphcoioaaGreatDoorW.PrintWords Go.Proofs.YtjadlnmphcoioaaGreatDoorW.PrintLast Go.Proofs.YtjadlnmphcoioaaGreatDoorW.PrintMore

theorem rall_l0 (l : List Hd) (hl : l.length ≤ 1048577) (hs : ∀ h ∈ l, Small h) (name : ByteArray) (hn : name.size ≤ 1048576) (d : Nat) : ∀ (i : Nat) (acc : List ByteArray), i + d = l.length → acc.length ≤ i →
  Ev (fun k => pergolaref11_All.l0 k l name acc (i : Int)) (acc ++ (of_ name (l.drop i)).map (·.f1)) := by
 induction d with
 | zero =>
  intro i acc hi ha
  rw [List.drop_of_length_le (by omega)]
  refine Ev.step (f := fun _ => some acc) (fun k => ?_) (ev_some (by simp [of_]))
  rw [pergolaref11_All.l0, if_neg (by omega)]
 | succ d ih =>
  intro i acc hi ha
  have hi' : i < l.length := by omega
  have hw : wrap64 ((i : Int) + 1) = ((i + 1 : Nat) : Int) := by unfold wrap64; omega
  have hm := hs _ (List.getElem_mem hi')
  have e1 : ∀ k, pergolaref11_All.l0 (k + 1) l name acc (i : Int) = (pergolaref01_Same.f k (l[i]'hi').f0 name).bind fun t => if t = true then pergolaref11_All.l0 k l name (acc ++ [(l[i]'hi').f1]) ((i + 1 : Nat) : Int) else pergolaref11_All.l0 k l name acc ((i + 1 : Nat) : Int) := fun k => by
   rw [pergolaref11_All.l0, if_pos (by omega), if_pos (by omega), rd_at l i hi', hw, if_pos (show acc.length < 8796093022208 by omega)]
  rw [List.drop_eq_getElem_cons hi']
  refine Ev.step e1 (Ev.bind (rsame_f _ _ hm.1 hn) ?_)
  by_cases h : eqn (l[i]'hi').f0 name = true
  ·have := ih (i + 1) (acc ++ [(l[i]'hi').f1]) (by omega) (by rw [List.length_append]; simp; omega)
   rw [List.append_assoc] at this
   refine ev_pos h ?_
   unfold of_ at this ⊢
   rw [List.filter_cons_of_pos (p := fun h : Hd => eqn h.f0 name) h]
   exact this
  ·refine ev_not h ?_
   have := ih (i + 1) acc (by omega) (by omega)
   unfold of_ at this ⊢
   rw [List.filter_cons_of_neg (p := fun h : Hd => eqn h.f0 name) h]
   exact this
end Go.Proofs.YtjadlnmphcoioaaGreatDoor.Pure
namespace Go.Proofs.YtjadlnmphcoioaaGreatDoor.Pure
open Go.RowKit Go.Proofs.YtjadlnmphcoioaaGreatDoor.X Go.Proofs.YtjadlnmphcoioaaGreatDoorW.PrintWords Go.Proofs.YtjadlnmphcoioaaGreatDoorW.PrintLast Go.Proofs.YtjadlnmphcoioaaGreatDoorW.PrintMore

theorem join_snoc (x sep : List UInt8) : ∀ xs : List (List UInt8), Lib.join (xs ++ [x]) sep = if xs = [] then x else Lib.join xs sep ++ sep ++ x
 | [] => by simp [Lib.join]
 | [a] => by simp [Lib.join, List.intercalate, List.intersperse]
 | a :: b :: t => by
  have ih := join_snoc x sep (b :: t)
  rw [if_neg (by simp)] at ih
  rw [if_neg (by simp)]
  have e : ∀ (c : List UInt8) (u : List (List UInt8)), u ≠ [] → Lib.join (c :: u) sep = c ++ sep ++ Lib.join u sep := fun c u hu => by
   cases u with
   | nil => exact absurd rfl hu
   | cons d u => simp [Lib.join, List.intercalate, List.intersperse]
  rw [show a :: b :: t ++ [x] = a :: ((b :: t) ++ [x]) from rfl, e a _ (by simp), ih, e a (b :: t) (by simp)]
  simp [List.append_assoc]
theorem joined_snoc (vs : List ByteArray) (v : ByteArray) : joined (vs ++ [v]) = if vs = [] then v else (joined vs ++ (⟨#[44, 32]⟩ : ByteArray)) ++ v := by
 have h : (joined (vs ++ [v])).data.toList = (if vs = [] then v else (joined vs ++ (⟨#[44, 32]⟩ : ByteArray)) ++ v).data.toList := by
  unfold joined strings_Join.text
  rw [List.map_append, List.map_singleton]
  show Lib.join _ _ = _
  rw [join_snoc]
  by_cases hv : vs = []
  ·subst hv
   simp
  ·rw [if_neg (by simpa using hv), if_neg hv, ByteArray.data_append, ByteArray.data_append, Array.toList_append, Array.toList_append]
 exact ByteArray.ext (Array.ext' h)
theorem joined_size (vs : List ByteArray) (h : ∀ v ∈ vs, v.size ≤ 1048576) : (joined vs).size ≤ vs.length * 1048578 := by
 have := join_len (vs.map fun v => v.data.toList) 1048576 (fun v hv => by
  obtain ⟨s, hs, rfl⟩ := List.mem_map.1 hv
  rw [← Lib.size_eq]
  exact h s hs) [44, 32]
 rw [List.length_map] at this
 show (Lib.join _ _).toArray.size ≤ _
 rw [List.size_toArray]
 exact this
theorem rdOf_at (vs : List ByteArray) (i : Nat) (hi : i < vs.length) : rdOf ByteArray.empty vs (i : Int) = vs[i]'hi := by
 unfold rdOf
 rw [Int.toNat_natCast, List.getD_eq_getElem?_getD, List.getElem?_eq_getElem hi]
 rfl
theorem rget_l0 (vs : List ByteArray) (hl : vs.length ≤ 1048577) (hs : ∀ v ∈ vs, v.size ≤ 1048576) (d : Nat) : ∀ (i : Nat), i + d = vs.length →
  Ev (fun k => pergolaref11_Get.l0 k vs (joined (vs.take i)) (i : Int)) (joined vs, decide ((vs.length : Int) > 0)) := by
 induction d with
 | zero =>
  intro i hi
  obtain rfl : i = vs.length := by omega
  rw [List.take_length]
  refine Ev.step (f := fun _ => some (joined vs, decide ((vs.length : Int) > 0))) (fun k => ?_) (Ev.now _)
  rw [pergolaref11_Get.l0, if_neg (by omega)]
 | succ d ih =>
  intro i hi
  have hi' : i < vs.length := by omega
  have hw : wrap64 ((i : Int) + 1) = ((i + 1 : Nat) : Int) := by unfold wrap64; omega
  have hv := hs _ (List.getElem_mem hi')
  have hj := joined_size (vs.take i) (fun v hv => hs v (List.mem_of_mem_take hv))
  rw [List.length_take, Nat.min_eq_left (by omega)] at hj
  have hstep := joined_snoc (vs.take i) (vs[i]'hi')
  rw [← List.take_succ_eq_append_getElem hi'] at hstep
  have hrd := rdOf_at vs i hi'
  have h := ih (i + 1) (by omega)
  have hs2 : (joined (vs.take i) ++ (⟨#[44, 32]⟩ : ByteArray)).size = (joined (vs.take i)).size + 2 := by rw [ByteArray.size_append]; rfl
  refine Ev.step (fun k => ?_) h
  by_cases h0 : i = 0
  ·subst h0
   have e0 : joined (vs.take 0) = ⟨#[]⟩ := rfl
   rw [if_pos (by simp)] at hstep
   rw [hstep, pergolaref11_Get.l0, if_pos (by omega), if_neg (by omega), if_pos (by omega), hrd, if_pos (by omega), hw, e0]
   congr 1
   all_goals exact ByteArray.ext (Array.ext' (by simp))
  ·rw [if_neg (by rw [List.take_eq_nil_iff]; rintro (h | h) <;> simp_all)] at hstep
   rw [hstep, pergolaref11_Get.l0, if_pos (by omega), if_pos (by omega), if_pos (by omega), if_pos (by omega), hrd, if_pos (by omega), hw]
theorem rget_f (l : List Hd) (hl : l.length ≤ 1048577) (hs : ∀ h ∈ l, Small h) (name : ByteArray) (hn : name.size ≤ 1048576) :
  Ev (fun k => pergolaref11_Get.f k l name) (joined ((of_ name l).map (·.f1)), decide (0 < (of_ name l).length)) := by
 have ha := rall_l0 l hl hs name hn l.length 0 [] (by omega) (by simp)
 rw [List.drop_zero, List.nil_append] at ha
 have hle : (of_ name l).length ≤ 1048577 := Nat.le_trans (List.length_filter_le _ _) hl
 have hg := rget_l0 ((of_ name l).map (·.f1)) (by rw [List.length_map]; exact hle) (fun v hv => by
  obtain ⟨h, hh, rfl⟩ := List.mem_map.1 hv
  exact (hs h (List.mem_filter.1 hh).1).2) _ 0 (Nat.zero_add _)
 refine Ev.bind ha ?_
 have e : decide ((((of_ name l).map (·.f1)).length : Int) > 0) = decide (0 < (of_ name l).length) := by
  rw [List.length_map, decide_eq_decide]
  omega
 rw [e] at hg
 exact hg
theorem rremove_l0 (l : List Hd) (hl : l.length ≤ 1048577) (hs : ∀ h ∈ l, Small h) (name : ByteArray) (hn : name.size ≤ 1048576) (d : Nat) : ∀ (i : Nat) (acc : List Hd), i + d = l.length → acc.length ≤ i →
  Ev (fun k => pergolaref11_Remove.l0 k l name acc (i : Int)) (acc ++ no_ name (l.drop i)) := by
 induction d with
 | zero =>
  intro i acc hi ha
  rw [List.drop_of_length_le (by omega)]
  refine Ev.step (f := fun _ => some acc) (fun k => ?_) (ev_some (by simp [no_]))
  rw [pergolaref11_Remove.l0, if_neg (by omega)]
 | succ d ih =>
  intro i acc hi ha
  have hi' : i < l.length := by omega
  have hw : wrap64 ((i : Int) + 1) = ((i + 1 : Nat) : Int) := by unfold wrap64; omega
  have hm := hs _ (List.getElem_mem hi')
  have e1 : ∀ k, pergolaref11_Remove.l0 (k + 1) l name acc (i : Int) = (pergolaref01_Same.f k (l[i]'hi').f0 name).bind fun t => if t = true then pergolaref11_Remove.l0 k l name acc ((i + 1 : Nat) : Int) else pergolaref11_Remove.l0 k l name (acc ++ [l[i]'hi']) ((i + 1 : Nat) : Int) := fun k => by
   rw [pergolaref11_Remove.l0, if_pos (by omega), if_pos (by omega), rd_at l i hi', hw, if_pos (show acc.length < 4398046511104 by omega)]
  rw [List.drop_eq_getElem_cons hi']
  refine Ev.step e1 (Ev.bind (rsame_f _ _ hm.1 hn) ?_)
  by_cases h : eqn (l[i]'hi').f0 name = true
  ·have := ih (i + 1) acc (by omega) (by omega)
   refine ev_pos h ?_
   unfold no_ at this ⊢
   rw [List.filter_cons_of_neg (p := fun h : Hd => !eqn h.f0 name) (by rw [h]; decide)]
   exact this
  ·refine ev_not h ?_
   have := ih (i + 1) (acc ++ [l[i]'hi']) (by omega) (by rw [List.length_append]; simp; omega)
   rw [List.append_assoc] at this
   unfold no_ at this ⊢
   rw [List.filter_cons_of_pos (p := fun h : Hd => !eqn h.f0 name) (by cases hb : eqn (l[i]'hi').f0 name; rfl; exact absurd hb h)]
   exact this
end Go.Proofs.YtjadlnmphcoioaaGreatDoor.Pure
namespace Go.Proofs.YtjadlnmphcoioaaGreatDoor.Pure
open Go.RowKit Go.Proofs.YtjadlnmphcoioaaGreatDoor.X Go.Proofs.YtjadlnmphcoioaaGreatDoorW.PrintWords Go.Proofs.YtjadlnmphcoioaaGreatDoorW.PrintLast Go.Proofs.YtjadlnmphcoioaaGreatDoorW.PrintMore

/-! may a header be -/
def bad3 (c : Int) : Bool := decide (c = 0 ∨ c = 10 ∨ c = 13)
theorem indexAny_any (cs : List UInt8) : ∀ l : List UInt8, decide (0 ≤ Lib.indexAny l cs) = l.any fun b => cs.contains b
 | [] => rfl
 | a :: l => by
  have ih := indexAny_any cs l
  have hge := Lib.indexAny_ge cs l
  rw [Lib.indexAny, List.any_cons, ← ih]
  cases hc : cs.contains a
  ·rw [if_neg (by simp), Bool.false_or]
   by_cases h : Lib.indexAny l cs = -1
   ·rw [h]; rfl
   ·rw [if_neg (by simpa using h), decide_eq_decide]
    omega
  ·rw [if_pos rfl]; rfl
theorem bad3_u8 {c : Int} (h : 0 ≤ c ∧ c < 256) : crlf0.data.toList.contains (u8 c) = bad3 c := byte_all (p := fun c => crlf0.data.toList.contains (u8 c) = bad3 c) (by decide +kernel) h
theorem any_u8 : ∀ l : List Int, Bytes l → ((l.map u8).any fun b => crlf0.data.toList.contains b) = l.any bad3
 | [], _ => rfl
 | a :: l, h => by rw [List.map_cons, List.any_cons, List.any_cons, bad3_u8 h.head, any_u8 l h.tail]
theorem nlb_any (v : ByteArray) : nlb v = (bytesOf v).any bad3 := by
 unfold nlb Lib.containsAny
 rw [indexAny_any, data_str, any_u8 _ (Bytes.of v)]
theorem rone_l0 (n v : ByteArray) (hv : v.size ≤ 1048576) (d : Nat) : ∀ (i : Nat), i + d = v.size → Ev (fun k => pergolaref11_one.l0 k (i : Int) n v) (if ((bytesOf v).drop i).any bad3 = true then 112 else 0) := by
 have hl := bytesOf_length v
 induction d with
 | zero =>
  intro i hi
  rw [List.drop_of_length_le (by omega)]
  refine Ev.step (f := fun _ => some 0) (fun k => ?_) (Ev.now _)
  rw [pergolaref11_one.l0, if_neg (by omega)]
 | succ d ih =>
  intro i hi
  have hw : wrap64 ((i : Int) + 1) = ((i + 1 : Nat) : Int) := by unfold wrap64; omega
  rw [getD_drop (show i < (bytesOf v).length by omega), List.any_cons]
  generalize hc : (bytesOf v).getD i 0 = c
  refine Ev.step (f := fun k => if bad3 c = true then some 112 else pergolaref11_one.l0 k ((i + 1 : Nat) : Int) n v) (fun k => ?_) ?_
  ·rw [pergolaref11_one.l0, if_pos (by omega), if_pos (by omega), bt_at', hw, hc]
   unfold bad3
   by_cases h0 : c = 0
   ·rw [if_pos h0, if_pos (by simp [h0])]
   ·by_cases h1 : c = 10
    ·rw [if_neg h0, if_pos h1, if_pos (by simp [h1])]
    ·by_cases h2 : c = 13
     ·rw [if_neg h0, if_neg h1, if_pos h2, if_pos (by simp [h2])]
     ·rw [if_neg h0, if_neg h1, if_neg h2, if_neg (by simp [h0, h1, h2])]
  ·cases h : bad3 c
   ·rw [Bool.false_or]
    exact ev_not (by decide) (ih (i + 1) (by omega))
   ·exact ev_pos rfl (Ev.now _)
theorem rone_f (n v : ByteArray) (hn : n.size ≤ 1048576) (hv : v.size ≤ 1048576) : Ev (fun k => pergolaref11_one.f k n v) (oneOf n v) := by
 unfold oneOf
 have h1 := rtok_l0 n hn n.size 0 (by omega)
 refine Ev.bind h1 ?_
 show Ev _ (if toks n = true then _ else _)
 rw [List.drop_zero]
 show Ev (fun k => if toks n = true then _ else _) _
 by_cases ht : toks n = true
 ·rw [if_pos ht]
  refine ev_pos ht ?_
  by_cases h64 : (n.size : Int) > 64
  ·rw [if_pos h64]
   exact ev_pos h64 (Ev.now _)
  ·rw [if_neg h64]
   refine ev_not h64 ?_
   have ht2 : Ev (fun k => pergolaref01_Trim.f k v) (around v [9, 32]) := Ev.bind (around_f _ _ has_tab v hv) (Ev.now _)
   refine Ev.bind ht2 ?_
   by_cases ha : around v [9, 32] = v
   ·have hr := rone_l0 n v hv v.size 0 (by omega)
    rw [List.drop_zero, ← nlb_any] at hr
    rw [if_pos ha]
    exact ev_pos (by rw [ha]) hr
   ·rw [if_neg ha, ite_self]
    exact ev_not (fun h => ha (toList_inj.1 h).symm) (Ev.now _)
 ·rw [if_neg ht]
  exact ev_not ht (Ev.now _)
theorem rnormal_f (s : ByteArray) (hs : s.size ≤ 1048576) : Ev (fun k => pergolaref11_Normal.f k s) (around s n4) := by
 have h : Ev (fun k => pergolaref01_Around.f k s (⟨#[9, 10, 13, 32]⟩ : ByteArray)) (around s n4) := Ev.bind (around_f _ _ has_four s hs) (Ev.now _)
 exact Ev.bind h (Ev.now _)
end Go.Proofs.YtjadlnmphcoioaaGreatDoor.Pure
namespace Go.Proofs.YtjadlnmphcoioaaGreatDoor.Pure
open Go.RowKit Go.Proofs.YtjadlnmphcoioaaGreatDoor.X Go.Proofs.YtjadlnmphcoioaaGreatDoorW.PrintWords Go.Proofs.YtjadlnmphcoioaaGreatDoorW.PrintLast Go.Proofs.YtjadlnmphcoioaaGreatDoorW.PrintMore

/-! Check, by both -/
theorem check_both_l0 (l : List Hd) (hl : l.length ≤ 1048576) (hs : ∀ h ∈ l, Small h) (d : Nat) : ∀ (i : Nat), i + d = l.length →
  ∃ e at_ : Int, Ev (fun k => headers_Check.l0 k l (l.length : Int) (i : Int)) (e, at_) ∧ Ev (fun k => pergolaref11_Check.l0 k l (i : Int)) (e, at_) ∧ (e = 0 ↔ ∀ h ∈ l.drop i, ok1 h) := by
 induction d with
 | zero =>
  intro i hi
  refine ⟨0, 0, Ev.step (f := fun _ => some (0, 0)) (fun k => ?_) (Ev.now _), Ev.step (f := fun _ => some (0, 0)) (fun k => ?_) (Ev.now _), ?_⟩
  ·rw [headers_Check.l0, if_neg (by omega)]
  ·rw [pergolaref11_Check.l0, if_neg (by omega)]
  ·rw [List.drop_of_length_le (by omega)]
   simp
 | succ d ih =>
  intro i hi
  have hi' : i < l.length := by omega
  obtain ⟨h0, h1⟩ := hs _ (List.getElem_mem hi')
  have hw : wrap64 ((i : Int) + 1) = ((i + 1 : Nat) : Int) := by unfold wrap64; omega
  have e1 : ∀ k, headers_Check.l0 (k + 1) l (l.length : Int) (i : Int) = (headers_one.f k (l[i]'hi').f0 (l[i]'hi').f1).bind fun t => if t = 0 then headers_Check.l0 k l (l.length : Int) ((i + 1 : Nat) : Int) else some (t, (i : Int)) := fun k => by
   rw [headers_Check.l0, if_pos (by omega), if_pos (by omega), if_pos (by omega), rd_at l i hi', hw]
  have e2 : ∀ k, pergolaref11_Check.l0 (k + 1) l (i : Int) = (pergolaref11_one.f k (l[i]'hi').f0 (l[i]'hi').f1).bind fun t => if t = 0 then pergolaref11_Check.l0 k l ((i + 1 : Nat) : Int) else some (t, (i : Int)) := fun k => by
   rw [pergolaref11_Check.l0, if_pos (by omega), if_pos (by omega), rd_at l i hi', hw]
  have ho := one_f _ _ h0 h1
  have ho2 := rone_f _ _ h0 h1
  rw [List.drop_eq_getElem_cons hi']
  by_cases h : oneOf (l[i]'hi').f0 (l[i]'hi').f1 = 0
  ·obtain ⟨e, a, he, he2, hiff⟩ := ih (i + 1) (by omega)
   refine ⟨e, a, Ev.step e1 (Ev.bind ho (ev_pos h he)), Ev.step e2 (Ev.bind ho2 (ev_pos h he2)), ?_⟩
   rw [hiff]
   refine ⟨fun H x hx => ?_, fun H x hx => H x (List.mem_cons_of_mem _ hx)⟩
   rcases List.mem_cons.1 hx with rfl | h2
   ·exact h
   ·exact H x h2
  ·refine ⟨_, (i : Int), Ev.step e1 (Ev.bind ho (ev_not h (Ev.now _))), Ev.step e2 (Ev.bind ho2 (ev_not h (Ev.now _))), ?_⟩
   exact ⟨fun H => absurd H h, fun H => absurd (H _ (List.mem_cons_self ..)) h⟩
theorem check_both (l : List Hd) (hl : l.length ≤ 1048576) (hs : ∀ h ∈ l, Small h) :
  ∃ e at_ : Int, Ev (fun k => headers_Check.f k l) (e, at_) ∧ Ev (fun k => pergolaref11_Check.f k l) (e, at_) ∧ (e = 0 ↔ l.length ≤ 256 ∧ ∀ h ∈ l, ok1 h) := by
 by_cases h : (l.length : Int) > 256
 ·refine ⟨3, 0, Ev.congr (fun k => by rw [headers_Check.f, if_pos h]) (Ev.now _), Ev.congr (fun k => by rw [pergolaref11_Check.f, if_pos h]) (Ev.now _), ?_⟩
  exact ⟨fun H => by omega, fun H => by omega⟩
 ·obtain ⟨e, a, he, he2, hiff⟩ := check_both_l0 l hl hs l.length 0 (by omega)
  refine ⟨e, a, Ev.congr (fun k => by rw [headers_Check.f, if_neg h]; rfl) he, Ev.congr (fun k => by rw [pergolaref11_Check.f, if_neg h]; rfl) he2, ?_⟩
  rw [hiff, List.drop_zero]
  exact ⟨fun H => ⟨by omega, H⟩, fun H => H.2⟩
end Go.Proofs.YtjadlnmphcoioaaGreatDoor.Pure
namespace Go.Proofs.YtjadlnmphcoioaaGreatDoor.Pure
open Go.RowKit Go.Proofs.YtjadlnmphcoioaaGreatDoorW.PrintWords Go.Proofs.YtjadlnmphcoioaaGreatDoorW.PrintWords Go.Proofs.YtjadlnmphcoioaaGreatDoorW.PrintLast Go.Proofs.YtjadlnmphcoioaaGreatDoorW.PrintMore

theorem bless (x y : List UInt8) : Op.bytesLess x y = decide (x < y) := by
 induction x generalizing y with
 | nil =>
  cases y with
  | nil => exact (decide_eq_false (List.lt_irrefl _)).symm
  | cons b y => exact (decide_eq_true (List.nil_lt_cons b y)).symm
 | cons a x ih =>
  cases y with
  | nil => exact (decide_eq_false (List.not_lt_nil _)).symm
  | cons b y =>
   rw [Op.bytesLess, ih, Bool.eq_iff_iff]
   simp only [Bool.or_eq_true, Bool.and_eq_true, decide_eq_true_eq, beq_iff_eq]
   exact List.cons_lt_cons_iff.symm

/-! Rising lists -/
abbrev rise (a b : ByteArray) : Prop := a.data.toList < b.data.toList
theorem data_inj {a b : ByteArray} (h : a.data.toList = b.data.toList) : a = b := toList_inj.1 (by rw [toList_data, toList_data, h])
theorem rise_irrefl (a : ByteArray) : ¬ rise a a := List.lt_irrefl _
theorem rise_trans {a b c : ByteArray} (h : rise a b) (k : rise b c) : rise a c := List.lt_trans h k
/-! Compact of what is sorted -/
theorem comp_lt (zs : List (List UInt8)) (h : zs.Pairwise fun x y => x ≤ y) : (Lib.compact zs).Pairwise fun x y => x < y := by
 unfold Lib.compact Lib.compactUpTo
 rw [List.pairwise_map, List.pairwise_filter]
 refine List.Pairwise.imp_of_mem (fun {i j} hi hj hij ki kj => ?_) List.pairwise_lt_range
 have hi' := List.mem_range.1 hi
 have hj' := List.mem_range.1 hj
 have hk := of_decide_eq_true kj
 have hpw := List.pairwise_iff_getElem.1 h
 rcases hk with hk | hk
 ·omega
 have ej : zs.toArray[j]! = zs[j] := by simp [hj']
 have ej1 : zs.toArray[j - 1]! = zs[j - 1]'(by omega) := by simp [show j - 1 < zs.length by omega]
 have ei : zs.toArray[i]! = zs[i] := by simp [hi']
 rw [ej, ej1] at hk
 have h1 : zs[j - 1]'(by omega) < zs[j] := Std.lt_of_le_of_ne (hpw (j - 1) j (by omega) hj' (by omega)) (Ne.symm hk)
 show zs.toArray[i]! < zs.toArray[j]!
 rw [ei, ej]
 by_cases hij2 : i = j - 1
 ·subst hij2
  exact h1
 ·exact List.lt_of_le_of_lt (hpw i (j - 1) hi' (by omega) (by omega)) h1
theorem comp_first (zs : List (List UInt8)) (x : List UInt8) : ∀ n : Nat, n < zs.length → zs.toArray[n]! = x → ∃ j : Nat, j < zs.length ∧ Lib.keeps zs.toArray j = true ∧ zs.toArray[j]! = x
 | 0, h, e => ⟨0, h, by simp [Lib.keeps], e⟩
 | n + 1, h, e => by
  by_cases hx : zs.toArray[n]! = x
  ·exact comp_first zs x n (by omega) hx
  ·refine ⟨n + 1, h, ?_, e⟩
   refine decide_eq_true (.inr ?_)
   rw [e, Nat.add_sub_cancel]
   exact fun k => hx k.symm
theorem comp_mem (zs : List (List UInt8)) (x : List UInt8) : x ∈ Lib.compact zs ↔ x ∈ zs := by
 unfold Lib.compact Lib.compactUpTo
 rw [List.mem_map]
 constructor
 ·rintro ⟨j, hj, rfl⟩
  have := List.mem_range.1 (List.mem_filter.1 hj).1
  have ej : zs.toArray[j]! = zs[j] := by simp [this]
  rw [ej]
  exact List.getElem_mem this
 ·intro hx
  obtain ⟨n, hn, e⟩ := List.getElem_of_mem hx
  obtain ⟨j, hj, hk, e2⟩ := comp_first zs x n hn (by simp [hn, e])
  exact ⟨j, List.mem_filter.2 ⟨List.mem_range.2 hj, hk⟩, e2⟩

/-! The list of all, rising, without doubles -/
def canon (l : List ByteArray) : List ByteArray := compS (sortS l)
theorem canon_eq (l : List ByteArray) : canon l = strsB (Lib.compact ((strsL l).mergeSort fun x y => decide (x ≤ y))) := by
 unfold canon compS sortS
 rw [strsL_strsB]
theorem mem_strsB (l : List (List UInt8)) (x : ByteArray) : x ∈ strsB l ↔ x.data.toList ∈ l := by
 unfold strsB
 rw [List.mem_map]
 constructor
 ·rintro ⟨y, hy, rfl⟩
  exact hy
 ·intro h
  exact ⟨_, h, by cases x; rfl⟩
theorem canon_rise (l : List ByteArray) : (canon l).Pairwise rise := by
 rw [canon_eq]
 unfold strsB
 rw [List.pairwise_map]
 refine comp_lt _ ?_
 refine (List.pairwise_mergeSort (fun a b c h k => ?_) (fun a b => ?_) _).imp fun {a b} h => of_decide_eq_true h
 ·exact decide_eq_true (List.le_trans (of_decide_eq_true h) (of_decide_eq_true k))
 ·rw [Bool.or_eq_true, decide_eq_true_eq, decide_eq_true_eq]
  exact List.le_total a b
theorem canon_mem (l : List ByteArray) (x : ByteArray) : x ∈ canon l ↔ x ∈ l := by
 rw [canon_eq, mem_strsB, comp_mem, List.Perm.mem_iff (List.mergeSort_perm _ _)]
 unfold strsL
 rw [List.mem_map]
 constructor
 ·rintro ⟨y, hy, e⟩
  exact data_inj e ▸ hy
 ·intro h
  exact ⟨x, h, rfl⟩
theorem canon_len (l : List ByteArray) : (canon l).length ≤ l.length := by
 unfold canon compS strsB
 rw [List.length_map]
 have := compact_len (strsL (sortS l))
 unfold strsL at this ⊢
 rw [List.length_map, sortS_length] at this
 exact this
end Go.Proofs.YtjadlnmphcoioaaGreatDoor.Pure
namespace Go.Proofs.YtjadlnmphcoioaaGreatDoor.Pure
open Go.RowKit Go.Proofs.YtjadlnmphcoioaaGreatDoor.X Go.Proofs.YtjadlnmphcoioaaGreatDoorW.PrintWords Go.Proofs.YtjadlnmphcoioaaGreatDoorW.PrintLast Go.Proofs.YtjadlnmphcoioaaGreatDoorW.PrintMore

def lwS (s : ByteArray) : ByteArray := strOfNums ((bytesOf s).map low)
def nms (l : List Hd) : List ByteArray := l.map fun h => lwS h.f0
theorem names_l0 (l : List Hd) (hl : l.length ≤ 1048576) (hs : ∀ h ∈ l, Small h) (d : Nat) : ∀ (i : Nat), i + d = l.length →
  Ev (fun k => headers_Names.l0 k (nms (l.take i)) l (l.length : Int) (i : Int)) (canon (nms l)) := by
 induction d with
 | zero =>
  intro i hi
  obtain rfl : i = l.length := by omega
  rw [List.take_length]
  have hlen : (nms l).length = l.length := List.length_map _
  refine Ev.step (f := fun _ => some (canon (nms l))) (fun k => ?_) (Ev.now _)
  rw [headers_Names.l0, if_neg (by omega), if_pos (by omega)]
  rfl
 | succ d ih =>
  intro i hi
  have hi' : i < l.length := by omega
  have hw : wrap64 ((i : Int) + 1) = ((i + 1 : Nat) : Int) := by unfold wrap64; omega
  have hm := hs _ (List.getElem_mem hi')
  have hlen : (nms (l.take i)).length = i := by unfold nms; rw [List.length_map, List.length_take]; omega
  have hstep : nms (l.take (i + 1)) = nms (l.take i) ++ [lwS (l[i]'hi').f0] := by
   rw [List.take_succ_eq_append_getElem hi']
   unfold nms
   rw [List.map_append]
   rfl
  have h := ih (i + 1) (by omega)
  rw [hstep] at h
  refine Ev.step (fun k => ?_) h
  rw [headers_Names.l0, if_pos (by omega), if_pos (by omega), if_pos (by omega), rd_at l i hi', lower_f _ (by have := hm.1; omega), Option.bind_some, hw, if_pos (by omega)]
  rfl
theorem names_f (l : List Hd) (hl : l.length ≤ 1048576) (hs : ∀ h ∈ l, Small h) : Ev (fun k => headers_Names.f k l) (canon (nms l)) := by
 have := names_l0 l hl hs l.length 0 (by omega)
 exact this

/-! the page's: the least above the last, again and again -/
def above (A : List ByteArray) (n : ByteArray) : Prop := ∀ z, A.getLast? = some z → rise z n
theorem above_iff {A D : List ByteArray} (h : (A ++ D).Pairwise rise) {n : ByteArray} (hn : n ∈ A ++ D) : above A n ↔ n ∈ D := by
 obtain ⟨hA, hD, hAD⟩ := List.pairwise_append.1 h
 constructor
 ·intro ha
  rcases List.mem_append.1 hn with h1 | h1
  ·exfalso
   obtain ⟨B, z, rfl⟩ : ∃ B z, A = B ++ [z] := by
    rcases List.eq_nil_or_concat A with rfl | ⟨B, z, hz⟩
    ·cases h1
    ·exact ⟨B, z, by rw [hz, List.concat_eq_append]⟩
   have hz := ha z (by simp)
   rcases List.mem_append.1 h1 with h2 | h2
   ·exact rise_irrefl _ (rise_trans ((List.pairwise_append.1 hA).2.2 n h2 z (by simp)) hz)
   ·obtain rfl := List.mem_singleton.1 h2
    exact rise_irrefl _ hz
  ·exact h1
 ·intro hd z hz
  exact hAD z (List.mem_of_getLast? hz) n hd
/-- The best so far. -/
def best (A N : List ByteArray) (b : ByteArray) (f : Bool) : Prop := (f = false ∧ ∀ n ∈ N, ¬ above A n) ∨ (f = true ∧ b ∈ N ∧ above A b ∧ ∀ n ∈ N, above A n → ¬ rise n b)
theorem best_step {A N : List ByteArray} {b : ByteArray} {f : Bool} (h : best A N b f) (n : ByteArray) :
  (¬ above A n → best A (N ++ [n]) b f) ∧ (above A n → (f = false → best A (N ++ [n]) n true) ∧ (f = true → (rise n b → best A (N ++ [n]) n true) ∧ (¬ rise n b → best A (N ++ [n]) b true))) := by
 have hm : ∀ x, x ∈ N ++ [n] → x ∈ N ∨ x = n := fun x hx => by simpa using hx
 refine ⟨fun ha => ?_, fun ha => ⟨fun hf => ?_, fun hf => ⟨fun hr => ?_, fun hr => ?_⟩⟩⟩
 ·rcases h with ⟨rfl, h⟩ | ⟨rfl, h1, h2, h3⟩
  ·refine .inl ⟨rfl, fun x hx => ?_⟩
   rcases hm x hx with h4 | rfl
   ·exact h x h4
   ·exact ha
  ·refine .inr ⟨rfl, List.mem_append_left _ h1, h2, fun x hx hax => ?_⟩
   rcases hm x hx with h4 | rfl
   ·exact h3 x h4 hax
   ·exact absurd hax ha
 ·rcases h with ⟨_, h⟩ | ⟨h0, _⟩
  ·refine .inr ⟨rfl, by simp, ha, fun x hx hax => ?_⟩
   rcases hm x hx with h4 | rfl
   ·exact absurd hax (h x h4)
   ·exact rise_irrefl _
  ·rw [hf] at h0; cases h0
 ·rcases h with ⟨h0, _⟩ | ⟨_, h1, h2, h3⟩
  ·rw [hf] at h0; cases h0
  ·refine .inr ⟨rfl, by simp, ha, fun x hx hax hxn => ?_⟩
   rcases hm x hx with h4 | rfl
   ·exact h3 x h4 hax (rise_trans hxn hr)
   ·exact rise_irrefl _ hxn
 ·rcases h with ⟨h0, _⟩ | ⟨_, h1, h2, h3⟩
  ·rw [hf] at h0; cases h0
  ·refine .inr ⟨rfl, List.mem_append_left _ h1, h2, fun x hx hax => ?_⟩
   rcases hm x hx with h4 | rfl
   ·exact h3 x h4 hax
   ·exact hr
theorem bless_rise (a b : ByteArray) : (Op.bytesLess a.toList b.toList = true) ↔ rise a b := by
 rw [bless, toList_data, toList_data, decide_eq_true_iff]
theorem rnames_l1 (l : List Hd) (hl : l.length ≤ 1048576) (hs : ∀ h ∈ l, Small h) (A : List ByteArray) (hA : A.length ≤ 1048576) (R : List ByteArray)
  (hend : ∀ b f, best A (nms l) b f → Ev (fun k => pergolaref11_Names.l1 k l A b f (l.length : Int)) R) (d : Nat) : ∀ (i : Nat) (b : ByteArray) (f : Bool), i + d = l.length → best A (nms (l.take i)) b f →
  Ev (fun k => pergolaref11_Names.l1 k l A b f (i : Int)) R := by
 induction d with
 | zero =>
  intro i b f hi hb
  obtain rfl : i = l.length := by omega
  rw [List.take_length] at hb
  exact hend b f hb
 | succ d ih =>
  intro i b f hi hb
  have hi' : i < l.length := by omega
  have hw : wrap64 ((i : Int) + 1) = ((i + 1 : Nat) : Int) := by unfold wrap64; omega
  have hm := hs _ (List.getElem_mem hi')
  have hstep : nms (l.take (i + 1)) = nms (l.take i) ++ [lwS (l[i]'hi').f0] := by
   rw [List.take_succ_eq_append_getElem hi']
   unfold nms
   rw [List.map_append]
   rfl
  have hlow := rlower_f _ hm.1
  have hrd := rd_at l i hi'
  generalize hN : lwS (l[i]'hi').f0 = n at hstep
  have hlow' : Ev (fun k => pergolaref01_Lower.f k (l[i]'hi').f0) n := by rw [← hN]; exact hlow
  obtain ⟨b1, b2⟩ := best_step hb n
  rw [← hstep] at b1 b2
  have hgo : above A n → Ev (fun k => if f = true then (if (Op.bytesLess n.toList b.toList) = true then pergolaref11_Names.l1 k l A n true ((i + 1 : Nat) : Int) else pergolaref11_Names.l1 k l A b f ((i + 1 : Nat) : Int)) else pergolaref11_Names.l1 k l A n true ((i + 1 : Nat) : Int)) R := fun ha => by
   obtain ⟨b3, b4⟩ := b2 ha
   cases f with
   | false => exact ev_not (by decide) (ih _ _ _ (by omega) (b3 rfl))
   | true =>
    refine ev_pos rfl ?_
    by_cases hr : rise n b
    ·exact ev_pos ((bless_rise n b).2 hr) (ih _ _ _ (by omega) ((b4 rfl).1 hr))
    ·exact ev_not (fun h => hr ((bless_rise n b).1 h)) (ih _ _ _ (by omega) ((b4 rfl).2 hr))
  by_cases hA0 : A = []
  ·subst hA0
   have ha : above [] n := fun z hz => by simp at hz
   refine Ev.step (f := fun k => (pergolaref01_Lower.f k (l[i]'hi').f0).bind fun t => if f = true then (if (Op.bytesLess t.toList b.toList) = true then pergolaref11_Names.l1 k l [] t true ((i + 1 : Nat) : Int) else pergolaref11_Names.l1 k l [] b f ((i + 1 : Nat) : Int)) else pergolaref11_Names.l1 k l [] t true ((i + 1 : Nat) : Int)) (fun k => ?_) (Ev.bind hlow' (hgo ha))
   rw [pergolaref11_Names.l1, if_pos (by omega), if_pos (by omega), hrd, hw]
   rfl
  ·have hpos : 0 < A.length := List.length_pos_iff.2 hA0
   have hwa : wrap64 ((A.length : Int) - 1) = ((A.length - 1 : Nat) : Int) := by unfold wrap64; omega
   have hlast : A.getLast? = some (A[A.length - 1]'(by omega)) := by rw [List.getLast?_eq_getElem?, List.getElem?_eq_getElem (by omega)]
   have hrdA : rdOf ByteArray.empty A ((A.length - 1 : Nat) : Int) = A[A.length - 1]'(by omega) := by
    unfold rdOf
    rw [Int.toNat_natCast, List.getD_eq_getElem?_getD, List.getElem?_eq_getElem (by omega)]
    rfl
   have hab : above A n ↔ rise (A[A.length - 1]'(by omega)) n := by
    unfold above
    rw [hlast]
    exact ⟨fun h => h _ rfl, fun h z hz => by obtain rfl := Option.some.inj hz; exact h⟩
   generalize A[A.length - 1]'(by omega) = z at *
   refine Ev.step (f := fun k => (pergolaref01_Lower.f k (l[i]'hi').f0).bind fun t => if (Op.bytesLess z.toList t.toList) = true then (if f = true then (if (Op.bytesLess t.toList b.toList) = true then pergolaref11_Names.l1 k l A t true ((i + 1 : Nat) : Int) else pergolaref11_Names.l1 k l A b f ((i + 1 : Nat) : Int)) else pergolaref11_Names.l1 k l A t true ((i + 1 : Nat) : Int)) else pergolaref11_Names.l1 k l A b f ((i + 1 : Nat) : Int)) (fun k => ?_) (Ev.bind hlow' ?_)
   ·rw [pergolaref11_Names.l1, if_pos (by omega), if_pos (by omega), hrd, hw]
    simp only [hwa, hrdA]
    congr 1
    funext t
    rw [if_neg (by omega), if_pos (by omega), if_pos (by omega)]
   ·by_cases ha : above A n
    ·exact ev_pos ((bless_rise z n).2 (hab.1 ha)) (hgo ha)
    ·exact ev_not (fun h => ha (hab.2 ((bless_rise z n).1 h))) (ih _ _ _ (by omega) (b1 ha))
theorem rnames_l0 (l : List Hd) (hl : l.length ≤ 1048576) (hs : ∀ h ∈ l, Small h) : ∀ (D A : List ByteArray), A ++ D = canon (nms l) → Ev (fun k => pergolaref11_Names.l0 k l A) (canon (nms l)) := by
 have hN : (nms l).length = l.length := List.length_map _
 have hcl := canon_len (nms l)
 intro D
 induction D with
 | nil =>
  intro A hA
  rw [List.append_nil] at hA
  have hAl : A.length ≤ 1048576 := by rw [hA]; omega
  have hpw := canon_rise (nms l)
  refine Ev.step (fun k => by rw [pergolaref11_Names.l0]; rfl) (rnames_l1 l hl hs A hAl _ (fun b f hb => ?_) l.length 0 (⟨#[]⟩ : ByteArray) false (by omega) (.inl ⟨rfl, fun n hn => by simp [nms] at hn⟩))
  have hno : ∀ n ∈ nms l, ¬ above A n := fun n hn ha => by
   have := (above_iff (A := A) (D := []) (by rw [List.append_nil, hA]; exact hpw) (by rw [List.append_nil, hA]; exact (canon_mem _ _).2 hn)).1 ha
   cases this
  rcases hb with ⟨rfl, _⟩ | ⟨_, h1, h2, _⟩
  ·refine Ev.step (f := fun _ => some A) (fun k => ?_) (ev_some (by rw [hA]))
   rw [pergolaref11_Names.l1, if_neg (by omega), if_neg (by decide)]
  ·exact absurd h2 (hno b h1)
 | cons c D ih =>
  intro A hA
  have hAl : A.length + 1 ≤ l.length := by
   have := congrArg List.length hA
   rw [List.length_append, List.length_cons] at this
   omega
  have hpw := canon_rise (nms l)
  rw [← hA] at hpw
  have hmem : ∀ n, n ∈ nms l ↔ n ∈ A ++ c :: D := fun n => by rw [hA]; exact (canon_mem _ _).symm
  refine Ev.step (fun k => by rw [pergolaref11_Names.l0]; rfl) (rnames_l1 l hl hs A (by omega) _ (fun b f hb => ?_) l.length 0 (⟨#[]⟩ : ByteArray) false (by omega) (.inl ⟨rfl, fun n hn => by simp [nms] at hn⟩))
  have hc : c ∈ nms l := (hmem c).2 (by simp)
  have hac : above A c := (above_iff hpw (by simp)).2 (by simp)
  rcases hb with ⟨_, h⟩ | ⟨rfl, h1, h2, h3⟩
  ·exact absurd hac (h c hc)
  ·have hbD := (above_iff hpw ((hmem b).1 h1)).1 h2
   obtain rfl : b = c := by
    rcases List.mem_cons.1 hbD with h | h
    ·exact h
    ·exact absurd ((List.pairwise_cons.1 (List.pairwise_append.1 hpw).2.1).1 b h) (h3 c hc hac)
   refine Ev.step (fun k => ?_) (ih (A ++ [b]) (by rw [List.append_assoc]; exact hA))
   rw [pergolaref11_Names.l1, if_neg (by omega), if_pos rfl, if_pos (by omega)]
theorem rnames_f (l : List Hd) (hl : l.length ≤ 1048576) (hs : ∀ h ∈ l, Small h) : Ev (fun k => pergolaref11_Names.f k l) (canon (nms l)) := rnames_l0 l hl hs _ [] rfl
end Go.Proofs.YtjadlnmphcoioaaGreatDoor.Pure
namespace Go.Proofs.YtjadlnmphcoioaaGreatDoor.Pure
open Go.RowKit Go.Proofs.YtjadlnmphcoioaaGreatDoor.X Go.Proofs.YtjadlnmphcoioaaGreatDoorW.PrintWords Go.Proofs.YtjadlnmphcoioaaGreatDoorW.PrintLast Go.Proofs.YtjadlnmphcoioaaGreatDoorW.PrintMore

/-- A byte as a character's bytes. -/
def ch (c : Int) : List Int := if c < 128 then [c] else [192 + c / 64, 128 + c % 64]
def chL (l : List Int) : List Int := l.flatMap ch
theorem encode_ch {c : Int} (h : 0 ≤ c ∧ c < 256) : (Utf8.encode c).data.toList = (ch c).map fun n => UInt8.ofNat n.toNat :=
 byte_all (p := fun c => (Utf8.encode c).data.toList = (ch c).map fun n => UInt8.ofNat n.toNat) (by decide +kernel) h
theorem ch_len (c : Int) : 1 ≤ (ch c).length ∧ (ch c).length ≤ 2 := by
 unfold ch
 split <;> simp
theorem runes_ch (l : List Int) (h : Bytes l) : runesBytes l = strOfNums (chL l) := by
 have key : ∀ (l : List Int), Bytes l → ∀ s : ByteArray, (l.foldl (fun r n => r ++ Utf8.encode n) s).data.toList = s.data.toList ++ (chL l).map fun n => UInt8.ofNat n.toNat := by
  intro l
  induction l with
  | nil => intro _ s; simp [chL]
  | cons c t ih =>
   intro hb s
   rw [List.foldl_cons, ih hb.tail]
   have e : (s ++ Utf8.encode c).data.toList = s.data.toList ++ (Utf8.encode c).data.toList := by
    rw [ByteArray.data_append, Array.toList_append]
   rw [e, encode_ch hb.head]
   simp [chL]
 have := key l h ByteArray.empty
 refine ByteArray.ext (Array.ext' ?_)
 unfold runesBytes
 rw [this, strOfNums_data]
 simp
theorem chars_l0 (l : List Int) (hl : Bytes l) (hn : l.length < 35184372088832) (d : Nat) : ∀ (i : Nat), i + d = l.length →
  Ev (fun k => octets_Chars.l0 k (l.take i) l (l.length : Int) (i : Int)) (strOfNums (chL l)) := by
 induction d with
 | zero =>
  intro i hi
  obtain rfl : i = l.length := by omega
  refine Ev.step (f := fun _ => some (strOfNums (chL l))) (fun k => ?_) (Ev.now _)
  simp only [octets_Chars.l0]
  rw [if_neg (by omega), List.take_of_length_le (Nat.le_refl _), runes_ch l hl]
 | succ d ih =>
  intro i hi
  have hc := hl.at_ i
  have hrd : rd l (i : Int) = l.getD i 0 := by unfold rd; rw [Int.toNat_natCast]
  have hw : wrap64 ((i : Int) + 1) = ((i + 1 : Nat) : Int) := by unfold wrap64; omega
  have hw2 : wrap32 (l.getD i 0) = l.getD i 0 := by unfold wrap32; omega
  refine Ev.step (f := fun k => octets_Chars.l0 k (l.take (i + 1)) l (l.length : Int) ((i + 1 : Nat) : Int)) (fun k => ?_) (ih (i + 1) (by omega))
  simp only [octets_Chars.l0]
  rw [if_pos (by omega), if_pos (by omega), if_pos (by omega), if_pos (by rw [List.length_take]; omega), hw, hrd, hw2]
  congr 1
  rw [List.take_succ_eq_append_getElem (show i < l.length by omega), List.getD_eq_getElem?_getD, List.getElem?_eq_getElem (show i < l.length by omega)]
  rfl
theorem chars_f (l : List Int) (hl : Bytes l) (hn : l.length < 35184372088832) : Ev (fun k => octets_Chars.f k l) (strOfNums (chL l)) := chars_l0 l hl hn l.length 0 (by omega)

theorem and63 {c : Int} (h : 0 ≤ c ∧ c < 256) : Go.bits .and .u8 c 63 = c % 64 :=
 byte_all (p := fun c => Go.bits .and .u8 c 63 = c % 64) (by decide +kernel) h
theorem rchars_l0 (l : List Int) (hl : Bytes l) (hn : l.length ≤ 35184372088832) (d : Nat) : ∀ (i : Nat) (out : List Int), i + d = l.length → out.length ≤ 2 * i →
  Ev (fun k => pergolaref01_Chars.l0 k l out (i : Int)) (strOfNums (out ++ chL (l.drop i))) := by
 induction d with
 | zero =>
  intro i out hi ho
  refine Ev.step (f := fun _ => some (strOfNums (out ++ chL (l.drop i)))) (fun k => ?_) (Ev.now _)
  rw [pergolaref01_Chars.l0, if_neg (by omega), List.drop_of_length_le (by omega)]
  simp [chL]
 | succ d ih =>
  intro i out hi ho
  have hc := hl.at_ i
  have hrd : rd l (i : Int) = l.getD i 0 := by unfold rd; rw [Int.toNat_natCast]
  have hw : wrap64 ((i : Int) + 1) = ((i + 1 : Nat) : Int) := by unfold wrap64; omega
  have hlen := ch_len (l.getD i 0)
  have e := ih (i + 1) (out ++ ch (l.getD i 0)) (by omega) (by rw [List.length_append]; omega)
  rw [getD_drop (show i < l.length by omega)]
  have hcons : chL (l.getD i 0 :: l.drop (i + 1)) = ch (l.getD i 0) ++ chL (l.drop (i + 1)) := by simp [chL]
  rw [hcons, ← List.append_assoc]
  refine Ev.step (fun k => ?_) e
  rw [pergolaref01_Chars.l0, if_pos (by omega), if_pos (by omega), hrd, hw]
  generalize l.getD i 0 = c at *
  by_cases h : c < 128
  ·rw [if_pos h, if_pos (by omega)]
   unfold ch
   rw [if_pos h]
  ·rw [if_neg h, Option.bind_some, if_pos (by simp only [List.length_cons, List.length_nil]; omega), and63 hc, show (192 + c / 64) % 256 = 192 + c / 64 by omega, show (128 + c % 64) % 256 = 128 + c % 64 by omega]
   unfold ch
   rw [if_neg h]
theorem rchars_f (l : List Int) (hl : Bytes l) (hn : l.length ≤ 35184372088832) : Ev (fun k => pergolaref01_Chars.f k l) (strOfNums (chL l)) := by
 have h := rchars_l0 l hl hn l.length 0 [] (by omega) (by simp)
 rw [List.drop_zero, List.nil_append] at h
 exact h

end Go.Proofs.YtjadlnmphcoioaaGreatDoor.Pure
namespace Go.Proofs.YtjadlnmphcoioaaGreatDoor.Pure
open Go.RowKit Go.Proofs.YtjadlnmphcoioaaGreatDoor.X Go.Proofs.YtjadlnmphcoioaaGreatDoorW.PrintWords Go.Proofs.YtjadlnmphcoioaaGreatDoorW.PrintLast Go.Proofs.YtjadlnmphcoioaaGreatDoorW.PrintMore

theorem sames_l0 (l : List ByteArray) (hn : l.length ≤ 140737488355328) (d : Nat) : ∀ (i : Nat), i + d = l.length → Ev (fun k => pergolaplain_SameStrings.l0 k l l (i : Int)) true := by
 induction d with
 | zero =>
  intro i hi
  refine Ev.step (f := fun _ => some true) (fun k => ?_) (Ev.now _)
  rw [pergolaplain_SameStrings.l0, if_neg (by omega)]
 | succ d ih =>
  intro i hi
  have hw : wrap64 ((i : Int) + 1) = ((i + 1 : Nat) : Int) := by unfold wrap64; omega
  refine Ev.step (f := fun k => pergolaplain_SameStrings.l0 k l l ((i + 1 : Nat) : Int)) (fun k => ?_) (ih (i + 1) (by omega))
  rw [pergolaplain_SameStrings.l0, if_pos (by omega), if_pos (by omega), if_pos (by omega), if_pos rfl, hw]
theorem sames_f (l : List ByteArray) (hn : l.length ≤ 140737488355328) : Ev (fun k => pergolaplain_SameStrings.f k l l) true := by
 refine Ev.congr (fun k => ?_) (sames_l0 l hn l.length 0 (by omega))
 rw [pergolaplain_SameStrings.f, if_pos rfl]
 rfl
end Go.Proofs.YtjadlnmphcoioaaGreatDoor.Pure
namespace Go.Proofs.YtjadlnmphcoioaaGreatDoor.Pure
open Go.RowKit Go.Proofs.YtjadlnmphcoioaaGreatDoor.X Go.Proofs.YtjadlnmphcoioaaGreatDoorW.PrintWords Go.Proofs.YtjadlnmphcoioaaGreatDoorW.PrintLast Go.Proofs.YtjadlnmphcoioaaGreatDoorW.PrintMore

theorem tells_alive : Ev (fun k => pergolalaw11_alive.f k) true := Ev.of pergolalaw11_alive.mono (k := 200) (by decide +kernel)
theorem HeadersTells (l : List Hd) (name value : ByteArray) (hl : l.length ≤ 1048576) (hs : ∀ h ∈ l, Small h) (hn : name.size ≤ 1048576) (hv : value.size ≤ 1048576) : ∃ k, pergolalaw11_HeadersTells.f k l name value = some true := by
 obtain ⟨e, a, hc, hc2, _⟩ := check_both l hl hs
 have hg := get_f l (by omega) hs name hn
 have hg2 := rget_f l (by omega) hs name hn
 have ha := all_l0 l (by omega) hs name hn l.length 0 [] (by omega) (by simp)
 have ha2 := rall_l0 l (by omega) hs name hn l.length 0 [] (by omega) (by simp)
 rw [List.drop_zero, List.nil_append] at ha ha2
 have hA : Ev (fun k => headers_All.f k l name) ((of_ name l).map (·.f1)) := ha
 have hA2 : Ev (fun k => pergolaref11_All.f k l name) ((of_ name l).map (·.f1)) := ha2
 have hle : (of_ name l).length ≤ l.length := List.length_filter_le _ _
 have hle2 : (no_ name l).length ≤ l.length := List.length_filter_le _ _
 have hnm := names_f l hl hs
 have hnm2 := rnames_f l hl hs
 have hcl := canon_len (nms l)
 have hnl : (nms l).length = l.length := List.length_map _
 have hr := remove_f l (by omega) (fun h hh => (hs h hh).1) name hn
 have hr2 := rremove_l0 l (by omega) hs name hn l.length 0 [] (by omega) (by simp)
 rw [List.drop_zero, List.nil_append] at hr2
 have hR2 : Ev (fun k => pergolaref11_Remove.f k l name) (no_ name l) := hr2
 have hlb := bytesOf_length value
 have ht : Ev (fun k => headers_Text.f k value) (strOfNums (chL (bytesOf value))) :=
  Ev.congr (fun k => by rw [headers_Text.f, if_pos (by omega)]) (Ev.bind (chars_f (bytesOf value) (Bytes.of value) (by omega)) (Ev.now _))
 have ht2 : Ev (fun k => pergolaref11_Text.f k value) (strOfNums (chL (bytesOf value))) :=
  Ev.congr (fun k => by rw [pergolaref11_Text.f, if_pos (by omega)]) (Ev.bind (rchars_f (bytesOf value) (Bytes.of value) (by omega)) (Ev.now _))
 have key : Ev (fun k => pergolalaw11_HeadersTells.f k l name value) true := by
  refine Ev.congr (fun k => by rw [pergolalaw11_HeadersTells.f, if_pos (show l.length ≤ 4398046511000 by omega), Option.bind_some]) ?_
  refine Ev.bind hc (Ev.bind hc2 (Ev.bind hg (Ev.bind hg2 ?_)))
  refine Ev.congr (fun k => by rw [pergolalaw11_num.f, Option.bind_some]) (ev_pos rfl (ev_pos rfl (ev_pos rfl (ev_pos (by simp) ?_))))
  refine Ev.bind hA (Ev.bind hA2 (Ev.bind (sames_f _ (by rw [List.length_map]; omega)) (ev_pos rfl ?_)))
  refine Ev.bind hnm (Ev.bind hnm2 (Ev.bind (sames_f _ (by omega)) (ev_pos rfl ?_)))
  refine Ev.congr (fun k => by rw [hr, Option.bind_some]) (Ev.bind hR2 (Ev.bind (sameh_f (no_ name l) (by omega)) (ev_pos rfl ?_)))
  refine Ev.congr (fun k => by rw [normal_f value hv, Option.bind_some]) (Ev.bind (rnormal_f value hv) (ev_pos rfl ?_))
  exact Ev.bind ht (Ev.bind ht2 (ev_pos rfl (Ev.bind tells_alive (Ev.now _))))
 exact key.rounds
end Go.Proofs.YtjadlnmphcoioaaGreatDoor.Pure
