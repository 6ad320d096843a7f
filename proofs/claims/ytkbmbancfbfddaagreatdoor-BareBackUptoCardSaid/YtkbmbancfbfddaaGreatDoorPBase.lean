/- Bytes, texts as lists of bytes: plain lemmas. -/
import Derived.Test.YtkbmbancfbfddaaGreatDoorXW
import Derived.Laws.BitsAllLaws
namespace Go.Proofs.YtkbmbancfbfddaaGreatDoor.Pure
open Go.RowKit Go.Proofs.YtkbmbancfbfddaaGreatDoorW.PrintWords Go.Proofs.YtkbmbancfbfddaaGreatDoorW.PrintLast Go.Proofs.YtkbmbancfbfddaaGreatDoorW.PrintMore

def Bytes (l : List Int) : Prop := ∀ x ∈ l, 0 ≤ x ∧ x < 256
theorem Bytes.at_ {l : List Int} (h : Bytes l) (i : Nat) : 0 ≤ l.getD i 0 ∧ l.getD i 0 < 256 := by
 rw [List.getD_eq_getElem?_getD]
 cases hx : l[i]? with
 | none => simp
 | some x => exact h x (List.mem_of_getElem? hx)
theorem Bytes.nil : Bytes [] := fun x hx => by cases hx
theorem Bytes.cons {a : Int} {l : List Int} (ha : 0 ≤ a ∧ a < 256) (h : Bytes l) : Bytes (a :: l) := fun x hx => by
 rcases List.mem_cons.1 hx with rfl | h1
 ·exact ha
 ·exact h x h1
theorem Bytes.head {a : Int} {l : List Int} (h : Bytes (a :: l)) : 0 ≤ a ∧ a < 256 := h a (by simp)
theorem Bytes.tail {a : Int} {l : List Int} (h : Bytes (a :: l)) : Bytes l := fun x hx => h x (by simp [hx])
theorem Bytes.append {l m : List Int} (h : Bytes l) (k : Bytes m) : Bytes (l ++ m) := fun x hx => by
 rcases List.mem_append.1 hx with h1 | h1
 ·exact h x h1
 ·exact k x h1
theorem Bytes.left {l m : List Int} (h : Bytes (l ++ m)) : Bytes l := fun x hx => h x (by simp [hx])
theorem Bytes.right {l m : List Int} (h : Bytes (l ++ m)) : Bytes m := fun x hx => h x (by simp [hx])
theorem Bytes.drop {l : List Int} (h : Bytes l) (n : Nat) : Bytes (l.drop n) := fun x hx => h x (List.mem_of_mem_drop hx)
theorem Bytes.take {l : List Int} (h : Bytes l) (n : Nat) : Bytes (l.take n) := fun x hx => h x (List.mem_of_mem_take hx)
theorem Bytes.of (s : ByteArray) : Bytes (bytesOf s) := fun x hx => by
 obtain ⟨b, _, rfl⟩ := List.mem_map.1 hx
 have := b.toNat_lt
 omega
theorem bytesOf_str {l : List Int} (h : Bytes l) : bytesOf (strOfNums l) = l := by
 unfold bytesOf
 rw [strOfNums_data, List.map_map]
 apply List.ext_getElem
 ·simp
 ·intro i h1 h2
  have := h l[i] (List.getElem_mem h2)
  simp
  omega
theorem str_bytesOf (s : ByteArray) : strOfNums (bytesOf s) = s := by
 have h : (strOfNums (bytesOf s)).data.toList = s.data.toList := by
  rw [strOfNums_data]
  unfold bytesOf
  rw [List.map_map]
  apply List.ext_getElem
  ·simp
  ·intro i h1 h2
   simp
 exact ByteArray.ext (Array.ext' h)
theorem toList_data (s : ByteArray) : s.toList = s.data.toList := by
 have h : ∀ (d i : Nat) (r : List UInt8), i + d = s.size → ByteArray.toList.loop s i r = r.reverse ++ s.data.toList.drop i := by
  intro d
  induction d with
  | zero =>
   intro i r hi
   unfold ByteArray.toList.loop
   rw [if_neg (by omega), List.drop_of_length_le (by rw [Array.length_toList]; show s.size ≤ i; omega)]
   simp
  | succ d ih =>
   intro i r hi
   unfold ByteArray.toList.loop
   rw [if_pos (by omega), ih (i + 1) _ (by omega)]
   have hl : i < s.data.toList.length := by rw [Array.length_toList]; show i < s.size; omega
   rw [List.drop_eq_getElem_cons hl]
   have hg : s.get! i = s.data.toList[i] := by
    have hi2 : i < s.data.size := by show i < s.size; omega
    show s.data[i]! = _
    rw [getElem!_pos s.data i hi2]
    simp
   rw [hg]
   simp
 have := h s.size 0 [] (by omega)
 unfold ByteArray.toList
 simpa using this
theorem bytesOf_inj {s t : ByteArray} (h : bytesOf s = bytesOf t) : s = t := by
 rw [← str_bytesOf s, h, str_bytesOf]
theorem bt_rd (s : ByteArray) (i : Int) : bt s i = rd (bytesOf s) i := (rd_bytesOf s i).symm
theorem bt_at' (s : ByteArray) (i : Nat) : bt s (i : Int) = (bytesOf s).getD i 0 := by rw [bt_rd]; unfold rd; rw [Int.toNat_natCast]
theorem w64 {x : Int} (h : -9223372036854775808 ≤ x) (h2 : x ≤ 9223372036854775807) : wrap64 x = x := by unfold wrap64; omega
theorem getD_drop {l : List Int} {i : Nat} (h : i < l.length) : l.drop i = l.getD i 0 :: l.drop (i + 1) := by
 rw [List.drop_eq_getElem_cons h, List.getD_eq_getElem?_getD, List.getElem?_eq_getElem h]
 rfl
/-- A byte's property is looked at for each byte. -/
theorem byte_all {p : Int → Prop} [DecidablePred p] (h : ∀ i : Fin 256, p (i.val : Int)) {x : Int} (hx : 0 ≤ x ∧ x < 256) : p x := by
 obtain ⟨n, rfl⟩ := Int.eq_ofNat_of_zero_le hx.1
 exact h ⟨n, by omega⟩
end Go.Proofs.YtkbmbancfbfddaaGreatDoor.Pure
