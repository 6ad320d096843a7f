/- What Lower computes, of octets and of the page. (Carved out of XPCase, XPRWords.) -/
import Derived.Test.YtjadlnmphcoioaaGreatDoorPBase
import Derived.Test.YtjadlnmphcoioaaGreatDoorPTok
import Derived.Test.YtjadlnmphcoioaaGreatDoorX5
import Derived.Test.YtjadlnmphcoioaaGreatDoorX7
namespace Go.Proofs.YtjadlnmphcoioaaGreatDoor.Pure
open Go.RowKit Go.Proofs.YtjadlnmphcoioaaGreatDoor.X Go.Proofs.YtjadlnmphcoioaaGreatDoorW.PrintWords Go.Proofs.YtjadlnmphcoioaaGreatDoorW.PrintLast Go.Proofs.YtjadlnmphcoioaaGreatDoorW.PrintMore

def low (c : Int) : Int := turn1 65 90 c
theorem low_byte {c : Int} (h : 0 ≤ c ∧ c < 256) : 0 ≤ low c ∧ low c < 256 := byte_all (p := fun c => 0 ≤ low c ∧ low c < 256) (by decide +kernel) h
theorem map_bytes {f : Int → Int} (hf : ∀ c, 0 ≤ c ∧ c < 256 → 0 ≤ f c ∧ f c < 256) (s : ByteArray) : Bytes ((bytesOf s).map f) := fun x hx => by
 obtain ⟨c, hc, rfl⟩ := List.mem_map.1 hx
 exact hf c (Bytes.of s c hc)
theorem lower_f (s : ByteArray) (hs : s.size ≤ 140737488355328) : octets_Lower.f s = some (strOfNums ((bytesOf s).map low)) := by
 rw [octets_Lower.f, octets_turned.f, if_pos (by omega)]
 rfl
theorem take_map (f : Int → Int) (l : List Int) (i : Nat) (h : i < l.length) : (l.take i).map f ++ [f (l.getD i 0)] = (l.take (i + 1)).map f := by
 rw [List.take_succ_eq_append_getElem h, List.map_append, List.getD_eq_getElem?_getD, List.getElem?_eq_getElem h]
 rfl
theorem low_in {c : Int} (h : 0 ≤ c ∧ c < 256) : c ≥ 65 → c ≤ 90 → (c + 32) % 256 = low c := byte_all (p := fun c => c ≥ 65 → c ≤ 90 → (c + 32) % 256 = low c) (by decide +kernel) h
theorem rlower_l0 (s : ByteArray) (hs : s.size ≤ 1048576) (d : Nat) : ∀ (i : Nat), i + d = s.size → Ev (fun k => pergolaref01_Lower.l0 k s (((bytesOf s).take i).map low) (i : Int)) (strOfNums ((bytesOf s).map low)) := by
 have hl := bytesOf_length s
 induction d with
 | zero =>
  intro i hi
  refine Ev.step (f := fun _ => some (strOfNums ((bytesOf s).map low))) (fun k => ?_) (Ev.now _)
  rw [pergolaref01_Lower.l0, if_neg (by omega), List.take_of_length_le (by omega)]
 | succ d ih =>
  intro i hi
  have hw : wrap64 ((i : Int) + 1) = ((i + 1 : Nat) : Int) := by unfold wrap64; omega
  have hcb := (Bytes.of s).at_ i
  have hlen : (((bytesOf s).take i).map low).length < 140737488355328 := by rw [List.length_map, List.length_take]; omega
  have htk := take_map low (bytesOf s) i (by omega)
  have h := ih (i + 1) (by omega)
  rw [← htk] at h
  refine Ev.step (fun k => ?_) h
  rw [pergolaref01_Lower.l0, if_pos (by omega), if_pos (by omega), bt_at', hw, if_pos hlen, if_pos hlen]
  have hin := low_in hcb
  generalize (bytesOf s).getD i 0 = c at *
  by_cases h1 : c ≥ 65
  ·by_cases h2 : c ≤ 90
   ·rw [if_pos h1, if_pos h2, hin h1 h2]
   ·rw [if_pos h1, if_neg h2, show low c = c from by unfold low turn1; rw [if_pos h1, if_neg h2]]
  ·rw [if_neg h1, show low c = c from by unfold low turn1; rw [if_neg h1]]
theorem rlower_f (s : ByteArray) (hs : s.size ≤ 1048576) : Ev (fun k => pergolaref01_Lower.f k s) (strOfNums ((bytesOf s).map low)) := rlower_l0 s hs s.size 0 (by omega)
/-! the same name -/
def lw (s : ByteArray) : List Int := (bytesOf s).map low
def eqn (n name : ByteArray) : Bool := decide (lw n = lw name)
theorem low_eq (a b : ByteArray) : ((strOfNums ((bytesOf a).map low)).toList == (strOfNums ((bytesOf b).map low)).toList) = eqn a b := by
 rw [toList_beq]
 unfold eqn lw
 rw [decide_eq_decide]
 exact ⟨fun h => str_inj (map_bytes (fun _ => low_byte) a) (map_bytes (fun _ => low_byte) b) h, fun h => by rw [h]⟩
theorem rsame_f (a b : ByteArray) (ha : a.size ≤ 1048576) (hb : b.size ≤ 1048576) : Ev (fun k => pergolaref01_Same.f k a b) (eqn a b) :=
 Ev.bind (rlower_f a ha) (Ev.bind (rlower_f b hb) (ev_some (by rw [low_eq])))
end Go.Proofs.YtjadlnmphcoioaaGreatDoor.Pure
