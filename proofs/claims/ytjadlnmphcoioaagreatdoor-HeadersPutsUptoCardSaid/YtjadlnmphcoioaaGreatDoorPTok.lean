/- What octets.IsToken computes. (Carved out of XPureOctetsTextsU.) -/
import Derived.Test.YtjadlnmphcoioaaGreatDoorX3
import Derived.Test.YtjadlnmphcoioaaGreatDoorPBase
namespace Go.Proofs.YtjadlnmphcoioaaGreatDoor.Pure
open Go.RowKit Go.Proofs.YtjadlnmphcoioaaGreatDoor.X Go.Proofs.YtjadlnmphcoioaaGreatDoorW.PrintWords Go.Proofs.YtjadlnmphcoioaaGreatDoorW.PrintLast Go.Proofs.YtjadlnmphcoioaaGreatDoorW.PrintMore

theorem ev_pos {α : Type} {c : Prop} [Decidable c] (h : c) {f g : Nat → Option α} {r : α} (hf : Ev f r) : Ev (fun k => if c then f k else g k) r := Ev.congr (fun _ => if_pos h) hf
theorem ev_some {α : Type} {o : Option α} {r : α} (h : o = some r) : Ev (fun _ => o) r := Ev.congr (fun _ => h) (Ev.now r)

/-! Tokens -/
def tok (c : Int) : Bool := decide ((97 ≤ c ∧ c ≤ 122) ∨ (65 ≤ c ∧ c ≤ 90) ∨ (48 ≤ c ∧ c ≤ 57) ∨ c ∈ [33, 35, 36, 37, 38, 39, 42, 43, 45, 46, 94, 95, 96, 124, 126])
def sym : ByteArray := ⟨#[33, 35, 36, 37, 38, 39, 42, 43, 45, 46, 94, 95, 96, 124, 126]⟩
def symO (c : Int) (R : Option Bool) : Option Bool := if c < 48 then ((strings_IndexByte.f sym c).bind fun t => (if t < 0 then (some false) else R)) else (if c > 57 then ((strings_IndexByte.f sym c).bind fun t => (if t < 0 then (some false) else R)) else R)
def tokO (c : Int) (R : Option Bool) : Option Bool := if (Go.bits .or .u8 c 32) ≥ 97 then (if ((Go.bits .or .u8 c 32) ≤ 122) then R else symO c R) else symO c R
theorem symO_bind (c : Int) (R : Option Bool) : symO c R = (symO c (some true)).bind fun b => if b = true then R else some false := by
 unfold symO
 simp only [strings_IndexByte.f, Option.bind_some]
 repeat' split
 all_goals first | rfl | simp
theorem tokO_bind (c : Int) (R : Option Bool) : tokO c R = (tokO c (some true)).bind fun b => if b = true then R else some false := by
 unfold tokO
 repeat' split
 all_goals first | rfl | exact symO_bind c R | simp
theorem tokO_tok {c : Int} (h : 0 ≤ c ∧ c < 256) : tokO c (some true) = some (tok c) := byte_all (p := fun c => tokO c (some true) = some (tok c)) (by decide +kernel) h
def toks (s : ByteArray) : Bool := (bytesOf s).all tok && decide (0 < s.size)
theorem isEmpty_size (s : ByteArray) : (!s.toList.isEmpty) = decide (0 < s.size) := by
 rw [toList_data]
 have := Lib.size_eq s
 cases h : s.data.toList with
 | nil => rw [h] at this; simp at this; simp [this]
 | cons a t => rw [h] at this; simp at this; simp [this]
theorem istok_l0 (s : ByteArray) (hs : s.size ≤ 1048576) (d : Nat) : ∀ (i : Nat), i + d = s.size → Ev (fun k => octets_IsToken.l0 k s (s.size : Int) (i : Int)) (((bytesOf s).drop i).all tok && decide (0 < s.size)) := by
 have hl := bytesOf_length s
 induction d with
 | zero =>
  intro i hi
  rw [List.drop_of_length_le (by omega)]
  refine Ev.step (f := fun _ => some (!s.toList.isEmpty)) (fun k => ?_) (ev_some (by rw [isEmpty_size]; rfl))
  rw [octets_IsToken.l0, if_neg (by omega)]
 | succ d ih =>
  intro i hi
  have hw : wrap64 ((i : Int) + 1) = ((i + 1 : Nat) : Int) := by unfold wrap64; omega
  have hcb := (Bytes.of s).at_ i
  rw [getD_drop (show i < (bytesOf s).length by omega), List.all_cons]
  refine Ev.step (f := fun k => if tok ((bytesOf s).getD i 0) = true then octets_IsToken.l0 k s (s.size : Int) ((i + 1 : Nat) : Int) else some false) (fun k => ?_) ?_
  ·rw [octets_IsToken.l0, if_pos (by omega), if_pos (by omega), if_pos (by omega), bt_at', hw]
   exact (tokO_bind _ _).trans (by rw [tokO_tok hcb, Option.bind_some])
  ·cases h : tok ((bytesOf s).getD i 0)
   ·exact Ev.now _
   ·exact ih (i + 1) (by omega)
end Go.Proofs.YtjadlnmphcoioaaGreatDoor.Pure
