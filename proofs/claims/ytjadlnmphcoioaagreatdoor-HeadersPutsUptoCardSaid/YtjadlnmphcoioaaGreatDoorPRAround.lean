/- What the page's IsToken and Around compute: as octets'. (Carved out of XPureOctetsTextsU.) -/
import Derived.Test.YtjadlnmphcoioaaGreatDoorPTok
import Derived.Test.YtjadlnmphcoioaaGreatDoorPTrim
import Derived.Test.YtjadlnmphcoioaaGreatDoorX8
import Derived.Test.YtjadlnmphcoioaaGreatDoorX9
namespace Go.Proofs.YtjadlnmphcoioaaGreatDoor.Pure
open Go.RowKit Go.Proofs.YtjadlnmphcoioaaGreatDoor.X Go.Proofs.YtjadlnmphcoioaaGreatDoorW.PrintWords Go.Proofs.YtjadlnmphcoioaaGreatDoorW.PrintLast Go.Proofs.YtjadlnmphcoioaaGreatDoorW.PrintMore

theorem token_f {c : Int} (h : 0 ≤ c ∧ c < 256) : Ev (fun k => pergolaref01_Token.f k c) (tok c) :=
 Ev.of (pergolaref01_Token.mono c) (k := 40) (byte_all (p := fun c => pergolaref01_Token.f 40 c = some (tok c)) (by decide +kernel) h)
theorem rtok_l0 (s : ByteArray) (hs : s.size ≤ 1048576) (d : Nat) : ∀ (i : Nat), i + d = s.size → Ev (fun k => pergolaref01_IsToken.l0 k s (i : Int)) (((bytesOf s).drop i).all tok && decide (0 < s.size)) := by
 have hl := bytesOf_length s
 induction d with
 | zero =>
  intro i hi
  rw [List.drop_of_length_le (by omega)]
  refine Ev.step (f := fun _ => some (decide ((s.size : Int) > 0))) (fun k => ?_) (ev_some ?_)
  ·rw [pergolaref01_IsToken.l0, if_neg (by omega)]
  ·simp
 | succ d ih =>
  intro i hi
  have hw : wrap64 ((i : Int) + 1) = ((i + 1 : Nat) : Int) := by unfold wrap64; omega
  have hcb := (Bytes.of s).at_ i
  rw [getD_drop (show i < (bytesOf s).length by omega), List.all_cons]
  refine Ev.step (f := fun k => (pergolaref01_Token.f k ((bytesOf s).getD i 0)).bind fun t => if t = true then pergolaref01_IsToken.l0 k s ((i + 1 : Nat) : Int) else some false) (fun k => ?_) (Ev.bind (token_f hcb) ?_)
  ·rw [pergolaref01_IsToken.l0, if_pos (by omega), if_pos (by omega), bt_at', hw]
  ·cases h : tok ((bytesOf s).getD i 0)
   ·exact Ev.now _
   ·exact ih (i + 1) (by omega)
def HasIs (t : ByteArray) (cs : List UInt8) : Prop := ∀ c : Int, 0 ≤ c ∧ c < 256 → Ev (fun k => pergolaref01_Has.f k t c) (cs.contains (UInt8.ofNat c.toNat))
theorem has_tab : HasIs ⟨#[9, 32]⟩ [9, 32] := fun c h =>
 Ev.of (pergolaref01_Has.mono _ c) (k := 40) (byte_all (p := fun c => pergolaref01_Has.f 40 ⟨#[9, 32]⟩ c = some (([9, 32] : List UInt8).contains (UInt8.ofNat c.toNat))) (by decide +kernel) h)
theorem has_at {t : ByteArray} {cs : List UInt8} (h : HasIs t cs) (s : ByteArray) (i : Nat) (hi : i < s.size) : Ev (fun k => pergolaref01_Has.f k t (bt s (i : Int))) (cs.contains (s[i]'hi)) := by
 have e : UInt8.ofNat (bt s (i : Int)).toNat = s[i]'hi := by
  rw [← bt_at s (i : Int) hi]
  simp
 have := h (bt s (i : Int)) (by rw [bt_at']; exact (Bytes.of s).at_ i)
 rw [e] at this
 exact this
theorem row_size (s : ByteArray) : s.data.toList.length = s.size := (Lib.size_eq s).symm
theorem around_l1 (t : ByteArray) (cs : List UInt8) (ht : HasIs t cs) (n : Nat) : ∀ (s : ByteArray), s.size = n → n ≤ 1048576 → Ev (fun k => pergolaref01_around.l1 k s t) ⟨(Lib.trimRightS s.data.toList cs).toArray⟩ := by
 induction n with
 | zero =>
  intro s hs _
  refine Ev.step (f := fun _ => some s) (fun k => ?_) (ev_some ?_)
  ·rw [pergolaref01_around.l1, if_neg (by omega)]
  ·have : s.data.toList = [] := List.eq_nil_of_length_eq_zero (by rw [row_size]; exact hs)
   rw [this]
   congr 1
   rw [← Lib.mk_data s, this]
   rfl
 | succ n ih =>
  intro s hs hn
  have hw : wrap64 ((s.size : Int) - 1) = ((n : Nat) : Int) := by unfold wrap64; omega
  have h1 : n < s.size := by omega
  refine Ev.step (f := fun k => (pergolaref01_Has.f k t (bt s (n : Int))).bind fun t223 => (if t223 = true then pergolaref01_around.l1 k (s.extract 0 n) t else some s)) (fun k => ?_) (Ev.bind (has_at ht s n h1) ?_)
  ·rw [pergolaref01_around.l1, hw, if_pos (by omega), if_pos (by omega), if_pos (by omega), if_pos (by omega)]
   rfl
  ·have hstep := trimR_step s cs (by omega)
   have hstop := trimR_stop s cs (by omega)
   have e : s.size - 1 = n := by omega
   simp only [e] at hstep hstop
   cases h : cs.contains (s[n]'h1)
   ·rw [hstop h, Lib.mk_data]
    exact Ev.now _
   ·have := ih (s.extract 0 n) (by simp [ByteArray.size_extract]; omega) (by omega)
    rw [hstep h] at this
    exact this
theorem around_l0 (t : ByteArray) (cs : List UInt8) (ht : HasIs t cs) (n : Nat) : ∀ (s : ByteArray), s.size = n → n ≤ 1048576 → Ev (fun k => pergolaref01_around.l0 k s t) ⟨(Lib.trimRightS (Lib.trimLeftS s.data.toList cs) cs).toArray⟩ := by
 induction n with
 | zero =>
  intro s hs _
  have hnil : s.data.toList = [] := List.eq_nil_of_length_eq_zero (by rw [row_size]; exact hs)
  have h1 := around_l1 t cs ht 0 s hs (by omega)
  rw [hnil] at h1
  rw [hnil]
  refine Ev.step (f := fun k => pergolaref01_around.j1 k s t) (fun k => ?_) (Ev.step (fun k => ?_) h1)
  ·rw [pergolaref01_around.l0, if_neg (by omega)]
  ·rw [pergolaref01_around.j1]
 | succ n ih =>
  intro s hs hn
  have h0 : 0 < s.size := by omega
  refine Ev.step (f := fun k => (pergolaref01_Has.f k t (bt s ((0 : Nat) : Int))).bind fun t222 => (if t222 = true then pergolaref01_around.l0 k (s.extract 1 s.size) t else pergolaref01_around.j1 k s t)) (fun k => ?_) (Ev.bind (has_at ht s 0 h0) ?_)
  ·rw [pergolaref01_around.l0, if_pos (by omega), if_pos (by omega), if_pos (by omega)]
   rfl
  ·have hstep := trimL_step s cs h0
   have hstop := trimL_stop s cs h0
   cases h : cs.contains (s[0]'h0)
   ·rw [hstop h]
    refine Ev.congr (fun k => ?_) (Ev.step (f := fun k => pergolaref01_around.l1 k s t) (g := fun k => pergolaref01_around.j1 k s t) (fun k => ?_) (around_l1 t cs ht (n + 1) s hs hn))
    ·rw [if_neg (by decide)]
    ·rw [pergolaref01_around.j1]
   ·have := ih (s.extract 1 s.size) (by simp [ByteArray.size_extract]; omega) (by omega)
    rw [hstep h] at this
    exact this
theorem around_f (t : ByteArray) (cs : List UInt8) (ht : HasIs t cs) (s : ByteArray) (hs : s.size ≤ 1048576) : Ev (fun k => pergolaref01_around.f k s t) (around s cs) := by
 have := around_l0 t cs ht s.size s rfl hs
 rw [around_comm] at this
 exact this

/-! Parts and words -/
theorem has_four : HasIs ⟨#[9, 10, 13, 32]⟩ [9, 10, 13, 32] := fun c h =>
 Ev.of (pergolaref01_Has.mono _ c) (k := 40) (byte_all (p := fun c => pergolaref01_Has.f 40 ⟨#[9, 10, 13, 32]⟩ c = some (([9, 10, 13, 32] : List UInt8).contains (UInt8.ofNat c.toNat))) (by decide +kernel) h)
theorem ev_not {α : Type} {c : Prop} [Decidable c] (h : ¬ c) {f g : Nat → Option α} {r : α} (hf : Ev g r) : Ev (fun k => if c then f k else g k) r := Ev.congr (fun _ => if_neg h) hf
end Go.Proofs.YtjadlnmphcoioaaGreatDoor.Pure
