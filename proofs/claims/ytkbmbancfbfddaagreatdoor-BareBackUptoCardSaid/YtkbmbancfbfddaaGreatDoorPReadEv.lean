/- Read answers at every text: its parts. (Carved out of XPReadTot.) -/
import Derived.Test.YtkbmbancfbfddaaGreatDoorPB64Back
import Derived.Test.YtkbmbancfbfddaaGreatDoorPUnHex
import Derived.Test.YtkbmbancfbfddaaGreatDoorX6
import Derived.Lib.RuneCount
namespace Go.Proofs.YtkbmbancfbfddaaGreatDoor.Pure
open Go.RowKit Go.Proofs.YtkbmbancfbfddaaGreatDoor.X Go.Proofs.YtkbmbancfbfddaaGreatDoorW.PrintWords Go.Proofs.YtkbmbancfbfddaaGreatDoorW.PrintLast Go.Proofs.YtkbmbancfbfddaaGreatDoorW.PrintMore

theorem ev_unique {α : Type} {g : Nat → Option α} {r r' : α} (h : Ev g r) (h' : Ev g r') : r = r' := by
 obtain ⟨K, hK⟩ := h
 obtain ⟨K', hK'⟩ := h'
 exact Option.some.inj ((hK (K + K') (by omega)).symm.trans (hK' (K + K') (by omega)))
theorem everO_ev {α : Type} {g : Nat → Option α} {r : α} (hg : ∀ k, LeO (g k) (g (k + 1))) (h : Ev g r) : everO g = some r := by
 cases he : everO g with
 | none =>
  unfold everO at he
  rw [dif_pos ⟨r, Ev.rounds h⟩] at he
  cases he
 | some x =>
  obtain ⟨k, hk⟩ := everO_some he
  rw [ev_unique (Ev.of hg hk) h]
theorem scan_rng (len : Nat) : ∀ (l : List Int) (i n : Nat), (scan len l i n).1 ≤ n ∧ ∀ j, (scan len l i n).2 = some j → j < i + l.length := by
 intro l
 induction l with
 | nil => intro i n; exact ⟨Nat.le_refl _, fun j h => by cases h⟩
 | cons c t ih =>
  intro i n
  unfold scan
  simp only [List.length_cons]
  split
  ·obtain ⟨h1, h2⟩ := ih (i + 1) (min n i)
   exact ⟨by omega, fun j h => by have := h2 j h; omega⟩
  ·split
   ·split
    ·exact ⟨Nat.le_refl _, fun j h => by simp only [Option.some.injEq] at h; omega⟩
    ·obtain ⟨h1, h2⟩ := ih (i + 1) n
     exact ⟨h1, fun j h => by have := h2 j h; omega⟩
   ·exact ⟨Nat.le_refl _, fun j h => by simp only [Option.some.injEq] at h; omega⟩
theorem ub_rng (cs : List Int) : -1 ≤ (ub cs).2.2 ∧ (ub cs).2.2 ≤ (cs.length : Int) := by
 obtain ⟨h1, h2⟩ := scan_rng cs.length cs 0 cs.length
 unfold ub
 generalize scan cs.length cs 0 cs.length = p at *
 obtain ⟨n, o⟩ := p
 cases o with
 | some i =>
  have := h2 i rfl
  simp only
  omega
 | none =>
  simp only at h1 ⊢
  split
  ·simp only; omega
  ·unfold ubEnd
   split <;> (simp only; omega)
theorem unGo_len : ∀ (cs : List Int) (i : Nat) (out : List Int), (unGo cs i out).2.1 = 0 → (i + cs.length) % 2 = 0 ∧ (unGo cs i out).1.length + (i + 1) / 2 = out.length + (i + cs.length + 1) / 2 := by
 intro cs
 induction cs with
 | nil =>
  intro i out h
  unfold unGo at h ⊢
  split at h
  ·cases h
  ·rename_i h1
   rw [if_neg h1]
   exact ⟨by simp only [List.length_nil]; omega, by simp⟩
 | cons c t ih =>
  intro i out h
  unfold unGo at h ⊢
  simp only [List.length_cons]
  by_cases h1 : nib c < 0
  ·rw [if_pos h1] at h
   cases h
  rw [if_neg h1] at h ⊢
  by_cases h2 : i % 2 = 0
  ·rw [if_pos h2] at h ⊢
   have := ih (i + 1) _ h
   rw [List.length_append] at this
   simp only [List.length_cons, List.length_nil] at this
   omega
  ·rw [if_neg h2] at h ⊢
   have := ih (i + 1) _ h
   rw [List.length_set] at this
   omega
theorem unHx_f (a : ByteArray) (h : a.size ≤ 140737488355328) : unHx a = some (unGo (bytesOf a) 0 []) := by
 unfold unHx
 exact everO_ev (fun k => octets_Unhex.mono a k) (unhex_f a h)
theorem lower_some (a : ByteArray) (h : a.size ≤ 140737488355328) : ∃ l, octets_Lower.f a = some l := by
 unfold octets_Lower.f octets_turned.f
 rw [if_pos (by omega)]
 exact ⟨_, rfl⟩
theorem valid_ev (s : ByteArray) : ∀ (d pos : Nat), s.size ≤ pos + d → ∃ r, Ev (fun k => utf_Valid.l0 k s pos) r := by
 intro d
 induction d using Nat.strongRecOn with
 | _ d ih =>
  intro pos h
  by_cases hlt : pos < s.size
  ·have hw := Lib.decode_width_pos s pos hlt
   by_cases hwr : wrongAt s pos = true
   ·exact ⟨(false, (pos : Int)), Ev.step (f := fun _ => some (false, (pos : Int))) (fun k => by rw [utf_Valid.l0, if_pos hlt, if_pos hwr]) (Ev.now _)⟩
   ·obtain ⟨r, hr⟩ := ih (d - (Utf8.decode s pos).2) (by omega) (pos + (Utf8.decode s pos).2) (by omega)
    exact ⟨r, Ev.step (f := fun k => utf_Valid.l0 k s (pos + (Utf8.decode s pos).2)) (fun k => by rw [utf_Valid.l0, if_pos hlt, if_neg hwr]) hr⟩
  ·exact ⟨(true, 0), Ev.step (f := fun _ => some (true, (0 : Int))) (fun k => by rw [utf_Valid.l0, if_neg hlt]) (Ev.now _)⟩
end Go.Proofs.YtkbmbancfbfddaaGreatDoor.Pure
