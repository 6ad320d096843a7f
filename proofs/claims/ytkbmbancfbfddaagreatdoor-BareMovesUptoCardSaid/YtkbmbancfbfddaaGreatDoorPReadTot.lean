/- Read answers at every text; where its places lie. -/
import Derived.Test.YtkbmbancfbfddaaGreatDoorPUn64
import Derived.Test.YtkbmbancfbfddaaGreatDoorPUnHex
import Derived.Test.YtkbmbancfbfddaaGreatDoorPBehind
import Derived.Test.YtkbmbancfbfddaaGreatDoorX6
import Derived.Lib.RuneCount
namespace Go.Proofs.YtkbmbancfbfddaaGreatDoor.Pure
open Go.RowKit Go.Proofs.YtkbmbancfbfddaaGreatDoor.X Go.Proofs.YtkbmbancfbfddaaGreatDoorW.PrintWords Go.Proofs.YtkbmbancfbfddaaGreatDoorW.PrintLast Go.Proofs.YtkbmbancfbfddaaGreatDoorW.PrintMore

theorem ev_unique {α : Type} {g : Nat → Option α} {r r' : α} (h : Ev g r) (h' : Ev g r') : r = r' := by
 obtain ⟨K, hK⟩ := h
 obtain ⟨K', hK'⟩ := h'
 exact Option.some.inj ((hK (K + K') (by omega)).symm.trans (hK' (K + K') (by omega)))
theorem everO_ev {α : Type} {g : Nat → Option α} {r : α} (hg : ∀ k, LeO (g k) (g (k + 1))) (h : Ev g r) : everO g = some r := by
 cases he : everO g with
 | none =>
  unfold everO at he
  rw [dif_pos ⟨r, Ev.rounds h⟩] at he
  cases he
 | some x =>
  obtain ⟨k, hk⟩ := everO_some he
  rw [ev_unique (Ev.of hg hk) h]
theorem scan_rng (len : Nat) : ∀ (l : List Int) (i n : Nat), (scan len l i n).1 ≤ n ∧ ∀ j, (scan len l i n).2 = some j → j < i + l.length := by
 intro l
 induction l with
 | nil => intro i n; exact ⟨Nat.le_refl _, fun j h => by cases h⟩
 | cons c t ih =>
  intro i n
  unfold scan
  simp only [List.length_cons]
  split
  ·obtain ⟨h1, h2⟩ := ih (i + 1) (min n i)
   exact ⟨by omega, fun j h => by have := h2 j h; omega⟩
  ·split
   ·split
    ·exact ⟨Nat.le_refl _, fun j h => by simp only [Option.some.injEq] at h; omega⟩
    ·obtain ⟨h1, h2⟩ := ih (i + 1) n
     exact ⟨h1, fun j h => by have := h2 j h; omega⟩
   ·exact ⟨Nat.le_refl _, fun j h => by simp only [Option.some.injEq] at h; omega⟩
theorem ub_rng (cs : List Int) : -1 ≤ (ub cs).2.2 ∧ (ub cs).2.2 ≤ (cs.length : Int) := by
 obtain ⟨h1, h2⟩ := scan_rng cs.length cs 0 cs.length
 unfold ub
 generalize scan cs.length cs 0 cs.length = p at *
 obtain ⟨n, o⟩ := p
 cases o with
 | some i =>
  have := h2 i rfl
  simp only
  omega
 | none =>
  simp only at h1 ⊢
  split
  ·simp only; omega
  ·unfold ubEnd
   split <;> (simp only; omega)
theorem un64_some (a : ByteArray) (h : a.size ≤ 140737488355328) : ∃ r, Go.Proofs.YtkbmbancfbfddaaGreatDoor.X.un64 a = some r ∧ -1 ≤ r.2.2 ∧ r.2.2 ≤ (a.size : Int) := by
 have hr := ub_rng (bytesOf a)
 rw [bytesOf_length] at hr
 refine ⟨ub (bytesOf a), ?_, hr⟩
 unfold Go.Proofs.YtkbmbancfbfddaaGreatDoor.X.un64
 rw [everO_ev (fun k => octets_Unbase64.mono a k) (unbase64_f a h), Option.bind_some, if_pos hr]
theorem unGo_len : ∀ (cs : List Int) (i : Nat) (out : List Int), (unGo cs i out).2.1 = 0 → (i + cs.length) % 2 = 0 ∧ (unGo cs i out).1.length + (i + 1) / 2 = out.length + (i + cs.length + 1) / 2 := by
 intro cs
 induction cs with
 | nil =>
  intro i out h
  unfold unGo at h ⊢
  split at h
  ·cases h
  ·rename_i h1
   rw [if_neg h1]
   exact ⟨by simp only [List.length_nil]; omega, by simp⟩
 | cons c t ih =>
  intro i out h
  unfold unGo at h ⊢
  simp only [List.length_cons]
  by_cases h1 : nib c < 0
  ·rw [if_pos h1] at h
   cases h
  rw [if_neg h1] at h ⊢
  by_cases h2 : i % 2 = 0
  ·rw [if_pos h2] at h ⊢
   have := ih (i + 1) _ h
   rw [List.length_append] at this
   simp only [List.length_cons, List.length_nil] at this
   omega
  ·rw [if_neg h2] at h ⊢
   have := ih (i + 1) _ h
   rw [List.length_set] at this
   omega
theorem unHx_f (a : ByteArray) (h : a.size ≤ 140737488355328) : unHx a = some (unGo (bytesOf a) 0 []) := by
 unfold unHx
 exact everO_ev (fun k => octets_Unhex.mono a k) (unhex_f a h)
theorem lower_some (a : ByteArray) (h : a.size ≤ 140737488355328) : ∃ l, octets_Lower.f a = some l := by
 unfold octets_Lower.f octets_turned.f
 rw [if_pos (by omega)]
 exact ⟨_, rfl⟩
theorem valid_ev (s : ByteArray) : ∀ (d pos : Nat), s.size ≤ pos + d → ∃ r, Ev (fun k => utf_Valid.l0 k s pos) r := by
 intro d
 induction d using Nat.strongRecOn with
 | _ d ih =>
  intro pos h
  by_cases hlt : pos < s.size
  ·have hw := Lib.decode_width_pos s pos hlt
   by_cases hwr : wrongAt s pos = true
   ·exact ⟨(false, (pos : Int)), Ev.step (f := fun _ => some (false, (pos : Int))) (fun k => by rw [utf_Valid.l0, if_pos hlt, if_pos hwr]) (Ev.now _)⟩
   ·obtain ⟨r, hr⟩ := ih (d - (Utf8.decode s pos).2) (by omega) (pos + (Utf8.decode s pos).2) (by omega)
    exact ⟨r, Ev.step (f := fun k => utf_Valid.l0 k s (pos + (Utf8.decode s pos).2)) (fun k => by rw [utf_Valid.l0, if_pos hlt, if_neg hwr]) hr⟩
  ·exact ⟨(true, 0), Ev.step (f := fun _ => some (true, (0 : Int))) (fun k => by rw [utf_Valid.l0, if_neg hlt]) (Ev.now _)⟩
theorem vaF_some (a : ByteArray) : ∃ r, vaF a = some r := by
 obtain ⟨r, hr⟩ := valid_ev a a.size 0 (by omega)
 exact ⟨r, everO_ev (fun k => utf_Valid.mono a k) hr⟩

/-! where the places lie -/
/-- A fault is no 0; the places lie by the text. -/
def Lies (s : ByteArray) : RR → Prop
 | .inl f => f.2 ≠ 0 ∧ -1 ≤ f.1 ∧ f.1 ≤ (s.size : Int) + 3
 | .inr v => -1 ≤ v.2 ∧ v.2 ≤ (s.size : Int) + 3
section
variable (s : ByteArray)
theorem told_lies {a n dot b : Int} (h0 : 0 ≤ a) (h : a ≤ (s.size : Int)) : Lies s (rdTold a n dot b) := by
 unfold rdTold
 split
 ·exact ⟨by simp only; omega, by simp only; omega⟩
 ·split
  ·exact ⟨by simp, by simp only; omega, by simp only; omega⟩
  ·exact ⟨by simp only; omega, by simp only; omega⟩
theorem num_lies (sg : Int) : ∀ (k : Nat) (a n d b dot : Int), 0 ≤ a → a + k = (s.size : Int) → Lies s (numE s sg a n d dot b) := by
 intro k
 induction k with
 | zero =>
  intro a n d b dot h0 h
  rw [numE_end (by omega)]
  exact told_lies s h0 (by omega)
 | succ k ih =>
  intro a n d b dot h0 h
  have hst : Lies s (.inl (a, 92)) := ⟨by simp, by simp only; omega, by simp only; omega⟩
  rw [numE_step (by omega)]
  split
  ·split
   ·split
    ·exact hst
    ·exact ih (a + 1) _ _ _ _ (by omega) (by omega)
   ·split
    ·exact hst
    ·exact ih (a + 1) _ _ _ _ (by omega) (by omega)
  ·split
   ·split
    ·exact hst
    ·exact ih (a + 1) _ _ _ _ (by omega) (by omega)
   ·exact told_lies s h0 (by omega)
theorem number_lies {a : Int} (h0 : 0 ≤ a) (h : a < (s.size : Int)) : Lies s (rdNumber s a) := by
 unfold rdNumber
 split
 ·split
  ·exact num_lies s (-1) ((s.size : Int) - (a + 1)).toNat (a + 1) 0 0 0 _ (by omega) (by omega)
  ·exact ⟨by simp, by simp only; omega, by simp only; omega⟩
 ·exact num_lies s 1 ((s.size : Int) - a).toNat a 0 0 0 _ h0 (by omega)
theorem dig_lies (f : Int) : ∀ (k : Nat) (a n : Int), 0 ≤ a → a + k = (s.size : Int) → 0 ≤ (digE s f a n).1 ∧ (digE s f a n).1 ≤ (s.size : Int) := by
 intro k
 induction k with
 | zero =>
  intro a n h0 h
  rw [digE_stop (fun h => by omega)]
  exact ⟨h0, by simp only; omega⟩
 | succ k ih =>
  intro a n h0 h
  by_cases h1 : dig (bt s a) = true ∧ a < f + 15
  ·rw [digE_step (by omega) h1.1 h1.2]
   exact ih (a + 1) _ (by omega) (by omega)
  ·rw [digE_stop (fun h => h1 h.2)]
   exact ⟨h0, by simp only; omega⟩
theorem date_lies {a : Int} (h0 : 0 ≤ a) (h : a < (s.size : Int)) : Lies s (rdDate s a) := by
 have hF : ∀ sg f (q : Int × Int), 0 ≤ q.1 → q.1 ≤ (s.size : Int) → Lies s (rdDateF s sg f q) := by
  intro sg f q h1 h2
  unfold rdDateF
  split
  ·exact ⟨by simp, by simp only; omega, by simp only; omega⟩
  ·exact ⟨by simp only; omega, by simp only; omega⟩
 unfold rdDate
 split
 ·rename_i h1
  obtain ⟨g1, g2⟩ := dig_lies s (a + 1 + 1) ((s.size : Int) - (a + 1 + 1)).toNat (a + 1 + 1) 0 (by omega) (by omega)
  exact hF _ _ _ g1 g2
 ·obtain ⟨g1, g2⟩ := dig_lies s (a + 1) ((s.size : Int) - (a + 1)).toNat (a + 1) 0 (by omega) (by omega)
  exact hF _ _ _ g1 g2
theorem text_lies : ∀ (k : Nat) (a : Int) (xs : List Int), 0 ≤ a → (s.size : Int) ≤ a + k → Lies s (textE s a xs) := by
 intro k
 induction k using Nat.strongRecOn with
 | _ k ih =>
  intro a xs h0 h
  have hsh : Lies s (.inl ((s.size : Int), 99)) := ⟨by simp, by simp only; omega, by simp only; omega⟩
  by_cases hlt : a < (s.size : Int)
  rotate_left
  ·rw [textE_end hlt]
   exact hsh
  rw [textE_step hlt]
  split
  ·exact ⟨by simp only; omega, by simp only; omega⟩
  split
  ·exact ⟨by simp, by simp only; omega, by simp only; omega⟩
  split
  ·split
   ·split
    ·exact ⟨by simp, by simp only; omega, by simp only; omega⟩
    ·exact ih (k - 2) (by omega) _ _ (by omega) (by omega)
   ·exact hsh
  ·exact ih (k - 1) (by omega) _ _ (by omega) (by omega)
theorem token_lies (T : Int → Bool) {a : Int} (h0 : 0 ≤ a) (h : a < (s.size : Int)) : Lies s (rdToken T s a) := by
 have hT : ∀ (d : Nat) (a : Int), 0 ≤ a → a + d = (s.size : Int) → 0 ≤ tokE T s a ∧ tokE T s a ≤ (s.size : Int) := by
  intro d
  induction d with
  | zero => intro a h0 h; rw [tokE_stop (fun h => by omega)]; omega
  | succ d ih =>
   intro a h0 h
   by_cases hT : T (bt s a) = true
   ·rw [tokE_step (by omega) hT]
    exact ih (a + 1) (by omega) (by omega)
   ·rw [tokE_stop (fun h => hT h.2)]; omega
 obtain ⟨g1, g2⟩ := hT ((s.size : Int) - a).toNat a h0 (by omega)
 unfold rdToken
 exact ⟨by simp only; omega, by simp only; omega⟩
theorem bool_lies {a : Int} (h0 : 0 ≤ a) (h : a < (s.size : Int)) : Lies s (rdBool s a) := by
 unfold rdBool
 split
 ·split
  ·exact ⟨by simp only; omega, by simp only; omega⟩
  ·exact ⟨by simp, by simp only; omega, by simp only; omega⟩
 ·exact ⟨by simp, by simp only; omega, by simp only; omega⟩
theorem bytes_lies (hs : s.size ≤ 140737488355327) {a : Int} (h0 : 0 ≤ a) (h : a < (s.size : Int)) : ∃ R, rdBytes ixCol Go.Proofs.YtkbmbancfbfddaaGreatDoor.X.un64 s a = some R ∧ Lies s R := by
 have hi := ixCol_lt (s.extract (a + 1).toNat s.size)
 rw [show ((s.extract (a + 1).toNat s.size).size : Int) = s.size - (a + 1) by simp; omega] at hi
 unfold rdBytes
 generalize ixCol (s.extract (a + 1).toNat s.size) = i at *
 by_cases h1 : i < 0
 ·rw [if_pos h1]
  exact ⟨_, rfl, by simp, by simp only; omega, by simp only; omega⟩
 ·rw [if_neg h1]
  have hz : ((s.extract (a + 1).toNat (a + 1 + i).toNat).size : Int) = i := by simp; omega
  obtain ⟨r, hr, g1, g2⟩ := un64_some (s.extract (a + 1).toNat (a + 1 + i).toNat) (by omega)
  rw [hr, Option.bind_some]
  rw [hz] at g2
  refine ⟨_, rfl, ?_⟩
  split
  ·exact ⟨by simp only; omega, by simp only; omega⟩
  ·exact ⟨by simp, by simp only; omega, by simp only; omega⟩
theorem disp_lies (hs : s.size ≤ 140737488355327) (f : Int) (hf : 0 ≤ f) (hf2 : f ≤ (s.size : Int)) : ∀ (k : Nat) (a : Int) (xs : List Int), 0 ≤ a → (s.size : Int) ≤ a + k → ∃ R, dispE vaF unHx octets_Lower.f s f a xs = some R ∧ Lies s R := by
 intro k
 induction k using Nat.strongRecOn with
 | _ k ih =>
  intro a xs h0 h
  by_cases hlt : a < (s.size : Int)
  rotate_left
  ·rw [dispE_end _ _ _ hlt]
   exact ⟨_, rfl, by simp, by simp only; omega, by simp only; omega⟩
  rw [dispE_step _ _ _ hlt]
  have hst : Lies s (.inl (a, 97)) := ⟨by simp, by simp only; omega, by simp only; omega⟩
  split
  ·obtain ⟨r, hr⟩ := vaF_some (strOfNums xs)
   rw [hr, Option.bind_some]
   refine ⟨_, rfl, ?_⟩
   split
   ·exact ⟨by simp only; omega, by simp only; omega⟩
   ·exact ⟨by simp, by simp only; omega, by simp only; omega⟩
  split
  ·exact ⟨_, rfl, hst⟩
  split
  ·have hz : ((hexAt s a).size : Int) = (if a + 1 + 2 < (s.size : Int) then a + 1 + 2 else (s.size : Int)) - (a + 1) := by
    unfold hexAt
    simp
    split <;> omega
   have hzle : (hexAt s a).size ≤ 140737488355328 := by
    split at hz <;> omega
   rw [unHx_f (hexAt s a) hzle, Option.bind_some]
   by_cases h4 : (unGo (bytesOf (hexAt s a)) 0 []).2.1 = 0 ∧ (unGo (bytesOf (hexAt s a)) 0 []).1.length = 1
   ·rw [if_pos h4]
    obtain ⟨e1, e2⟩ := unGo_len _ _ _ h4.1
    rw [h4.2, bytesOf_length] at e2
    rw [bytesOf_length] at e1
    simp only [List.length_nil] at e2
    have h2 : a + 1 + 2 ≤ (s.size : Int) := by
     split at hz <;> omega
    obtain ⟨l, hl⟩ := lower_some (hexAt s a) hzle
    rw [hl, Option.bind_some]
    by_cases h5 : l = hexAt s a
    ·rw [if_pos h5, if_pos h2]
     exact ih (k - 3) (by omega) _ _ (by omega) (by omega)
    ·rw [if_neg h5]
     exact ⟨_, rfl, hst⟩
   ·rw [if_neg h4]
    exact ⟨_, rfl, hst⟩
  ·exact ih (k - 1) (by omega) _ _ (by omega) (by omega)
theorem display_lies (hs : s.size ≤ 140737488355327) {a : Int} (h0 : 0 ≤ a) (h : a < (s.size : Int)) : ∃ R, rdDisplay vaF unHx octets_Lower.f s a = some R ∧ Lies s R := by
 unfold rdDisplay
 split
 ·exact disp_lies s hs a h0 (by omega) s.size (a + 1 + 1) [] (by omega) (by omega)
 ·exact ⟨_, rfl, by simp, by simp only; omega, by simp only; omega⟩
theorem item_lies (hs : s.size ≤ 140737488355327) {a : Int} (h0 : 0 ≤ a) (h : a < (s.size : Int)) : ∃ R, rdItem inTok letB ixCol Go.Proofs.YtkbmbancfbfddaaGreatDoor.X.un64 vaF unHx octets_Lower.f s a = some R ∧ Lies s R := by
 unfold rdItem
 split
 ·exact ⟨_, rfl, number_lies s h0 h⟩
 split
 ·exact ⟨_, rfl, text_lies s s.size (a + 1) [] (by omega) (by omega)⟩
 split
 ·exact ⟨_, rfl, token_lies s inTok h0 h⟩
 split
 ·exact bytes_lies s hs h0 h
 split
 ·exact ⟨_, rfl, bool_lies s h0 h⟩
 split
 ·exact ⟨_, rfl, date_lies s h0 h⟩
 split
 ·exact display_lies s hs h0 h
 ·exact ⟨_, rfl, by simp, by simp only; omega, by simp only; omega⟩
end
end Go.Proofs.YtkbmbancfbfddaaGreatDoor.Pure
