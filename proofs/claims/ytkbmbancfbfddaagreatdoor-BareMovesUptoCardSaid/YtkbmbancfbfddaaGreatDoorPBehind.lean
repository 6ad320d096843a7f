/- Bytes behind that could not go on change nothing. -/
import Derived.Test.YtkbmbancfbfddaaGreatDoorPShift
namespace Go.Proofs.YtkbmbancfbfddaaGreatDoor.Pure
open Go.RowKit Go.Proofs.YtkbmbancfbfddaaGreatDoorW.PrintWords Go.Proofs.YtkbmbancfbfddaaGreatDoorW.PrintLast Go.Proofs.YtkbmbancfbfddaaGreatDoorW.PrintMore

section
variable (s t : ByteArray)
theorem bt_fore {i : Int} (h0 : 0 ≤ i) (h : i < (s.size : Int)) : bt (s ++ t) i = bt s i := by
 obtain ⟨n, rfl⟩ : ∃ n : Nat, i = (n : Int) := ⟨i.toNat, by omega⟩
 rw [bt_at', bt_at', bytesOf_append]
 have hl := bytesOf_length s
 rw [List.getD_eq_getElem?_getD, List.getD_eq_getElem?_getD, List.getElem?_append_left (by omega)]
theorem extract_fore {a e : Nat} (h : e ≤ s.size) : (s ++ t).extract a e = s.extract a e := by
 apply ByteArray.ext
 rw [ByteArray.data_extract, ByteArray.data_extract, ByteArray.data_append]
 apply Array.ext'
 rw [Array.toList_extract, Array.toList_extract, Array.toList_append]
 simp only [List.extract_eq_take_drop]
 have hl : s.data.toList.length = s.size := by rw [Array.length_toList]; rfl
 by_cases ha : a ≤ s.size
 ·rw [List.drop_append, List.take_append_of_le_length (by rw [List.length_drop]; omega)]
 ·rw [show e - a = 0 by omega, List.take_zero, List.take_zero]
theorem extract_behind {a : Nat} (h : a ≤ s.size) : (s ++ t).extract a (s ++ t).size = s.extract a s.size ++ t := by
 apply ByteArray.ext
 rw [ByteArray.data_extract, ByteArray.data_append, ByteArray.data_append, ByteArray.data_extract]
 apply Array.ext'
 rw [Array.toList_extract, Array.toList_append, Array.toList_append, Array.toList_extract]
 simp only [List.extract_eq_take_drop]
 have hl : s.data.toList.length = s.size := by rw [Array.length_toList]; rfl
 have hm : t.data.toList.length = t.size := by rw [Array.length_toList]; rfl
 rw [List.drop_append, List.take_of_length_le (by rw [ByteArray.size_append, List.length_append, List.length_drop, List.length_drop]; omega), List.take_of_length_le (by rw [List.length_drop]; omega), show a - s.data.toList.length = 0 by omega, List.drop_zero]
variable (c : Int) (hc : bt (s ++ t) (s.size : Int) = c) (ht : 0 < t.size) (hd : dig c = false) (h46 : c ≠ 46) (h45 : c ≠ 45)
theorem size_more : ((s ++ t : ByteArray).size : Int) = s.size + t.size := by
 rw [ByteArray.size_append]
 omega
include hc ht
theorem tokE_fore (T : Int → Bool) (hT : T c = false) : ∀ (d : Nat) (a : Int), 0 ≤ a → a + d = (s.size : Int) → tokE T (s ++ t) a = tokE T s a ∧ tokE T s a ≤ (s.size : Int) := by
 have hz := size_more s t
 intro d
 induction d with
 | zero =>
  intro a h0 h
  have ha : a = (s.size : Int) := by omega
  rw [tokE_stop (s := s) (fun h => by omega), tokE_stop (fun h => by rw [ha, hc, hT] at h; exact absurd h.2 (by decide))]
  exact ⟨rfl, by omega⟩
 | succ d ih =>
  intro a h0 h
  by_cases h1 : T (bt s a) = true
  ·rw [tokE_step (s := s) (by omega) h1, tokE_step (by omega) (by rw [bt_fore s t h0 (by omega)]; exact h1)]
   exact ih (a + 1) (by omega) (by omega)
  ·rw [tokE_stop (s := s) (fun h => h1 h.2), tokE_stop (fun h => h1 (by rw [← bt_fore s t h0 (by omega)]; exact h.2))]
   exact ⟨rfl, by omega⟩
theorem token_fore (T : Int → Bool) (hT : T c = false) {a : Int} (h0 : 0 ≤ a) (h : a ≤ (s.size : Int)) : rdToken T (s ++ t) a = rdToken T s a := by
 obtain ⟨e, hle⟩ := tokE_fore s t c hc ht T hT ((s.size : Int) - a).toNat a h0 (by omega)
 unfold rdToken
 rw [e, extract_fore s t (by omega)]
include hd h46
theorem num_fore (sg : Int) : ∀ (k : Nat) (a n d b dot : Int), 0 ≤ a → a + k = (s.size : Int) → numE (s ++ t) sg a n d dot b = numE s sg a n d dot b := by
 have hz := size_more s t
 intro k
 induction k with
 | zero =>
  intro a n d b dot h0 h
  have ha : a = (s.size : Int) := by omega
  rw [numE_end (s := s) (by omega), numE_step (by omega), ha, hc, if_neg (by rw [hd]; decide), if_neg (fun e => h46 e.1)]
 | succ k ih =>
  intro a n d b dot h0 h
  rw [numE_step (s := s) (by omega), numE_step (show a < ((s ++ t : ByteArray).size : Int) by omega), bt_fore s t h0 (by omega)]
  split
  ·split
   ·split
    ·rfl
    ·exact ih (a + 1) _ _ _ _ (by omega) (by omega)
   ·split
    ·rfl
    ·exact ih (a + 1) _ _ _ _ (by omega) (by omega)
  ·split
   ·split
    ·rfl
    ·exact ih (a + 1) _ _ _ _ (by omega) (by omega)
   ·rfl
theorem number_fore {a : Int} (h0 : 0 ≤ a) (h : a < (s.size : Int)) : rdNumber (s ++ t) a = rdNumber s a := by
 have hz := size_more s t
 unfold rdNumber
 rw [bt_fore s t h0 h]
 by_cases h1 : bt s a = 45
 ·rw [if_pos h1, if_pos h1]
  by_cases h2 : a + 1 < (s.size : Int)
  ·rw [bt_fore s t (by omega) h2]
   by_cases h3 : dig (bt s (a + 1)) = true
   ·rw [if_pos ⟨by omega, h3⟩, if_pos ⟨h2, h3⟩]
    exact num_fore s t c hc ht hd h46 (-1) ((s.size : Int) - (a + 1)).toNat (a + 1) 0 0 0 _ (by omega) (by omega)
   ·rw [if_neg (fun e => h3 e.2), if_neg (fun e => h3 e.2)]
  ·have ha : a + 1 = (s.size : Int) := by omega
   rw [if_neg (fun e => by rw [ha, hc, hd] at e; exact absurd e.2 (by decide)), if_neg (fun e => h2 e.1)]
 ·rw [if_neg h1, if_neg h1]
  exact num_fore s t c hc ht hd h46 1 ((s.size : Int) - a).toNat a 0 0 0 _ h0 (by omega)
omit h46 in
theorem dig_fore (f : Int) : ∀ (k : Nat) (a n : Int), 0 ≤ a → a + k = (s.size : Int) → digE (s ++ t) f a n = digE s f a n ∧ 0 ≤ (digE s f a n).1 ∧ (digE s f a n).1 ≤ (s.size : Int) := by
 have hz := size_more s t
 intro k
 induction k with
 | zero =>
  intro a n h0 h
  have ha : a = (s.size : Int) := by omega
  rw [digE_stop (s := s) (fun h => by omega), digE_stop (fun h => by rw [ha, hc, hd] at h; exact absurd h.2.1 (by decide))]
  exact ⟨rfl, h0, by simp only; omega⟩
 | succ k ih =>
  intro a n h0 h
  by_cases h1 : dig (bt s a) = true ∧ a < f + 15
  ·rw [digE_step (s := s) (by omega) h1.1 h1.2, digE_step (by omega) (by rw [bt_fore s t h0 (by omega)]; exact h1.1) h1.2, bt_fore s t h0 (by omega)]
   exact ih (a + 1) _ (by omega) (by omega)
  ·rw [digE_stop (s := s) (fun h => h1 h.2), digE_stop (fun h => h1 ⟨by rw [← bt_fore s t h0 (by omega)]; exact h.2.1, h.2.2⟩)]
   exact ⟨rfl, h0, by simp only; omega⟩
theorem dateF_fore (sg f : Int) (q : Int × Int) (hq : 0 ≤ q.1) (hq2 : q.1 ≤ (s.size : Int)) : rdDateF (s ++ t) sg f q = rdDateF s sg f q := by
 have hz := size_more s t
 unfold rdDateF
 by_cases h : q.1 < (s.size : Int)
 ·rw [bt_fore s t hq h]
  by_cases h2 : q.1 = f ∨ (q.1 < (s.size : Int) ∧ (dig (bt s q.1) = true ∨ bt s q.1 = 46))
  ·rw [if_pos h2, if_pos (h2.imp id (fun e => ⟨by omega, e.2⟩))]
  ·rw [if_neg h2, if_neg (fun e => h2 (e.imp id (fun e => ⟨h, e.2⟩)))]
 ·have ha : q.1 = (s.size : Int) := by omega
  rw [ha, hc]
  by_cases h2 : (s.size : Int) = f
  ·rw [if_pos (.inl h2), if_pos (.inl h2)]
  ·rw [if_neg (fun e => e.elim h2 (fun e => e.2.elim (fun e => by rw [hd] at e; cases e) h46)), if_neg (fun e => e.elim h2 (fun e => by omega))]
include h45
theorem date_fore {a : Int} (h0 : 0 ≤ a) (h : a < (s.size : Int)) : rdDate (s ++ t) a = rdDate s a := by
 have hz := size_more s t
 unfold rdDate
 by_cases h1 : a + 1 < (s.size : Int)
 ·rw [bt_fore s t (by omega) h1]
  by_cases h2 : bt s (a + 1) = 45
  ·rw [if_pos ⟨by omega, h2⟩, if_pos ⟨h1, h2⟩]
   obtain ⟨e, g1, g2⟩ := dig_fore s t c hc ht hd (a + 1 + 1) ((s.size : Int) - (a + 1 + 1)).toNat (a + 1 + 1) 0 (by omega) (by omega)
   rw [e]
   exact dateF_fore s t c hc ht hd h46 _ _ _ g1 g2
  ·rw [if_neg (fun e => h2 e.2), if_neg (fun e => h2 e.2)]
   obtain ⟨e, g1, g2⟩ := dig_fore s t c hc ht hd (a + 1) ((s.size : Int) - (a + 1)).toNat (a + 1) 0 (by omega) (by omega)
   rw [e]
   exact dateF_fore s t c hc ht hd h46 _ _ _ g1 g2
 ·have ha : a + 1 = (s.size : Int) := by omega
  rw [if_neg (fun e => by rw [ha, hc] at e; exact h45 e.2), if_neg (fun e => h1 e.1)]
  obtain ⟨e, g1, g2⟩ := dig_fore s t c hc ht hd (a + 1) 0 (a + 1) 0 (by omega) (by omega)
  rw [e]
  exact dateF_fore s t c hc ht hd h46 _ _ _ g1 g2
omit hc hd h46 h45 ht
theorem text_fore (v : (Int × Int × ByteArray) × Int) : ∀ (k : Nat) (a : Int) (xs : List Int), 0 ≤ a → (s.size : Int) ≤ a + k → textE s a xs = .inr v → textE (s ++ t) a xs = .inr v := by
 have hz := size_more s t
 intro k
 induction k using Nat.strongRecOn with
 | _ k ih =>
  intro a xs h0 h hR
  by_cases hlt : a < (s.size : Int)
  rotate_left
  ·rw [textE_end hlt] at hR
   cases hR
  rw [textE_step hlt] at hR
  rw [textE_step (by omega), bt_fore s t h0 hlt]
  split
  ·rename_i h1
   rw [if_pos h1] at hR
   exact hR
  rename_i h1
  rw [if_neg h1] at hR
  split
  ·rename_i h2
   rw [if_pos h2] at hR
   cases hR
  rename_i h2
  rw [if_neg h2] at hR
  split
  ·rename_i h3
   rw [if_pos h3] at hR
   by_cases h4 : a + 1 < (s.size : Int)
   ·rw [if_pos h4] at hR
    rw [if_pos (by omega), bt_fore s t (by omega) h4]
    split
    ·rename_i h5
     rw [if_pos h5] at hR
     cases hR
    ·rename_i h5
     rw [if_neg h5] at hR
     exact ih (k - 2) (by omega) _ _ (by omega) (by omega) hR
   ·rw [if_neg h4] at hR
    cases hR
  ·rename_i h3
   rw [if_neg h3] at hR
   exact ih (k - 1) (by omega) _ _ (by omega) (by omega) hR
theorem bool_fore {a : Int} (h0 : 0 ≤ a) (v : (Int × Int × ByteArray) × Int) (hR : rdBool s a = .inr v) : rdBool (s ++ t) a = .inr v := by
 have hz := size_more s t
 unfold rdBool at hR ⊢
 by_cases h1 : a + 1 < (s.size : Int)
 ·rw [if_pos h1] at hR
  rw [if_pos (by omega), bt_fore s t (by omega) h1]
  exact hR
 ·rw [if_neg h1] at hR
  cases hR
theorem bytes_fore (IX : ByteArray → Int) (hIX : ∀ x, IX x < (x.size : Int)) (hap : ∀ x y, 0 ≤ IX x → IX (x ++ y) = IX x) (U : ByteArray → Option (List Int × Int × Int)) {a : Int} (h0 : 0 ≤ a) (h : a < (s.size : Int)) (v : (Int × Int × ByteArray) × Int)
  (hR : rdBytes IX U s a = some (.inr v)) : rdBytes IX U (s ++ t) a = some (.inr v) := by
 unfold rdBytes at hR ⊢
 rw [extract_behind s t (show (a + 1).toNat ≤ s.size by omega)]
 have hlt := hIX (s.extract (a + 1).toNat s.size)
 rw [show ((s.extract (a + 1).toNat s.size).size : Int) = s.size - (a + 1) by simp; omega] at hlt
 by_cases h1 : IX (s.extract (a + 1).toNat s.size) < 0
 ·rw [if_pos h1] at hR
  cases Option.some.inj hR
 ·rw [if_neg h1] at hR
  rw [hap _ t (by omega), if_neg h1, extract_fore s t (by omega)]
  exact hR
variable (V : ByteArray → Option (Bool × Int)) (U : ByteArray → Option (List Int × Int × Int)) (L : ByteArray → Option ByteArray)
theorem disp_fore (f : Int) (v : (Int × Int × ByteArray) × Int) : ∀ (k : Nat) (a : Int) (xs : List Int), 0 ≤ a → (s.size : Int) ≤ a + k → dispE V U L s f a xs = some (.inr v) → dispE V U L (s ++ t) f a xs = some (.inr v) := by
 have hz := size_more s t
 intro k
 induction k using Nat.strongRecOn with
 | _ k ih =>
  intro a xs h0 h hR
  by_cases hlt : a < (s.size : Int)
  rotate_left
  ·rw [dispE_end V U L hlt] at hR
   cases Option.some.inj hR
  rw [dispE_step V U L hlt] at hR
  rw [dispE_step V U L (show a < ((s ++ t : ByteArray).size : Int) by omega), bt_fore s t h0 hlt]
  by_cases h1 : bt s a = 34
  ·rw [if_pos h1] at hR ⊢
   exact hR
  rw [if_neg h1] at hR ⊢
  by_cases h2 : bt s a < 32 ∨ bt s a > 126
  ·rw [if_pos h2] at hR
   cases Option.some.inj hR
  rw [if_neg h2] at hR ⊢
  by_cases h3 : bt s a = 37
  ·rw [if_pos h3] at hR ⊢
   by_cases h6 : a + 1 + 2 ≤ (s.size : Int)
   ·have hx : hexAt (s ++ t) a = hexAt s a := by
     unfold hexAt
     have e1 : (if a + 1 + 2 < (s.size : Int) then a + 1 + 2 else (s.size : Int)) = a + 1 + 2 := by split <;> omega
     have e2 : (if a + 1 + 2 < ((s ++ t : ByteArray).size : Int) then a + 1 + 2 else ((s ++ t : ByteArray).size : Int)) = a + 1 + 2 := by split <;> omega
     rw [e1, e2]
     exact extract_fore s t (by omega)
    rw [hx]
    obtain ⟨r, hr, hR⟩ := Option.bind_eq_some_iff.mp hR
    rw [hr, Option.bind_some]
    by_cases h4 : r.2.1 = 0 ∧ r.1.length = 1
    ·rw [if_pos h4] at hR ⊢
     obtain ⟨l, hl, hR⟩ := Option.bind_eq_some_iff.mp hR
     rw [hl, Option.bind_some]
     by_cases h5 : l = hexAt s a
     ·rw [if_pos h5, if_pos h6] at hR
      rw [if_pos h5, if_pos (by omega)]
      exact ih (k - 3) (by omega) _ _ (by omega) (by omega) hR
     ·rw [if_neg h5] at hR
      cases Option.some.inj hR
    ·rw [if_neg h4] at hR
     cases Option.some.inj hR
   ·exfalso
    obtain ⟨r, hr, hR⟩ := Option.bind_eq_some_iff.mp hR
    by_cases h4 : r.2.1 = 0 ∧ r.1.length = 1
    ·rw [if_pos h4] at hR
     obtain ⟨l, hl, hR⟩ := Option.bind_eq_some_iff.mp hR
     by_cases h5 : l = hexAt s a
     ·rw [if_pos h5, if_neg h6] at hR
      cases hR
     ·rw [if_neg h5] at hR
      cases Option.some.inj hR
    ·rw [if_neg h4] at hR
     cases Option.some.inj hR
  ·rw [if_neg h3] at hR ⊢
   exact ih (k - 1) (by omega) _ _ (by omega) (by omega) hR
theorem display_fore {a : Int} (h0 : 0 ≤ a) (v : (Int × Int × ByteArray) × Int) (hR : rdDisplay V U L s a = some (.inr v)) : rdDisplay V U L (s ++ t) a = some (.inr v) := by
 have hz := size_more s t
 unfold rdDisplay at hR ⊢
 by_cases h1 : a + 1 < (s.size : Int) ∧ bt s (a + 1) = 34
 ·rw [if_pos h1] at hR
  rw [bt_fore s t (by omega) h1.1, if_pos ⟨by omega, h1.2⟩]
  exact disp_fore s t V U L a v s.size (a + 1 + 1) [] (by omega) (by omega) hR
 ·rw [if_neg h1] at hR
  cases Option.some.inj hR
theorem item_fore (T Lt : Int → Bool) (IX : ByteArray → Int) (hIX : ∀ x, IX x < (x.size : Int)) (hap : ∀ x y, 0 ≤ IX x → IX (x ++ y) = IX x) (U6 : ByteArray → Option (List Int × Int × Int))
  (c : Int) (hc : bt (s ++ t) (s.size : Int) = c) (ht : 0 < t.size) (hd : dig c = false) (h46 : c ≠ 46) (h45 : c ≠ 45) (hT : T c = false) {a : Int} (h0 : 0 ≤ a) (h : a < (s.size : Int)) (v : (Int × Int × ByteArray) × Int)
  (hR : rdItem T Lt IX U6 V U L s a = some (.inr v)) : rdItem T Lt IX U6 V U L (s ++ t) a = some (.inr v) := by
 unfold rdItem at hR ⊢
 rw [bt_fore s t h0 h]
 by_cases h1 : dig (bt s a) = true ∨ bt s a = 45
 ·rw [if_pos h1] at hR ⊢
  rw [number_fore s t c hc ht hd h46 h0 h]
  exact hR
 rw [if_neg h1] at hR ⊢
 by_cases h2 : bt s a = 34
 ·rw [if_pos h2] at hR ⊢
  rw [text_fore s t v s.size (a + 1) [] (by omega) (by omega) (Option.some.inj hR)]
 rw [if_neg h2] at hR ⊢
 by_cases h3 : Lt (bt s a) = true
 ·rw [if_pos h3] at hR ⊢
  rw [token_fore s t c hc ht T hT h0 (by omega)]
  exact hR
 rw [if_neg h3] at hR ⊢
 by_cases h4 : bt s a = 58
 ·rw [if_pos h4] at hR ⊢
  exact bytes_fore s t IX hIX hap U6 h0 h v hR
 rw [if_neg h4] at hR ⊢
 by_cases h5 : bt s a = 63
 ·rw [if_pos h5] at hR ⊢
  rw [bool_fore s t h0 v (Option.some.inj hR)]
 rw [if_neg h5] at hR ⊢
 by_cases h6 : bt s a = 64
 ·rw [if_pos h6] at hR ⊢
  rw [date_fore s t c hc ht hd h46 h45 h0 h]
  exact hR
 rw [if_neg h6] at hR ⊢
 by_cases h7 : bt s a = 37
 ·rw [if_pos h7] at hR ⊢
  exact display_fore s t V U L h0 v hR
 rw [if_neg h7] at hR
 cases Option.some.inj hR
end
end Go.Proofs.YtkbmbancfbfddaaGreatDoor.Pure
