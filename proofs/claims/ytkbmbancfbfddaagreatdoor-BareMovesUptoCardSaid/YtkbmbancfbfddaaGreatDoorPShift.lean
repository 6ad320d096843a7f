/- A text ahead moves the places: what is read hangs on the text from the place on. -/
import Derived.Test.YtkbmbancfbfddaaGreatDoorXWRead
import Derived.Test.YtkbmbancfbfddaaGreatDoorPBase
namespace Go.Proofs.YtkbmbancfbfddaaGreatDoor.Pure
open Go.RowKit Go.Proofs.YtkbmbancfbfddaaGreatDoorW.PrintWords Go.Proofs.YtkbmbancfbfddaaGreatDoorW.PrintLast Go.Proofs.YtkbmbancfbfddaaGreatDoorW.PrintMore

theorem bytesOf_append (s t : ByteArray) : bytesOf (s ++ t) = bytesOf s ++ bytesOf t := by
 unfold bytesOf
 simp [ByteArray.data_append]
section
variable (p s : ByteArray)
theorem size_app : ((p ++ s : ByteArray).size : Int) = p.size + s.size := by
 rw [ByteArray.size_append]
 omega
theorem bt_right {i : Int} (h0 : 0 ≤ i) : bt (p ++ s) (i + p.size) = bt s i := by
 obtain ⟨n, rfl⟩ : ∃ n : Nat, i = (n : Int) := ⟨i.toNat, by omega⟩
 rw [show (n : Int) + (p.size : Int) = ((n + p.size : Nat) : Int) by omega, bt_at', bt_at', bytesOf_append]
 have hl := bytesOf_length p
 rw [List.getD_eq_getElem?_getD, List.getD_eq_getElem?_getD, List.getElem?_append_right (by omega), show n + p.size - (bytesOf p).length = n by omega]
theorem extract_right {a e : Int} (h0 : 0 ≤ a) (h1 : 0 ≤ e) : (p ++ s).extract (a + p.size).toNat (e + p.size).toNat = s.extract a.toNat e.toNat := by
 apply ByteArray.ext
 rw [ByteArray.data_extract, ByteArray.data_extract, ByteArray.data_append]
 apply Array.ext'
 rw [Array.toList_extract, Array.toList_extract, Array.toList_append]
 simp only [List.extract_eq_take_drop]
 have hl : p.data.toList.length = p.size := by rw [Array.length_toList]; rfl
 rw [List.drop_append, List.drop_of_length_le (show p.data.toList.length ≤ (a + (p.size : Int)).toNat by omega), List.nil_append, hl, show (a + (p.size : Int)).toNat - p.size = a.toNat by omega, show (e + (p.size : Int)).toNat - (a + (p.size : Int)).toNat = e.toNat - a.toNat by omega]
/-- What is read, moved on. -/
def moved (d : Int) : RR → RR
 | .inl f => .inl (f.1 + d, f.2)
 | .inr v => .inr (v.1, v.2 + d)
theorem tokE_right (T : Int → Bool) : ∀ (d : Nat) (a : Int), 0 ≤ a → a + d = (s.size : Int) → tokE T (p ++ s) (a + p.size) = tokE T s a + p.size := by
 have hz := size_app p s
 intro d
 induction d with
 | zero =>
  intro a h0 h
  rw [tokE_stop (fun h => by omega), tokE_stop (fun h => by omega)]
 | succ d ih =>
  intro a h0 h
  by_cases hT : T (bt s a) = true
  ·rw [tokE_step (by omega) (by rw [bt_right p s h0]; exact hT), tokE_step (by omega) hT, show a + (p.size : Int) + 1 = a + 1 + p.size by omega]
   exact ih (a + 1) (by omega) (by omega)
  ·rw [tokE_stop (fun h => by rw [bt_right p s h0] at h; exact hT h.2), tokE_stop (fun h => hT h.2)]
theorem token_right (T : Int → Bool) {a : Int} (h0 : 0 ≤ a) (h : a ≤ (s.size : Int)) : rdToken T (p ++ s) (a + p.size) = moved p.size (rdToken T s a) := by
 have he := tokE_right p s T ((s.size : Int) - a).toNat a h0 (by omega)
 have hge : 0 ≤ tokE T s a := by
  have : ∀ (d : Nat) (a : Int), 0 ≤ a → a + d = (s.size : Int) → a ≤ tokE T s a := by
   intro d
   induction d with
   | zero => intro a h0 h; rw [tokE_stop (fun h => by omega)]; omega
   | succ d ih =>
    intro a h0 h
    by_cases hT : T (bt s a) = true
    ·rw [tokE_step (by omega) hT]
     have := ih (a + 1) (by omega) (by omega)
     omega
    ·rw [tokE_stop (fun h => hT h.2)]; omega
  have := this ((s.size : Int) - a).toNat a h0 (by omega)
  omega
 unfold rdToken moved
 simp only
 rw [he, extract_right p s h0 hge]
theorem told_right (a n b : Int) {dot dot' : Int} (h : dot < 0 ↔ dot' < 0) : rdTold (a + p.size) n dot' b = moved p.size (rdTold a n dot b) := by
 unfold rdTold
 by_cases hd : dot < 0
 ·rw [if_pos hd, if_pos (h.mp hd)]
  rfl
 ·rw [if_neg hd, if_neg (fun e => hd (h.mpr e))]
  split <;> rfl
theorem num_right (sg : Int) : ∀ (k : Nat) (a n d b dot dot' : Int), 0 ≤ a → a + k = (s.size : Int) → (dot < 0 ↔ dot' < 0) → numE (p ++ s) sg (a + p.size) n d dot' b = moved p.size (numE s sg a n d dot b) := by
 have hz := size_app p s
 intro k
 induction k with
 | zero =>
  intro a n d b dot dot' h0 h hd
  rw [numE_end (by omega), numE_end (by omega)]
  exact told_right p a _ b hd
 | succ k ih =>
  intro a n d b dot dot' h0 h hd
  rw [numE_step (show a + (p.size : Int) < _ by omega), numE_step (show a < _ by omega), bt_right p s h0, show a + (p.size : Int) + 1 = a + 1 + p.size by omega]
  by_cases h1 : dig (bt s a) = true
  ·rw [if_pos h1, if_pos h1]
   by_cases h2 : dot < 0
   ·rw [if_pos h2, if_pos (hd.mp h2)]
    by_cases h3 : d + 1 > 15
    ·rw [if_pos h3, if_pos h3]; rfl
    ·rw [if_neg h3, if_neg h3]
     exact ih (a + 1) _ _ _ _ _ (by omega) (by omega) hd
   ·rw [if_neg h2, if_neg (fun e => h2 (hd.mpr e))]
    by_cases h3 : b + 1 > 3
    ·rw [if_pos h3, if_pos h3]; rfl
    ·rw [if_neg h3, if_neg h3]
     exact ih (a + 1) _ _ _ _ _ (by omega) (by omega) hd
  ·rw [if_neg h1, if_neg h1]
   by_cases h2 : bt s a = 46 ∧ dot < 0
   ·rw [if_pos h2, if_pos ⟨h2.1, hd.mp h2.2⟩]
    by_cases h3 : d > 12
    ·rw [if_pos h3, if_pos h3]; rfl
    ·rw [if_neg h3, if_neg h3]
     exact ih (a + 1) _ _ _ _ _ (by omega) (by omega) ⟨fun e => by omega, fun e => by omega⟩
   ·rw [if_neg h2, if_neg (fun e => h2 ⟨e.1, hd.mpr e.2⟩)]
    exact told_right p a _ b hd
theorem number_right {a : Int} (h0 : 0 ≤ a) (h : a < (s.size : Int)) : rdNumber (p ++ s) (a + p.size) = moved p.size (rdNumber s a) := by
 have hz := size_app p s
 unfold rdNumber
 rw [bt_right p s h0, show a + (p.size : Int) + 1 = a + 1 + p.size by omega, bt_right p s (show 0 ≤ a + 1 by omega)]
 by_cases h1 : bt s a = 45
 ·rw [if_pos h1, if_pos h1]
  by_cases h2 : a + 1 < (s.size : Int) ∧ dig (bt s (a + 1)) = true
  ·rw [if_pos h2, if_pos ⟨by omega, h2.2⟩]
   exact num_right p s (-1) ((s.size : Int) - (a + 1)).toNat (a + 1) 0 0 0 _ _ (by omega) (by omega) Iff.rfl
  ·rw [if_neg h2, if_neg (fun e => h2 ⟨by omega, e.2⟩)]
   rfl
 ·rw [if_neg h1, if_neg h1]
  exact num_right p s 1 ((s.size : Int) - a).toNat a 0 0 0 _ _ (by omega) (by omega) Iff.rfl
theorem dig_right (f : Int) : ∀ (k : Nat) (a n : Int), 0 ≤ a → a + k = (s.size : Int) → digE (p ++ s) (f + p.size) (a + p.size) n = ((digE s f a n).1 + p.size, (digE s f a n).2) ∧ 0 ≤ (digE s f a n).1 := by
 have hz := size_app p s
 intro k
 induction k with
 | zero =>
  intro a n h0 h
  rw [digE_stop (fun h => by omega), digE_stop (fun h => by omega)]
  exact ⟨rfl, h0⟩
 | succ k ih =>
  intro a n h0 h
  by_cases h1 : dig (bt s a) = true ∧ a < f + 15
  ·rw [digE_step (s := s) (by omega) h1.1 h1.2, digE_step (by omega) (by rw [bt_right p s h0]; exact h1.1) (by omega), bt_right p s h0, show a + (p.size : Int) + 1 = a + 1 + p.size by omega]
   exact ih (a + 1) _ (by omega) (by omega)
  ·rw [digE_stop (s := s) (fun h => h1 h.2), digE_stop (fun h => h1 ⟨by rw [← bt_right p s h0]; exact h.2.1, by omega⟩)]
   exact ⟨rfl, h0⟩
theorem dateF_right (sg f : Int) (q : Int × Int) (hq : 0 ≤ q.1) : rdDateF (p ++ s) sg (f + p.size) (q.1 + p.size, q.2) = moved p.size (rdDateF s sg f q) := by
 have hz := size_app p s
 unfold rdDateF
 simp only [bt_right p s hq]
 by_cases h : q.1 = f ∨ (q.1 < (s.size : Int) ∧ (dig (bt s q.1) = true ∨ bt s q.1 = 46))
 ·rw [if_pos h, if_pos (h.imp (fun e => by omega) (fun e => ⟨by omega, e.2⟩))]
  rfl
 ·rw [if_neg h, if_neg (fun e => h (e.imp (fun e => by omega) (fun e => ⟨by omega, e.2⟩)))]
  rfl
theorem date_right {a : Int} (h0 : 0 ≤ a) (h : a < (s.size : Int)) : rdDate (p ++ s) (a + p.size) = moved p.size (rdDate s a) := by
 have hz := size_app p s
 unfold rdDate
 rw [show a + (p.size : Int) + 1 + 1 = a + 1 + 1 + p.size by omega, show a + (p.size : Int) + 1 = a + 1 + p.size by omega, bt_right p s (show 0 ≤ a + 1 by omega)]
 by_cases h1 : a + 1 < (s.size : Int) ∧ bt s (a + 1) = 45
 ·rw [if_pos h1, if_pos ⟨by omega, h1.2⟩]
  obtain ⟨e, hge⟩ := dig_right p s (a + 1 + 1) ((s.size : Int) - (a + 1 + 1)).toNat (a + 1 + 1) 0 (by omega) (by omega)
  rw [e]
  exact dateF_right p s (-1) _ _ hge
 ·rw [if_neg h1, if_neg (fun e => h1 ⟨by omega, e.2⟩)]
  obtain ⟨e, hge⟩ := dig_right p s (a + 1) ((s.size : Int) - (a + 1)).toNat (a + 1) 0 (by omega) (by omega)
  rw [e]
  exact dateF_right p s 1 _ _ hge
theorem text_right : ∀ (k : Nat) (a : Int) (xs : List Int), 0 ≤ a → (s.size : Int) ≤ a + k → textE (p ++ s) (a + p.size) xs = moved p.size (textE s a xs) := by
 have hz := size_app p s
 intro k
 induction k using Nat.strongRecOn with
 | _ k ih =>
  intro a xs h0 h
  by_cases hlt : a < (s.size : Int)
  ·rw [textE_step hlt, textE_step (show a + (p.size : Int) < _ by omega), show a + (p.size : Int) + 1 + 1 = a + 1 + 1 + p.size by omega, show a + (p.size : Int) + 1 = a + 1 + p.size by omega, bt_right p s h0, bt_right p s (show 0 ≤ a + 1 by omega)]
   by_cases h1 : bt s a = 34
   ·rw [if_pos h1, if_pos h1]; rfl
   rw [if_neg h1, if_neg h1]
   by_cases h2 : bt s a < 32 ∨ bt s a > 126
   ·rw [if_pos h2, if_pos h2]; rfl
   rw [if_neg h2, if_neg h2]
   by_cases h3 : bt s a = 92
   ·rw [if_pos h3, if_pos h3]
    by_cases h4 : a + 1 < (s.size : Int)
    ·rw [if_pos h4, if_pos (by omega)]
     by_cases h5 : bt s (a + 1) ≠ 34 ∧ bt s (a + 1) ≠ 92
     ·rw [if_pos h5, if_pos h5]; rfl
     ·rw [if_neg h5, if_neg h5]
      exact ih (k - 2) (by omega) _ _ (by omega) (by omega)
    ·rw [if_neg h4, if_neg (by omega), hz]
     unfold moved
     simp only [Int.add_comm]
   ·rw [if_neg h3, if_neg h3]
    exact ih (k - 1) (by omega) _ _ (by omega) (by omega)
  ·rw [textE_end hlt, textE_end (by omega), hz]
   unfold moved
   simp only [Int.add_comm]
theorem bool_right {a : Int} (h0 : 0 ≤ a) : rdBool (p ++ s) (a + p.size) = moved p.size (rdBool s a) := by
 have hz := size_app p s
 unfold rdBool
 rw [show a + (p.size : Int) + 1 = a + 1 + p.size by omega, bt_right p s (show 0 ≤ a + 1 by omega)]
 by_cases h1 : a + 1 < (s.size : Int)
 ·rw [if_pos h1, if_pos (by omega)]
  by_cases h2 : bt s (a + 1) = 48 ∨ bt s (a + 1) = 49
  ·rw [if_pos h2, if_pos h2]
   unfold moved
   simp only
   rw [show a + 1 + (p.size : Int) + 1 = a + 1 + 1 + p.size by omega]
  ·rw [if_neg h2, if_neg h2]; rfl
 ·rw [if_neg h1, if_neg (by omega), hz]
  unfold moved
  simp only [Int.add_comm]
theorem bytes_right (IX : ByteArray → Int) (hIX : ∀ a, -1 ≤ IX a) (U : ByteArray → Option (List Int × Int × Int)) {a : Int} (h0 : 0 ≤ a) (h : a < (s.size : Int)) : rdBytes IX U (p ++ s) (a + p.size) = (rdBytes IX U s a).map (moved p.size) := by
 have hz := size_app p s
 have hz2 : (p ++ s : ByteArray).size = ((s.size : Int) + p.size).toNat := by omega
 have hx : (p ++ s).extract (a + 1 + p.size).toNat (p ++ s : ByteArray).size = s.extract (a + 1).toNat s.size := by
  have := extract_right p s (a := a + 1) (e := (s.size : Int)) (by omega) (by omega)
  rwa [← hz2, show ((s.size : Int)).toNat = s.size by omega] at this
 unfold rdBytes
 rw [show a + (p.size : Int) + 1 = a + 1 + p.size by omega, hx]
 have hi := hIX (s.extract (a + 1).toNat s.size)
 generalize IX (s.extract (a + 1).toNat s.size) = i at *
 by_cases h1 : i < 0
 ·rw [if_pos h1, if_pos h1, hz]
  simp only [Option.map_some, moved, Int.add_comm]
 ·rw [if_neg h1, if_neg h1, show a + 1 + (p.size : Int) + i = a + 1 + i + p.size by omega, extract_right p s (by omega) (by omega)]
  cases U (s.extract (a + 1).toNat (a + 1 + i).toNat) with
  | none => rfl
  | some r =>
   simp only [Option.bind_some, Option.map_some]
   by_cases h2 : r.2.1 = 0
   ·rw [if_pos h2, if_pos h2]
    unfold moved
    simp only
    rw [show a + 1 + (p.size : Int) + (i + 1) = a + 1 + (i + 1) + p.size by omega]
   ·rw [if_neg h2, if_neg h2]
    unfold moved
    simp only
    rw [show a + 1 + (p.size : Int) + r.2.2 = a + 1 + r.2.2 + p.size by omega]
theorem hex_right {a : Int} (h0 : 0 ≤ a) (h : a < (s.size : Int)) : hexAt (p ++ s) (a + p.size) = hexAt s a := by
 have hz := size_app p s
 unfold hexAt
 rw [show a + (p.size : Int) + 1 = a + 1 + p.size by omega]
 by_cases h1 : a + 1 + 2 < (s.size : Int)
 ·rw [if_pos h1, if_pos (by omega), show a + 1 + (p.size : Int) + 2 = a + 1 + 2 + p.size by omega]
  exact extract_right p s (by omega) (by omega)
 ·rw [if_neg h1, if_neg (by omega), hz, Int.add_comm (p.size : Int) (s.size : Int)]
  exact extract_right p s (by omega) (by omega)
variable (V : ByteArray → Option (Bool × Int)) (U : ByteArray → Option (List Int × Int × Int)) (L : ByteArray → Option ByteArray)
theorem disp_right (f : Int) : ∀ (k : Nat) (a : Int) (xs : List Int), 0 ≤ a → (s.size : Int) ≤ a + k → dispE V U L (p ++ s) (f + p.size) (a + p.size) xs = (dispE V U L s f a xs).map (moved p.size) := by
 have hz := size_app p s
 intro k
 induction k using Nat.strongRecOn with
 | _ k ih =>
  intro a xs h0 h
  by_cases hlt : a < (s.size : Int)
  ·rw [dispE_step V U L hlt, dispE_step V U L (show a + (p.size : Int) < _ by omega), show a + (p.size : Int) + 1 + 2 = a + 1 + 2 + p.size by omega, show a + (p.size : Int) + 1 = a + 1 + p.size by omega, bt_right p s h0, hex_right p s h0 hlt]
   by_cases h1 : bt s a = 34
   ·rw [if_pos h1, if_pos h1]
    cases V (strOfNums xs) with
    | none => rfl
    | some r =>
     simp only [Option.bind_some, Option.map_some]
     by_cases h2 : r.1 = true
     ·rw [if_pos h2, if_pos h2]; rfl
     ·rw [if_neg h2, if_neg h2]; rfl
   rw [if_neg h1, if_neg h1]
   by_cases h2 : bt s a < 32 ∨ bt s a > 126
   ·rw [if_pos h2, if_pos h2]; rfl
   rw [if_neg h2, if_neg h2]
   by_cases h3 : bt s a = 37
   ·rw [if_pos h3, if_pos h3]
    cases U (hexAt s a) with
    | none => rfl
    | some r =>
     simp only [Option.bind_some]
     by_cases h4 : r.2.1 = 0 ∧ r.1.length = 1
     ·rw [if_pos h4, if_pos h4]
      cases L (hexAt s a) with
      | none => rfl
      | some l =>
       simp only [Option.bind_some]
       by_cases h5 : l = hexAt s a
       ·rw [if_pos h5, if_pos h5]
        by_cases h6 : a + 1 + 2 ≤ (s.size : Int)
        ·rw [if_pos h6, if_pos (by omega)]
         exact ih (k - 3) (by omega) _ _ (by omega) (by omega)
        ·rw [if_neg h6, if_neg (by omega)]; rfl
       ·rw [if_neg h5, if_neg h5]; rfl
     ·rw [if_neg h4, if_neg h4]; rfl
   ·rw [if_neg h3, if_neg h3]
    exact ih (k - 1) (by omega) _ _ (by omega) (by omega)
  ·rw [dispE_end V U L hlt, dispE_end V U L (by omega), hz]
   simp only [Option.map_some, moved, Int.add_comm]
theorem display_right {a : Int} (h0 : 0 ≤ a) : rdDisplay V U L (p ++ s) (a + p.size) = (rdDisplay V U L s a).map (moved p.size) := by
 have hz := size_app p s
 unfold rdDisplay
 rw [show a + (p.size : Int) + 1 + 1 = a + 1 + 1 + p.size by omega, show a + (p.size : Int) + 1 = a + 1 + p.size by omega, bt_right p s (show 0 ≤ a + 1 by omega)]
 by_cases h1 : a + 1 < (s.size : Int) ∧ bt s (a + 1) = 34
 ·rw [if_pos h1, if_pos ⟨by omega, h1.2⟩]
  exact disp_right p s V U L a s.size (a + 1 + 1) [] (by omega) (by omega)
 ·rw [if_neg h1, if_neg (fun e => h1 ⟨by omega, e.2⟩)]
  rfl
theorem item_right (T Lt : Int → Bool) (IX : ByteArray → Int) (hIX : ∀ a, -1 ≤ IX a) (U6 : ByteArray → Option (List Int × Int × Int)) {a : Int} (h0 : 0 ≤ a) (h : a < (s.size : Int)) :
  rdItem T Lt IX U6 V U L (p ++ s) (a + p.size) = (rdItem T Lt IX U6 V U L s a).map (moved p.size) := by
 unfold rdItem
 rw [bt_right p s h0]
 split
 ·rw [number_right p s h0 h]; rfl
 split
 ·rw [show a + (p.size : Int) + 1 = a + 1 + p.size by omega, text_right p s s.size (a + 1) [] (by omega) (by omega)]; rfl
 split
 ·rw [token_right p s T h0 (by omega)]; rfl
 split
 ·exact bytes_right p s IX hIX U6 h0 h
 split
 ·rw [bool_right p s h0]; rfl
 split
 ·rw [date_right p s h0 h]; rfl
 split
 ·exact display_right p s V U L h0
 ·rfl
end
end Go.Proofs.YtkbmbancfbfddaaGreatDoor.Pure
