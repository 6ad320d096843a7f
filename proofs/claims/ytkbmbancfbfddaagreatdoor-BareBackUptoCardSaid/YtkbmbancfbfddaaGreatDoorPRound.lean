/- What Print tells is read as the item, to its end. -/
import Derived.Test.YtkbmbancfbfddaaGreatDoorPChk
import Derived.KernelRfl
namespace Go.Proofs.YtkbmbancfbfddaaGreatDoor.Pure
open Go.RowKit Go.Proofs.YtkbmbancfbfddaaGreatDoor.X Go.Proofs.YtkbmbancfbfddaaGreatDoorW.PrintWords Go.Proofs.YtkbmbancfbfddaaGreatDoorW.PrintLast Go.Proofs.YtkbmbancfbfddaaGreatDoorW.PrintMore
set_option linter.unusedVariables false

theorem CK_kind {a b : Int} {s : ByteArray} (h : CK a b s = 0) : 1 ≤ a ∧ a ≤ 8 := by
 unfold CK at h
 by_cases h1 : a < 1 ∨ a > 8
 ·rw [if_pos h1] at h; cases h
 ·omega
theorem CK_text {a b : Int} {s : ByteArray} (h : CK a b s = 0) (ha : ¬ (a = 1 ∨ a = 2 ∨ a = 6 ∨ a = 7)) : b = 0 ∧ (a = 3 → plainT s = true) ∧ (a = 4 → istok s = true) ∧ (a = 8 → validB s = true) := by
 have hk := CK_kind h
 unfold CK at h
 by_cases hb : b = 0
 ·rw [if_neg (by omega), if_neg (by omega), if_neg (by omega)] at h
  refine ⟨hb, fun h3 => ?_, fun h4 => ?_, fun h8 => ?_⟩
  ·rw [if_pos h3] at h
   by_cases hp : plainT s = true
   ·exact hp
   ·rw [if_neg hp] at h; cases h
  ·rw [if_neg (by omega), if_pos h4] at h
   by_cases hp : istok s = true
   ·exact hp
   ·rw [if_neg hp] at h; cases h
  ·rw [if_neg (by omega), if_neg (by omega), if_neg (by omega), if_neg (by omega), if_pos h8] at h
   by_cases hp : validB s = true
   ·exact hp
   ·rw [if_neg hp] at h; cases h
 ·rw [if_neg (by omega), if_pos (Or.inr ⟨ha, hb⟩)] at h; cases h
theorem empty_of {s : ByteArray} (h : s.size = 0) : s = ⟨#[]⟩ := by
 have := (empty_iff s).2 h
 rw [toList_data] at this
 exact ByteArray.ext (Array.toList_inj.1 this)
section
variable {S : ByteArray}
theorem text_run : ∀ (l : List Int) (a : Nat) (xs : List Int) (post : List Int), (bytesOf S).drop a = esc l ++ 34 :: post → l.all plainB = true → textE S (a : Int) xs = .inr ((3, 0, strOfNums (xs ++ l)), ((a + (esc l).length + 1 : Nat) : Int)) := by
 intro l
 induction l with
 | nil =>
  intro a xs post h hp
  obtain ⟨h1, h2, _⟩ := drop_head (show (bytesOf S).drop a = 34 :: post from h)
  rw [textE_step (by omega), if_pos h2, List.append_nil]
  rfl
 | cons c l ih =>
  intro a xs post h hp
  rw [List.all_cons, Bool.and_eq_true] at hp
  have hpc : 32 ≤ c ∧ c ≤ 126 := by have := hp.1; unfold plainB at this; simpa using this
  by_cases hc : c = 34 ∨ c = 92
  ·have he : esc (c :: l) = 92 :: c :: esc l := if_pos hc
   rw [he] at h ⊢
   obtain ⟨h1, h2, h3⟩ := drop_head (show (bytesOf S).drop a = 92 :: (c :: (esc l ++ 34 :: post)) from h)
   obtain ⟨h4, h5, h6⟩ := drop_head h3
   have h5' : bt S ((a : Int) + 1) = c := h5
   rw [textE_step (by omega), h2, if_neg (by decide), if_neg (by decide), if_pos rfl, if_pos (by omega), h5', if_neg (by omega)]
   have := ih (a + 1 + 1) (xs ++ [c]) post h6 hp.2
   rw [show ((a + 1 + 1 : Nat) : Int) = (a : Int) + 1 + 1 by omega] at this
   rw [this, List.append_assoc]
   simp only [List.length_cons, List.singleton_append]
   congr 2
   omega
  ·have he : esc (c :: l) = c :: esc l := if_neg hc
   rw [he] at h ⊢
   obtain ⟨h1, h2, h3⟩ := drop_head (show (bytesOf S).drop a = c :: (esc l ++ 34 :: post) from h)
   rw [textE_step (by omega), h2, if_neg (by omega), if_neg (by omega), if_neg (by omega)]
   have := ih (a + 1) (xs ++ [c]) post h3 hp.2
   rw [show ((a + 1 : Nat) : Int) = (a : Int) + 1 by omega] at this
   rw [this, List.append_assoc]
   simp only [List.length_cons, List.singleton_append]
   congr 2
   omega
def HexOk (c : Int) : Prop := unGo [hxd (c / 16), hxd (c % 16)] 0 [] = ([c], 0, 0) ∧ octets_Lower.f (strOfNums [hxd (c / 16), hxd (c % 16)]) = some (strOfNums [hxd (c / 16), hxd (c % 16)]) ∧ (0 ≤ hxd (c / 16) ∧ hxd (c / 16) < 256) ∧ (0 ≤ hxd (c % 16) ∧ hxd (c % 16) < 256)
instance (c : Int) : Decidable (HexOk c) := by unfold HexOk; infer_instance
theorem hex_ok {c : Int} (h : 0 ≤ c ∧ c < 256) : HexOk c := byte_all (p := HexOk) (by decide +kernel) h
theorem hexAt_eq {a : Nat} {x y : Int} {t : List Int} (h : (bytesOf S).drop (a + 1) = x :: y :: t) (hx : Bytes [x, y]) : hexAt S (a : Int) = strOfNums [x, y] := by
 obtain ⟨h1, h2, h3⟩ := drop_head h
 obtain ⟨h4, h5, h6⟩ := drop_head h3
 refine bytesOf_inj ?_
 rw [Pure.bytesOf_str hx]
 have he : hexAt S (a : Int) = S.extract (a + 1) (a + 3) := by
  unfold hexAt
  congr 1
  split <;> omega
 rw [he]
 unfold bytesOf at h ⊢
 rw [ByteArray.data_extract, Array.toList_extract, List.extract_eq_take_drop, List.map_take, List.map_drop, h]
 simp
theorem disp_run (r : Bool × Int) : ∀ (l : List Int) (a : Nat) (xs : List Int) (post : List Int), S.size ≤ 140737488355328 → (bytesOf S).drop a = pct l ++ 34 :: post → Bytes l → vaF (strOfNums (xs ++ l)) = some r → r.1 = true →
  dispE vaF unHx octets_Lower.f S 0 (a : Int) xs = some (.inr ((8, 0, strOfNums (xs ++ l)), ((a + (pct l).length + 1 : Nat) : Int))) := by
 intro l
 induction l with
 | nil =>
  intro a xs post hs h hb hv hr
  obtain ⟨h1, h2, _⟩ := drop_head (show (bytesOf S).drop a = 34 :: post from h)
  rw [List.append_nil] at hv
  rw [dispE_step _ _ _ (by omega), if_pos h2, hv, Option.bind_some, if_pos hr, List.append_nil]
  rfl
 | cons c l ih =>
  intro a xs post hs h hb hv hr
  have hcb := hb.head
  have he : pct (c :: l) = pctC c ++ pct l := rfl
  rw [he] at h ⊢
  have hv' : vaF (strOfNums ((xs ++ [c]) ++ l)) = some r := by rw [List.append_assoc]; exact hv
  by_cases hc : c < 32 ∨ c > 126 ∨ c = 37 ∨ c = 34
  ·rw [show pctC c = [37, hxd (c / 16), hxd (c % 16)] from if_pos hc] at h ⊢
   obtain ⟨g1, g2, g3, g4⟩ := hex_ok hcb
   obtain ⟨h1, h2, h3⟩ := drop_head (show (bytesOf S).drop a = 37 :: (hxd (c / 16) :: hxd (c % 16) :: (pct l ++ 34 :: post)) from h)
   obtain ⟨h4, h5, h6⟩ := drop_head h3
   obtain ⟨h7, h8, h9⟩ := drop_head h6
   have hB : Bytes [hxd (c / 16), hxd (c % 16)] := Bytes.cons g3 (Bytes.cons g4 Bytes.nil)
   have hH := hexAt_eq h3 hB
   rw [dispE_step _ _ _ (by omega), h2, if_neg (by decide), if_neg (by decide), if_pos rfl, hH, unHx_f _ (by rw [strOfNums_size]; show (2 : Nat) ≤ _; omega), Option.bind_some, Pure.bytesOf_str hB, g1, if_pos ⟨rfl, rfl⟩, g2, Option.bind_some, if_pos rfl, if_pos (by omega)]
   have := ih (a + 1 + 1 + 1) (xs ++ [c]) post hs h9 hb.tail hv' hr
   rw [show ((a + 1 + 1 + 1 : Nat) : Int) = (a : Int) + 1 + 2 by omega] at this
   rw [show ([c] : List Int).getD 0 0 = c from rfl, this, List.append_assoc, List.length_append]
   simp only [List.length_cons, List.length_nil, List.singleton_append]
   congr 3
   omega
  ·rw [show pctC c = [c] from if_neg hc] at h ⊢
   obtain ⟨h1, h2, h3⟩ := drop_head (show (bytesOf S).drop a = c :: (pct l ++ 34 :: post) from h)
   rw [dispE_step _ _ _ (by omega), h2, if_neg (by omega), if_neg (by omega), if_neg (by omega)]
   have := ih (a + 1) (xs ++ [c]) post hs h3 hb.tail hv' hr
   rw [show ((a + 1 : Nat) : Int) = (a : Int) + 1 by omega] at this
   rw [this, List.append_assoc, List.length_append]
   simp only [List.length_cons, List.length_nil, List.singleton_append]
   congr 3
   omega
end
theorem b64d_ne (q : Int) : b64d q ≠ 58 := by
 unfold b64d
 by_cases h : q.toNat < 64
 ·have hall : ∀ n : Fin 64, bt b64base (n.val : Int) ≠ 58 := by decide +kernel
  have := hall ⟨q.toNat, h⟩
  unfold bt at this ⊢
  rwa [Int.toNat_natCast] at this
 ·unfold bt
  rw [dif_neg (by show ¬ q.toNat < 64; exact h)]
  decide
theorem b64L_ne (b : List Int) (hb : Bytes b) : ∀ x ∈ b64L b, x ≠ 58 := by
 obtain ⟨_, ⟨p, _, h2, _, _⟩, _⟩ := b64vals_ok b.length b (Nat.le_refl _) hb
 intro x hx
 rw [h2] at hx
 rcases List.mem_append.1 hx with h | h
 ·obtain ⟨q, _, rfl⟩ := List.mem_map.1 h
  exact b64d_ne q
 ·rw [List.eq_of_mem_replicate h]
  decide
theorem index_first (c : UInt8) : ∀ l m : List UInt8, c ∉ l → Lib.indexByte (l ++ c :: m) c = (l.length : Int) := by
 intro l m
 induction l with
 | nil => intro _; simp [Lib.indexByte]
 | cons b l ih =>
  intro h
  have hb : b ≠ c := fun e => h (by simp [e])
  have hi := ih (fun e => h (by simp [e]))
  rw [List.cons_append, Lib.indexByte, if_neg (by simpa using hb), hi, if_neg (by simp only [beq_iff_eq]; omega), List.length_cons]
  omega
theorem extract_whole (s : ByteArray) : s.extract 0 s.size = s := by simp
theorem bytes_back (X s : ByteArray) (hX : X = strOfNums (b64L (bytesOf s))) (hs : s.size ≤ 1000000000000) : rdBytes ixCol Go.Proofs.YtkbmbancfbfddaaGreatDoor.X.un64 (((⟨#[58]⟩ : ByteArray) ++ X) ++ ⟨#[58]⟩) 0 = some (.inr ((5, 0, s), ((((⟨#[58]⟩ : ByteArray) ++ X) ++ ⟨#[58]⟩ : ByteArray).size : Int))) := by
 have hb := b64L_bytes (bytesOf s).length (bytesOf s) (Nat.le_refl _)
 have hl := b64L_len (bytesOf s).length (bytesOf s) (Nat.le_refl _)
 rw [bytesOf_length] at hl
 have hXl : X.size = (b64L (bytesOf s)).length := by rw [hX, strOfNums_size]
 have hBX : bytesOf X = b64L (bytesOf s) := by rw [hX, Pure.bytesOf_str hb]
 have hsz : (((⟨#[58]⟩ : ByteArray) ++ X) ++ ⟨#[58]⟩ : ByteArray).size = 1 + X.size + 1 := by rw [ByteArray.size_append, ByteArray.size_append]; rfl
 have hne : (58 : UInt8) ∉ X.data.toList := by
  intro h
  have : (58 : Int) ∈ bytesOf X := by
   unfold bytesOf
   exact List.mem_map.2 ⟨58, h, rfl⟩
  rw [hBX] at this
  exact b64L_ne (bytesOf s) (Bytes.of s) 58 this rfl
 have e1 : (((⟨#[58]⟩ : ByteArray) ++ X) ++ ⟨#[58]⟩ : ByteArray).extract 1 (1 + X.size + 1) = X ++ ⟨#[58]⟩ := by
  refine ByteArray.ext (Array.toList_inj.1 ?_)
  rw [ByteArray.data_extract, Array.toList_extract, List.extract_eq_take_drop]
  simp only [ByteArray.data_append, Array.toList_append, List.append_assoc]
  show List.take (1 + X.size + 1 - 1) (X.data.toList ++ [58]) = X.data.toList ++ [58]
  refine List.take_of_length_le ?_
  rw [List.length_append, Array.length_toList]
  show X.size + 1 ≤ _
  omega
 have e2 : (((⟨#[58]⟩ : ByteArray) ++ X) ++ ⟨#[58]⟩ : ByteArray).extract 1 (1 + X.size) = X := by
  refine ByteArray.ext (Array.toList_inj.1 ?_)
  rw [ByteArray.data_extract, Array.toList_extract, List.extract_eq_take_drop]
  simp only [ByteArray.data_append, Array.toList_append, List.append_assoc]
  show List.take (1 + X.size - 1) (X.data.toList ++ [58]) = X.data.toList
  refine List.take_left' ?_
  rw [Array.length_toList]
  show X.size = _
  omega
 have hix : ixCol (X ++ ⟨#[58]⟩) = (X.size : Int) := by
  unfold ixCol
  rw [ByteArray.data_append, Array.toList_append]
  have := index_first 58 X.data.toList [] hne
  rw [Array.length_toList] at this
  exact this
 unfold rdBytes
 rw [hsz, show ((0 : Int) + 1).toNat = 1 from rfl, e1, hix, if_neg (by omega), show ((0 : Int) + 1 + (X.size : Int)).toNat = 1 + X.size by omega, e2]
 have hu : Go.Proofs.YtkbmbancfbfddaaGreatDoor.X.un64 X = some (bytesOf s, 0, 0) := by
  unfold Go.Proofs.YtkbmbancfbfddaaGreatDoor.X.un64
  have hub : ub (bytesOf X) = (bytesOf s, 0, 0) := by rw [hBX]; exact ub_b64L _ (Bytes.of s)
  rw [everO_ev (fun k => octets_Unbase64.mono X k) (unbase64_f X (by omega)), Option.bind_some, hub, if_pos (by simp only; omega)]
 rw [hu, Option.bind_some, if_pos rfl, str_bytesOf, show (0 : Int) + 1 + ((X.size : Int) + 1) = ((1 + X.size + 1 : Nat) : Int) by omega]
/-- What Print tells of an item that may be is read as it. -/
theorem round_trip (a b : Int) (s : ByteArray) (hs : s.size ≤ 1000000000000) (h : CK a b s = 0) : bare_Read.f (PT a b s) 0 = some (a, b, s, ((PT a b s).size : Int), 0) := by
 have hk := CK_kind h
 by_cases hn : a = 1 ∨ a = 2 ∨ a = 6 ∨ a = 7
 ·obtain ⟨h0, h1, h2, h3⟩ := CK_num h hn
  obtain rfl := empty_of h0
  rcases hn with rfl | rfl | rfl | rfl
  ·exact int_read b ⟨h1, h2⟩
  ·exact dec_read b ⟨h1, h2⟩
  ·rcases h3 rfl with rfl | rfl <;> (refine Eq.trans ?_ (Eq.refl (some _)); kernel_rfl)
  ·exact date_read b ⟨h1, h2⟩
 ·obtain ⟨rfl, g3, g4, g8⟩ := CK_text h hn
  have hbs := Bytes.of s
  have ha : a = 3 ∨ a = 4 ∨ a = 5 ∨ a = 8 := by omega
  rcases ha with rfl | rfl | rfl | rfl
  ·show bare_Read.f (inQuotes s) 0 = some (3, 0, s, ((inQuotes s).size : Int), 0)
   have hz := esc_size s
   have hB : bytesOf (inQuotes s) = 34 :: (esc (bytesOf s) ++ [34]) := by
    unfold inQuotes
    rw [bytesOf_append, bytesOf_append, Pure.bytesOf_str]
    ·rfl
    ·have : ∀ l : List Int, Bytes l → Bytes (esc l) := by
      intro l
      induction l with
      | nil => intro h; exact h
      | cons c l ih =>
       intro h
       unfold esc
       split
       ·exact Bytes.cons (by omega) (Bytes.cons h.head (ih h.tail))
       ·exact Bytes.cons h.head (ih h.tail)
     exact this _ hbs
   have hsz := size_le hB
   rw [strOfNums_size] at hz
   simp only [List.length_cons, List.length_append, List.length_nil] at hsz
   generalize inQuotes s = S at *
   have hd0 : (bytesOf S).drop 0 = 34 :: (esc (bytesOf s) ++ [34]) := by rw [hB]; rfl
   obtain ⟨_, hb, hr⟩ := drop_head hd0
   have hb0 : bt S 0 = 34 := hb
   refine (read_of_item (R := .inr ((3, 0, s), (S.size : Int))) (by omega) (by omega) ?_).trans rfl
   unfold rdItem
   rw [hb0, if_neg (by decide), if_pos rfl]
   have := text_run (S := S) (bytesOf s) 1 [] [] hr (g3 rfl)
   rw [List.nil_append, str_bytesOf] at this
   rw [show ((0 : Int) + 1) = ((1 : Nat) : Int) from rfl, this, show (1 + (esc (bytesOf s)).length + 1 : Nat) = S.size by omega]
  ·show bare_Read.f s 0 = some (4, 0, s, (s.size : Int), 0)
   have ht := g4 rfl
   unfold istok at ht
   simp only [Bool.and_eq_true, decide_eq_true_eq] at ht
   obtain ⟨⟨h0, hl⟩, hE⟩ := ht
   obtain ⟨hd, h45, h34⟩ := let_not (byte_of s 0) hl
   refine (read_of_item (R := .inr ((4, 0, s), (s.size : Int))) (by omega) (by omega) ?_).trans rfl
   unfold rdItem
   rw [if_neg (fun h => h.elim (fun h => by rw [hd] at h; cases h) h45), if_neg h34, if_pos hl]
   unfold rdToken
   rw [hE, Int.toNat_natCast, show (0 : Int).toNat = 0 from rfl, extract_whole]
  ·show bare_Read.f (((⟨#[58]⟩ : ByteArray) ++ strOfNums (b64L (bytesOf s))) ++ ⟨#[58]⟩) 0 = some (5, 0, s, ((((⟨#[58]⟩ : ByteArray) ++ strOfNums (b64L (bytesOf s))) ++ ⟨#[58]⟩ : ByteArray).size : Int), 0)
   have hl := b64L_len (bytesOf s).length (bytesOf s) (Nat.le_refl _)
   rw [bytesOf_length] at hl
   have hbb := bytes_back _ s rfl hs
   have hXl : (strOfNums (b64L (bytesOf s))).size = (b64L (bytesOf s)).length := strOfNums_size _
   generalize strOfNums (b64L (bytesOf s)) = X at *
   have hsz : (((⟨#[58]⟩ : ByteArray) ++ X) ++ ⟨#[58]⟩ : ByteArray).size = 1 + X.size + 1 := by rw [ByteArray.size_append, ByteArray.size_append]; rfl
   have hB : bytesOf (((⟨#[58]⟩ : ByteArray) ++ X) ++ ⟨#[58]⟩) = 58 :: (bytesOf X ++ [58]) := by rw [bytesOf_append, bytesOf_append]; rfl
   generalize (((⟨#[58]⟩ : ByteArray) ++ X) ++ ⟨#[58]⟩ : ByteArray) = S at *
   have hd0 : (bytesOf S).drop 0 = 58 :: (bytesOf X ++ [58]) := by rw [hB]; rfl
   obtain ⟨_, hb, hr⟩ := drop_head hd0
   have hb0 : bt S 0 = 58 := hb
   refine (read_of_item (R := .inr ((5, 0, s), (S.size : Int))) (by omega) (by omega) ?_).trans rfl
   unfold rdItem
   rw [hb0, if_neg (by decide), if_neg (by decide), if_neg (by decide +kernel), if_pos rfl]
   exact hbb
  ·show bare_Read.f (((⟨#[37, 34]⟩ : ByteArray) ++ strOfNums (pct (bytesOf s))) ++ ⟨#[34]⟩) 0 = some (8, 0, s, ((((⟨#[37, 34]⟩ : ByteArray) ++ strOfNums (pct (bytesOf s))) ++ ⟨#[34]⟩ : ByteArray).size : Int), 0)
   have hl := pct_le (bytesOf s)
   rw [bytesOf_length] at hl
   have hB : bytesOf (((⟨#[37, 34]⟩ : ByteArray) ++ strOfNums (pct (bytesOf s))) ++ ⟨#[34]⟩) = 37 :: 34 :: (pct (bytesOf s) ++ [34]) := by
    rw [bytesOf_append, bytesOf_append, Pure.bytesOf_str]
    ·rfl
    ·have : ∀ l : List Int, Bytes l → Bytes (pct l) := by
      intro l
      induction l with
      | nil => intro h; exact h
      | cons c l ih =>
       intro h
       have he : pct (c :: l) = pctC c ++ pct l := rfl
       rw [he]
       refine Bytes.append ?_ (ih h.tail)
       unfold pctC
       obtain ⟨_, _, g3, g4⟩ := hex_ok h.head
       split
       ·exact Bytes.cons (by omega) (Bytes.cons g3 (Bytes.cons g4 Bytes.nil))
       ·exact Bytes.cons h.head Bytes.nil
     exact this _ hbs
   have hsz := size_le hB
   simp only [List.length_cons, List.length_append, List.length_nil] at hsz
   obtain ⟨r, _, hv, hr1⟩ := valid_f s
   generalize (((⟨#[37, 34]⟩ : ByteArray) ++ strOfNums (pct (bytesOf s))) ++ ⟨#[34]⟩ : ByteArray) = S at *
   have hd0 : (bytesOf S).drop 0 = 37 :: (34 :: (pct (bytesOf s) ++ [34])) := by rw [hB]; rfl
   obtain ⟨_, hb, hr⟩ := drop_head hd0
   obtain ⟨_, hb1, hr2⟩ := drop_head hr
   have hb0 : bt S 0 = 37 := hb
   have hb1' : bt S (0 + 1) = 34 := hb1
   refine (read_of_item (R := .inr ((8, 0, s), (S.size : Int))) (by omega) (by omega) ?_).trans rfl
   unfold rdItem
   rw [hb0, if_neg (by decide), if_neg (by decide), if_neg (by decide +kernel), if_neg (by decide), if_neg (by decide), if_neg (by decide), if_pos rfl]
   unfold rdDisplay
   rw [if_pos ⟨by omega, hb1'⟩]
   have := disp_run (S := S) r (bytesOf s) 2 [] [] (by omega) hr2 hbs (by rw [List.nil_append, str_bytesOf]; exact hv) (by rw [hr1]; exact g8 rfl)
   rw [List.nil_append, str_bytesOf] at this
   rw [show ((0 : Int) + 1 + 1) = ((2 : Nat) : Int) from rfl, this, show (2 + (pct (bytesOf s)).length + 1 : Nat) = S.size by omega]
end Go.Proofs.YtkbmbancfbfddaaGreatDoor.Pure
