/- What Read answers may be (its Check is 0), and where its places lie. -/
import Derived.Test.YtkbmbancfbfddaaGreatDoorPChk
namespace Go.Proofs.YtkbmbancfbfddaaGreatDoor.Pure
open Go.RowKit Go.Proofs.YtkbmbancfbfddaaGreatDoor.X Go.Proofs.YtkbmbancfbfddaaGreatDoorW.PrintWords Go.Proofs.YtkbmbancfbfddaaGreatDoorW.PrintLast Go.Proofs.YtkbmbancfbfddaaGreatDoorW.PrintMore

set_option linter.unusedVariables false
/-- A fault lies at the place or behind it, and is none that is 0; an item may be, and goes beyond the place. -/
def Good (s : ByteArray) (at_ : Int) : RR → Prop
 | .inl f => f.2 ≠ 0 ∧ at_ ≤ f.1 ∧ f.1 ≤ (s.size : Int)
 | .inr v => at_ < v.2 ∧ v.2 ≤ (s.size : Int) ∧ CK v.1.1 v.1.2.1 v.1.2.2 = 0 ∧ v.1.2.2.size ≤ s.size + 3
theorem CK_1 {n : Int} (h : far n = false) : CK 1 n ⟨#[]⟩ = 0 := by
 unfold CK
 rw [if_neg (by omega), if_neg (by show ¬ (_ ∧ (0 : Nat) ≠ 0 ∨ _); omega), if_pos (Or.inl rfl), h]
 rfl
theorem CK_2 {n : Int} (h : far n = false) : CK 2 n ⟨#[]⟩ = 0 := by
 unfold CK
 rw [if_neg (by omega), if_neg (by show ¬ (_ ∧ (0 : Nat) ≠ 0 ∨ _); omega), if_pos (Or.inr rfl), h]
 rfl
theorem CK_7 {n : Int} (h : far n = false) : CK 7 n ⟨#[]⟩ = 0 := by
 unfold CK
 rw [if_neg (by omega), if_neg (by show ¬ (_ ∧ (0 : Nat) ≠ 0 ∨ _); omega), if_neg (by omega), if_neg (by omega), if_neg (by omega), if_neg (by omega), if_pos rfl, h]
 rfl
theorem CK_6 {n : Int} (h : n = 0 ∨ n = 1) : CK 6 n ⟨#[]⟩ = 0 := by
 unfold CK
 rw [if_neg (by omega), if_neg (by show ¬ (_ ∧ (0 : Nat) ≠ 0 ∨ _); omega), if_neg (by omega), if_neg (by omega), if_neg (by omega), if_pos rfl, if_pos h]
theorem CK_3 {x : ByteArray} (h : plainT x = true) : CK 3 0 x = 0 := by
 unfold CK
 rw [if_neg (by omega), if_neg (by omega), if_neg (by omega), if_pos rfl, if_pos h]
theorem CK_4 {x : ByteArray} (h : istok x = true) : CK 4 0 x = 0 := by
 unfold CK
 rw [if_neg (by omega), if_neg (by omega), if_neg (by omega), if_neg (by omega), if_pos rfl, if_pos h]
theorem CK_5 (x : ByteArray) : CK 5 0 x = 0 := by
 unfold CK
 rw [if_neg (by omega), if_neg (by omega), if_neg (by omega), if_neg (by omega), if_neg (by omega), if_neg (by omega), if_neg (by omega), if_neg (by omega)]
theorem CK_8 {x : ByteArray} (h : validB x = true) : CK 8 0 x = 0 := by
 unfold CK
 rw [if_neg (by omega), if_neg (by omega), if_neg (by omega), if_neg (by omega), if_neg (by omega), if_neg (by omega), if_neg (by omega), if_pos rfl, if_pos h]
section
variable (s : ByteArray) (at_ : Int)
theorem told_good {a n dot b : Int} (h0 : at_ < a) (h : a ≤ (s.size : Int)) (hn : dot < 0 → far n = false) (hd : ¬ dot < 0 → b ≠ 0 → far (tell n b) = false) : Good s at_ (rdTold a n dot b) := by
 unfold rdTold
 by_cases h1 : dot < 0
 ·rw [if_pos h1]
  exact ⟨h0, h, CK_1 (hn h1), Nat.zero_le _⟩
 ·rw [if_neg h1]
  by_cases h2 : b = 0
  ·rw [if_pos h2]
   exact ⟨by simp, by simp only; omega, h⟩
  ·rw [if_neg h2]
   exact ⟨h0, h, CK_2 (hd h1 h2), Nat.zero_le _⟩
theorem far_sg {sg n : Int} (hs : sg = 1 ∨ sg = -1) (h0 : 0 ≤ n) (h : n + 1 ≤ 1000000000000000) : far (sg * n) = false := by
 rw [far_iff]
 rcases hs with rfl | rfl <;> omega
theorem tell_far {sg n b : Int} (hs : sg = 1 ∨ sg = -1) (h0 : 0 ≤ n) (h : (n + 1) * 10 ^ (3 - b).toNat ≤ 1000000000000000) : far (tell (sg * n) b) = false := by
 unfold tell
 have hp : (1 : Int) ≤ 10 ^ (3 - b).toNat := Int.add_one_le_of_lt (Int.pow_pos (by decide))
 rw [Int.mul_assoc]
 rw [Int.add_mul, Int.one_mul] at h
 exact far_sg hs (Int.mul_nonneg h0 (by omega)) (by omega)
theorem num_good {sg : Int} (hsg : sg = 1 ∨ sg = -1) : ∀ (k : Nat) (a n d b dot : Int), at_ < a → a + k = (s.size : Int) → 0 ≤ n → 0 ≤ d → d ≤ 15 → 0 ≤ b → b ≤ 3 → (dot < 0 → n + 1 ≤ pw d) → (¬ dot < 0 → (n + 1) * 10 ^ (3 - b).toNat ≤ 1000000000000000) → Good s at_ (numE s sg a n d dot b) := by
 intro k
 have hfin : ∀ (a n d b dot : Int), at_ < a → a ≤ (s.size : Int) → 0 ≤ n → d ≤ 15 → (dot < 0 → n + 1 ≤ pw d) → (¬ dot < 0 → (n + 1) * 10 ^ (3 - b).toNat ≤ 1000000000000000) → Good s at_ (rdTold a (sg * n) dot b) :=
  fun a n d b dot g0 g1 g2 g3 g4 g5 => told_good s at_ g0 g1 (fun h => far_sg hsg g2 (Int.le_trans (g4 h) (pw_le g3))) (fun h _ => tell_far hsg g2 (g5 h))
 induction k with
 | zero =>
  intro a n d b dot h0 h hn hd hd2 hb hb3 hi hj
  rw [numE_end (by omega)]
  exact hfin a n d b dot h0 (by omega) hn hd2 hi hj
 | succ k ih =>
  intro a n d b dot h0 h hn hd hd2 hb hb3 hi hj
  have hst : Good s at_ (.inl (a, 92)) := ⟨by simp, by simp only; omega, by simp only; omega⟩
  rw [numE_step (by omega)]
  have hc := bt_range s a
  by_cases hdg : dig (bt s a) = true
  ·rw [if_pos hdg]
   have hdi := dig_iff.1 hdg
   by_cases hdot : dot < 0
   ·rw [if_pos hdot]
    by_cases h15 : d + 1 > 15
    ·rw [if_pos h15]; exact hst
    ·rw [if_neg h15]
     refine ih (a + 1) _ (d + 1) b dot (by omega) (by omega) (by omega) (by omega) (by omega) hb hb3 (fun _ => ?_) (fun h => absurd hdot h)
     rw [pw_step hd]
     have := hi hdot
     omega
   ·rw [if_neg hdot]
    by_cases h3 : b + 1 > 3
    ·rw [if_pos h3]; exact hst
    ·rw [if_neg h3]
     refine ih (a + 1) _ d (b + 1) dot (by omega) (by omega) (by omega) hd hd2 (by omega) (by omega) (fun h => absurd h hdot) (fun _ => ?_)
     have h1 := hj hdot
     rw [show (3 - b).toNat = (3 - (b + 1)).toNat + 1 by omega, Int.pow_succ, Int.mul_comm (10 ^ _) 10, ← Int.mul_assoc] at h1
     refine Int.le_trans (Int.mul_le_mul_of_nonneg_right ?_ (Int.le_of_lt (Int.pow_pos (by decide)))) h1
     omega
  ·rw [if_neg hdg]
   by_cases hdt : bt s a = 46 ∧ dot < 0
   ·rw [if_pos hdt]
    by_cases h12 : d > 12
    ·rw [if_pos h12]; exact hst
    ·rw [if_neg h12]
     refine ih (a + 1) n d b a (by omega) (by omega) hn hd hd2 hb hb3 (fun h => ?_) (fun _ => ?_)
     ·exact hi hdt.2
     ·have h1 := hi hdt.2
      have h2 : pw d ≤ 1000000000000 := by
       unfold pw
       have hq : d.toNat ≤ 12 := by omega
       generalize d.toNat = q at hq
       have : ∀ q, q ≤ 12 → (10 : Int) ^ q ≤ 1000000000000 := by decide
       exact this q hq
      have h3 : (10 : Int) ^ (3 - b).toNat ≤ 1000 := by
       have hq : (3 - b).toNat ≤ 3 := by omega
       generalize (3 - b).toNat = q at hq
       have : ∀ q, q ≤ 3 → (10 : Int) ^ q ≤ 1000 := by decide
       exact this q hq
      refine Int.le_trans (Int.mul_le_mul (Int.le_trans h1 h2) h3 (Int.le_of_lt (Int.pow_pos (by decide))) (by decide)) (by decide)
   ·rw [if_neg hdt]
    exact hfin a n d b dot h0 (by omega) hn hd2 hi hj
theorem number_good (h0 : 0 ≤ at_) (h : at_ < (s.size : Int)) (hc : dig (bt s at_) = true ∨ bt s at_ = 45) : Good s at_ (rdNumber s at_) := by
 unfold rdNumber
 by_cases h45 : bt s at_ = 45
 ·rw [if_pos h45]
  by_cases h1 : at_ + 1 < (s.size : Int) ∧ dig (bt s (at_ + 1)) = true
  ·rw [if_pos h1]
   exact num_good s at_ (Or.inr rfl) ((s.size : Int) - (at_ + 1)).toNat (at_ + 1) 0 0 0 (-1) (by omega) (by omega) (by omega) (by omega) (by omega) (by omega) (by omega) (fun _ => by decide) (fun h => absurd (by decide) h)
  ·rw [if_neg h1]
   exact ⟨by simp, by simp only; omega, by simp only; omega⟩
 ·rw [if_neg h45]
  have hdg : dig (bt s at_) = true := hc.resolve_right h45
  have hdi := dig_iff.1 hdg
  rw [numE_step h, if_pos hdg, if_pos (by decide), if_neg (by decide)]
  refine num_good s at_ (Or.inl rfl) ((s.size : Int) - (at_ + 1)).toNat (at_ + 1) _ _ 0 (-1) (by omega) (by omega) (by omega) (by omega) (by omega) (by omega) (by omega) (fun _ => ?_) (fun h => absurd (by decide) h)
  show _ ≤ (10 : Int)
  omega
theorem dig_good (f : Int) : ∀ (k : Nat) (a n : Int), f ≤ a → a ≤ f + 15 → a + k = (s.size : Int) → 0 ≤ n → n + 1 ≤ pw (a - f) → a ≤ (digE s f a n).1 ∧ (digE s f a n).1 ≤ (s.size : Int) ∧ 0 ≤ (digE s f a n).2 ∧ (digE s f a n).2 + 1 ≤ 1000000000000000 := by
 intro k
 induction k with
 | zero =>
  intro a n hf hf2 h hn hp
  rw [digE_stop (fun h => by omega)]
  exact ⟨Int.le_refl _, by simp only; omega, hn, Int.le_trans hp (pw_le (by omega))⟩
 | succ k ih =>
  intro a n hf hf2 h hn hp
  by_cases h1 : dig (bt s a) = true ∧ a < f + 15
  ·rw [digE_step (by omega) h1.1 h1.2]
   have hdi := dig_iff.1 h1.1
   obtain ⟨g1, g2, g3, g4⟩ := ih (a + 1) (10 * n + (bt s a - 48)) (by omega) (by omega) (by omega) (by omega) (by rw [show a + 1 - f = (a - f) + 1 by omega, pw_step (by omega)]; omega)
   exact ⟨by omega, g2, g3, g4⟩
  ·rw [digE_stop (fun h => h1 h.2)]
   exact ⟨Int.le_refl _, by simp only; omega, hn, Int.le_trans hp (pw_le (by omega))⟩
theorem date_good (h0 : 0 ≤ at_) (h : at_ < (s.size : Int)) : Good s at_ (rdDate s at_) := by
 have hF : ∀ sg f (q : Int × Int), sg = 1 ∨ sg = -1 → at_ < f → f ≤ q.1 → q.1 ≤ (s.size : Int) → 0 ≤ q.2 → q.2 + 1 ≤ 1000000000000000 → Good s at_ (rdDateF s sg f q) := by
  intro sg f q hs hf h1 h2 h3 h4
  unfold rdDateF
  split
  ·exact ⟨by simp, by simp only; omega, by simp only; omega⟩
  ·exact ⟨by simp only; omega, h2, CK_7 (far_sg hs h3 h4), Nat.zero_le _⟩
 unfold rdDate
 split
 ·rename_i h1
  obtain ⟨g1, g2, g3, g4⟩ := dig_good s (at_ + 1 + 1) ((s.size : Int) - (at_ + 1 + 1)).toNat (at_ + 1 + 1) 0 (by omega) (by omega) (by omega) (by omega) (by rw [show at_ + 1 + 1 - (at_ + 1 + 1) = 0 by omega]; decide)
  exact hF _ _ _ (Or.inr rfl) (by omega) g1 g2 g3 g4
 ·obtain ⟨g1, g2, g3, g4⟩ := dig_good s (at_ + 1) ((s.size : Int) - (at_ + 1)).toNat (at_ + 1) 0 (by omega) (by omega) (by omega) (by omega) (by rw [show at_ + 1 - (at_ + 1) = 0 by omega]; decide)
  exact hF _ _ _ (Or.inl rfl) (by omega) g1 g2 g3 g4
theorem plain_bytes {xs : List Int} (h : xs.all plainB = true) : Bytes xs := fun x hx => by
 have := List.all_eq_true.1 h x hx
 unfold plainB at this
 simp only [Bool.and_eq_true, decide_eq_true_eq] at this
 omega
theorem plainT_str {xs : List Int} (h : xs.all plainB = true) : plainT (strOfNums xs) = true := by
 unfold plainT
 rw [Pure.bytesOf_str (plain_bytes h)]
 exact h
theorem plain_one {c : Int} (h : ¬ (c < 32 ∨ c > 126)) : plainB c = true := by
 unfold plainB
 rw [decide_eq_true (by omega), decide_eq_true (by omega)]
 rfl
theorem text_good : ∀ (k : Nat) (a : Int) (xs : List Int), 0 ≤ at_ → at_ < a → (s.size : Int) ≤ a + k → at_ ≤ (s.size : Int) → xs.all plainB = true → (xs.length : Int) ≤ a → Good s at_ (textE s a xs) := by
 intro k
 induction k using Nat.strongRecOn with
 | _ k ih =>
  intro a xs h00 h0 h hat hx hl
  have hsh : Good s at_ (.inl ((s.size : Int), 99)) := ⟨by simp, hat, by simp only; omega⟩
  by_cases hlt : a < (s.size : Int)
  rotate_left
  ·rw [textE_end hlt]
   exact hsh
  rw [textE_step hlt]
  split
  ·refine ⟨by simp only; omega, by simp only; omega, CK_3 (plainT_str hx), ?_⟩
   show (strOfNums xs).size ≤ _
   rw [strOfNums_size]
   omega
  split
  ·exact ⟨by simp, by simp only; omega, by simp only; omega⟩
  rename_i hnp
  split
  ·split
   ·split
    ·exact ⟨by simp, by simp only; omega, by simp only; omega⟩
    ·rename_i hq
     refine ih (k - 2) (by omega) _ _ h00 (by omega) (by omega) hat ?_ (by rw [List.length_append]; simp only [List.length_cons, List.length_nil]; omega)
     rw [List.all_append, hx, Bool.true_and, List.all_cons, List.all_nil, Bool.and_true]
     refine plain_one fun hh => hq ⟨by omega, by omega⟩
   ·exact hsh
  ·refine ih (k - 1) (by omega) _ _ h00 (by omega) (by omega) hat ?_ (by rw [List.length_append]; simp only [List.length_cons, List.length_nil]; omega)
   rw [List.all_append, hx, Bool.true_and, List.all_cons, List.all_nil, Bool.and_true]
   exact plain_one hnp
theorem bt_extract {a b i : Nat} (h : a + i < b) (hb : b ≤ s.size) : bt (s.extract a b) (i : Int) = bt s ((a + i : Nat) : Int) := by
 rw [bt_at', bt_at', List.getD_eq_getElem?_getD, List.getD_eq_getElem?_getD]
 congr 1
 unfold bytesOf
 rw [ByteArray.data_extract, Array.toList_extract, List.extract_eq_take_drop, List.getElem?_map, List.getElem?_map, List.getElem?_take, if_pos (by omega), List.getElem?_drop]
theorem let_tok {c : Int} (h : 0 ≤ c ∧ c < 256) : letB c = true → inTok c = true := byte_all (p := fun c => letB c = true → inTok c = true) (by decide +kernel) h
theorem token_good (h0 : 0 ≤ at_) (h : at_ < (s.size : Int)) (hl : letB (bt s at_) = true) : Good s at_ (rdToken inTok s at_) := by
 obtain ⟨g1, g2, g3⟩ := tokE_spec inTok s ((s.size : Int) - at_).toNat at_ h0 (by omega)
 have hT := let_tok (byte_of s at_) hl
 have g4 : at_ + 1 ≤ tokE inTok s at_ := by
  rw [tokE_step h hT]
  exact (tokE_spec inTok s ((s.size : Int) - (at_ + 1)).toNat (at_ + 1) (by omega) (by omega)).1
 unfold rdToken
 generalize tokE inTok s at_ = E at *
 obtain ⟨a, rfl⟩ := Int.eq_ofNat_of_zero_le h0
 obtain ⟨e, rfl⟩ := Int.eq_ofNat_of_zero_le (show 0 ≤ E by omega)
 have hz : (s.extract a e).size = e - a := by rw [ByteArray.size_extract]; omega
 refine ⟨by simp only; omega, g2, CK_4 ?_, ?_⟩
 ·show istok (s.extract ((a : Int)).toNat ((e : Int)).toNat) = true
  rw [Int.toNat_natCast, Int.toNat_natCast]
  unfold istok
  rw [decide_eq_true (by omega), Bool.true_and]
  have hb0 := bt_extract s (a := a) (b := e) (i := 0) (by omega) (by omega)
  rw [Nat.add_zero] at hb0
  rw [show bt (s.extract a e) 0 = bt s (a : Int) from hb0, hl, Bool.true_and, decide_eq_true_eq]
  refine tokE_to (Int.le_refl _) (fun i hi0 hi => ?_) (fun h => by omega) (s.extract a e).size 0 (by omega) (by omega)
  obtain ⟨i, rfl⟩ := Int.eq_ofNat_of_zero_le hi0
  show inTok (bt (s.extract a e) (i : Int)) = true
  rw [bt_extract s (by omega) (by omega)]
  exact g3 _ (by omega) (by omega)
 ·show (s.extract ((a : Int)).toNat ((e : Int)).toNat).size ≤ _
  rw [Int.toNat_natCast, Int.toNat_natCast]
  omega
theorem bool_good (h0 : 0 ≤ at_) (h : at_ < (s.size : Int)) : Good s at_ (rdBool s at_) := by
 unfold rdBool
 split
 ·split
  ·rename_i hc
   exact ⟨by simp only; omega, by simp only; omega, CK_6 (n := bt s (at_ + 1) - 48) (by omega), Nat.zero_le _⟩
  ·exact ⟨by simp, by simp only; omega, by simp only; omega⟩
 ·exact ⟨by simp, by simp only; omega, by simp only; omega⟩
theorem un64_good (a : ByteArray) (h : a.size ≤ 140737488355328) : ∃ r, Go.Proofs.YtkbmbancfbfddaaGreatDoor.X.un64 a = some r ∧ -1 ≤ r.2.2 ∧ r.2.2 ≤ (a.size : Int) ∧ (r.2.1 = 0 → r.1.length ≤ a.size + 3) := by
 have hr := ub_rng (bytesOf a)
 rw [bytesOf_length] at hr
 refine ⟨ub (bytesOf a), ?_, hr.1, hr.2, fun h0 => ?_⟩
 ·unfold Go.Proofs.YtkbmbancfbfddaaGreatDoor.X.un64
  rw [everO_ev (fun k => octets_Unbase64.mono a k) (unbase64_f a h), Option.bind_some, if_pos hr]
 ·rcases hu : ub (bytesOf a) with ⟨y, e, z⟩
  rw [hu] at h0
  simp only at h0 ⊢
  subst h0
  obtain ⟨hy, hb⟩ := ub_back (bytesOf a) y z (Bytes.of a) hu
  have h1 := b64L_long y.length y (Nat.le_refl _)
  rw [hb, List.length_append, List.length_replicate, bytesOf_length] at h1
  omega
theorem bytes_good (hs : s.size ≤ 140737488355327) (h0 : 0 ≤ at_) (h : at_ < (s.size : Int)) : ∃ R, rdBytes ixCol Go.Proofs.YtkbmbancfbfddaaGreatDoor.X.un64 s at_ = some R ∧ Good s at_ R := by
 have hi := ixCol_lt (s.extract (at_ + 1).toNat s.size)
 rw [show ((s.extract (at_ + 1).toNat s.size).size : Int) = s.size - (at_ + 1) by simp; omega] at hi
 unfold rdBytes
 generalize ixCol (s.extract (at_ + 1).toNat s.size) = i at *
 by_cases h1 : i < 0
 ·rw [if_pos h1]
  exact ⟨_, rfl, by simp, by simp only; omega, by simp only; omega⟩
 ·rw [if_neg h1]
  have hz : ((s.extract (at_ + 1).toNat (at_ + 1 + i).toNat).size : Int) = i := by simp; omega
  obtain ⟨r, hr, g1, g2, g3⟩ := un64_good (s.extract (at_ + 1).toNat (at_ + 1 + i).toNat) (by omega)
  rw [hr, Option.bind_some]
  rw [hz] at g2
  refine ⟨_, rfl, ?_⟩
  split
  ·rename_i hr0
   refine ⟨by simp only; omega, by simp only; omega, CK_5 _, ?_⟩
   show (strOfNums r.1).size ≤ _
   rw [strOfNums_size]
   have := g3 hr0
   omega
  ·exact ⟨by simp, by simp only; omega, by simp only; omega⟩
theorem disp_good (hs : s.size ≤ 140737488355327) (h00 : 0 ≤ at_) (hat : at_ < (s.size : Int)) : ∀ (k : Nat) (a : Int) (xs : List Int), at_ < a → (s.size : Int) ≤ a + k → (xs.length : Int) ≤ a → ∃ R, dispE vaF unHx octets_Lower.f s at_ a xs = some R ∧ Good s at_ R := by
 intro k
 induction k using Nat.strongRecOn with
 | _ k ih =>
  intro a xs h0 h hl
  by_cases hlt : a < (s.size : Int)
  rotate_left
  ·rw [dispE_end _ _ _ hlt]
   exact ⟨_, rfl, by simp, by simp only; omega, by simp only; omega⟩
  rw [dispE_step _ _ _ hlt]
  have hst : Good s at_ (.inl (a, 97)) := ⟨by simp, by simp only; omega, by simp only; omega⟩
  split
  ·obtain ⟨r, _, hr, hv⟩ := valid_f (strOfNums xs)
   rw [hr, Option.bind_some]
   refine ⟨_, rfl, ?_⟩
   split
   ·rename_i hr1
    refine ⟨by simp only; omega, by simp only; omega, CK_8 (by rw [← hv]; exact hr1), ?_⟩
    show (strOfNums xs).size ≤ _
    rw [strOfNums_size]
    omega
   ·exact ⟨by simp, by simp only; omega, by simp only; omega⟩
  split
  ·exact ⟨_, rfl, hst⟩
  split
  ·have hz : ((hexAt s a).size : Int) = (if a + 1 + 2 < (s.size : Int) then a + 1 + 2 else (s.size : Int)) - (a + 1) := by
    unfold hexAt
    simp
    split <;> omega
   have hzle : (hexAt s a).size ≤ 140737488355328 := by
    split at hz <;> omega
   rw [unHx_f (hexAt s a) hzle, Option.bind_some]
   by_cases h4 : (unGo (bytesOf (hexAt s a)) 0 []).2.1 = 0 ∧ (unGo (bytesOf (hexAt s a)) 0 []).1.length = 1
   ·rw [if_pos h4]
    obtain ⟨e1, e2⟩ := unGo_len _ _ _ h4.1
    rw [h4.2, bytesOf_length] at e2
    rw [bytesOf_length] at e1
    simp only [List.length_nil] at e2
    have h2 : a + 1 + 2 ≤ (s.size : Int) := by
     split at hz <;> omega
    obtain ⟨l, hl2⟩ := lower_some (hexAt s a) hzle
    rw [hl2, Option.bind_some]
    by_cases h5 : l = hexAt s a
    ·rw [if_pos h5, if_pos h2]
     exact ih (k - 3) (by omega) _ _ (by omega) (by omega) (by rw [List.length_append]; simp only [List.length_cons, List.length_nil]; omega)
    ·rw [if_neg h5]
     exact ⟨_, rfl, hst⟩
   ·rw [if_neg h4]
    exact ⟨_, rfl, hst⟩
  ·exact ih (k - 1) (by omega) _ _ (by omega) (by omega) (by rw [List.length_append]; simp only [List.length_cons, List.length_nil]; omega)
theorem item_good (hs : s.size ≤ 140737488355327) (h0 : 0 ≤ at_) (h : at_ < (s.size : Int)) : ∃ R, rdItem inTok letB ixCol Go.Proofs.YtkbmbancfbfddaaGreatDoor.X.un64 vaF unHx octets_Lower.f s at_ = some R ∧ Good s at_ R := by
 unfold rdItem
 by_cases h1 : dig (bt s at_) = true ∨ bt s at_ = 45
 ·rw [if_pos h1]
  exact ⟨_, rfl, number_good s at_ h0 h h1⟩
 rw [if_neg h1]
 by_cases h2 : bt s at_ = 34
 ·rw [if_pos h2]
  exact ⟨_, rfl, text_good s at_ s.size (at_ + 1) [] h0 (by omega) (by omega) (by omega) rfl (by simp only [List.length_nil]; omega)⟩
 rw [if_neg h2]
 by_cases h3 : letB (bt s at_) = true
 ·rw [if_pos h3]
  exact ⟨_, rfl, token_good s at_ h0 h h3⟩
 rw [if_neg h3]
 split
 ·exact bytes_good s at_ hs h0 h
 split
 ·exact ⟨_, rfl, bool_good s at_ h0 h⟩
 split
 ·exact ⟨_, rfl, date_good s at_ h0 h⟩
 split
 ·unfold rdDisplay
  split
  ·exact disp_good s at_ hs h0 h s.size (at_ + 1 + 1) [] (by omega) (by omega) (by simp only [List.length_nil]; omega)
  ·exact ⟨_, rfl, by simp, by simp only; omega, by simp only; omega⟩
 ·exact ⟨_, rfl, by simp, by simp only; omega, by simp only; omega⟩
end
/-- What Read answers, whatever the text and the place. -/
theorem read_good (s : ByteArray) (at_ : Int) (hs : s.size ≤ 140737488355327) : ∃ c0 c1 c2 i e, bare_Read.f s at_ = some (c0, c1, c2, i, e) ∧
  (e ≠ 0 → c0 = 0 ∧ c1 = 0 ∧ c2 = ⟨#[]⟩ ∧ (¬ at_ < 0 → ¬ at_ > (s.size : Int) → at_ ≤ i ∧ i ≤ (s.size : Int))) ∧ (e = 0 → at_ < i ∧ i ≤ (s.size : Int) ∧ CK c0 c1 c2 = 0 ∧ c2.size ≤ s.size + 3) := by
 unfold bare_Read.f readF rdRead
 by_cases h1 : at_ < 0 ∨ at_ > (s.size : Int)
 ·rw [if_pos h1, Option.bind_some]
  exact ⟨_, _, _, _, _, rfl, fun _ => ⟨rfl, rfl, rfl, fun h2 h3 => by omega⟩, fun h => by cases h⟩
 rw [if_neg h1]
 by_cases h2 : at_ = (s.size : Int)
 ·rw [if_pos h2, Option.bind_some]
  exact ⟨_, _, _, _, _, rfl, fun _ => ⟨rfl, rfl, rfl, fun _ _ => ⟨Int.le_refl at_, by show at_ ≤ _; omega⟩⟩, fun h => by cases h⟩
 rw [if_neg h2, if_pos hs]
 obtain ⟨R, hR, hg⟩ := item_good s at_ hs (by omega) (by omega)
 rw [hR, Option.bind_some, Option.bind_some]
 rcases R with ⟨p, e⟩ | ⟨⟨b0, b1, b2⟩, p⟩
 ·exact ⟨_, _, _, _, _, rfl, fun _ => ⟨rfl, rfl, rfl, fun _ _ => ⟨hg.2.1, hg.2.2⟩⟩, fun h => absurd h hg.1⟩
 ·exact ⟨_, _, _, _, _, rfl, fun h => absurd rfl h, fun _ => hg⟩
end Go.Proofs.YtkbmbancfbfddaaGreatDoor.Pure
