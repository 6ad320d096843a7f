/- bare.Check and bare.Print, told by plain functions. -/
import Derived.Test.YtkbmbancfbfddaaGreatDoorPDec
import Derived.Test.YtkbmbancfbfddaaGreatDoorPTokIs
import Derived.Test.YtkbmbancfbfddaaGreatDoorPReadEv
import Derived.KernelRfl
namespace Go.Proofs.YtkbmbancfbfddaaGreatDoor.Pure
open Go.RowKit Go.Proofs.YtkbmbancfbfddaaGreatDoor.X Go.Proofs.YtkbmbancfbfddaaGreatDoorW.PrintWords Go.Proofs.YtkbmbancfbfddaaGreatDoorW.PrintLast Go.Proofs.YtkbmbancfbfddaaGreatDoorW.PrintMore

def far (n : Int) : Bool := decide (n > 999999999999999) || decide (n < -999999999999999)
theorem far_iff {n : Int} : far n = false ↔ -999999999999999 ≤ n ∧ n ≤ 999999999999999 := by
 unfold far
 simp only [Bool.or_eq_false_iff, decide_eq_false_iff_not]
 omega
def plainB (c : Int) : Bool := decide (32 ≤ c) && decide (c ≤ 126)
def plainT (s : ByteArray) : Bool := (bytesOf s).all plainB
theorem drop_bt {s : ByteArray} {j : Nat} (h : j < s.size) : (bytesOf s).drop j = bt s (j : Int) :: (bytesOf s).drop (j + 1) := by
 have hl := bytesOf_length s
 rw [List.drop_eq_getElem_cons (by omega), bt_at', List.getD_eq_getElem?_getD, List.getElem?_eq_getElem (by omega)]
 rfl
theorem within_l0 (s : ByteArray) (hs : s.size ≤ 140737488355328) (d : Nat) : ∀ j : Nat, j + d = s.size → Ev (fun k => bare_within.l0 k s (s.size : Int) (j : Int)) (((bytesOf s).drop j).all plainB) := by
 induction d with
 | zero =>
  intro j hj
  refine Ev.step (f := fun _ => some true) (fun k => ?_) ?_
  ·rw [bare_within.l0, if_neg (by omega)]
  ·rw [List.drop_of_length_le (by rw [bytesOf_length]; omega)]
   exact Ev.now _
 | succ d ih =>
  intro j hj
  have hw : wrap64 ((j : Int) + 1) = ((j + 1 : Nat) : Int) := by unfold wrap64; omega
  rw [drop_bt (by omega), List.all_cons]
  refine Ev.step (f := fun k => if bt s (j : Int) < 32 then some false else if bt s (j : Int) > 126 then some false else bare_within.l0 k s (s.size : Int) ((j + 1 : Nat) : Int)) (fun k => ?_) ?_
  ·rw [bare_within.l0, if_pos (by omega), if_pos (by omega), if_pos (by omega), hw]
  ·by_cases h1 : bt s (j : Int) < 32
   ·rw [show plainB (bt s (j : Int)) = false by unfold plainB; rw [decide_eq_false (by omega)]; rfl]
    exact ev_pos h1 (Ev.now _)
   ·refine ev_neg h1 ?_
    by_cases h2 : bt s (j : Int) > 126
    ·rw [show plainB (bt s (j : Int)) = false by unfold plainB; rw [decide_eq_false (p := bt s (j : Int) ≤ 126) (by omega), Bool.and_false]]
     exact ev_pos h2 (Ev.now _)
    ·refine ev_neg h2 ?_
     rw [show plainB (bt s (j : Int)) = true by unfold plainB; rw [decide_eq_true (by omega), decide_eq_true (by omega)]; rfl, Bool.true_and]
     exact ih (j + 1) (by omega)
theorem within_f (s : ByteArray) (hs : s.size ≤ 140737488355328) : Ev (fun k => bare_within.f k s) (plainT s) := within_l0 s hs s.size 0 (by omega)
noncomputable def validB (s : ByteArray) : Bool := ((vaF s).getD (false, 0)).1
theorem valid_f (s : ByteArray) : ∃ r, Ev (fun k => utf_Valid.f k s) r ∧ vaF s = some r ∧ r.1 = validB s := by
 obtain ⟨r, hr⟩ := valid_ev s s.size 0 (by omega)
 have h : vaF s = some r := everO_ev (fun k => utf_Valid.mono s k) hr
 exact ⟨r, hr, h, by unfold validB; rw [h]; rfl⟩
/-- What Check answers. -/
noncomputable def CK (a b : Int) (s : ByteArray) : Int :=
 if a < 1 ∨ a > 8 then 1 else if (a = 1 ∨ a = 2 ∨ a = 6 ∨ a = 7) ∧ s.size ≠ 0 ∨ ¬ (a = 1 ∨ a = 2 ∨ a = 6 ∨ a = 7) ∧ b ≠ 0 then 1
 else if a = 1 ∨ a = 2 then (if far b = true then 92 else 0) else if a = 3 then (if plainT s = true then 0 else 93) else if a = 4 then (if istok s = true then 0 else 91)
 else if a = 6 then (if b = 0 ∨ b = 1 then 0 else 95) else if a = 7 then (if far b = true then 96 else 0) else if a = 8 then (if validB s = true then 0 else 97) else 0
def CJ (f w t b v : Bool) (K : Int) : Int := if K = 1 ∨ K = 2 then (if f = true then 92 else 0) else if K = 3 then (if w = true then 93 else 0) else if K = 4 then (if t = true then 91 else 0) else if K = 6 then (if b = true then 95 else 0) else if K = 7 then (if f = true then 96 else 0) else if K = 8 then (if v = true then 97 else 0) else 0
theorem chk_j3 (f w t b v : Bool) (K n : Int) (s : ByteArray) (h0 : 1 ≤ K) (h1 : K ≤ 8) : bare_Check.j3 16 [⟨1, f, 92⟩, ⟨2, f, 92⟩, ⟨3, w, 93⟩, ⟨4, t, 91⟩, ⟨6, b, 95⟩, ⟨7, f, 96⟩, ⟨8, v, 97⟩] 7 0 K n s = some (CJ f w t b v K) := by
 have hK : K = 1 ∨ K = 2 ∨ K = 3 ∨ K = 4 ∨ K = 5 ∨ K = 6 ∨ K = 7 ∨ K = 8 := by omega
 rcases hK with rfl | rfl | rfl | rfl | rfl | rfl | rfl | rfl
 ·cases f <;> (refine Eq.trans ?_ (Eq.refl (some (CJ _ _ _ _ _ _))); kernel_rfl)
 ·cases f <;> (refine Eq.trans ?_ (Eq.refl (some (CJ _ _ _ _ _ _))); kernel_rfl)
 ·cases w <;> (refine Eq.trans ?_ (Eq.refl (some (CJ _ _ _ _ _ _))); kernel_rfl)
 ·cases t <;> (refine Eq.trans ?_ (Eq.refl (some (CJ _ _ _ _ _ _))); kernel_rfl)
 ·(refine Eq.trans ?_ (Eq.refl (some (CJ _ _ _ _ _ _))); kernel_rfl)
 ·cases b <;> (refine Eq.trans ?_ (Eq.refl (some (CJ _ _ _ _ _ _))); kernel_rfl)
 ·cases f <;> (refine Eq.trans ?_ (Eq.refl (some (CJ _ _ _ _ _ _))); kernel_rfl)
 ·cases v <;> (refine Eq.trans ?_ (Eq.refl (some (CJ _ _ _ _ _ _))); kernel_rfl)
theorem j3_ev (f w t b v : Bool) (K n : Int) (s : ByteArray) (h0 : 1 ≤ K) (h1 : K ≤ 8) : Ev (fun k => bare_Check.j3 k [⟨1, f, 92⟩, ⟨2, f, 92⟩, ⟨3, w, 93⟩, ⟨4, t, 91⟩, ⟨6, b, 95⟩, ⟨7, f, 96⟩, ⟨8, v, 97⟩] 7 0 K n s) (CJ f w t b v K) :=
 Ev.of (fun k => (bare_Check.mono_l k).2.2.2.1 _ _ _ _ _ _) (chk_j3 f w t b v K n s h0 h1)
theorem chk_j2 (f : Bool) (K n : Int) (s : ByteArray) (h0 : 1 ≤ K) (h1 : K ≤ 8) (hs : s.size ≤ 140737488355328) : Ev (fun k => bare_Check.j2 k f K n s) (CJ f (!plainT s) (!istok s) (!(decide (n = 0 ∨ n = 1))) (!validB s) K) := by
 obtain ⟨r, hr, _, hv⟩ := valid_f s
 refine Ev.step (f := fun k => (utf_Valid.f k s).bind fun bt109 => ((bare_within.f k s).bind fun t111 => ((bare_IsToken.f k s).bind fun t112 => (if n = 0 then (bare_Check.j3 k [⟨1, f, 92⟩, ⟨2, f, 92⟩, ⟨3, !t111, 93⟩, ⟨4, !t112, 91⟩, ⟨6, false, 95⟩, ⟨7, f, 96⟩, ⟨8, !bt109.1, 97⟩] 7 0 K n s) else (bare_Check.j3 k [⟨1, f, 92⟩, ⟨2, f, 92⟩, ⟨3, !t111, 93⟩, ⟨4, !t112, 91⟩, ⟨6, (n != 1), 95⟩, ⟨7, f, 96⟩, ⟨8, !bt109.1, 97⟩] 7 0 K n s))))) (fun k => by rw [bare_Check.j2]; rfl) ?_
 refine Ev.bind hr (Ev.bind (within_f s hs) (Ev.bind (istok_f s hs) ?_))
 rw [hv]
 by_cases hn : n = 0
 ·rw [decide_eq_true (Or.inl hn)]
  exact ev_pos hn (j3_ev _ _ _ _ _ _ _ _ h0 h1)
 ·refine ev_neg hn ?_
  rw [show (!(decide (n = 0 ∨ n = 1))) = (n != 1) by by_cases h : n = 1 <;> simp [h, hn]]
  exact j3_ev _ _ _ _ _ _ _ _ h0 h1
theorem chk_j1 (K n : Int) (s : ByteArray) (h0 : 1 ≤ K) (h1 : K ≤ 8) (hs : s.size ≤ 140737488355328) : Ev (fun k => bare_Check.j1 k false K n s) (CJ (far n) (!plainT s) (!istok s) (!(decide (n = 0 ∨ n = 1))) (!validB s) K) := by
 refine Ev.step (f := fun k => if n > 999999999999999 then bare_Check.j2 k true K n s else bare_Check.j2 k (decide (n < (-999999999999999))) K n s) (fun k => by rw [bare_Check.j1, if_neg (by decide)]) ?_
 unfold far
 by_cases h : n > 999999999999999
 ·rw [decide_eq_true h, Bool.true_or]
  exact ev_pos h (chk_j2 _ K n s h0 h1 hs)
 ·rw [decide_eq_false h, Bool.false_or]
  exact ev_neg h (chk_j2 _ K n s h0 h1 hs)
theorem bad_j1 (K n : Int) (s : ByteArray) : Ev (fun k => bare_Check.j1 k true K n s) 1 := Ev.step (f := fun _ => some 1) (fun k => by rw [bare_Check.j1, if_pos rfl]) (Ev.now _)
theorem chk_j0 (m : Bool) (K n : Int) (s : ByteArray) (hm : m = true ↔ (K = 1 ∨ K = 2 ∨ K = 6 ∨ K = 7)) (hs : s.size ≤ 140737488355328) : Ev (fun k => bare_Check.j0 k m K n s) (CK K n s) := by
 unfold CK
 by_cases h1 : K < 1
 ·rw [if_pos (Or.inl h1)]
  exact Ev.step (f := fun k => bare_Check.j1 k true K n s) (fun k => by rw [bare_Check.j0, if_pos h1]) (bad_j1 K n s)
 by_cases h2 : K > 8
 ·rw [if_pos (Or.inr h2)]
  exact Ev.step (f := fun k => bare_Check.j1 k true K n s) (fun k => by rw [bare_Check.j0, if_neg h1, if_pos h2]) (bad_j1 K n s)
 rw [if_neg (by omega)]
 have hfin : CJ (far n) (!plainT s) (!istok s) (!(decide (n = 0 ∨ n = 1))) (!validB s) K = (if K = 1 ∨ K = 2 then (if far n = true then 92 else 0) else if K = 3 then (if plainT s = true then 0 else 93) else if K = 4 then (if istok s = true then 0 else 91)
   else if K = 6 then (if n = 0 ∨ n = 1 then 0 else 95) else if K = 7 then (if far n = true then 96 else 0) else if K = 8 then (if validB s = true then 0 else 97) else 0) := by
  unfold CJ
  congr 1
  congr 1
  ·cases plainT s <;> rfl
  congr 1
  ·cases istok s <;> rfl
  congr 1
  ·by_cases h : n = 0 ∨ n = 1
   ·rw [decide_eq_true h, if_pos h]; rfl
   ·rw [decide_eq_false h, if_neg h]; rfl
  congr 1
  congr 1
  cases validB s <;> rfl
 by_cases hm2 : m = true
 ·have hn := hm.1 hm2
  by_cases hz : s.size = 0
  ·rw [if_neg (by omega), ← hfin]
   exact Ev.step (f := fun k => bare_Check.j1 k false K n s) (fun k => by rw [bare_Check.j0, if_neg h1, if_neg h2, if_pos hm2, if_pos ((empty_iff s).2 hz)]) (chk_j1 K n s (by omega) (by omega) hs)
  ·rw [if_pos (Or.inl ⟨hn, hz⟩)]
   exact Ev.step (f := fun k => bare_Check.j1 k true K n s) (fun k => by rw [bare_Check.j0, if_neg h1, if_neg h2, if_pos hm2, if_neg (fun h => hz ((empty_iff s).1 h))]) (bad_j1 K n s)
 ·have hn : ¬ (K = 1 ∨ K = 2 ∨ K = 6 ∨ K = 7) := fun h => hm2 (hm.2 h)
  by_cases hz : n = 0
  ·rw [if_neg (by omega), ← hfin]
   exact Ev.step (f := fun k => bare_Check.j1 k false K n s) (fun k => by rw [bare_Check.j0, if_neg h1, if_neg h2, if_neg hm2, hz]; rfl) (chk_j1 K n s (by omega) (by omega) hs)
  ·rw [if_pos (Or.inr ⟨hn, hz⟩)]
   exact Ev.step (f := fun k => bare_Check.j1 k true K n s) (fun k => by rw [bare_Check.j0, if_neg h1, if_neg h2, if_neg hm2, show (n != 0) = true by simp [hz]]) (bad_j1 K n s)
theorem check_f (K n : Int) (s : ByteArray) (hs : s.size ≤ 140737488355328) : Ev (fun k => bare_Check.f k K n s) (CK K n s) := by
 unfold bare_Check.f
 by_cases h1 : K = 1
 ·exact ev_pos h1 (chk_j0 true K n s (by simp [h1]) hs)
 refine ev_neg h1 ?_
 by_cases h2 : K = 2
 ·exact ev_pos h2 (chk_j0 true K n s (by simp [h2]) hs)
 refine ev_neg h2 ?_
 by_cases h6 : K = 6
 ·exact ev_pos h6 (chk_j0 true K n s (by simp [h6]) hs)
 exact ev_neg h6 (chk_j0 _ K n s (by simp [h1, h2, h6]) hs)
/-- What Print tells of an item that may be. -/
def PT (a b : Int) (s : ByteArray) : ByteArray :=
 if a = 1 then ⟨(Lib.itoa b).toArray⟩ else if a = 2 then decT b else if a = 3 then inQuotes s else if a = 5 then ((⟨#[58]⟩ : ByteArray) ++ strOfNums (b64L (bytesOf s))) ++ ⟨#[58]⟩
 else if a = 8 then ((⟨#[37, 34]⟩ : ByteArray) ++ strOfNums (pct (bytesOf s))) ++ ⟨#[34]⟩ else if a = 6 then (⟨#[63]⟩ : ByteArray) ++ ⟨(Lib.itoa b).toArray⟩ else if a = 7 then (⟨#[64]⟩ : ByteArray) ++ ⟨(Lib.itoa b).toArray⟩ else s
theorem itoa_short (n : Int) (hn : -999999999999999 ≤ n ∧ n ≤ 999999999999999) : (⟨(Lib.itoa n).toArray⟩ : ByteArray).size ≤ 16 := by
 have hz := size_le (bytes_itoa n)
 have hl := dd_len 14 n.natAbs (by omega)
 have hsg : (sgn n).length ≤ 1 := by unfold sgn; split <;> decide
 rw [List.length_append] at hz
 omega
theorem CK_num {a b : Int} {s : ByteArray} (h : CK a b s = 0) (ha : a = 1 ∨ a = 2 ∨ a = 6 ∨ a = 7) : s.size = 0 ∧ -999999999999999 ≤ b ∧ b ≤ 999999999999999 ∧ (a = 6 → b = 0 ∨ b = 1) := by
 unfold CK at h
 by_cases hz : s.size = 0
 ·rw [if_neg (by omega), if_neg (by omega)] at h
  rcases ha with rfl | rfl | rfl | rfl
  ·rw [if_pos (by omega)] at h
   have hf : far b = false := by cases hf : far b with | false => rfl | true => rw [hf] at h; cases h
   have := far_iff.1 hf
   omega
  ·rw [if_pos (by omega)] at h
   have hf : far b = false := by cases hf : far b with | false => rfl | true => rw [hf] at h; cases h
   have := far_iff.1 hf
   omega
  ·rw [if_neg (by omega), if_neg (by omega), if_neg (by omega), if_pos rfl] at h
   have : b = 0 ∨ b = 1 := by
    by_cases hb : b = 0 ∨ b = 1
    ·exact hb
    ·rw [if_neg hb] at h; cases h
   omega
  ·rw [if_neg (by omega), if_neg (by omega), if_neg (by omega), if_neg (by omega), if_pos rfl] at h
   have hf : far b = false := by cases hf : far b with | false => rfl | true => rw [hf] at h; cases h
   have := far_iff.1 hf
   omega
 ·rw [if_neg (by omega), if_pos (Or.inl ⟨ha, hz⟩)] at h
  cases h
theorem print_ok (a b : Int) (s : ByteArray) (hs : s.size ≤ 1000000000000) (h : CK a b s = 0) : Ev (fun k => bare_Print.f k a b s) (PT a b s, 0) := by
 refine Ev.bind (check_f a b s (by omega)) ?_
 rw [h]
 refine Ev.congr (fun k => if_pos rfl) ?_
 unfold PT
 by_cases h1 : a = 1
 ·rw [if_pos h1]
  obtain ⟨_, g1, g2, _⟩ := CK_num h (Or.inl h1)
  refine ev_pos h1 ?_
  rw [fmt_f (by omega)]
  exact Ev.now _
 rw [if_neg h1]
 refine ev_neg h1 ?_
 by_cases h2 : a = 2
 ·rw [if_pos h2]
  obtain ⟨_, g1, g2, _⟩ := CK_num h (Or.inr (Or.inl h2))
  exact ev_pos h2 (Ev.bind (Ev.of (fun k => bare_decimal.mono _ k) (dec_f b ⟨g1, g2⟩)) (Ev.now _))
 rw [if_neg h2]
 refine ev_neg h2 ?_
 by_cases h3 : a = 3
 ·rw [if_pos h3]
  exact ev_pos h3 (ev_pos hs (Ev.now _))
 rw [if_neg h3]
 refine ev_neg h3 ?_
 by_cases h5 : a = 5
 ·rw [if_pos h5]
  refine ev_pos h5 (Ev.bind (base64_f (bytesOf s) (Bytes.of s) (by rw [bytesOf_length]; omega)) ?_)
  have hl := b64L_len (bytesOf s).length (bytesOf s) (Nat.le_refl _)
  rw [bytesOf_length] at hl
  exact ev_pos ⟨hs, by rw [strOfNums_size]; omega⟩ (Ev.now _)
 rw [if_neg h5]
 refine ev_neg h5 ?_
 by_cases h8 : a = 8
 ·simp only [if_pos h8]
  exact ev_pos hs (Ev.now _)
 simp only [if_neg h8]
 by_cases h6 : a = 6
 ·simp only [if_pos h6]
  obtain ⟨_, g1, g2, _⟩ := CK_num h (by omega)
  rw [fmt_f (by omega)]
  have := itoa_short b ⟨g1, g2⟩
  refine Ev.congr (fun k => (Option.bind_some ..).trans (if_pos ?_)) (Ev.now _)
  show 1 + _ ≤ _
  omega
 simp only [if_neg h6]
 by_cases h7 : a = 7
 ·simp only [if_pos h7]
  obtain ⟨_, g1, g2, _⟩ := CK_num h (by omega)
  rw [fmt_f (by omega)]
  have := itoa_short b ⟨g1, g2⟩
  refine Ev.congr (fun k => (Option.bind_some ..).trans (if_pos ?_)) (Ev.now _)
  show 1 + _ ≤ _
  omega
 simp only [if_neg h7]
 exact Ev.now _
theorem print_bad (a b : Int) (s : ByteArray) (hs : s.size ≤ 1000000000000) (h : CK a b s ≠ 0) : Ev (fun k => bare_Print.f k a b s) (⟨#[]⟩, CK a b s) := by
 refine Ev.bind (check_f a b s (by omega)) ?_
 exact ev_neg h (Ev.now _)
end Go.Proofs.YtkbmbancfbfddaaGreatDoor.Pure
