/- Numerals: their digits, and what the reader makes of them. -/
import Derived.Test.YtkbmbancfbfddaaGreatDoorX6
import Derived.Test.YtkbmbancfbfddaaGreatDoorX5
import Derived.Test.YtkbmbancfbfddaaGreatDoorPBase
namespace Go.Proofs.YtkbmbancfbfddaaGreatDoor.Pure
open Go.RowKit Go.Proofs.YtkbmbancfbfddaaGreatDoor.X Go.Proofs.YtkbmbancfbfddaaGreatDoorW.PrintWords Go.Proofs.YtkbmbancfbfddaaGreatDoorW.PrintLast Go.Proofs.YtkbmbancfbfddaaGreatDoorW.PrintMore

/-- Digits as numbers (48 to 57), and what they come to. -/
def Digs (l : List Int) : Prop := ∀ c ∈ l, 48 ≤ c ∧ c ≤ 57
def val (n : Int) (l : List Int) : Int := l.foldl (fun n c => 10 * n + (c - 48)) n
theorem val_append (n : Int) (l m : List Int) : val n (l ++ m) = val (val n l) m := by unfold val; rw [List.foldl_append]
def dd (u : Nat) : List Int := (Lib.decDigits u).map fun b => (b.toNat : Int)
theorem dd_small {u : Nat} (h : u < 10) : dd u = [48 + (u : Int)] := by
 unfold dd
 rw [Lib.decDigits, dif_pos h]
 simp only [List.map_cons, List.map_nil]
 congr 1
 have : (UInt8.ofNat (48 + u)).toNat = 48 + u := by simp; omega
 rw [this]
 omega
theorem dd_big {u : Nat} (h : ¬ u < 10) : dd u = dd (u / 10) ++ [48 + ((u % 10 : Nat) : Int)] := by
 unfold dd
 rw [Lib.decDigits, dif_neg h, List.map_append]
 simp only [List.map_cons, List.map_nil]
 congr 2
 have : (UInt8.ofNat (48 + u % 10)).toNat = 48 + u % 10 := by simp; omega
 rw [this]
 omega
theorem dd_digs (u : Nat) : Digs (dd u) := by
 induction u using Nat.strongRecOn with
 | _ u ih =>
  by_cases h : u < 10
  ·rw [dd_small h]
   intro c hc
   simp only [List.mem_singleton] at hc
   omega
  ·rw [dd_big h]
   intro c hc
   rw [List.mem_append] at hc
   rcases hc with hc | hc
   ·exact ih (u / 10) (by omega) c hc
   ·simp only [List.mem_singleton] at hc
    omega
theorem dd_val (u : Nat) : val 0 (dd u) = u := by
 induction u using Nat.strongRecOn with
 | _ u ih =>
  by_cases h : u < 10
  ·rw [dd_small h]
   unfold val
   simp only [List.foldl_cons, List.foldl_nil]
   omega
  ·rw [dd_big h, val_append, ih (u / 10) (by omega)]
   unfold val
   simp only [List.foldl_cons, List.foldl_nil]
   omega
theorem dd_pos (u : Nat) : 0 < (dd u).length := by
 by_cases h : u < 10
 ·rw [dd_small h]; simp
 ·rw [dd_big h]; simp
theorem dd_len : ∀ (k u : Nat), u < 10 ^ (k + 1) → (dd u).length ≤ k + 1 := by
 intro k
 induction k with
 | zero =>
  intro u h
  rw [dd_small (by omega)]
  simp
 | succ k ih =>
  intro u h
  by_cases h1 : u < 10
  ·rw [dd_small h1]; simp
  ·rw [dd_big h1, List.length_append]
   have := ih (u / 10) (by rw [Nat.pow_succ] at h; omega)
   simp only [List.length_cons, List.length_nil]
   omega
theorem dd_head (u : Nat) : ∃ c t, dd u = c :: t ∧ 48 ≤ c ∧ c ≤ 57 := by
 have h := dd_pos u
 have hd := dd_digs u
 cases hl : dd u with
 | nil => rw [hl] at h; exact absurd h (by decide)
 | cons c t => exact ⟨c, t, rfl, hd c (by rw [hl]; simp)⟩

/-! reading digits -/
theorem drop_head {s : ByteArray} {a : Nat} {c : Int} {t : List Int} (h : (bytesOf s).drop a = c :: t) : a < s.size ∧ bt s (a : Int) = c ∧ (bytesOf s).drop (a + 1) = t := by
 have hl := bytesOf_length s
 have ha : a < (bytesOf s).length := by
  rcases Nat.lt_or_ge a (bytesOf s).length with h1 | h1
  ·exact h1
  ·rw [List.drop_of_length_le h1] at h; cases h
 rw [getD_drop ha] at h
 injection h with h1 h2
 exact ⟨by omega, by rw [bt_at']; exact h1, h2⟩
theorem dig_t {c : Int} (h : 48 ≤ c ∧ c ≤ 57) : dig c = true := dig_iff.mpr h
theorem num_run (s : ByteArray) (sg : Int) : ∀ (l : List Int) (a : Nat) (n d : Int) (post : List Int), (bytesOf s).drop a = l ++ post → Digs l → 0 ≤ d → d + l.length ≤ 15 →
  numE s sg (a : Int) n d (-1) 0 = numE s sg ((a + l.length : Nat) : Int) (val n l) (d + l.length) (-1) 0 := by
 intro l
 induction l with
 | nil =>
  intro a n d post _ _ _ _
  simp [val]
 | cons c t ih =>
  intro a n d post h hd h0 hl
  obtain ⟨hs, hb, hr⟩ := drop_head h
  simp only [List.length_cons] at hl
  rw [numE_step (by omega), hb, if_pos (dig_t (hd c (by simp))), if_pos (by decide), if_neg (by omega)]
  have := ih (a + 1) (10 * n + (c - 48)) (d + 1) post hr (fun x hx => hd x (by simp [hx])) (by omega) (by omega)
  rw [show ((a : Int) + 1) = ((a + 1 : Nat) : Int) by omega, this]
  simp only [List.length_cons]
  rw [show a + 1 + t.length = a + (t.length + 1) by omega, show d + 1 + (t.length : Int) = d + ((t.length + 1 : Nat) : Int) by omega]
  rfl
theorem num_frac (s : ByteArray) (sg : Int) (dot : Int) (hdot : ¬ dot < 0) : ∀ (l : List Int) (a : Nat) (n d b : Int) (post : List Int), (bytesOf s).drop a = l ++ post → Digs l → 0 ≤ b → b + l.length ≤ 3 →
  numE s sg (a : Int) n d dot b = numE s sg ((a + l.length : Nat) : Int) (val n l) d dot (b + l.length) := by
 intro l
 induction l with
 | nil =>
  intro a n d b post _ _ _ _
  simp [val]
 | cons c t ih =>
  intro a n d b post h hd h0 hl
  obtain ⟨hs, hb, hr⟩ := drop_head h
  simp only [List.length_cons] at hl
  rw [numE_step (by omega), hb, if_pos (dig_t (hd c (by simp))), if_neg hdot, if_neg (by omega)]
  have := ih (a + 1) (10 * n + (c - 48)) d (b + 1) post hr (fun x hx => hd x (by simp [hx])) (by omega) (by omega)
  rw [show ((a : Int) + 1) = ((a + 1 : Nat) : Int) by omega, this]
  simp only [List.length_cons]
  rw [show a + 1 + t.length = a + (t.length + 1) by omega, show b + 1 + (t.length : Int) = b + ((t.length + 1 : Nat) : Int) by omega]
  rfl
theorem dig_run (s : ByteArray) (f : Int) : ∀ (l : List Int) (a : Nat) (n : Int) (post : List Int), (bytesOf s).drop a = l ++ post → Digs l → (a : Int) + l.length ≤ f + 15 →
  digE s f (a : Int) n = digE s f ((a + l.length : Nat) : Int) (val n l) := by
 intro l
 induction l with
 | nil =>
  intro a n post _ _ _
  simp [val]
 | cons c t ih =>
  intro a n post h hd hl
  obtain ⟨hs, hb, hr⟩ := drop_head h
  simp only [List.length_cons] at hl
  rw [digE_step (by omega) (by rw [hb]; exact dig_t (hd c (by simp))) (by omega), hb]
  have := ih (a + 1) (10 * n + (c - 48)) post hr (fun x hx => hd x (by simp [hx])) (by omega)
  rw [show ((a : Int) + 1) = ((a + 1 : Nat) : Int) by omega, this]
  simp only [List.length_cons]
  rw [show a + 1 + t.length = a + (t.length + 1) by omega]
  rfl
/-- The sign's byte, if it is below nothing. -/
def sgn (n : Int) : List Int := if n < 0 then [45] else []
theorem bytes_itoa (n : Int) : bytesOf ⟨(Lib.itoa n).toArray⟩ = sgn n ++ dd n.natAbs := by
 unfold bytesOf Lib.itoa sgn dd
 by_cases h : n < 0
 ·rw [if_pos h, if_pos h]
  simp
 ·rw [if_neg h, if_neg h, show n.toNat = n.natAbs by omega]
  simp
theorem size_le {s : ByteArray} {l : List Int} (h : bytesOf s = l) : s.size = l.length := by rw [← h, bytesOf_length]
/-- A number's text: the whole of it is read. -/
theorem number_read' (s : ByteArray) (n : Int) (u : Nat) (hu : u < 10 ^ 15) (frac : List Int) (h : bytesOf s = sgn n ++ dd u ++ frac) (R : RR)
  (hR : ∀ a : Nat, a = (sgn n ++ dd u).length → numE s (if n < 0 then -1 else 1) (a : Int) u ((dd u).length : Int) (-1) 0 = R) : rdItem inTok letB ixCol Go.Proofs.YtkbmbancfbfddaaGreatDoor.X.un64 vaF unHx octets_Lower.f s 0 = some R := by
 have hl := dd_len 14 u hu
 obtain ⟨c, t, hc, hc1, hc2⟩ := dd_head u
 unfold rdItem rdNumber
 by_cases h0 : n < 0
 ·rw [if_pos h0] at hR
  unfold sgn at h hR
  rw [if_pos h0] at h hR
  have hd0 : (bytesOf s).drop 0 = 45 :: (dd u ++ frac) := by rw [h]; simp
  obtain ⟨hs, hb, hr⟩ := drop_head hd0
  have hr2 : (bytesOf s).drop 1 = c :: (t ++ frac) := by rw [hr, hc]; rfl
  obtain ⟨hs1, hb1, _⟩ := drop_head hr2
  have hb0 : bt s 0 = 45 := hb
  have hb1' : bt s (0 + 1) = c := hb1
  rw [if_pos (.inr hb0), if_pos hb0, hb1', if_pos ⟨by omega, dig_t ⟨hc1, hc2⟩⟩]
  have hrun := num_run s (-1) (dd u) 1 0 0 frac hr (dd_digs u) (by omega) (by omega)
  have hRR := hR (1 + (dd u).length) (by simp; omega)
  rw [dd_val, Int.zero_add] at hrun
  rw [← hRR, ← hrun]
  rfl
 ·rw [if_neg h0] at hR
  unfold sgn at h hR
  rw [if_neg h0] at h hR
  have hd0 : (bytesOf s).drop 0 = c :: (t ++ frac) := by rw [h, hc]; simp
  obtain ⟨hs, hb, _⟩ := drop_head hd0
  have hb0 : bt s 0 = c := hb
  rw [hb0, if_pos (.inl (dig_t ⟨hc1, hc2⟩)), if_neg (by omega)]
  have hrun := num_run s 1 (dd u) 0 0 0 frac (by rw [h]; simp) (dd_digs u) (by omega) (by omega)
  have hRR := hR (dd u).length (by simp)
  rw [dd_val, Int.zero_add, Nat.zero_add] at hrun
  rw [← hRR, ← hrun]
  rfl
theorem read_of_item {s : ByteArray} {R : RR} (h0 : 0 < s.size) (hs : s.size ≤ 140737488355327) (h : rdItem inTok letB ixCol Go.Proofs.YtkbmbancfbfddaaGreatDoor.X.un64 vaF unHx octets_Lower.f s 0 = some R) : bare_Read.f s 0 = some ((rdAns R).1.1, (rdAns R).1.2.1, (rdAns R).1.2.2, (rdAns R).2.1, (rdAns R).2.2) := by
 unfold bare_Read.f readF rdRead
 rw [if_neg (by omega), if_neg (by omega), if_pos hs, h]
 rfl
theorem sg_mul (n : Int) (u : Nat) (hn : n = if n < 0 then -(u : Int) else u) : (if n < 0 then -1 else 1) * (u : Int) = n := by
 split at hn
 ·rename_i h; rw [if_pos h]; omega
 ·rename_i h; rw [if_neg h]; omega
theorem abs_if (n : Int) : n = if n < 0 then -(n.natAbs : Int) else n.natAbs := by
 split <;> omega
/-- An integer's text is read as it. -/
theorem int_read (n : Int) (hn : -999999999999999 ≤ n ∧ n ≤ 999999999999999) : bare_Read.f ⟨(Lib.itoa n).toArray⟩ 0 = some (1, n, ⟨#[]⟩, ((⟨(Lib.itoa n).toArray⟩ : ByteArray).size : Int), 0) := by
 have hu : n.natAbs < 10 ^ 15 := by omega
 have hl := dd_len 14 n.natAbs hu
 have hp := dd_pos n.natAbs
 have hz := size_le (bytes_itoa n)
 have hsg : (sgn n).length ≤ 1 := by unfold sgn; split <;> decide
 rw [List.length_append] at hz
 generalize hS : (⟨(Lib.itoa n).toArray⟩ : ByteArray) = S at *
 have hB : bytesOf S = sgn n ++ dd n.natAbs ++ [] := by rw [← hS, bytes_itoa]; simp
 refine (read_of_item (R := .inr ((1, n, ⟨#[]⟩), (S.size : Int))) (by omega) (by omega) ?_).trans rfl
 refine number_read' S n n.natAbs hu [] hB _ (fun a ha => ?_)
 rw [List.length_append] at ha
 rw [numE_end (by omega), sg_mul n n.natAbs (abs_if n)]
 unfold rdTold
 rw [if_pos (by decide), show (a : Int) = (S.size : Int) by omega]
/-- A date's text is read as it. -/
theorem date_read (n : Int) (hn : -999999999999999 ≤ n ∧ n ≤ 999999999999999) : bare_Read.f ((⟨#[64]⟩ : ByteArray) ++ ⟨(Lib.itoa n).toArray⟩) 0 = some (7, n, ⟨#[]⟩, (((⟨#[64]⟩ : ByteArray) ++ ⟨(Lib.itoa n).toArray⟩ : ByteArray).size : Int), 0) := by
 have hu : n.natAbs < 10 ^ 15 := by omega
 have hl := dd_len 14 n.natAbs hu
 have hp := dd_pos n.natAbs
 have hap : bytesOf ((⟨#[64]⟩ : ByteArray) ++ ⟨(Lib.itoa n).toArray⟩) = 64 :: (sgn n ++ dd n.natAbs) := by
  rw [← bytes_itoa]
  unfold bytesOf
  simp [ByteArray.data_append]
 have hz := size_le hap
 have hsg : (sgn n).length ≤ 1 := by unfold sgn; split <;> decide
 rw [List.length_cons, List.length_append] at hz
 generalize (⟨#[64]⟩ : ByteArray) ++ ⟨(Lib.itoa n).toArray⟩ = S at *
 obtain ⟨c, t, hc, hc1, hc2⟩ := dd_head n.natAbs
 have hd0 : (bytesOf S).drop 0 = 64 :: (sgn n ++ dd n.natAbs) := by rw [hap]; rfl
 obtain ⟨_, hb, hr⟩ := drop_head hd0
 have hb0 : bt S 0 = 64 := hb
 refine (read_of_item (R := .inr ((7, n, ⟨#[]⟩), (S.size : Int))) (by omega) (by omega) ?_).trans rfl
 unfold rdItem
 rw [hb0, if_neg (by decide), if_neg (by decide), if_neg (by decide +kernel), if_neg (by decide), if_neg (by decide), if_pos rfl]
 unfold rdDate
 by_cases h0 : n < 0
 ·have hs0 : sgn n = [45] := by unfold sgn; rw [if_pos h0]
  rw [hs0] at hr hz
  simp only [List.length_cons, List.length_nil] at hz
  have hr1 : (bytesOf S).drop 1 = 45 :: dd n.natAbs := hr
  obtain ⟨h1s, h1b, h1r⟩ := drop_head hr1
  have hb1 : bt S (0 + 1) = 45 := h1b
  rw [if_pos ⟨by omega, hb1⟩]
  have hrun := dig_run S (0 + 1 + 1) (dd n.natAbs) 2 0 [] (by rw [List.append_nil]; exact h1r) (dd_digs _) (by omega)
  rw [dd_val] at hrun
  rw [show (0 + 1 + 1 : Int) = ((2 : Nat) : Int) from rfl] at hrun ⊢
  rw [hrun, digE_stop (fun h => by omega)]
  unfold rdDateF
  rw [if_neg (fun h => h.elim (fun e => by simp only at e; omega) (fun e => by have := e.1; simp only at this; omega))]
  simp only
  rw [show ((2 + (dd n.natAbs).length : Nat) : Int) = (S.size : Int) by omega, show (-1 : Int) * (n.natAbs : Int) = n by omega]
 ·have hs0 : sgn n = [] := by unfold sgn; rw [if_neg h0]
  rw [hs0, List.nil_append] at hr
  rw [hs0] at hz
  simp only [List.length_nil] at hz
  have hr1 : (bytesOf S).drop 1 = c :: t := by rw [← hc]; exact hr
  obtain ⟨h1s, h1b, h1r⟩ := drop_head hr1
  have hb1 : bt S (0 + 1) = c := h1b
  rw [if_neg (fun h => by rw [hb1] at h; omega)]
  have hrun := dig_run S (0 + 1) (dd n.natAbs) 1 0 [] (by rw [List.append_nil]; exact hr) (dd_digs _) (by omega)
  rw [dd_val] at hrun
  rw [show (0 + 1 : Int) = ((1 : Nat) : Int) from rfl] at hrun ⊢
  rw [hrun, digE_stop (fun h => by omega)]
  unfold rdDateF
  rw [if_neg (fun h => h.elim (fun e => by simp only at e; omega) (fun e => by have := e.1; simp only at this; omega))]
  simp only
  rw [show ((1 + (dd n.natAbs).length : Nat) : Int) = (S.size : Int) by omega, show (1 : Int) * (n.natAbs : Int) = n by omega]
end Go.Proofs.YtkbmbancfbfddaaGreatDoor.Pure
