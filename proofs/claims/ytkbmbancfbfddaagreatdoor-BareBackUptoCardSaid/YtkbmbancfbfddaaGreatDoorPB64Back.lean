/- Base64 there and back, on lists of bytes. -/
import Derived.Test.YtkbmbancfbfddaaGreatDoorPB64
namespace Go.Proofs.YtkbmbancfbfddaaGreatDoor.Pure
open Go.RowKit Go.Proofs.YtkbmbancfbfddaaGreatDoor.X Go.Proofs.YtkbmbancfbfddaaGreatDoorW.PrintWords Go.Proofs.YtkbmbancfbfddaaGreatDoorW.PrintLast Go.Proofs.YtkbmbancfbfddaaGreatDoorW.PrintMore

theorem scan_pads (len : Nat) : ∀ (cs : List Int) (i n m : Nat), n < len → n ≤ i → scan len cs i n = (m, none) → cs = List.replicate cs.length 61 ∧ m = n := by
 intro cs
 induction cs with
 | nil => intro i n m _ _ h; simp [scan] at h; exact ⟨rfl, h.symm⟩
 | cons c t ih =>
  intro i n m hn hni h
  rw [scan] at h
  by_cases hc : c = 61 ∧ len ≤ i + 2
  ·rw [if_pos hc, Nat.min_eq_left hni] at h
   obtain ⟨h1, h2⟩ := ih (i + 1) n m hn (by omega) h
   refine ⟨?_, h2⟩
   rw [List.length_cons, List.replicate_succ, ← h1, hc.1]
  ·rw [if_neg hc] at h
   by_cases hv : 0 ≤ v64 c
   ·rw [if_pos hv, if_pos hn] at h; simp at h
   ·rw [if_neg hv] at h; simp at h
theorem scan_ok (len : Nat) : ∀ (cs : List Int) (i m : Nat), i + cs.length = len → scan len cs i len = (m, none) → ∃ ds p, cs = ds ++ List.replicate p 61 ∧ (∀ c ∈ ds, 0 ≤ v64 c) ∧ m = i + ds.length := by
 intro cs
 induction cs with
 | nil => intro i m hi h; simp [scan] at h; exact ⟨[], 0, rfl, fun c hc => (by cases hc), by simp at hi ⊢; omega⟩
 | cons c t ih =>
  intro i m hi h
  rw [scan] at h
  by_cases hc : c = 61 ∧ len ≤ i + 2
  ·rw [if_pos hc, Nat.min_eq_right (by simp at hi; omega)] at h
   obtain ⟨h1, h2⟩ := scan_pads len t (i + 1) i m (by simp at hi; omega) (by omega) h
   refine ⟨[], t.length + 1, ?_, fun c hc => (by cases hc), by simp; omega⟩
   rw [List.replicate_succ, ← h1, hc.1]
   rfl
  ·rw [if_neg hc] at h
   by_cases hv : 0 ≤ v64 c
   ·rw [if_pos hv, if_neg (by omega)] at h
    obtain ⟨ds, p, h1, h2, h3⟩ := ih (i + 1) m (by simp at hi; omega) h
    refine ⟨c :: ds, p, by rw [h1]; rfl, fun x hx => ?_, by simp; omega⟩
    rcases List.mem_cons.1 hx with rfl | hx
    ·exact hv
    ·exact h2 x hx
   ·rw [if_neg hv] at h; simp at h
theorem scan_digits (len : Nat) (p : Nat) (hp : p ≤ 2) : ∀ (ds : List Int) (i : Nat), i + ds.length + p = len → (∀ c ∈ ds, 0 ≤ v64 c ∧ c ≠ 61) → scan len (ds ++ List.replicate p 61) i len = (i + ds.length, none) := by
 have pads : ∀ (q i n : Nat), len ≤ i + 2 → n ≤ i → scan len (List.replicate q 61) i n = (n, none) := by
  intro q
  induction q with
  | zero => intro i n _ _; rfl
  | succ q ih =>
   intro i n hi hn
   rw [List.replicate_succ, scan, if_pos ⟨rfl, hi⟩, Nat.min_eq_left hn]
   exact ih (i + 1) n (by omega) (by omega)
 intro ds
 induction ds with
 | nil =>
  intro i hi _
  simp only [List.length_nil, Nat.add_zero, List.nil_append] at hi ⊢
  cases p with
  | zero => simp [scan]; omega
  | succ q =>
   rw [List.replicate_succ, scan, if_pos ⟨rfl, by omega⟩, Nat.min_eq_right (by omega)]
   exact pads q (i + 1) i (by omega) (by omega)
 | cons c t ih =>
  intro i hi hd
  have hc := hd c (by simp)
  rw [List.cons_append, scan, if_neg (fun h => hc.2 h.1), if_pos hc.1, if_neg (by omega), ih (i + 1) (by simp at hi; omega) (fun x hx => hd x (by simp [hx]))]
  simp; omega

/-! six bits and eight bits -/
theorem un64_four (a b c d : Int) (t : List Int) (out : List Int) : un64 (a :: b :: c :: d :: t) 0 0 out = un64 t 0 0 (out ++ [(a * 64 + b) / 16, ((a * 64 + b) % 16 * 64 + c) / 4, ((a * 64 + b) % 16 * 64 + c) % 4 * 64 + d]) := by
 simp [un64, unStep]
def V64 (l : List Int) : Prop := ∀ x ∈ l, 0 ≤ x ∧ x < 64
theorem V64.cons_iff {a : Int} {l : List Int} : V64 (a :: l) ↔ (0 ≤ a ∧ a < 64) ∧ V64 l := by simp [V64]
theorem d_eq {x y : Int} (h : x = y) : b64d x = b64d y := by rw [h]
theorem un64_back (n : Nat) : ∀ (vs : List Int), vs.length ≤ n → V64 vs → vs.length % 4 ≠ 1 → ∀ (out : List Int), (un64 vs 0 0 out).2.1 = 0 → ∃ y, (un64 vs 0 0 out).1 = out ++ y ∧ Bytes y ∧ b64L y = vs.map b64d ++ List.replicate ((4 - vs.length % 4) % 4) 61 := by
 induction n using Nat.strongRecOn with
 | _ n ih =>
  intro vs hn hv h1 out hr
  match vs, hn, hv, h1, hr with
  | [], _, _, _, _ => exact ⟨[], by simp [un64], Bytes.nil, rfl⟩
  | [a], _, _, h1, _ => simp at h1
  | [a, b], _, hv, _, hr =>
   simp only [V64.cons_iff] at hv
   obtain ⟨ha, hb, _⟩ := hv
   simp [un64, unStep] at hr ⊢
   refine ⟨Bytes.cons (by omega) Bytes.nil, ?_⟩
   simp only [b64L]
   rw [d_eq (show (a * 64 + b) / 16 * 65536 / 262144 % 64 = a by omega), d_eq (show (a * 64 + b) / 16 * 65536 / 4096 % 64 = b by omega)]
  | [a, b, c], _, hv, _, hr =>
   simp only [V64.cons_iff] at hv
   obtain ⟨ha, hb, hc, _⟩ := hv
   simp [un64, unStep] at hr ⊢
   refine ⟨Bytes.cons (by omega) (Bytes.cons (by omega) Bytes.nil), ?_⟩
   simp only [b64L]
   rw [d_eq (show ((a * 64 + b) / 16 * 65536 + ((a * 64 + b) % 16 * 64 + c) / 4 * 256) / 262144 % 64 = a by omega), d_eq (show ((a * 64 + b) / 16 * 65536 + ((a * 64 + b) % 16 * 64 + c) / 4 * 256) / 4096 % 64 = b by omega), d_eq (show ((a * 64 + b) / 16 * 65536 + ((a * 64 + b) % 16 * 64 + c) / 4 * 256) / 64 % 64 = c by omega)]
  | a :: b :: c :: d :: t, hn, hv, h1, hr =>
   simp only [V64.cons_iff] at hv
   obtain ⟨ha, hb, hc, hd, ht⟩ := hv
   have hlen : t.length + 4 ≤ n := by simpa using hn
   rw [un64_four] at hr ⊢
   obtain ⟨y, e1, e2, e3⟩ := ih (n - 4) (by omega) t (by omega) ht (by simp at h1; omega) _ hr
   refine ⟨(a * 64 + b) / 16 :: ((a * 64 + b) % 16 * 64 + c) / 4 :: (((a * 64 + b) % 16 * 64 + c) % 4 * 64 + d) :: y, by rw [e1]; simp, Bytes.cons (by omega) (Bytes.cons (by omega) (Bytes.cons (by omega) e2)), ?_⟩
   have el : (a :: b :: c :: d :: t).length % 4 = t.length % 4 := by simp; omega
   rw [el]
   simp only [b64L]
   rw [e3, d_eq (show ((a * 64 + b) / 16 * 65536 + ((a * 64 + b) % 16 * 64 + c) / 4 * 256 + (((a * 64 + b) % 16 * 64 + c) % 4 * 64 + d)) / 262144 % 64 = a by omega), d_eq (show ((a * 64 + b) / 16 * 65536 + ((a * 64 + b) % 16 * 64 + c) / 4 * 256 + (((a * 64 + b) % 16 * 64 + c) % 4 * 64 + d)) / 4096 % 64 = b by omega), d_eq (show ((a * 64 + b) / 16 * 65536 + ((a * 64 + b) % 16 * 64 + c) / 4 * 256 + (((a * 64 + b) % 16 * 64 + c) % 4 * 64 + d)) / 64 % 64 = c by omega), d_eq (show ((a * 64 + b) / 16 * 65536 + ((a * 64 + b) % 16 * 64 + c) / 4 * 256 + (((a * 64 + b) % 16 * 64 + c) % 4 * 64 + d)) % 64 = d by omega)]
   rfl
/-- The values of a text's digits. -/
def b64vals : List Int → List Int
 | [] => []
 | [a] => [a / 4, a % 4 * 16]
 | [a, b] => [a / 4, a % 4 * 16 + b / 16, b % 16 * 4]
 | a :: b :: c :: t => a / 4 :: (a % 4 * 16 + b / 16) :: (b % 16 * 4 + c / 64) :: c % 64 :: b64vals t
theorem b64vals_ok (n : Nat) : ∀ (b : List Int), b.length ≤ n → Bytes b → V64 (b64vals b) ∧ (∃ p, p ≤ 2 ∧ b64L b = (b64vals b).map b64d ++ List.replicate p 61 ∧ ((b64vals b).length + p) % 4 = 0 ∧ (p = 0 → (b64vals b).length % 4 = 0)) ∧ ∀ out, (un64 (b64vals b) 0 0 out).1 = out ++ b ∧ (un64 (b64vals b) 0 0 out).2.1 = 0 := by
 induction n using Nat.strongRecOn with
 | _ n ih =>
  intro b hn hb
  match b, hn, hb with
  | [], _, _ => exact ⟨fun x hx => (by cases hx), ⟨0, by omega, by simp [b64L, b64vals], by simp [b64vals], fun _ => by simp [b64vals]⟩, fun out => by simp [b64vals, un64]⟩
  | [a], _, hb =>
   have ha := hb.head
   refine ⟨by simp only [b64vals, V64.cons_iff]; exact ⟨by omega, by omega, fun x hx => by cases hx⟩, ⟨2, by omega, ?_, by simp [b64vals], fun h => by omega⟩, fun out => ?_⟩
   ·simp only [b64L, b64vals]
    rw [d_eq (show a * 65536 / 262144 % 64 = a / 4 by omega), d_eq (show a * 65536 / 4096 % 64 = a % 4 * 16 by omega)]
    rfl
   ·simp only [b64vals, un64, unStep]
    simp
    omega
  | [a, c], _, hb =>
   have ha := hb.head
   have hc := hb.tail.head
   refine ⟨by simp only [b64vals, V64.cons_iff]; exact ⟨by omega, by omega, by omega, fun x hx => by cases hx⟩, ⟨1, by omega, ?_, by simp [b64vals], fun h => by omega⟩, fun out => ?_⟩
   ·simp only [b64L, b64vals]
    rw [d_eq (show (a * 65536 + c * 256) / 262144 % 64 = a / 4 by omega), d_eq (show (a * 65536 + c * 256) / 4096 % 64 = a % 4 * 16 + c / 16 by omega), d_eq (show (a * 65536 + c * 256) / 64 % 64 = c % 16 * 4 by omega)]
    rfl
   ·simp only [b64vals, un64, unStep]
    simp
    omega
  | a :: c :: d :: t, hn, hb =>
   have ha := hb.head
   have hc := hb.tail.head
   have hd := hb.tail.tail.head
   have hlen : t.length + 3 ≤ n := by simpa using hn
   obtain ⟨h1, ⟨p, hp, h2, h3, h4⟩, h5⟩ := ih (n - 3) (by omega) t (by omega) hb.tail.tail.tail
   refine ⟨by simp only [b64vals, V64.cons_iff]; exact ⟨by omega, by omega, by omega, by omega, h1⟩, ⟨p, hp, ?_, by simp [b64vals]; omega, fun h => by have := h4 h; simp [b64vals]; omega⟩, fun out => ?_⟩
   ·simp only [b64L, b64vals]
    rw [h2, d_eq (show (a * 65536 + c * 256 + d) / 262144 % 64 = a / 4 by omega), d_eq (show (a * 65536 + c * 256 + d) / 4096 % 64 = a % 4 * 16 + c / 16 by omega), d_eq (show (a * 65536 + c * 256 + d) / 64 % 64 = c % 16 * 4 + d / 64 by omega), d_eq (show (a * 65536 + c * 256 + d) % 64 = d % 64 by omega)]
    rfl
   ·simp only [b64vals]
    rw [un64_four]
    have := h5 (out ++ [(a / 4 * 64 + (a % 4 * 16 + c / 16)) / 16, ((a / 4 * 64 + (a % 4 * 16 + c / 16)) % 16 * 64 + (c % 16 * 4 + d / 64)) / 4, ((a / 4 * 64 + (a % 4 * 16 + c / 16)) % 16 * 64 + (c % 16 * 4 + d / 64)) % 4 * 64 + d % 64])
    refine ⟨?_, this.2⟩
    rw [this.1, show (a / 4 * 64 + (a % 4 * 16 + c / 16)) / 16 = a by omega, show ((a / 4 * 64 + (a % 4 * 16 + c / 16)) % 16 * 64 + (c % 16 * 4 + d / 64)) / 4 = c by omega, show ((a / 4 * 64 + (a % 4 * 16 + c / 16)) % 16 * 64 + (c % 16 * 4 + d / 64)) % 4 * 64 + d % 64 = d by omega]
    simp
theorem b64L_bytes (n : Nat) : ∀ b : List Int, b.length ≤ n → Bytes (b64L b) := by
 induction n using Nat.strongRecOn with
 | _ n ih =>
  intro b hn
  match b, hn with
  | [], _ => exact Bytes.nil
  | [a], _ => exact Bytes.cons (b64d_byte _) (Bytes.cons (b64d_byte _) (Bytes.cons (by omega) (Bytes.cons (by omega) Bytes.nil)))
  | [a, c], _ => exact Bytes.cons (b64d_byte _) (Bytes.cons (b64d_byte _) (Bytes.cons (b64d_byte _) (Bytes.cons (by omega) Bytes.nil)))
  | a :: c :: d :: t, hn =>
   have hlen : t.length + 3 ≤ n := by simpa using hn
   exact Bytes.cons (b64d_byte _) (Bytes.cons (b64d_byte _) (Bytes.cons (b64d_byte _) (Bytes.cons (b64d_byte _) (ih (n - 3) (by omega) t (by omega)))))
theorem b64L_len (n : Nat) : ∀ b : List Int, b.length ≤ n → (b64L b).length ≤ 2 * b.length + 2 := by
 induction n using Nat.strongRecOn with
 | _ n ih =>
  intro b hn
  match b, hn with
  | [], _ => simp [b64L]
  | [a], _ => simp [b64L]
  | [a, c], _ => simp [b64L]
  | a :: c :: d :: t, hn =>
   have hlen : t.length + 3 ≤ n := by simpa using hn
   have := ih (n - 3) (by omega) t (by omega)
   simp [b64L]
   omega
theorem b64L_long (n : Nat) : ∀ b : List Int, b.length ≤ n → b.length ≤ (b64L b).length := by
 induction n using Nat.strongRecOn with
 | _ n ih =>
  intro b hn
  match b, hn with
  | [], _ => simp [b64L]
  | [a], _ => simp [b64L]
  | [a, c], _ => simp [b64L]
  | a :: c :: d :: t, hn =>
   have hlen : t.length + 3 ≤ n := by simpa using hn
   have := ih (n - 3) (by omega) t (by omega)
   simp [b64L]
   omega
/-- There and back. -/
theorem ub_b64L (b : List Int) (hb : Bytes b) : ub (b64L b) = (b, 0, 0) := by
 obtain ⟨h1, ⟨p, hp, h2, h3, h4⟩, h5⟩ := b64vals_ok b.length b (Nat.le_refl _) hb
 have hd : ∀ c ∈ (b64vals b).map b64d, 0 ≤ v64 c ∧ c ≠ 61 := by
  intro c hc
  obtain ⟨q, hq, rfl⟩ := List.mem_map.1 hc
  have hv := v64_b64d (h1 q hq)
  have := h1 q hq
  refine ⟨by omega, fun e => ?_⟩
  have hf := v64_facts (c := 61) (by omega)
  have := hf.2 rfl
  rw [e] at hv
  omega
 rw [ub_rest, h2]
 have hl : ((b64vals b).map b64d ++ List.replicate p 61).length = (b64vals b).length + p := by simp
 rw [hl, scan_digits _ p hp _ 0 (by simp) hd]
 simp only [Nat.zero_add, List.length_map, ubRest]
 have ht : ubTail ((b64vals b).map b64d ++ List.replicate p 61) (b64vals b).length = false := by
  unfold ubTail
  rw [hl, h3]
  by_cases h0 : p = 0
  ·have := h4 h0
   simp
   omega
  ·simp
   omega
 rw [if_neg (by rw [ht]; simp)]
 have hm : List.map v64 (List.take (b64vals b).length ((b64vals b).map b64d ++ List.replicate p 61)) = b64vals b := by
  rw [List.take_append_of_le_length (by simp), List.take_of_length_le (by simp), List.map_map]
  conv => rhs; rw [← List.map_id (b64vals b)]
  exact List.map_congr_left fun q hq => v64_b64d (h1 q hq)
 rw [hm, ubEnd, if_pos (h5 []).2, (h5 []).1]
 rfl
/-- What is read, told again: with '=' to a fourfold length. -/
theorem ub_back (cs y : List Int) (z : Int) (hc : Bytes cs) (h : ub cs = (y, 0, z)) : Bytes y ∧ b64L y = cs ++ List.replicate ((4 - cs.length % 4) % 4) 61 := by
 rw [ub_rest] at h
 rcases hs : scan cs.length cs 0 cs.length with ⟨m, o⟩
 rw [hs] at h
 cases o with
 | some i => simp [ubRest] at h
 | none =>
  simp only [ubRest] at h
  obtain ⟨ds, p, h1, h2, h3⟩ := scan_ok cs.length cs 0 m (by simp) hs
  rw [Nat.zero_add] at h3
  by_cases ht : ubTail cs m = true
  ·rw [if_pos ht] at h; simp at h
  ·rw [if_neg ht] at h
   have hlen : cs.length = ds.length + p := by rw [h1]; simp
   have htk : cs.take m = ds := by rw [h1, h3, List.take_append_of_le_length (Nat.le_refl _), List.take_of_length_le (Nat.le_refl _)]
   rw [htk] at h
   unfold ubEnd at h
   by_cases hr : (un64 (ds.map v64) 0 0 []).2.1 = 0
   ·rw [if_pos hr] at h
    simp only [Prod.mk.injEq] at h
    have hdb : ∀ c ∈ ds, 0 ≤ c ∧ c < 256 := fun c hcc => hc c (by rw [h1]; simp [hcc])
    have hv : V64 (ds.map v64) := by
     intro x hx
     obtain ⟨c, hcc, rfl⟩ := List.mem_map.1 hx
     have hf := (v64_facts (hdb c hcc)).1
     have := h2 c hcc
     omega
    have htail : ¬ ((m < cs.length ∧ cs.length % 4 ≠ 0) ∨ (m = cs.length ∧ m % 4 = 1)) := by
     intro hh
     refine ht ?_
     unfold ubTail
     simpa using hh
    have hp4 : p = 0 ∨ cs.length % 4 = 0 := by omega
    have hp2 : p ≤ 2 := by
     rcases Nat.lt_or_ge 2 p with hp3 | hp3
     ·exfalso
      -- the first '=' would stand too far ahead
      have : ∀ (ds : List Int) (i : Nat), i + ds.length + p = cs.length → (∀ c ∈ ds, 0 ≤ v64 c) → scan cs.length (ds ++ List.replicate p 61) i cs.length ≠ (m, none) := by
       intro ds
       induction ds with
       | nil =>
        intro i hi _ hbad
        obtain ⟨q, rfl⟩ : ∃ q, p = q + 1 := ⟨p - 1, by omega⟩
        rw [List.nil_append, List.replicate_succ, scan, if_neg (by simp at hi; omega)] at hbad
        have hf := (v64_facts (c := 61) (by omega)).2 rfl
        rw [if_neg (by omega)] at hbad
        simp at hbad
       | cons c t ih =>
        intro i hi hd hbad
        rw [List.cons_append, scan] at hbad
        by_cases hcc : c = 61 ∧ cs.length ≤ i + 2
        ·simp at hi; omega
        ·rw [if_neg hcc, if_pos (hd c (by simp)), if_neg (by omega)] at hbad
         exact ih (i + 1) (by simp at hi; omega) (fun x hx => hd x (by simp [hx])) hbad
      exact this ds 0 (by omega) h2 (by rw [← h1]; exact hs)
     ·exact hp3
    have hd4 : ds.length % 4 ≠ 1 := by omega
    obtain ⟨y2, e1, e2, e3⟩ := un64_back ds.length (ds.map v64) (by simp) hv (by simpa using hd4) [] hr
    have ey : y2 = y := by rw [← h.1, e1]; rfl
    subst ey
    refine ⟨e2, ?_⟩
    rw [e3, List.map_map, List.length_map]
    have hid : List.map (b64d ∘ v64) ds = ds := by
     conv => rhs; rw [← List.map_id ds]
     refine List.map_congr_left fun c hcc => ?_
     have hf := (v64_facts (hdb c hcc)).1
     have := h2 c hcc
     have : b64d (v64 c) = c := by omega
     simpa using this
    rw [hid, h1, List.append_assoc, List.replicate_append_replicate]
    congr 2
    simp
    omega
   ·rw [if_neg hr] at h; simp at h
end Go.Proofs.YtkbmbancfbfddaaGreatDoor.Pure
