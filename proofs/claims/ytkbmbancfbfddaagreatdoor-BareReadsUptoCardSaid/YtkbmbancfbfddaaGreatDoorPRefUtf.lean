/- The page's Valid (pergolaref02) tells what utf.Valid tells. -/
import Derived.Test.YtkbmbancfbfddaaGreatDoorPReadEv
import Derived.Lib.DecodeN
import Derived.Test.YtkbmbancfbfddaaGreatDoorX11
namespace Go.Proofs.YtkbmbancfbfddaaGreatDoor.Pure
open Go Go.Lib Go.RowKit Go.Proofs.YtkbmbancfbfddaaGreatDoor.X Go.Proofs.YtkbmbancfbfddaaGreatDoorW.PrintWords Go.Proofs.YtkbmbancfbfddaaGreatDoorW.PrintLast Go.Proofs.YtkbmbancfbfddaaGreatDoorW.PrintMore

/-! Go's reading, by widths -/
def F1 (b0 : Nat) : Prop := b0 < 128
def F2 (n b0 b1 : Nat) : Prop := 1 < n ∧ 192 ≤ b0 ∧ b0 < 224 ∧ b1 / 64 = 2 ∧ 128 ≤ b0 % 32 * 64 + b1 % 64
def F3 (n b0 b1 b2 : Nat) : Prop := 2 < n ∧ 224 ≤ b0 ∧ b0 < 240 ∧ b1 / 64 = 2 ∧ b2 / 64 = 2 ∧ 2048 ≤ b0 % 16 * 4096 + b1 % 64 * 64 + b2 % 64 ∧ (b0 % 16 * 4096 + b1 % 64 * 64 + b2 % 64 < 55296 ∨ 57344 ≤ b0 % 16 * 4096 + b1 % 64 * 64 + b2 % 64)
def F4 (n b0 b1 b2 b3 : Nat) : Prop := 3 < n ∧ 240 ≤ b0 ∧ b0 < 248 ∧ b1 / 64 = 2 ∧ b2 / 64 = 2 ∧ b3 / 64 = 2 ∧ 65536 ≤ b0 % 8 * 262144 + b1 % 64 * 4096 + b2 % 64 * 64 + b3 % 64 ∧ b0 % 8 * 262144 + b1 % 64 * 4096 + b2 % 64 * 64 + b3 % 64 ≤ 1114111
theorem dec1 {n b0 b1 b2 b3 : Nat} (h : F1 b0) : decodeN n b0 b1 b2 b3 = (b0, 1) := by unfold F1 at h; unfold decodeN; rw [if_pos h]
theorem dec2 {n b0 b1 b2 b3 : Nat} (h : F2 n b0 b1) : (decodeN n b0 b1 b2 b3).2 = 2 := by
 obtain ⟨h1, h2, h3, h4, h5⟩ := h
 unfold decodeN
 rw [if_neg (by omega), if_pos (by omega), if_pos (by omega)]
theorem dec3 {n b0 b1 b2 b3 : Nat} (h : F3 n b0 b1 b2) : (decodeN n b0 b1 b2 b3).2 = 3 := by
 obtain ⟨h1, h2, h3, h4, h5, h6, h7⟩ := h
 unfold decodeN
 rw [if_neg (by omega), if_neg (by omega), if_pos (by omega), if_pos (by omega)]
theorem dec4 {n b0 b1 b2 b3 : Nat} (h : F4 n b0 b1 b2 b3) : (decodeN n b0 b1 b2 b3).2 = 4 := by
 obtain ⟨h1, h2, h3, h4, h5, h6, h7, h8⟩ := h
 unfold decodeN
 rw [if_neg (by omega), if_neg (by omega), if_neg (by omega), if_pos (by omega), if_pos (by omega)]
theorem dec0 {n b0 b1 b2 b3 : Nat} (h1 : ¬ F1 b0) (h2 : ¬ F2 n b0 b1) (h3 : ¬ F3 n b0 b1 b2) (h4 : ¬ F4 n b0 b1 b2 b3) : decodeN n b0 b1 b2 b3 = (65533, 1) := by
 unfold F1 at h1
 unfold F2 at h2
 unfold F3 at h3
 unfold F4 at h4
 unfold decodeN
 rw [if_neg h1]
 split
 ·rw [if_neg (by omega)]
 split
 ·rw [if_neg (by omega)]
 split
 ·rw [if_neg (by omega)]
 ·rfl

/-! the page's reading -/
theorem and_b {c : Int} (h : 0 ≤ c ∧ c < 256) : Go.bits .and .u8 c 63 = c % 64 ∧ Go.bits .and .u8 c 127 = c % 128 ∧ Go.bits .and .u8 c 31 = c % 32 ∧ Go.bits .and .u8 c 15 = c % 16 ∧ Go.bits .and .u8 c 7 = c % 8 :=
 byte_all (p := fun c => Go.bits .and .u8 c 63 = c % 64 ∧ Go.bits .and .u8 c 127 = c % 128 ∧ Go.bits .and .u8 c 31 = c % 32 ∧ Go.bits .and .u8 c 15 = c % 16 ∧ Go.bits .and .u8 c 7 = c % 8) (by decide +kernel) h
theorem w32 {x : Int} (h : -2147483648 ≤ x) (h2 : x ≤ 2147483647) : wrap32 x = x := by unfold wrap32; omega
theorem byte_in' (s : ByteArray) (i : Int) : 0 ≤ bt s i ∧ bt s i < 256 := ⟨(bt_range s i).1, by have := (bt_range s i).2; omega⟩
section
variable (s : ByteArray) (hs : s.size ≤ 1000000000000) (p : Int) (h0 : 0 ≤ p)
include hs h0
theorem gl0_step (w x j : Int) (hj : 1 ≤ j) (hjw : j < w) (hw : w ≤ 4) (hp : p + w ≤ (s.size : Int)) (hx : 0 ≤ x ∧ x < 2097152) (r : Int) (h : Ev (fun k => pergolaref02_guess.l0 k s p w (x * 64 + bt s (p + j) % 64) (j + 1)) r) :
  Ev (fun k => pergolaref02_guess.l0 k s p w x j) r := by
 refine Ev.step (fun k => ?_) h
 have hb := byte_in' s (p + j)
 rw [pergolaref02_guess.l0, if_pos hjw, w64 (x := p + j) (by omega) (by omega), if_pos (by omega), if_pos (by omega), (and_b hb).1, w32 (x := x * 64) (by omega) (by omega), w32 (x := bt s (p + j) % 64) (by omega) (by omega), w32 (by omega) (by omega), w64 (x := j + 1) (by omega) (by omega)]
omit hs h0 in
theorem gl0_end (w x : Int) : Ev (fun k => pergolaref02_guess.l0 k s p w x w) x := by
 refine Ev.step (f := fun _ => some x) (fun k => ?_) (Ev.now _)
 rw [pergolaref02_guess.l0, if_neg (by omega)]
omit hs in
theorem guess_1 (hp : p + 1 ≤ (s.size : Int)) : Ev (fun k => pergolaref02_guess.f k s p 1) (bt s p % 128) := by
 have hb := byte_in' s p
 refine Ev.congr (fun k => ?_) (gl0_end s p 1 (bt s p % 128))
 unfold pergolaref02_guess.f
 rw [Option.bind_some, if_pos h0, if_pos (by omega), if_pos (by decide), if_pos (by decide), show rd [0, 127, 31, 15, 7] 1 = 127 from rfl, (and_b hb).2.1, w32 (by omega) (by omega)]
theorem guess_2 (hp : p + 2 ≤ (s.size : Int)) : Ev (fun k => pergolaref02_guess.f k s p 2) (bt s p % 32 * 64 + bt s (p + 1) % 64) := by
 have hb := byte_in' s p
 refine Ev.congr (fun k => ?_) (gl0_step s hs p h0 2 (bt s p % 32) 1 (by omega) (by omega) (by omega) hp (by omega) _ (gl0_end s p 2 _))
 unfold pergolaref02_guess.f
 rw [Option.bind_some, if_pos h0, if_pos (by omega), if_pos (by decide), if_pos (by decide), show rd [0, 127, 31, 15, 7] 2 = 31 from rfl, (and_b hb).2.2.1, w32 (by omega) (by omega)]
theorem guess_3 (hp : p + 3 ≤ (s.size : Int)) : Ev (fun k => pergolaref02_guess.f k s p 3) ((bt s p % 16 * 64 + bt s (p + 1) % 64) * 64 + bt s (p + 2) % 64) := by
 have hb := byte_in' s p
 refine Ev.congr (fun k => ?_) (gl0_step s hs p h0 3 (bt s p % 16) 1 (by omega) (by omega) (by omega) hp (by omega) _ (gl0_step s hs p h0 3 (bt s p % 16 * 64 + bt s (p + 1) % 64) 2 (by omega) (by omega) (by omega) hp (by omega) _ (gl0_end s p 3 _)))
 unfold pergolaref02_guess.f
 rw [Option.bind_some, if_pos h0, if_pos (by omega), if_pos (by decide), if_pos (by decide), show rd [0, 127, 31, 15, 7] 3 = 15 from rfl, (and_b hb).2.2.2.1, w32 (by omega) (by omega)]
theorem guess_4 (hp : p + 4 ≤ (s.size : Int)) : Ev (fun k => pergolaref02_guess.f k s p 4) (((bt s p % 8 * 64 + bt s (p + 1) % 64) * 64 + bt s (p + 2) % 64) * 64 + bt s (p + 3) % 64) := by
 have hb := byte_in' s p
 refine Ev.congr (fun k => ?_) (gl0_step s hs p h0 4 (bt s p % 8) 1 (by omega) (by omega) (by omega) hp (by omega) _ (gl0_step s hs p h0 4 (bt s p % 8 * 64 + bt s (p + 1) % 64) 2 (by omega) (by omega) (by omega) hp (by omega) _ (gl0_step s hs p h0 4 ((bt s p % 8 * 64 + bt s (p + 1) % 64) * 64 + bt s (p + 2) % 64) 3 (by omega) (by omega) (by omega) hp (by omega) _ (gl0_end s p 4 _))))
 unfold pergolaref02_guess.f
 rw [Option.bind_some, if_pos h0, if_pos (by omega), if_pos (by decide), if_pos (by decide), show rd [0, 127, 31, 15, 7] 4 = 7 from rfl, (and_b hb).2.2.2.2, w32 (by omega) (by omega)]
end
def agree (s : ByteArray) : List Int → Int → Bool
 | [], _ => true
 | c :: t, q => decide (bt s q = c) && agree s t (q + 1)
theorem at_l0 (s : ByteArray) (hs : s.size ≤ 1000000000000) (p : Int) (h0 : 0 ≤ p) (l : List Int) (hp : p + l.length ≤ (s.size : Int)) : ∀ (d j : Nat), j + d = l.length → Ev (fun k => pergolaref02_at.l0 k s p l (j : Int)) (agree s (l.drop j) (p + j)) := by
 intro d
 induction d with
 | zero =>
  intro j hj
  rw [List.drop_of_length_le (by omega)]
  refine Ev.step (f := fun _ => some true) (fun k => ?_) (Ev.now _)
  rw [pergolaref02_at.l0, if_neg (by omega)]
 | succ d ih =>
  intro j hj
  have hd := getD_drop (l := l) (i := j) (by omega)
  rw [hd]
  have ih := ih (j + 1) (by omega)
  rw [show p + ((j + 1 : Nat) : Int) = p + j + 1 by omega] at ih
  have hrd : rd l (j : Int) = l.getD j 0 := by unfold rd; rw [Int.toNat_natCast]
  unfold agree
  by_cases he : bt s (p + j) = l.getD j 0
  ·rw [decide_eq_true he, Bool.true_and]
   refine Ev.step (fun k => ?_) ih
   rw [pergolaref02_at.l0, if_pos (by omega), w64 (x := p + (j : Int)) (by omega) (by omega), if_pos (by omega), if_pos (by omega), if_pos (by omega), hrd, if_pos he, w64 (x := (j : Int) + 1) (by omega) (by omega)]
   rfl
  ·rw [decide_eq_false he, Bool.false_and]
   refine Ev.step (f := fun _ => some false) (fun k => ?_) (Ev.now _)
   rw [pergolaref02_at.l0, if_pos (by omega), w64 (x := p + (j : Int)) (by omega) (by omega), if_pos (by omega), if_pos (by omega), if_pos (by omega), hrd, if_neg he]
theorem at_f (s : ByteArray) (hs : s.size ≤ 1000000000000) (p : Int) (h0 : 0 ≤ p) (l : List Int) (hp : p + l.length ≤ (s.size : Int)) : Ev (fun k => pergolaref02_at.f k s p l) (agree s l p) := by
 have h := at_l0 s hs p h0 l hp l.length 0 (by omega)
 rw [List.drop_zero, show p + ((0 : Nat) : Int) = p by omega] at h
 refine Ev.congr (fun k => ?_) h
 unfold pergolaref02_at.f
 rw [w64 (x := (s.size : Int) - p) (by omega) (by omega), if_neg (by omega)]
 rfl
section
variable (s : ByteArray) (hs : s.size ≤ 1000000000000) (p : Int) (h0 : 0 ≤ p)
include hs h0
theorem one_j1 (w : Int) (hw : 1 ≤ w ∧ w ≤ 4) (hp : p + w ≤ (s.size : Int)) (r : Int × Int × Int × Bool) (h : Ev (fun k => pergolaref02_One.j1 k s p false w true) r) : Ev (fun k => pergolaref02_One.l0 k s p false w) r := by
 refine Ev.step (fun k => ?_) h
 rw [pergolaref02_One.l0, if_pos hw.2, w64 (x := p + w) (by omega) (by omega), decide_eq_true hp]
theorem one_hit (w : Int) (hw : 1 ≤ w ∧ w ≤ 4) (hp : p + w ≤ (s.size : Int)) (t : Int) (l : List Int) (hg : Ev (fun k => pergolaref02_guess.f k s p w) t) (hS : pergolaref02_Scalar.f t = some true) (hB : pergolaref02_Bytes.f t = some l) (hl : (l.length : Int) = w) (ha : agree s l p = true) :
  Ev (fun k => pergolaref02_One.l0 k s p false w) (p, w, t, false) := by
 refine one_j1 s hs p h0 w hw hp _ ?_
 have hA := at_f s hs p h0 l (by omega)
 rw [ha] at hA
 refine Ev.step (f := fun k => (pergolaref02_guess.f k s p w).bind fun t203 => ((pergolaref02_Scalar.f t203).bind fun t204 => (if t204 = true then ((pergolaref02_Bytes.f t203).bind fun t205 => (if (t205.length : Int) = w then ((pergolaref02_Bytes.f t203).bind fun t208 => ((pergolaref02_at.f k s p t208).bind fun t211 => (if t211 = true then (some (p, w, t203, false)) else (pergolaref02_One.l0 k s p false (wrap64 (w + 1)))))) else (pergolaref02_One.l0 k s p false (wrap64 (w + 1))))) else (pergolaref02_One.l0 k s p false (wrap64 (w + 1)))))) (fun k => ?_) (Ev.bind hg ?_)
 ·rw [pergolaref02_One.j1, if_pos rfl]
  rfl
 ·rw [hS, hB]
  simp only [Option.bind_some, if_true, if_pos hl]
  exact Ev.bind hA (Ev.congr (fun k => if_pos rfl) (Ev.now _))
theorem one_miss (w : Int) (hw : 1 ≤ w ∧ w ≤ 4) (hp : p + w ≤ (s.size : Int)) (t : Int) (hg : Ev (fun k => pergolaref02_guess.f k s p w) t) (h : pergolaref02_Scalar.f t = some false ∨ ∃ l, pergolaref02_Scalar.f t = some true ∧ pergolaref02_Bytes.f t = some l ∧ ((l.length : Int) ≠ w ∨ ((l.length : Int) = w ∧ agree s l p = false)))
  (r : Int × Int × Int × Bool) (hr : Ev (fun k => pergolaref02_One.l0 k s p false (w + 1)) r) : Ev (fun k => pergolaref02_One.l0 k s p false w) r := by
 refine one_j1 s hs p h0 w hw hp _ ?_
 have hw1 : wrap64 (w + 1) = w + 1 := w64 (by omega) (by omega)
 refine Ev.step (f := fun k => (pergolaref02_guess.f k s p w).bind fun t203 => ((pergolaref02_Scalar.f t203).bind fun t204 => (if t204 = true then ((pergolaref02_Bytes.f t203).bind fun t205 => (if (t205.length : Int) = w then ((pergolaref02_Bytes.f t203).bind fun t208 => ((pergolaref02_at.f k s p t208).bind fun t211 => (if t211 = true then (some (p, w, t203, false)) else (pergolaref02_One.l0 k s p false (wrap64 (w + 1)))))) else (pergolaref02_One.l0 k s p false (wrap64 (w + 1))))) else (pergolaref02_One.l0 k s p false (wrap64 (w + 1)))))) (fun k => ?_) (Ev.bind hg ?_)
 ·rw [pergolaref02_One.j1, if_pos rfl]
  rfl
 ·rw [hw1]
  rcases h with hS | ⟨l, hS, hB, h | ⟨hl, ha⟩⟩
  ·rw [hS]
   exact Ev.congr (fun k => rfl) hr
  ·rw [hS, hB]
   simp only [Option.bind_some, if_true, if_neg h]
   exact hr
  ·rw [hS, hB]
   simp only [Option.bind_some, if_true, if_pos hl]
   have hA := at_f s hs p h0 l (by omega)
   rw [ha] at hA
   exact Ev.bind hA (Ev.congr (fun k => if_neg (by decide)) hr)
omit h0 in
theorem one_end (hp0 : p < (s.size : Int)) (w : Int) (hw : 1 ≤ w ∧ w ≤ 5) (hp : w ≤ 4 → (s.size : Int) < p + w) : Ev (fun k => pergolaref02_One.l0 k s p false w) (p, 1, 65533, true) := by
 refine Ev.step (f := fun k => pergolaref02_One.j1 k s p false w false) (fun k => ?_) (Ev.step (f := fun _ => some (p, 1, 65533, true)) (fun k => ?_) (Ev.now _))
 ·rw [pergolaref02_One.l0]
  by_cases h4 : w ≤ 4
  ·have := hp h4
   rw [if_pos h4, w64 (x := p + w) (by omega) (by omega), decide_eq_false (by omega)]
  ·rw [if_neg h4]
 ·rw [pergolaref02_One.j1, if_neg (by decide)]
end
theorem scalar_f (t : Int) : pergolaref02_Scalar.f t = some (decide (0 ≤ t ∧ t ≤ 1114111 ∧ (t < 55296 ∨ 57343 < t))) := by
 unfold pergolaref02_Scalar.f
 by_cases h1 : t ≥ 0
 ·by_cases h2 : t ≤ 1114111
  ·by_cases h3 : t < 55296
   ·rw [if_pos h1, if_pos h2, if_pos h3, decide_eq_true (by omega)]
   ·rw [if_pos h1, if_pos h2, if_neg h3]
    by_cases h4 : t > 57343
    ·rw [decide_eq_true h4, decide_eq_true (by omega)]
    ·rw [decide_eq_false h4, decide_eq_false (by omega)]
  ·rw [if_pos h1, if_neg h2, decide_eq_false (by omega)]
 ·rw [if_neg h1, decide_eq_false (by omega)]
theorem bytes_1 {t : Int} (h : 0 ≤ t ∧ t < 128) : pergolaref02_Bytes.f t = some [t] := by
 unfold pergolaref02_Bytes.f
 rw [if_pos h.2, show t % 256 = t by omega]
theorem bytes_2 {t : Int} (h : 128 ≤ t ∧ t < 2048) : pergolaref02_Bytes.f t = some [192 + t / 64, 128 + t % 64] := by
 unfold pergolaref02_Bytes.f
 rw [if_neg (by omega), if_pos h.2, Int.tdiv_eq_ediv_of_nonneg (by omega), Int.tmod_eq_emod_of_nonneg (by omega), w32 (x := t / 64) (by omega) (by omega), w32 (x := 192 + t / 64) (by omega) (by omega), w32 (x := 128 + t % 64) (by omega) (by omega), show (192 + t / 64) % 256 = 192 + t / 64 by omega, show (128 + t % 64) % 256 = 128 + t % 64 by omega]
theorem bytes_3 {t : Int} (h : 2048 ≤ t ∧ t < 65536) : pergolaref02_Bytes.f t = some [224 + t / 4096, 128 + t / 64 % 64, 128 + t % 64] := by
 unfold pergolaref02_Bytes.f
 rw [if_neg (by omega), if_neg (by omega), if_pos h.2, Int.tdiv_eq_ediv_of_nonneg (by omega), Int.tdiv_eq_ediv_of_nonneg (by omega), w32 (x := t / 64) (by omega) (by omega), w32 (x := t / 4096) (by omega) (by omega), Int.tmod_eq_emod_of_nonneg (by omega), Int.tmod_eq_emod_of_nonneg (by omega), w32 (x := 224 + t / 4096) (by omega) (by omega), w32 (x := 128 + t / 64 % 64) (by omega) (by omega), w32 (x := 128 + t % 64) (by omega) (by omega), show (224 + t / 4096) % 256 = 224 + t / 4096 by omega, show (128 + t / 64 % 64) % 256 = 128 + t / 64 % 64 by omega, show (128 + t % 64) % 256 = 128 + t % 64 by omega]
theorem bytes_4 {t : Int} (h : 65536 ≤ t ∧ t < 2097152) : pergolaref02_Bytes.f t = some [240 + t / 262144, 128 + t / 4096 % 64, 128 + t / 64 % 64, 128 + t % 64] := by
 unfold pergolaref02_Bytes.f
 rw [if_neg (by omega), if_neg (by omega), if_neg (by omega), Int.tdiv_eq_ediv_of_nonneg (by omega), Int.tdiv_eq_ediv_of_nonneg (by omega), Int.tdiv_eq_ediv_of_nonneg (by omega), w32 (x := t / 64) (by omega) (by omega), w32 (x := t / 4096) (by omega) (by omega), w32 (x := t / 262144) (by omega) (by omega), Int.tmod_eq_emod_of_nonneg (by omega), Int.tmod_eq_emod_of_nonneg (by omega), Int.tmod_eq_emod_of_nonneg (by omega), w32 (x := 240 + t / 262144) (by omega) (by omega), w32 (x := 128 + t / 4096 % 64) (by omega) (by omega), w32 (x := 128 + t / 64 % 64) (by omega) (by omega), w32 (x := 128 + t % 64) (by omega) (by omega), show (240 + t / 262144) % 256 = 240 + t / 262144 by omega, show (128 + t / 4096 % 64) % 256 = 128 + t / 4096 % 64 by omega, show (128 + t / 64 % 64) % 256 = 128 + t / 64 % 64 by omega, show (128 + t % 64) % 256 = 128 + t % 64 by omega]
theorem bt_get (s : ByteArray) (k : Nat) (h : k < s.size) : bt s (k : Int) = ((s.get! k).toNat : Int) := by
 unfold bt
 rw [dif_pos (by rw [Int.toNat_natCast]; exact h)]
 have : s.get! k = s[k]'h := by
  show s.data[k]! = _
  rw [getElem!_pos s.data k h]
  rfl
 rw [this]
 simp only [Int.toNat_natCast]
/-- What the page's One tells of a place: as wide, and as wrong, as Go's reading. -/
theorem one_f (s : ByteArray) (hs : s.size ≤ 1000000000000) (pos : Nat) (hp : pos < s.size) : ∃ t, Ev (fun k => pergolaref02_One.f k s (pos : Int) false) ((pos : Int), ((Utf8.decode s pos).2 : Int), t, wrongAt s pos) := by
 have hf : ∀ r, Ev (fun k => pergolaref02_One.l0 k s (pos : Int) false 1) r → Ev (fun k => pergolaref02_One.f k s (pos : Int) false) r := fun r h => Ev.congr (fun k => if_neg (by decide)) h
 have h0 : (0 : Int) ≤ (pos : Int) := by omega
 have e0 := bt_get s pos hp
 have e1 := bt_get s (pos + 1)
 have e2 := bt_get s (pos + 2)
 have e3 := bt_get s (pos + 3)
 have g1 := guess_1 s pos h0 (by omega)
 have g2 := guess_2 s hs pos h0
 have g3 := guess_3 s hs pos h0
 have g4 := guess_4 s hs pos h0
 have b0 := (s.get! pos).toNat_lt
 have b1 := (s.get! (pos + 1)).toNat_lt
 have b2 := (s.get! (pos + 2)).toNat_lt
 have b3 := (s.get! (pos + 3)).toNat_lt
 unfold wrongAt
 rw [decode_at]
 rw [show ((pos + 1 : Nat) : Int) = (pos : Int) + 1 by omega] at e1
 rw [show ((pos + 2 : Nat) : Int) = (pos : Int) + 2 by omega] at e2
 rw [show ((pos + 3 : Nat) : Int) = (pos : Int) + 3 by omega] at e3
 generalize (s.get! pos).toNat = c0 at *
 generalize (s.get! (pos + 1)).toNat = c1 at *
 generalize (s.get! (pos + 2)).toNat = c2 at *
 generalize (s.get! (pos + 3)).toNat = c3 at *
 have z1 : (pos : Int) + 1 + 1 = (pos : Int) + 2 := by omega
 have z2 : (pos : Int) + 2 + 1 = (pos : Int) + 3 := by omega
 by_cases f1 : F1 c0
 ·rw [dec1 f1]
  unfold F1 at f1
  have he : bt s (pos : Int) % 128 = bt s (pos : Int) := by omega
  rw [he] at g1
  have h := one_hit s hs pos h0 1 (by omega) (by omega) _ _ g1 (by rw [scalar_f, decide_eq_true (by omega)]) (bytes_1 (by omega)) rfl (by simp [agree])
  have hw : (decide (c0 = 65533) && decide (1 = 1)) = false := by rw [decide_eq_false (by omega)]; rfl
  show ∃ t, Ev _ ((pos : Int), ((1 : Nat) : Int), t, decide (c0 = 65533) && decide (1 = 1))
  rw [hw]
  exact ⟨_, hf _ h⟩
 have m1 : ∀ r, Ev (fun k => pergolaref02_One.l0 k s (pos : Int) false 2) r → Ev (fun k => pergolaref02_One.l0 k s (pos : Int) false 1) r := by
  intro r hr
  unfold F1 at f1
  refine one_miss s hs pos h0 1 (by omega) (by omega) _ g1 (.inr ⟨_, by rw [scalar_f, decide_eq_true (by omega)], bytes_1 (by omega), .inr ⟨rfl, ?_⟩⟩) r hr
  simp only [agree, Bool.and_true]
  exact decide_eq_false (by omega)
 have hbad : ∀ r, r = ((pos : Int), (1 : Int), (65533 : Int), true) → decodeN (s.size - pos) c0 c1 c2 c3 = (65533, 1) → r = ((pos : Int), ((decodeN (s.size - pos) c0 c1 c2 c3).2 : Int), (65533 : Int), decide ((decodeN (s.size - pos) c0 c1 c2 c3).1 = 65533) && decide ((decodeN (s.size - pos) c0 c1 c2 c3).2 = 1)) := fun r h1 h2 => by rw [h2, h1]; rfl
 by_cases n1 : s.size - pos ≤ 1
 ·have hd : decodeN (s.size - pos) c0 c1 c2 c3 = (65533, 1) := dec0 f1 (fun h => by have := h.1; omega) (fun h => by have := h.1; omega) (fun h => by have := h.1; omega)
  exact ⟨65533, hf _ (m1 _ (hbad _ rfl hd ▸ one_end s hs pos (by omega) 2 (by omega) (by omega)))⟩
 have e1 := e1 (by omega)
 have g2 := g2 (by omega)
 by_cases f2 : F2 (s.size - pos) c0 c1
 ·have hd := dec2 (b2 := c2) (b3 := c3) f2
  obtain ⟨_, h2, h3, h4, h5⟩ := f2
  have h := one_hit s hs pos h0 2 (by omega) (by omega) _ _ g2 (by rw [scalar_f, decide_eq_true (by omega)]) (bytes_2 (by omega)) rfl (by
   simp only [agree, Bool.and_true, Bool.and_eq_true, decide_eq_true_eq]
   omega)
  rw [hd, show decide (2 = 1) = false from rfl, Bool.and_false]
  exact ⟨_, hf _ (m1 _ h)⟩
 have m2 : ∀ r, Ev (fun k => pergolaref02_One.l0 k s (pos : Int) false 3) r → Ev (fun k => pergolaref02_One.l0 k s (pos : Int) false 2) r := by
  intro r hr
  unfold F2 at f2
  refine one_miss s hs pos h0 2 (by omega) (by omega) _ g2 (.inr ?_) r hr
  by_cases ht : bt s (pos : Int) % 32 * 64 + bt s ((pos : Int) + 1) % 64 < 128
  ·exact ⟨_, by rw [scalar_f, decide_eq_true (by omega)], bytes_1 (by omega), .inl (by simp only [List.length_cons, List.length_nil]; omega)⟩
  ·refine ⟨_, by rw [scalar_f, decide_eq_true (by omega)], bytes_2 (by omega), .inr ⟨rfl, ?_⟩⟩
   simp only [agree, Bool.and_true, Bool.and_eq_false_iff, decide_eq_false_iff_not]
   omega
 by_cases n2 : s.size - pos ≤ 2
 ·have hd : decodeN (s.size - pos) c0 c1 c2 c3 = (65533, 1) := dec0 f1 f2 (fun h => by have := h.1; omega) (fun h => by have := h.1; omega)
  exact ⟨65533, hf _ (m1 _ (m2 _ (hbad _ rfl hd ▸ one_end s hs pos (by omega) 3 (by omega) (by omega))))⟩
 have e2 := e2 (by omega)
 have g3 := g3 (by omega)
 by_cases f3 : F3 (s.size - pos) c0 c1 c2
 ·have hd := dec3 (b3 := c3) f3
  obtain ⟨_, h2, h3, h4, h5, h6, h7⟩ := f3
  have h := one_hit s hs pos h0 3 (by omega) (by omega) _ _ g3 (by rw [scalar_f, decide_eq_true (by omega)]) (bytes_3 (by omega)) rfl (by
   simp only [agree, Bool.and_true, Bool.and_eq_true, decide_eq_true_eq, z1]
   omega)
  rw [hd, show decide (3 = 1) = false from rfl, Bool.and_false]
  exact ⟨_, hf _ (m1 _ (m2 _ h))⟩
 have m3 : ∀ r, Ev (fun k => pergolaref02_One.l0 k s (pos : Int) false 4) r → Ev (fun k => pergolaref02_One.l0 k s (pos : Int) false 3) r := by
  intro r hr
  unfold F3 at f3
  refine one_miss s hs pos h0 3 (by omega) (by omega) _ g3 ?_ r hr
  by_cases hsu : 55296 ≤ (bt s (pos : Int) % 16 * 64 + bt s ((pos : Int) + 1) % 64) * 64 + bt s ((pos : Int) + 2) % 64 ∧ (bt s (pos : Int) % 16 * 64 + bt s ((pos : Int) + 1) % 64) * 64 + bt s ((pos : Int) + 2) % 64 ≤ 57343
  ·exact .inl (by rw [scalar_f, decide_eq_false (by omega)])
  refine .inr ?_
  by_cases ht : (bt s (pos : Int) % 16 * 64 + bt s ((pos : Int) + 1) % 64) * 64 + bt s ((pos : Int) + 2) % 64 < 128
  ·exact ⟨_, by rw [scalar_f, decide_eq_true (by omega)], bytes_1 (by omega), .inl (by simp only [List.length_cons, List.length_nil]; omega)⟩
  by_cases ht2 : (bt s (pos : Int) % 16 * 64 + bt s ((pos : Int) + 1) % 64) * 64 + bt s ((pos : Int) + 2) % 64 < 2048
  ·exact ⟨_, by rw [scalar_f, decide_eq_true (by omega)], bytes_2 (by omega), .inl (by simp only [List.length_cons, List.length_nil]; omega)⟩
  ·refine ⟨_, by rw [scalar_f, decide_eq_true (by omega)], bytes_3 (by omega), .inr ⟨rfl, ?_⟩⟩
   simp only [agree, Bool.and_true, Bool.and_eq_false_iff, decide_eq_false_iff_not, z1]
   omega
 by_cases n3 : s.size - pos ≤ 3
 ·have hd : decodeN (s.size - pos) c0 c1 c2 c3 = (65533, 1) := dec0 f1 f2 f3 (fun h => by have := h.1; omega)
  exact ⟨65533, hf _ (m1 _ (m2 _ (m3 _ (hbad _ rfl hd ▸ one_end s hs pos (by omega) 4 (by omega) (by omega)))))⟩
 have e3 := e3 (by omega)
 have g4 := g4 (by omega)
 by_cases f4 : F4 (s.size - pos) c0 c1 c2 c3
 ·have hd := dec4 f4
  obtain ⟨_, h2, h3, h4, h5, h6, h7, h8⟩ := f4
  have h := one_hit s hs pos h0 4 (by omega) (by omega) _ _ g4 (by rw [scalar_f, decide_eq_true (by omega)]) (bytes_4 (by omega)) rfl (by
   simp only [agree, Bool.and_true, Bool.and_eq_true, decide_eq_true_eq, z1, z2]
   omega)
  rw [hd, show decide (4 = 1) = false from rfl, Bool.and_false]
  exact ⟨_, hf _ (m1 _ (m2 _ (m3 _ h)))⟩
 have hd : decodeN (s.size - pos) c0 c1 c2 c3 = (65533, 1) := dec0 f1 f2 f3 f4
 refine ⟨65533, hf _ (m1 _ (m2 _ (m3 _ ?_)))⟩
 rw [← hbad _ rfl hd]
 unfold F4 at f4
 refine one_miss s hs pos h0 4 (by omega) (by omega) _ g4 ?_ _ (one_end s hs pos (by omega) 5 (by omega) (by omega))
 generalize hT : ((bt s (pos : Int) % 8 * 64 + bt s ((pos : Int) + 1) % 64) * 64 + bt s ((pos : Int) + 2) % 64) * 64 + bt s ((pos : Int) + 3) % 64 = T
 by_cases hsu : (55296 ≤ T ∧ T ≤ 57343) ∨ 1114111 < T
 ·exact .inl (by rw [scalar_f, decide_eq_false (by omega)])
 refine .inr ?_
 by_cases ht : T < 128
 ·exact ⟨_, by rw [scalar_f, decide_eq_true (by omega)], bytes_1 (by omega), .inl (by simp only [List.length_cons, List.length_nil]; omega)⟩
 by_cases ht2 : T < 2048
 ·exact ⟨_, by rw [scalar_f, decide_eq_true (by omega)], bytes_2 (by omega), .inl (by simp only [List.length_cons, List.length_nil]; omega)⟩
 by_cases ht3 : T < 65536
 ·exact ⟨_, by rw [scalar_f, decide_eq_true (by omega)], bytes_3 (by omega), .inl (by simp only [List.length_cons, List.length_nil]; omega)⟩
 ·have hT2 : T < 2097152 := by omega
  refine ⟨_, by rw [scalar_f, decide_eq_true (by omega)], bytes_4 ⟨by omega, hT2⟩, .inr ⟨rfl, Bool.eq_false_iff.mpr fun ha => ?_⟩⟩
  simp only [agree, Bool.and_true, Bool.and_eq_true, decide_eq_true_eq, z1, z2] at ha
  obtain ⟨a0, a1, a2, a3⟩ := ha
  rw [e0] at a0 hT
  rw [e1] at a1 hT
  rw [e2] at a2 hT
  rw [e3] at a3 hT
  have d0 : T / 262144 = (c0 : Int) % 8 := by clear a0 a1 a2 a3 f1 f2 f3 f4 m1 m2 m3; omega
  have k0 : (c0 : Int) / 8 = 30 := by clear a1 a2 a3 f1 f2 f3 f4 hT; omega
  have k1 : (c1 : Int) / 64 = 2 := by clear a0 a2 a3 f1 f2 f3 f4 hT; omega
  have k2 : (c2 : Int) / 64 = 2 := by clear a0 a1 a3 f1 f2 f3 f4 hT; omega
  have k3 : (c3 : Int) / 64 = 2 := by clear a0 a1 a2 f1 f2 f3 f4 hT; omega
  clear a0 a1 a2 a3 f1 f2 f3 m1 m2 m3
  exact f4 ⟨by omega, by omega, by omega, by omega, by omega, by omega, by omega, by omega⟩

/-! Valid -/
def chk : List S109 → Bool × Int
 | [] => (true, 0)
 | y :: t => if y.f3 = true then (false, y.f0) else chk t
theorem valid_l0 (l : List S109) (hl : l.length ≤ 1000000000000) : ∀ (d j : Nat), j + d = l.length → Ev (fun k => pergolaref02_Valid.l0 k l (j : Int)) (chk (l.drop j)) := by
 intro d
 induction d with
 | zero =>
  intro j hj
  rw [List.drop_of_length_le (by omega)]
  refine Ev.step (f := fun _ => some (true, 0)) (fun k => ?_) (Ev.now _)
  rw [pergolaref02_Valid.l0, if_neg (by omega)]
 | succ d ih =>
  intro j hj
  have hlt : j < l.length := by omega
  rw [List.drop_eq_getElem_cons hlt]
  have hrd : rd_T109 l (j : Int) = l[j] := by
   unfold rd_T109
   rw [Int.toNat_natCast, List.getD_eq_getElem?_getD, List.getElem?_eq_getElem hlt]
   rfl
  unfold chk
  by_cases h3 : (l[j]).f3 = true
  ·rw [if_pos h3]
   refine Ev.step (f := fun _ => some (false, (l[j]).f0)) (fun k => ?_) (Ev.now _)
   rw [pergolaref02_Valid.l0, if_pos (by omega), if_pos (by omega), hrd, if_pos h3]
  ·rw [if_neg h3]
   refine Ev.step (fun k => ?_) (ih (j + 1) (by omega))
   rw [pergolaref02_Valid.l0, if_pos (by omega), if_pos (by omega), hrd, if_neg h3, w64 (x := (j : Int) + 1) (by omega) (by omega)]
   rfl
theorem pieces_l0 (s : ByteArray) (hs : s.size ≤ 1000000000000) : ∀ (d pos : Nat), s.size ≤ pos + d → ∃ (ys : List S109) (r : Bool × Int), ys.length ≤ d ∧ (∀ xs : List S109, xs.length + d ≤ 1000000000000 → Ev (fun k => pergolaref02_Pieces.l0 k s xs (pos : Int)) (xs ++ ys)) ∧ Ev (fun k => utf_Valid.l0 k s pos) r ∧ chk ys = r := by
 intro d
 induction d using Nat.strongRecOn with
 | _ d ih =>
  intro pos h
  by_cases hlt : pos < s.size
  rotate_left
  ·refine ⟨[], (true, 0), Nat.zero_le _, fun xs hx => ?_, Ev.step (f := fun _ => some (true, (0 : Int))) (fun k => by rw [utf_Valid.l0, if_neg hlt]) (Ev.now _), rfl⟩
   rw [List.append_nil]
   refine Ev.step (f := fun _ => some xs) (fun k => ?_) (Ev.now _)
   rw [pergolaref02_Pieces.l0, if_neg (by omega)]
  have hw := Lib.decode_width_pos s pos hlt
  have hw4 : (Utf8.decode s pos).2 ≤ 4 := by
   rw [decode_at]
   unfold decodeN
   repeat' split
   all_goals simp
  obtain ⟨t, ht⟩ := one_f s hs pos hlt
  obtain ⟨ys, r, hlen, hP, hV, hr⟩ := ih (d - (Utf8.decode s pos).2) (by omega) (pos + (Utf8.decode s pos).2) (by omega)
  refine ⟨⟨(pos : Int), ((Utf8.decode s pos).2 : Int), t, wrongAt s pos⟩ :: ys, if wrongAt s pos = true then (false, (pos : Int)) else r, by simp only [List.length_cons]; omega, fun xs hx => ?_, ?_, ?_⟩
  ·have hn := hP (xs ++ [⟨(pos : Int), ((Utf8.decode s pos).2 : Int), t, wrongAt s pos⟩]) (by rw [List.length_append]; simp only [List.length_cons, List.length_nil]; omega)
   rw [List.append_assoc, List.singleton_append] at hn
   refine Ev.step (f := fun k => (pergolaref02_One.f k s (pos : Int) false).bind fun bt219 => (if xs.length < 5864062014805 then (pergolaref02_Pieces.l0 k s (xs ++ [(⟨bt219.1, bt219.2.1, bt219.2.2.1, bt219.2.2.2⟩ : S109)]) (wrap64 ((pos : Int) + bt219.2.1))) else (none))) (fun k => ?_) (Ev.bind ht ?_)
   ·rw [pergolaref02_Pieces.l0, if_pos (by omega)]
   ·refine Ev.congr (fun k => ?_) hn
    simp only
    rw [if_pos (by omega), w64 (x := (pos : Int) + ((Utf8.decode s pos).2 : Int)) (by omega) (by omega), Int.natCast_add]
  ·by_cases hwr : wrongAt s pos = true
   ·rw [if_pos hwr]
    exact Ev.step (f := fun _ => some (false, (pos : Int))) (fun k => by rw [utf_Valid.l0, if_pos hlt, if_pos hwr]) (Ev.now _)
   ·rw [if_neg hwr]
    exact Ev.step (f := fun k => utf_Valid.l0 k s (pos + (Utf8.decode s pos).2)) (fun k => by rw [utf_Valid.l0, if_pos hlt, if_neg hwr]) hV
  ·simp only [chk]
   rw [hr]
/-- The page's Valid tells what the program's tells. -/
theorem rvalid_f (s : ByteArray) (hs : s.size ≤ 1000000000000) : ∃ r, vaF s = some r ∧ Ev (fun k => pergolaref02_Valid.f k s) r := by
 obtain ⟨ys, r, hlen, hP, hV, hr⟩ := pieces_l0 s hs s.size 0 (by omega)
 refine ⟨r, everO_ev (fun k => utf_Valid.mono s k) hV, ?_⟩
 have hp := hP [] (by simp only [List.length_nil]; omega)
 rw [List.nil_append] at hp
 have hv := valid_l0 ys (by omega) ys.length 0 (by omega)
 rw [List.drop_zero, hr] at hv
 exact Ev.bind hp hv
end Go.Proofs.YtkbmbancfbfddaaGreatDoor.Pure
