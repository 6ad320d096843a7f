/- A decimal's text, and Check and Print of numbers. -/
import Derived.Test.YtkbmbancfbfddaaGreatDoorPDigits
import Derived.KernelRfl
namespace Go.Proofs.YtkbmbancfbfddaaGreatDoor.Pure
open Go.RowKit Go.Proofs.YtkbmbancfbfddaaGreatDoor.X Go.Proofs.YtkbmbancfbfddaaGreatDoorW.PrintWords Go.Proofs.YtkbmbancfbfddaaGreatDoorW.PrintLast Go.Proofs.YtkbmbancfbfddaaGreatDoorW.PrintMore

/-- The three digits behind the point, and what is left of them without the noughts at the end. -/
def three (r : Nat) : List UInt8 := [UInt8.ofNat (48 + r / 100), UInt8.ofNat (48 + r / 10 % 10), UInt8.ofNat (48 + r % 10)]
def cutz (r : Nat) : List UInt8 := if r % 10 ≠ 0 then three r else if r / 10 % 10 ≠ 0 then (three r).take 2 else (three r).take 1
theorem dec_step {u : Nat} (h : ¬ u < 10) : Lib.decDigits u = Lib.decDigits (u / 10) ++ [UInt8.ofNat (48 + u % 10)] := by rw [Lib.decDigits, dif_neg h]
theorem itoa_thousand (r : Nat) (h : r < 1000) : Lib.itoa (1000 + (r : Int)) = 49 :: three r := by
 unfold Lib.itoa
 rw [if_neg (by omega), show (1000 + (r : Int)).toNat = 1000 + r by omega, dec_step (by omega), dec_step (by omega), dec_step (by omega), Lib.decDigits, dif_pos (by omega)]
 rw [show (1000 + r) / 10 / 10 / 10 = 1 by omega, show (1000 + r) / 10 / 10 % 10 = r / 100 by omega, show (1000 + r) / 10 % 10 = r / 10 % 10 by omega, show (1000 + r) % 10 = r % 10 by omega]
 rfl
theorem three_all : ∀ r : Fin 1000, bt ⟨(three r.val).toArray⟩ 2 = 48 + (r.val % 10 : Nat) ∧ bt ⟨((three r.val).take 2).toArray⟩ 1 = 48 + (r.val / 10 % 10 : Nat) ∧
  Digs ((cutz r.val).map fun b => (b.toNat : Int)) ∧ 0 < (cutz r.val).length ∧ (cutz r.val).length ≤ 3 ∧ val 0 ((cutz r.val).map fun b => (b.toNat : Int)) * 10 ^ (3 - (cutz r.val).length) = r.val := by
 unfold Digs
 decide +kernel
/-- What the loop over the noughts comes to: the number's text. -/
def decO (x3 : ByteArray) (q : Int) (x4 : ByteArray) : Option ByteArray := (strconv_FormatInt.f (wrap64 (Int.tdiv q 1000)) 10).bind fun t => (if x3.size + t.size ≤ 9223372036854775807 then (if (x3 ++ t).size + 1 ≤ 9223372036854775807 then (if ((x3 ++ t) ++ (⟨#[46]⟩ : ByteArray)).size + x4.size ≤ 9223372036854775807 then (some (((x3 ++ t) ++ (⟨#[46]⟩ : ByteArray)) ++ x4)) else (none)) else (none)) else (none))
theorem dec_l0_stop {k : Nat} {x0 : Int} {x3 x4 : ByteArray} (h : ¬ ((x4.size : Int) > 1)) : bare_decimal.l0 (k + 1) x0 x3 x4 = decO x3 x0 x4 := by
 rw [bare_decimal.l0, if_neg h]
 rfl
theorem dec_l0_keep {k : Nat} {x0 : Int} {x3 x4 : ByteArray} (h : (x4.size : Int) > 1) (hs : x4.size < 1000) (hb : bt x4 ((x4.size : Int) - 1) ≠ 48) : bare_decimal.l0 (k + 1) x0 x3 x4 = decO x3 x0 x4 := by
 have hw : wrap64 ((x4.size : Int) - 1) = (x4.size : Int) - 1 := by unfold wrap64; omega
 rw [bare_decimal.l0, if_pos h, hw, if_pos (by omega), if_pos (by omega), if_neg hb]
 rfl
theorem dec_l0_cut {k : Nat} {x0 : Int} {x3 x4 : ByteArray} (h : (x4.size : Int) > 1) (hs : x4.size < 1000) (hb : bt x4 ((x4.size : Int) - 1) = 48) : bare_decimal.l0 (k + 1) x0 x3 x4 = bare_decimal.l0 k x0 x3 (x4.extract 0 ((x4.size : Int) - 1).toNat) := by
 have hw : wrap64 ((x4.size : Int) - 1) = (x4.size : Int) - 1 := by unfold wrap64; omega
 rw [bare_decimal.l0, if_pos h, hw, if_pos (by omega), if_pos (by omega), if_pos hb, if_pos (by omega)]
theorem dec_l0 (x0 : Int) (x3 : ByteArray) (r : Nat) (hr : r < 1000) : bare_decimal.l0 10 x0 x3 ⟨(three r).toArray⟩ = decO x3 x0 ⟨(cutz r).toArray⟩ := by
 obtain ⟨h2, h1, _⟩ := three_all ⟨r, hr⟩
 simp only at h1 h2
 have e3 : (⟨(three r).toArray⟩ : ByteArray).size = 3 := rfl
 have e2 : (⟨((three r).take 2).toArray⟩ : ByteArray).size = 2 := rfl
 have x2 : (⟨(three r).toArray⟩ : ByteArray).extract 0 (((⟨(three r).toArray⟩ : ByteArray).size : Int) - 1).toNat = ⟨((three r).take 2).toArray⟩ := rfl
 have x1 : (⟨((three r).take 2).toArray⟩ : ByteArray).extract 0 (((⟨((three r).take 2).toArray⟩ : ByteArray).size : Int) - 1).toNat = ⟨((three r).take 1).toArray⟩ := rfl
 unfold cutz
 by_cases hc : r % 10 ≠ 0
 ·rw [if_pos hc]
  exact dec_l0_keep (by rw [e3]; decide) (by rw [e3]; decide) (by rw [e3]; show bt _ 2 ≠ 48; rw [h2]; omega)
 ·rw [if_neg hc, dec_l0_cut (by rw [e3]; decide) (by rw [e3]; decide) (by rw [e3]; show bt _ 2 = 48; rw [h2]; omega), x2]
  by_cases hd : r / 10 % 10 ≠ 0
  ·rw [if_pos hd]
   exact dec_l0_keep (by rw [e2]; decide) (by rw [e2]; decide) (by rw [e2]; show bt _ 1 ≠ 48; rw [h1]; omega)
  ·rw [if_neg hd, dec_l0_cut (by rw [e2]; decide) (by rw [e2]; decide) (by rw [e2]; show bt _ 1 = 48; rw [h1]; omega), x1]
   exact dec_l0_stop (by show ¬ (((1 : Nat) : Int) > 1); decide)
theorem fmt_f {n : Int} (h : -1000000000000000 ≤ n ∧ n ≤ 1000000000000000) : strconv_FormatInt.f n 10 = some ⟨(Lib.itoa n).toArray⟩ := if_pos ⟨rfl, by omega, by omega⟩
/-- The sign's text. -/
def sgT (n : Int) : ByteArray := if n < 0 then ⟨#[45]⟩ else ⟨#[]⟩
/-- A decimal's text. -/
def decT (n : Int) : ByteArray := ((sgT n ++ ⟨(Lib.itoa ((n.natAbs / 1000 : Nat) : Int)).toArray⟩) ++ ⟨#[46]⟩) ++ ⟨(cutz (n.natAbs % 1000)).toArray⟩
theorem dec_j0 (u : Nat) (hu : u < 10 ^ 15) (x3 : ByteArray) : bare_decimal.j0 11 (u : Int) x3 = decO x3 (u : Int) ⟨(cutz (u % 1000)).toArray⟩ := by
 have hm : Int.tmod (u : Int) 1000 = ((u % 1000 : Nat) : Int) := by rw [Int.tmod_eq_emod_of_nonneg (by omega)]; omega
 have hw : wrap64 (1000 + ((u % 1000 : Nat) : Int)) = 1000 + ((u % 1000 : Nat) : Int) := by unfold wrap64; omega
 rw [bare_decimal.j0, hm, hw, fmt_f (by omega), Option.bind_some, itoa_thousand (u % 1000) (by omega)]
 rw [if_pos (by show (1 : Int) ≤ ((4 : Nat) : Int); decide)]
 have he : (⟨(49 :: three (u % 1000)).toArray⟩ : ByteArray).extract 1 (⟨(49 :: three (u % 1000)).toArray⟩ : ByteArray).size = ⟨(three (u % 1000)).toArray⟩ := rfl
 rw [he]
 exact dec_l0 _ _ _ (by omega)
theorem bytes_nat (q : Nat) : bytesOf ⟨(Lib.itoa (q : Int)).toArray⟩ = dd q := by
 rw [bytes_itoa]
 unfold sgn
 rw [if_neg (by omega)]
 rfl
theorem dec_f (n : Int) (hn : -999999999999999 ≤ n ∧ n ≤ 999999999999999) : bare_decimal.f 11 n = some (decT n) := by
 have hO : ∀ x3 : ByteArray, x3.size ≤ 1 → decO x3 (n.natAbs : Int) ⟨(cutz (n.natAbs % 1000)).toArray⟩ = some (((x3 ++ ⟨(Lib.itoa ((n.natAbs / 1000 : Nat) : Int)).toArray⟩) ++ ⟨#[46]⟩) ++ ⟨(cutz (n.natAbs % 1000)).toArray⟩) := by
  intro x3 h3
  have hd : Int.tdiv (n.natAbs : Int) 1000 = ((n.natAbs / 1000 : Nat) : Int) := by rw [Int.tdiv_eq_ediv_of_nonneg (by omega)]; omega
  have hw : wrap64 ((n.natAbs / 1000 : Nat) : Int) = ((n.natAbs / 1000 : Nat) : Int) := by unfold wrap64; omega
  unfold decO
  rw [hd, hw, fmt_f (by omega), Option.bind_some]
  have hz := size_le (bytes_nat (n.natAbs / 1000))
  have hl := dd_len 14 (n.natAbs / 1000) (by omega)
  obtain ⟨_, _, _, _, hc, _⟩ := three_all ⟨n.natAbs % 1000, by omega⟩
  simp only at hc
  have hcz : (⟨(cutz (n.natAbs % 1000)).toArray⟩ : ByteArray).size ≤ 3 := by
   show (cutz (n.natAbs % 1000)).toArray.size ≤ 3
   rw [List.size_toArray]
   exact hc
  rw [if_pos (by omega), if_pos (by rw [ByteArray.size_append]; omega), if_pos (by rw [ByteArray.size_append, ByteArray.size_append, show (⟨#[46]⟩ : ByteArray).size = 1 from rfl]; omega)]
 unfold bare_decimal.f decT sgT
 by_cases h0 : n < 0
 ·have hw : wrap64 (-n) = (n.natAbs : Int) := by unfold wrap64; omega
  rw [if_pos h0, if_pos h0, hw, dec_j0 n.natAbs (by omega)]
  exact hO _ (by decide)
 ·rw [if_neg h0, if_neg h0]
  have := dec_j0 n.natAbs (by omega) ⟨#[]⟩
  rw [show (n.natAbs : Int) = n by omega] at this hO
  rw [this]
  exact hO _ (by decide)
theorem bytesOf_app (s t : ByteArray) : bytesOf (s ++ t) = bytesOf s ++ bytesOf t := by
 unfold bytesOf
 simp [ByteArray.data_append]
/-- A decimal's text is read as it. -/
theorem dec_read (n : Int) (hn : -999999999999999 ≤ n ∧ n ≤ 999999999999999) : bare_Read.f (decT n) 0 = some (2, n, ⟨#[]⟩, ((decT n).size : Int), 0) := by
 obtain ⟨_, _, hcd, hc0, hc3, hcv⟩ := three_all ⟨n.natAbs % 1000, by omega⟩
 simp only at hcd hc0 hc3 hcv
 generalize hfr : (cutz (n.natAbs % 1000)).map (fun b => (b.toNat : Int)) = fr at *
 have hfl : fr.length = (cutz (n.natAbs % 1000)).length := by rw [← hfr, List.length_map]
 rw [← hfl] at hc0 hc3 hcv
 have hq : n.natAbs / 1000 < 10 ^ 15 := by omega
 have hB : bytesOf (decT n) = sgn n ++ dd (n.natAbs / 1000) ++ (46 :: fr) := by
  unfold decT
  rw [bytesOf_app, bytesOf_app, bytesOf_app, bytes_nat]
  have h1 : bytesOf (sgT n) = sgn n := by unfold sgT sgn; split <;> rfl
  have h2 : bytesOf ⟨(cutz (n.natAbs % 1000)).toArray⟩ = fr := by rw [← hfr]; unfold bytesOf; simp
  have h3 : bytesOf ⟨#[46]⟩ = [46] := rfl
  rw [h1, h2, h3]
  simp
 have hl := dd_len 11 (n.natAbs / 1000) (by omega)
 have hp := dd_pos (n.natAbs / 1000)
 have hz := size_le hB
 have hsg : (sgn n).length ≤ 1 := by unfold sgn; split <;> decide
 rw [List.length_append, List.length_append, List.length_cons] at hz
 generalize decT n = S at *
 refine (read_of_item (R := .inr ((2, n, ⟨#[]⟩), (S.size : Int))) (by omega) (by omega) ?_).trans rfl
 have hR : ∀ a : Nat, a = (sgn n ++ dd (n.natAbs / 1000)).length → numE S (if n < 0 then -1 else 1) (a : Int) ((n.natAbs / 1000 : Nat) : Int) ((dd (n.natAbs / 1000)).length : Int) (-1) 0 = .inr ((2, n, ⟨#[]⟩), (S.size : Int)) := by
  intro a ha
  have hdr : (bytesOf S).drop a = 46 :: fr := by rw [hB, ha]; exact List.drop_left
  rw [List.length_append] at ha
  obtain ⟨hs, hb, hr⟩ := drop_head hdr
  have hd46 : ¬ dig 46 = true := by decide
  rw [numE_step (by omega), hb, if_neg hd46, if_pos ⟨rfl, by decide⟩, if_neg (by omega)]
  have hf := num_frac S (if n < 0 then -1 else 1) (a : Int) (by omega) fr (a + 1) ((n.natAbs / 1000 : Nat) : Int) ((dd (n.natAbs / 1000)).length : Int) 0 [] (by rw [List.append_nil]; exact hr) hcd (by omega) (by omega)
  rw [show ((a : Int) + 1) = ((a + 1 : Nat) : Int) by omega, hf, numE_end (by omega)]
  unfold rdTold
  rw [if_neg (by omega), if_neg (by omega)]
  have hval : val ((n.natAbs / 1000 : Nat) : Int) fr = ((n.natAbs / 1000 : Nat) : Int) * 10 ^ fr.length + val 0 fr := by
   have : ∀ (l : List Int) (x : Int), val x l = x * 10 ^ l.length + val 0 l := by
    intro l
    induction l with
    | nil => intro x; simp [val]
    | cons c t ih =>
     intro x
     have h1 : val x (c :: t) = val (10 * x + (c - 48)) t := rfl
     have h2 : val 0 (c :: t) = val (10 * 0 + (c - 48)) t := rfl
     rw [h1, h2, ih, ih (10 * 0 + (c - 48)), List.length_cons, Int.pow_succ]
     generalize (10 : Int) ^ t.length = p
     generalize val 0 t = v
     rw [Int.add_mul, Int.add_mul, Int.mul_comm 10 x, Int.mul_assoc, Int.mul_comm 10 p]
     omega
   exact this fr _
  have htell : tell ((if n < 0 then -1 else 1) * val ((n.natAbs / 1000 : Nat) : Int) fr) (0 + (fr.length : Int)) = n := by
   unfold tell
   rw [hval, show (3 - (0 + (fr.length : Int))).toNat = 3 - fr.length by omega]
   have hcases : fr.length = 1 ∨ fr.length = 2 ∨ fr.length = 3 := by omega
   have hnn : (n.natAbs : Int) = ((n.natAbs / 1000 : Nat) : Int) * 1000 + ((n.natAbs % 1000 : Nat) : Int) := by omega
   generalize val 0 fr = v at *
   rcases hcases with e | e | e <;> rw [e] at hcv ⊢ <;> simp only [Nat.reduceSub, Int.reducePow] at hcv ⊢ <;> (split <;> omega)
  rw [htell, show ((a + 1 + fr.length : Nat) : Int) = (S.size : Int) by omega]
 exact number_read' S n (n.natAbs / 1000) hq (46 :: fr) hB _ hR
end Go.Proofs.YtkbmbancfbfddaaGreatDoor.Pure
