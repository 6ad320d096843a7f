/- BarePrints: Check, Print, Thousandths of any item, IsKey, IsToken of any text: as the page's. -/
import Derived.Test.YtkbmbancfbfddaaGreatDoorX13
import Derived.Test.YtkbmbancfbfddaaGreatDoorXW
import Derived.Laws.BitsAllLaws
import Derived.KernelRfl
import Derived.Lib.RuneCount
import Derived.Lib.DecodeN
namespace Go.Proofs.YtkbmbancfbfddaaGreatDoor.Pure
open Go.RowKit Go.Proofs.YtkbmbancfbfddaaGreatDoorW.PrintWords Go.Proofs.YtkbmbancfbfddaaGreatDoorW.PrintLast Go.Proofs.YtkbmbancfbfddaaGreatDoorW.PrintMore

def Bytes (l : List Int) : Prop := ∀ x ∈ l, 0 ≤ x ∧ x < 256
theorem Bytes.at_ {l : List Int} (h : Bytes l) (i : Nat) : 0 ≤ l.getD i 0 ∧ l.getD i 0 < 256 := by
 rw [List.getD_eq_getElem?_getD]
 cases hx : l[i]? with
 | none => simp
 | some x => exact h x (List.mem_of_getElem? hx)
theorem Bytes.nil : Bytes [] := fun x hx => by cases hx
theorem Bytes.cons {a : Int} {l : List Int} (ha : 0 ≤ a ∧ a < 256) (h : Bytes l) : Bytes (a :: l) := fun x hx => by
 rcases List.mem_cons.1 hx with rfl | h1
 ·exact ha
 ·exact h x h1
theorem Bytes.head {a : Int} {l : List Int} (h : Bytes (a :: l)) : 0 ≤ a ∧ a < 256 := h a (by simp)
theorem Bytes.tail {a : Int} {l : List Int} (h : Bytes (a :: l)) : Bytes l := fun x hx => h x (by simp [hx])
theorem Bytes.append {l m : List Int} (h : Bytes l) (k : Bytes m) : Bytes (l ++ m) := fun x hx => by
 rcases List.mem_append.1 hx with h1 | h1
 ·exact h x h1
 ·exact k x h1
theorem Bytes.left {l m : List Int} (h : Bytes (l ++ m)) : Bytes l := fun x hx => h x (by simp [hx])
theorem Bytes.right {l m : List Int} (h : Bytes (l ++ m)) : Bytes m := fun x hx => h x (by simp [hx])
theorem Bytes.drop {l : List Int} (h : Bytes l) (n : Nat) : Bytes (l.drop n) := fun x hx => h x (List.mem_of_mem_drop hx)
theorem Bytes.take {l : List Int} (h : Bytes l) (n : Nat) : Bytes (l.take n) := fun x hx => h x (List.mem_of_mem_take hx)
theorem Bytes.of (s : ByteArray) : Bytes (bytesOf s) := fun x hx => by
 obtain ⟨b, _, rfl⟩ := List.mem_map.1 hx
 have := b.toNat_lt
 omega
theorem toList_data (s : ByteArray) : s.toList = s.data.toList := by
 have h : ∀ (d i : Nat) (r : List UInt8), i + d = s.size → ByteArray.toList.loop s i r = r.reverse ++ s.data.toList.drop i := by
  intro d
  induction d with
  | zero =>
   intro i r hi
   unfold ByteArray.toList.loop
   rw [if_neg (by omega), List.drop_of_length_le (by rw [Array.length_toList]; show s.size ≤ i; omega)]
   simp
  | succ d ih =>
   intro i r hi
   unfold ByteArray.toList.loop
   rw [if_pos (by omega), ih (i + 1) _ (by omega)]
   have hl : i < s.data.toList.length := by rw [Array.length_toList]; show i < s.size; omega
   rw [List.drop_eq_getElem_cons hl]
   have hg : s.get! i = s.data.toList[i] := by
    have hi2 : i < s.data.size := by show i < s.size; omega
    show s.data[i]! = _
    rw [getElem!_pos s.data i hi2]
    simp
   rw [hg]
   simp
 have := h s.size 0 [] (by omega)
 unfold ByteArray.toList
 simpa using this
theorem bt_rd (s : ByteArray) (i : Int) : bt s i = rd (bytesOf s) i := (rd_bytesOf s i).symm
theorem bt_at' (s : ByteArray) (i : Nat) : bt s (i : Int) = (bytesOf s).getD i 0 := by rw [bt_rd]; unfold rd; rw [Int.toNat_natCast]
theorem w64 {x : Int} (h : -9223372036854775808 ≤ x) (h2 : x ≤ 9223372036854775807) : wrap64 x = x := by unfold wrap64; omega
theorem getD_drop {l : List Int} {i : Nat} (h : i < l.length) : l.drop i = l.getD i 0 :: l.drop (i + 1) := by
 rw [List.drop_eq_getElem_cons h, List.getD_eq_getElem?_getD, List.getElem?_eq_getElem h]
 rfl
/-- A byte's property is looked at for each byte. -/
theorem byte_all {p : Int → Prop} [DecidablePred p] (h : ∀ i : Fin 256, p (i.val : Int)) {x : Int} (hx : 0 ≤ x ∧ x < 256) : p x := by
 obtain ⟨n, rfl⟩ := Int.eq_ofNat_of_zero_le hx.1
 exact h ⟨n, by omega⟩
end Go.Proofs.YtkbmbancfbfddaaGreatDoor.Pure
namespace Go.Proofs.YtkbmbancfbfddaaGreatDoor.Pure
open Go.RowKit Go.Proofs.YtkbmbancfbfddaaGreatDoor.X Go.Proofs.YtkbmbancfbfddaaGreatDoorW.PrintWords Go.Proofs.YtkbmbancfbfddaaGreatDoorW.PrintLast Go.Proofs.YtkbmbancfbfddaaGreatDoorW.PrintMore

set_option maxRecDepth 100000 in
theorem alive_20 : pergolalaw09_alive.f 20 = some true := by decide +kernel
end Go.Proofs.YtkbmbancfbfddaaGreatDoor.Pure
namespace Go.Proofs.YtkbmbancfbfddaaGreatDoor.Pure
open Go.RowKit Go.Proofs.YtkbmbancfbfddaaGreatDoor.X Go.Proofs.YtkbmbancfbfddaaGreatDoorW.PrintWords Go.Proofs.YtkbmbancfbfddaaGreatDoorW.PrintLast Go.Proofs.YtkbmbancfbfddaaGreatDoorW.PrintMore

/-- Digits as numbers (48 to 57), and what they come to. -/
def Digs (l : List Int) : Prop := ∀ c ∈ l, 48 ≤ c ∧ c ≤ 57
def val (n : Int) (l : List Int) : Int := l.foldl (fun n c => 10 * n + (c - 48)) n
def dd (u : Nat) : List Int := (Lib.decDigits u).map fun b => (b.toNat : Int)
theorem dd_small {u : Nat} (h : u < 10) : dd u = [48 + (u : Int)] := by
 unfold dd
 rw [Lib.decDigits, dif_pos h]
 simp only [List.map_cons, List.map_nil]
 congr 1
 have : (UInt8.ofNat (48 + u)).toNat = 48 + u := by simp; omega
 rw [this]
 omega
theorem dd_big {u : Nat} (h : ¬ u < 10) : dd u = dd (u / 10) ++ [48 + ((u % 10 : Nat) : Int)] := by
 unfold dd
 rw [Lib.decDigits, dif_neg h, List.map_append]
 simp only [List.map_cons, List.map_nil]
 congr 2
 have : (UInt8.ofNat (48 + u % 10)).toNat = 48 + u % 10 := by simp; omega
 rw [this]
 omega
theorem dd_len : ∀ (k u : Nat), u < 10 ^ (k + 1) → (dd u).length ≤ k + 1 := by
 intro k
 induction k with
 | zero =>
  intro u h
  rw [dd_small (by omega)]
  simp
 | succ k ih =>
  intro u h
  by_cases h1 : u < 10
  ·rw [dd_small h1]; simp
  ·rw [dd_big h1, List.length_append]
   have := ih (u / 10) (by rw [Nat.pow_succ] at h; omega)
   simp only [List.length_cons, List.length_nil]
   omega
/-! reading digits -/
/-- The sign's byte, if it is below nothing. -/
def sgn (n : Int) : List Int := if n < 0 then [45] else []
theorem bytes_itoa (n : Int) : bytesOf ⟨(Lib.itoa n).toArray⟩ = sgn n ++ dd n.natAbs := by
 unfold bytesOf Lib.itoa sgn dd
 by_cases h : n < 0
 ·rw [if_pos h, if_pos h]
  simp
 ·rw [if_neg h, if_neg h, show n.toNat = n.natAbs by omega]
  simp
theorem size_le {s : ByteArray} {l : List Int} (h : bytesOf s = l) : s.size = l.length := by rw [← h, bytesOf_length]
end Go.Proofs.YtkbmbancfbfddaaGreatDoor.Pure
namespace Go.Proofs.YtkbmbancfbfddaaGreatDoor.Pure
open Go.RowKit Go.Proofs.YtkbmbancfbfddaaGreatDoor.X Go.Proofs.YtkbmbancfbfddaaGreatDoorW.PrintWords Go.Proofs.YtkbmbancfbfddaaGreatDoorW.PrintLast Go.Proofs.YtkbmbancfbfddaaGreatDoorW.PrintMore

/-- The three digits behind the point, and what is left of them without the noughts at the end. -/
def three (r : Nat) : List UInt8 := [UInt8.ofNat (48 + r / 100), UInt8.ofNat (48 + r / 10 % 10), UInt8.ofNat (48 + r % 10)]
def cutz (r : Nat) : List UInt8 := if r % 10 ≠ 0 then three r else if r / 10 % 10 ≠ 0 then (three r).take 2 else (three r).take 1
theorem dec_step {u : Nat} (h : ¬ u < 10) : Lib.decDigits u = Lib.decDigits (u / 10) ++ [UInt8.ofNat (48 + u % 10)] := by rw [Lib.decDigits, dif_neg h]
theorem itoa_thousand (r : Nat) (h : r < 1000) : Lib.itoa (1000 + (r : Int)) = 49 :: three r := by
 unfold Lib.itoa
 rw [if_neg (by omega), show (1000 + (r : Int)).toNat = 1000 + r by omega, dec_step (by omega), dec_step (by omega), dec_step (by omega), Lib.decDigits, dif_pos (by omega)]
 rw [show (1000 + r) / 10 / 10 / 10 = 1 by omega, show (1000 + r) / 10 / 10 % 10 = r / 100 by omega, show (1000 + r) / 10 % 10 = r / 10 % 10 by omega, show (1000 + r) % 10 = r % 10 by omega]
 rfl
theorem three_all : ∀ r : Fin 1000, bt ⟨(three r.val).toArray⟩ 2 = 48 + (r.val % 10 : Nat) ∧ bt ⟨((three r.val).take 2).toArray⟩ 1 = 48 + (r.val / 10 % 10 : Nat) ∧
  Digs ((cutz r.val).map fun b => (b.toNat : Int)) ∧ 0 < (cutz r.val).length ∧ (cutz r.val).length ≤ 3 ∧ val 0 ((cutz r.val).map fun b => (b.toNat : Int)) * 10 ^ (3 - (cutz r.val).length) = r.val := by
 unfold Digs
 decide +kernel
/-- What the loop over the noughts comes to: the number's text. -/
def decO (x3 : ByteArray) (q : Int) (x4 : ByteArray) : Option ByteArray := (strconv_FormatInt.f (wrap64 (Int.tdiv q 1000)) 10).bind fun t => (if x3.size + t.size ≤ 9223372036854775807 then (if (x3 ++ t).size + 1 ≤ 9223372036854775807 then (if ((x3 ++ t) ++ (⟨#[46]⟩ : ByteArray)).size + x4.size ≤ 9223372036854775807 then (some (((x3 ++ t) ++ (⟨#[46]⟩ : ByteArray)) ++ x4)) else (none)) else (none)) else (none))
theorem dec_l0_stop {k : Nat} {x0 : Int} {x3 x4 : ByteArray} (h : ¬ ((x4.size : Int) > 1)) : bare_decimal.l0 (k + 1) x0 x3 x4 = decO x3 x0 x4 := by
 rw [bare_decimal.l0, if_neg h]
 rfl
theorem dec_l0_keep {k : Nat} {x0 : Int} {x3 x4 : ByteArray} (h : (x4.size : Int) > 1) (hs : x4.size < 1000) (hb : bt x4 ((x4.size : Int) - 1) ≠ 48) : bare_decimal.l0 (k + 1) x0 x3 x4 = decO x3 x0 x4 := by
 have hw : wrap64 ((x4.size : Int) - 1) = (x4.size : Int) - 1 := by unfold wrap64; omega
 rw [bare_decimal.l0, if_pos h, hw, if_pos (by omega), if_pos (by omega), if_neg hb]
 rfl
theorem dec_l0_cut {k : Nat} {x0 : Int} {x3 x4 : ByteArray} (h : (x4.size : Int) > 1) (hs : x4.size < 1000) (hb : bt x4 ((x4.size : Int) - 1) = 48) : bare_decimal.l0 (k + 1) x0 x3 x4 = bare_decimal.l0 k x0 x3 (x4.extract 0 ((x4.size : Int) - 1).toNat) := by
 have hw : wrap64 ((x4.size : Int) - 1) = (x4.size : Int) - 1 := by unfold wrap64; omega
 rw [bare_decimal.l0, if_pos h, hw, if_pos (by omega), if_pos (by omega), if_pos hb, if_pos (by omega)]
theorem dec_l0 (x0 : Int) (x3 : ByteArray) (r : Nat) (hr : r < 1000) : bare_decimal.l0 10 x0 x3 ⟨(three r).toArray⟩ = decO x3 x0 ⟨(cutz r).toArray⟩ := by
 obtain ⟨h2, h1, _⟩ := three_all ⟨r, hr⟩
 simp only at h1 h2
 have e3 : (⟨(three r).toArray⟩ : ByteArray).size = 3 := rfl
 have e2 : (⟨((three r).take 2).toArray⟩ : ByteArray).size = 2 := rfl
 have x2 : (⟨(three r).toArray⟩ : ByteArray).extract 0 (((⟨(three r).toArray⟩ : ByteArray).size : Int) - 1).toNat = ⟨((three r).take 2).toArray⟩ := rfl
 have x1 : (⟨((three r).take 2).toArray⟩ : ByteArray).extract 0 (((⟨((three r).take 2).toArray⟩ : ByteArray).size : Int) - 1).toNat = ⟨((three r).take 1).toArray⟩ := rfl
 unfold cutz
 by_cases hc : r % 10 ≠ 0
 ·rw [if_pos hc]
  exact dec_l0_keep (by rw [e3]; decide) (by rw [e3]; decide) (by rw [e3]; show bt _ 2 ≠ 48; rw [h2]; omega)
 ·rw [if_neg hc, dec_l0_cut (by rw [e3]; decide) (by rw [e3]; decide) (by rw [e3]; show bt _ 2 = 48; rw [h2]; omega), x2]
  by_cases hd : r / 10 % 10 ≠ 0
  ·rw [if_pos hd]
   exact dec_l0_keep (by rw [e2]; decide) (by rw [e2]; decide) (by rw [e2]; show bt _ 1 ≠ 48; rw [h1]; omega)
  ·rw [if_neg hd, dec_l0_cut (by rw [e2]; decide) (by rw [e2]; decide) (by rw [e2]; show bt _ 1 = 48; rw [h1]; omega), x1]
   exact dec_l0_stop (by show ¬ (((1 : Nat) : Int) > 1); decide)
theorem fmt_f {n : Int} (h : -1000000000000000 ≤ n ∧ n ≤ 1000000000000000) : strconv_FormatInt.f n 10 = some ⟨(Lib.itoa n).toArray⟩ := if_pos ⟨rfl, by omega, by omega⟩
/-- The sign's text. -/
def sgT (n : Int) : ByteArray := if n < 0 then ⟨#[45]⟩ else ⟨#[]⟩
/-- A decimal's text. -/
def decT (n : Int) : ByteArray := ((sgT n ++ ⟨(Lib.itoa ((n.natAbs / 1000 : Nat) : Int)).toArray⟩) ++ ⟨#[46]⟩) ++ ⟨(cutz (n.natAbs % 1000)).toArray⟩
theorem dec_j0 (u : Nat) (hu : u < 10 ^ 15) (x3 : ByteArray) : bare_decimal.j0 11 (u : Int) x3 = decO x3 (u : Int) ⟨(cutz (u % 1000)).toArray⟩ := by
 have hm : Int.tmod (u : Int) 1000 = ((u % 1000 : Nat) : Int) := by rw [Int.tmod_eq_emod_of_nonneg (by omega)]; omega
 have hw : wrap64 (1000 + ((u % 1000 : Nat) : Int)) = 1000 + ((u % 1000 : Nat) : Int) := by unfold wrap64; omega
 rw [bare_decimal.j0, hm, hw, fmt_f (by omega), Option.bind_some, itoa_thousand (u % 1000) (by omega)]
 rw [if_pos (by show (1 : Int) ≤ ((4 : Nat) : Int); decide)]
 have he : (⟨(49 :: three (u % 1000)).toArray⟩ : ByteArray).extract 1 (⟨(49 :: three (u % 1000)).toArray⟩ : ByteArray).size = ⟨(three (u % 1000)).toArray⟩ := rfl
 rw [he]
 exact dec_l0 _ _ _ (by omega)
theorem bytes_nat (q : Nat) : bytesOf ⟨(Lib.itoa (q : Int)).toArray⟩ = dd q := by
 rw [bytes_itoa]
 unfold sgn
 rw [if_neg (by omega)]
 rfl
theorem dec_f (n : Int) (hn : -999999999999999 ≤ n ∧ n ≤ 999999999999999) : bare_decimal.f 11 n = some (decT n) := by
 have hO : ∀ x3 : ByteArray, x3.size ≤ 1 → decO x3 (n.natAbs : Int) ⟨(cutz (n.natAbs % 1000)).toArray⟩ = some (((x3 ++ ⟨(Lib.itoa ((n.natAbs / 1000 : Nat) : Int)).toArray⟩) ++ ⟨#[46]⟩) ++ ⟨(cutz (n.natAbs % 1000)).toArray⟩) := by
  intro x3 h3
  have hd : Int.tdiv (n.natAbs : Int) 1000 = ((n.natAbs / 1000 : Nat) : Int) := by rw [Int.tdiv_eq_ediv_of_nonneg (by omega)]; omega
  have hw : wrap64 ((n.natAbs / 1000 : Nat) : Int) = ((n.natAbs / 1000 : Nat) : Int) := by unfold wrap64; omega
  unfold decO
  rw [hd, hw, fmt_f (by omega), Option.bind_some]
  have hz := size_le (bytes_nat (n.natAbs / 1000))
  have hl := dd_len 14 (n.natAbs / 1000) (by omega)
  obtain ⟨_, _, _, _, hc, _⟩ := three_all ⟨n.natAbs % 1000, by omega⟩
  simp only at hc
  have hcz : (⟨(cutz (n.natAbs % 1000)).toArray⟩ : ByteArray).size ≤ 3 := by
   show (cutz (n.natAbs % 1000)).toArray.size ≤ 3
   rw [List.size_toArray]
   exact hc
  rw [if_pos (by omega), if_pos (by rw [ByteArray.size_append]; omega), if_pos (by rw [ByteArray.size_append, ByteArray.size_append, show (⟨#[46]⟩ : ByteArray).size = 1 from rfl]; omega)]
 unfold bare_decimal.f decT sgT
 by_cases h0 : n < 0
 ·have hw : wrap64 (-n) = (n.natAbs : Int) := by unfold wrap64; omega
  rw [if_pos h0, if_pos h0, hw, dec_j0 n.natAbs (by omega)]
  exact hO _ (by decide)
 ·rw [if_neg h0, if_neg h0]
  have := dec_j0 n.natAbs (by omega) ⟨#[]⟩
  rw [show (n.natAbs : Int) = n by omega] at this hO
  rw [this]
  exact hO _ (by decide)
end Go.Proofs.YtkbmbancfbfddaaGreatDoor.Pure
namespace Go.Proofs.YtkbmbancfbfddaaGreatDoor.Pure
open Go.RowKit Go.Proofs.YtkbmbancfbfddaaGreatDoor.X Go.Proofs.YtkbmbancfbfddaaGreatDoorW.PrintWords Go.Proofs.YtkbmbancfbfddaaGreatDoorW.PrintLast Go.Proofs.YtkbmbancfbfddaaGreatDoorW.PrintMore

theorem ev_pos {α : Type} {c : Prop} [Decidable c] (h : c) {f g : Nat → Option α} {r : α} (hf : Ev f r) : Ev (fun k => if c then f k else g k) r := Ev.congr (fun _ => if_pos h) hf
theorem ev_neg {α : Type} {c : Prop} [Decidable c] (h : ¬ c) {f g : Nat → Option α} {r : α} (hf : Ev g r) : Ev (fun k => if c then f k else g k) r := Ev.congr (fun _ => if_neg h) hf
theorem ev_some {α : Type} {o : Option α} {r : α} (h : o = some r) : Ev (fun _ => o) r := Ev.congr (fun _ => h) (Ev.now r)

theorem tokE_spec (T : Int → Bool) (s : ByteArray) : ∀ (d : Nat) (a : Int), 0 ≤ a → a + d = (s.size : Int) → a ≤ tokE T s a ∧ tokE T s a ≤ (s.size : Int) ∧ (∀ i, a ≤ i → i < tokE T s a → T (bt s i) = true) := by
 intro d
 induction d with
 | zero =>
  intro a h0 ha
  rw [tokE_stop (fun h => by omega)]
  exact ⟨by omega, by omega, fun i h1 h2 => by omega⟩
 | succ d ih =>
  intro a h0 ha
  by_cases hT : T (bt s a) = true
  ·rw [tokE_step (by omega) hT]
   obtain ⟨h1, h2, h3⟩ := ih (a + 1) (by omega) (by omega)
   refine ⟨by omega, h2, fun i hi hlt => ?_⟩
   by_cases he : i = a
   ·rw [he]; exact hT
   ·exact h3 i (by omega) hlt
  ·rw [tokE_stop (fun h => hT h.2)]
   exact ⟨by omega, by omega, fun i h1 h2 => by omega⟩
theorem byte_of (s : ByteArray) (i : Int) : 0 ≤ bt s i ∧ bt s i < 256 := ⟨(bt_range s i).1, by have := (bt_range s i).2; omega⟩
/-! tokens -/
theorem inTok_f {c : Int} (h : 0 ≤ c ∧ c < 256) : bare_inToken.f c = some (inTok c) := if_pos h
theorem tok_l0 (s : ByteArray) (hs : s.size ≤ 140737488355328) (d : Nat) : ∀ (j : Nat), j + d = s.size → Ev (fun k => bare_IsToken.l0 k s (s.size : Int) (j : Int)) (decide (tokE inTok s (j : Int) = (s.size : Int))) := by
 induction d with
 | zero =>
  intro j hj
  refine Ev.step (f := fun _ => some true) (fun k => ?_) ?_
  ·rw [bare_IsToken.l0, if_neg (by omega)]
  ·rw [tokE_stop (fun h => by omega), show decide ((j : Int) = (s.size : Int)) = true from decide_eq_true (by omega)]
   exact Ev.now _
 | succ d ih =>
  intro j hj
  have hw : wrap64 ((j : Int) + 1) = ((j + 1 : Nat) : Int) := by unfold wrap64; omega
  refine Ev.step (f := fun k => if inTok (bt s (j : Int)) = true then bare_IsToken.l0 k s (s.size : Int) ((j + 1 : Nat) : Int) else some false) (fun k => ?_) ?_
  ·rw [bare_IsToken.l0, if_pos (by omega), if_pos (by omega), if_pos (by omega), inTok_f (byte_of s _), Option.bind_some, hw]
  ·by_cases hT : inTok (bt s (j : Int)) = true
   ·rw [tokE_step (by omega) hT]
    exact ev_pos hT (ih (j + 1) (by omega))
   ·rw [tokE_stop (fun h => hT h.2), show decide ((j : Int) = (s.size : Int)) = false from decide_eq_false (by omega)]
    exact ev_neg hT (Ev.now _)
theorem letB_c {c : Int} (h : 0 ≤ c ∧ c < 256) : bare_letter.f c = some (letB c) := by
 have := letB_f c.toNat (by omega)
 rwa [show ((c.toNat : Nat) : Int) = c by omega] at this
def istok (s : ByteArray) : Bool := decide (s.size ≠ 0) && letB (bt s 0) && decide (tokE inTok s 0 = (s.size : Int))
theorem empty_iff (s : ByteArray) : s.toList = ([] : List UInt8) ↔ s.size = 0 := by
 rw [toList_data]
 constructor
 ·intro h
  have := Lib.size_eq s
  rw [h] at this
  simpa using this
 ·intro h
  exact List.eq_nil_of_length_eq_zero (by rw [Array.length_toList]; exact h)
theorem istok_f (s : ByteArray) (hs : s.size ≤ 140737488355328) : Ev (fun k => bare_IsToken.f k s) (istok s) := by
 unfold istok
 by_cases h0 : s.size = 0
 ·rw [show decide (s.size ≠ 0) = false from decide_eq_false (fun h => h h0)]
  refine Ev.congr (fun k => ?_ : ∀ k, bare_IsToken.f k s = bare_IsToken.j0 k s true) ?_
  ·unfold bare_IsToken.f
   rw [if_pos ((empty_iff s).2 h0)]
  ·refine Ev.step (f := fun _ => some false) (fun k => ?_) (Ev.now _)
   rw [bare_IsToken.j0, if_pos rfl]
 ·rw [show decide (s.size ≠ 0) = true from decide_eq_true h0, Bool.true_and]
  refine Ev.congr (fun k => ?_ : ∀ k, bare_IsToken.f k s = bare_IsToken.j0 k s (!letB (bt s 0))) ?_
  ·unfold bare_IsToken.f
   rw [if_neg (fun h => h0 ((empty_iff s).1 h)), if_pos (by omega), letB_c (byte_of s 0), Option.bind_some]
  ·cases hl : letB (bt s 0) with
   | false =>
    refine Ev.step (f := fun _ => some false) (fun k => ?_) (Ev.now _)
    rw [bare_IsToken.j0, if_pos (show (!false) = true from rfl)]
   | true =>
    refine Ev.step (f := fun k => bare_IsToken.l0 k s (s.size : Int) 0) (fun k => ?_) ?_
    ·rw [bare_IsToken.j0, if_neg (show ¬ (!true) = true by decide)]
    ·rw [Bool.true_and]
     exact tok_l0 s hs s.size 0 (by omega)
end Go.Proofs.YtkbmbancfbfddaaGreatDoor.Pure
namespace Go.Proofs.YtkbmbancfbfddaaGreatDoor.Pure
open Go.RowKit Go.Proofs.YtkbmbancfbfddaaGreatDoor.X Go.Proofs.YtkbmbancfbfddaaGreatDoorW.PrintWords Go.Proofs.YtkbmbancfbfddaaGreatDoorW.PrintLast Go.Proofs.YtkbmbancfbfddaaGreatDoorW.PrintMore

def b64d (q : Int) : Int := bt b64base q
def b64L : List Int → List Int
 | [] => []
 | [a] => [b64d (a * 65536 / 262144 % 64), b64d (a * 65536 / 4096 % 64), 61, 61]
 | [a, b] => [b64d ((a * 65536 + b * 256) / 262144 % 64), b64d ((a * 65536 + b * 256) / 4096 % 64), b64d ((a * 65536 + b * 256) / 64 % 64), 61]
 | a :: b :: c :: t => b64d ((a * 65536 + b * 256 + c) / 262144 % 64) :: b64d ((a * 65536 + b * 256 + c) / 4096 % 64) :: b64d ((a * 65536 + b * 256 + c) / 64 % 64) :: b64d ((a * 65536 + b * 256 + c) % 64) :: b64L t
theorem isByte_mk {x : Int} (h : 0 ≤ x ∧ x < 256) : isByte x = true := by simp [isByte]; omega
theorem base64_l0 (n : Nat) : ∀ (b out : List Int), b.length ≤ n → Bytes b → out.length + 4 * n < 140737488355328 - 4 → Ev (fun k => octets_Base64.l0 k b out) (strOfNums (out ++ b64L b)) := by
 induction n using Nat.strongRecOn with
 | _ n ih =>
  intro b out hn hb ho
  match b, hn, hb with
  | [], _, _ =>
   refine Ev.step (f := fun _ => some (strOfNums (out ++ b64L []))) (fun k => ?_) (Ev.now _)
   simp only [octets_Base64.l0]
   rw [if_neg (by simp), b64L, List.append_nil]
  | [a], hn, hb =>
   have h1 := ih 0 (by simp at hn; omega) [] (out ++ b64four [a]) (by simp) Bytes.nil (by simp [b64four] at *; omega)
   refine Ev.step (f := fun k => octets_Base64.l0 k [] (out ++ b64four [a])) (fun k => ?_) ?_
   ·simp only [octets_Base64.l0]
    have e : (isByte ([a].getD 0 0) && isByte ([a].getD 1 0) && isByte ([a].getD 2 0)) = true := by
     have := isByte_mk hb.head
     simp [this, isByte_mk (x := 0) (by omega)]
    rw [if_pos (by simp), if_pos e, if_pos (by simp at hn; omega)]
    rfl
   ·have e : b64four [a] = b64L [a] := by simp [b64four, b64L, b64v, b64dig, b64d]
    rw [e] at h1 ⊢
    simpa [b64L] using h1
  | [a, c], hn, hb =>
   have h1 := ih 0 (by simp at hn; omega) [] (out ++ b64four [a, c]) (by simp) Bytes.nil (by simp [b64four] at *; omega)
   refine Ev.step (f := fun k => octets_Base64.l0 k [] (out ++ b64four [a, c])) (fun k => ?_) ?_
   ·simp only [octets_Base64.l0]
    have e : (isByte ([a, c].getD 0 0) && isByte ([a, c].getD 1 0) && isByte ([a, c].getD 2 0)) = true := by
     have := isByte_mk hb.head
     have := isByte_mk hb.tail.head
     simp [*, isByte_mk (x := 0) (by omega)]
    rw [if_pos (by simp), if_pos e, if_pos (by simp at hn; omega)]
    rfl
   ·have e : b64four [a, c] = b64L [a, c] := by simp [b64four, b64L, b64v, b64dig, b64d]
    rw [e] at h1 ⊢
    simpa [b64L] using h1
  | a :: c :: d :: t, hn, hb =>
   have hlen : t.length + 3 ≤ n := by simpa using hn
   have h1 := ih (n - 3) (by omega) t (out ++ b64four (a :: c :: d :: t)) (by omega) hb.tail.tail.tail (by simp [b64four]; omega)
   have hmin : min 3 (a :: c :: d :: t).length = 3 := by simp
   refine Ev.step (f := fun k => octets_Base64.l0 k t (out ++ b64four (a :: c :: d :: t))) (fun k => ?_) ?_
   ·simp only [octets_Base64.l0]
    have e : (isByte ((a :: c :: d :: t).getD 0 0) && isByte ((a :: c :: d :: t).getD 1 0) && isByte ((a :: c :: d :: t).getD 2 0)) = true := by
     have := isByte_mk hb.head
     have := isByte_mk hb.tail.head
     have := isByte_mk hb.tail.tail.head
     simp [*]
    rw [if_pos (by simp), if_pos e, if_pos (by omega), hmin]
    rfl
   ·have e : b64four (a :: c :: d :: t) = [b64d ((a * 65536 + c * 256 + d) / 262144 % 64), b64d ((a * 65536 + c * 256 + d) / 4096 % 64), b64d ((a * 65536 + c * 256 + d) / 64 % 64), b64d ((a * 65536 + c * 256 + d) % 64)] := by
     have hm : min (a :: c :: d :: t).length 3 = 3 := by simp
     unfold b64four b64dig b64v b64d
     rw [hm]
     simp
    rw [e] at h1 ⊢
    simpa [b64L] using h1
theorem base64_f (b : List Int) (hb : Bytes b) (hn : b.length ≤ 17592186044416) : Ev (fun k => octets_Base64.f k b) (strOfNums (b64L b)) := by
 have := base64_l0 b.length b [] (Nat.le_refl _) hb (by simp; omega)
 exact this

/-! The digits -/
def v64 (c : Int) : Int := Lib.indexByte b64base.data.toList c.toNat.toUInt8
def V64Facts (c : Int) : Prop := (v64 c = -1 ∨ (0 ≤ v64 c ∧ v64 c < 64 ∧ b64d (v64 c) = c)) ∧ (c = 61 → v64 c = -1)
instance (c : Int) : Decidable (V64Facts c) := by unfold V64Facts; infer_instance
/-! The first loop: where the digits end -/
/-! The second loop: six bits a digit -/
/-- The machine's bits, and what is kept of them. -/
structure Keeps (B r : Int) (h : Nat) : Prop where
 lo : 0 ≤ B
 hi : B < 18446744073709551616
 form : (h = 0 ∧ r = 0) ∨ (h = 2 ∧ B % 4 = r) ∨ (h = 4 ∧ B % 16 = r) ∨ (h = 6 ∧ B % 64 = r)
theorem wu64 (x : Int) : IntKind.u64.wrap x = x % 18446744073709551616 := by simp [IntKind.wrap, IntKind.signed, IntKind.bits]
end Go.Proofs.YtkbmbancfbfddaaGreatDoor.Pure
namespace Go.Proofs.YtkbmbancfbfddaaGreatDoor.Pure
open Go.RowKit Go.Proofs.YtkbmbancfbfddaaGreatDoor.X Go.Proofs.YtkbmbancfbfddaaGreatDoorW.PrintWords Go.Proofs.YtkbmbancfbfddaaGreatDoorW.PrintLast Go.Proofs.YtkbmbancfbfddaaGreatDoorW.PrintMore

/-! six bits and eight bits -/
def V64 (l : List Int) : Prop := ∀ x ∈ l, 0 ≤ x ∧ x < 64
theorem V64.cons_iff {a : Int} {l : List Int} : V64 (a :: l) ↔ (0 ≤ a ∧ a < 64) ∧ V64 l := by simp [V64]
theorem b64L_len (n : Nat) : ∀ b : List Int, b.length ≤ n → (b64L b).length ≤ 2 * b.length + 2 := by
 induction n using Nat.strongRecOn with
 | _ n ih =>
  intro b hn
  match b, hn with
  | [], _ => simp [b64L]
  | [a], _ => simp [b64L]
  | [a, c], _ => simp [b64L]
  | a :: c :: d :: t, hn =>
   have hlen : t.length + 3 ≤ n := by simpa using hn
   have := ih (n - 3) (by omega) t (by omega)
   simp [b64L]
   omega
end Go.Proofs.YtkbmbancfbfddaaGreatDoor.Pure
namespace Go.Proofs.YtkbmbancfbfddaaGreatDoor.Pure
open Go.RowKit Go.Proofs.YtkbmbancfbfddaaGreatDoor.X Go.Proofs.YtkbmbancfbfddaaGreatDoorW.PrintWords Go.Proofs.YtkbmbancfbfddaaGreatDoorW.PrintLast Go.Proofs.YtkbmbancfbfddaaGreatDoorW.PrintMore

def hexDig : ByteArray := ⟨#[48, 49, 50, 51, 52, 53, 54, 55, 56, 57, 97, 98, 99, 100, 101, 102]⟩
/-- The place of a digit. -/
def hexIdx (c : Int) : Int := Lib.indexByte hexDig.data.toList (Go.bits .or .u8 c 32).toNat.toUInt8
/-- A digit's number; -1: it is none. -/
def nib (c : Int) : Int := if hexIdx c < 0 then -1 else
 if hexIdx c < 10 then (if (c != bt hexDig (hexIdx c)) = true then -1 else hexIdx c) else
 hexIdx c
/-- What is known of a byte as a digit. -/
def NibFacts (c : Int) : Prop := (nib c = -1 ∨ (0 ≤ nib c ∧ nib c < 16)) ∧ hexIdx c < 16 ∧ -1 ≤ hexIdx c
instance (c : Int) : Decidable (NibFacts c) := by unfold NibFacts; infer_instance
end Go.Proofs.YtkbmbancfbfddaaGreatDoor.Pure
namespace Go.Proofs.YtkbmbancfbfddaaGreatDoor.Pure
open Go.RowKit Go.Proofs.YtkbmbancfbfddaaGreatDoor.X Go.Proofs.YtkbmbancfbfddaaGreatDoorW.PrintWords Go.Proofs.YtkbmbancfbfddaaGreatDoorW.PrintLast Go.Proofs.YtkbmbancfbfddaaGreatDoorW.PrintMore

theorem ev_unique {α : Type} {g : Nat → Option α} {r r' : α} (h : Ev g r) (h' : Ev g r') : r = r' := by
 obtain ⟨K, hK⟩ := h
 obtain ⟨K', hK'⟩ := h'
 exact Option.some.inj ((hK (K + K') (by omega)).symm.trans (hK' (K + K') (by omega)))
theorem everO_ev {α : Type} {g : Nat → Option α} {r : α} (hg : ∀ k, LeO (g k) (g (k + 1))) (h : Ev g r) : everO g = some r := by
 cases he : everO g with
 | none =>
  unfold everO at he
  rw [dif_pos ⟨r, Ev.rounds h⟩] at he
  cases he
 | some x =>
  obtain ⟨k, hk⟩ := everO_some he
  rw [ev_unique (Ev.of hg hk) h]
theorem valid_ev (s : ByteArray) : ∀ (d pos : Nat), s.size ≤ pos + d → ∃ r, Ev (fun k => utf_Valid.l0 k s pos) r := by
 intro d
 induction d using Nat.strongRecOn with
 | _ d ih =>
  intro pos h
  by_cases hlt : pos < s.size
  ·have hw := Lib.decode_width_pos s pos hlt
   by_cases hwr : wrongAt s pos = true
   ·exact ⟨(false, (pos : Int)), Ev.step (f := fun _ => some (false, (pos : Int))) (fun k => by rw [utf_Valid.l0, if_pos hlt, if_pos hwr]) (Ev.now _)⟩
   ·obtain ⟨r, hr⟩ := ih (d - (Utf8.decode s pos).2) (by omega) (pos + (Utf8.decode s pos).2) (by omega)
    exact ⟨r, Ev.step (f := fun k => utf_Valid.l0 k s (pos + (Utf8.decode s pos).2)) (fun k => by rw [utf_Valid.l0, if_pos hlt, if_neg hwr]) hr⟩
  ·exact ⟨(true, 0), Ev.step (f := fun _ => some (true, (0 : Int))) (fun k => by rw [utf_Valid.l0, if_neg hlt]) (Ev.now _)⟩
end Go.Proofs.YtkbmbancfbfddaaGreatDoor.Pure
namespace Go.Proofs.YtkbmbancfbfddaaGreatDoor.Pure
open Go.RowKit Go.Proofs.YtkbmbancfbfddaaGreatDoor.X Go.Proofs.YtkbmbancfbfddaaGreatDoorW.PrintWords Go.Proofs.YtkbmbancfbfddaaGreatDoorW.PrintLast Go.Proofs.YtkbmbancfbfddaaGreatDoorW.PrintMore

def far (n : Int) : Bool := decide (n > 999999999999999) || decide (n < -999999999999999)
theorem far_iff {n : Int} : far n = false ↔ -999999999999999 ≤ n ∧ n ≤ 999999999999999 := by
 unfold far
 simp only [Bool.or_eq_false_iff, decide_eq_false_iff_not]
 omega
def plainB (c : Int) : Bool := decide (32 ≤ c) && decide (c ≤ 126)
def plainT (s : ByteArray) : Bool := (bytesOf s).all plainB
theorem drop_bt {s : ByteArray} {j : Nat} (h : j < s.size) : (bytesOf s).drop j = bt s (j : Int) :: (bytesOf s).drop (j + 1) := by
 have hl := bytesOf_length s
 rw [List.drop_eq_getElem_cons (by omega), bt_at', List.getD_eq_getElem?_getD, List.getElem?_eq_getElem (by omega)]
 rfl
theorem within_l0 (s : ByteArray) (hs : s.size ≤ 140737488355328) (d : Nat) : ∀ j : Nat, j + d = s.size → Ev (fun k => bare_within.l0 k s (s.size : Int) (j : Int)) (((bytesOf s).drop j).all plainB) := by
 induction d with
 | zero =>
  intro j hj
  refine Ev.step (f := fun _ => some true) (fun k => ?_) ?_
  ·rw [bare_within.l0, if_neg (by omega)]
  ·rw [List.drop_of_length_le (by rw [bytesOf_length]; omega)]
   exact Ev.now _
 | succ d ih =>
  intro j hj
  have hw : wrap64 ((j : Int) + 1) = ((j + 1 : Nat) : Int) := by unfold wrap64; omega
  rw [drop_bt (by omega), List.all_cons]
  refine Ev.step (f := fun k => if bt s (j : Int) < 32 then some false else if bt s (j : Int) > 126 then some false else bare_within.l0 k s (s.size : Int) ((j + 1 : Nat) : Int)) (fun k => ?_) ?_
  ·rw [bare_within.l0, if_pos (by omega), if_pos (by omega), if_pos (by omega), hw]
  ·by_cases h1 : bt s (j : Int) < 32
   ·rw [show plainB (bt s (j : Int)) = false by unfold plainB; rw [decide_eq_false (by omega)]; rfl]
    exact ev_pos h1 (Ev.now _)
   ·refine ev_neg h1 ?_
    by_cases h2 : bt s (j : Int) > 126
    ·rw [show plainB (bt s (j : Int)) = false by unfold plainB; rw [decide_eq_false (p := bt s (j : Int) ≤ 126) (by omega), Bool.and_false]]
     exact ev_pos h2 (Ev.now _)
    ·refine ev_neg h2 ?_
     rw [show plainB (bt s (j : Int)) = true by unfold plainB; rw [decide_eq_true (by omega), decide_eq_true (by omega)]; rfl, Bool.true_and]
     exact ih (j + 1) (by omega)
theorem within_f (s : ByteArray) (hs : s.size ≤ 140737488355328) : Ev (fun k => bare_within.f k s) (plainT s) := within_l0 s hs s.size 0 (by omega)
noncomputable def validB (s : ByteArray) : Bool := ((vaF s).getD (false, 0)).1
theorem valid_f (s : ByteArray) : ∃ r, Ev (fun k => utf_Valid.f k s) r ∧ vaF s = some r ∧ r.1 = validB s := by
 obtain ⟨r, hr⟩ := valid_ev s s.size 0 (by omega)
 have h : vaF s = some r := everO_ev (fun k => utf_Valid.mono s k) hr
 exact ⟨r, hr, h, by unfold validB; rw [h]; rfl⟩
/-- What Check answers. -/
noncomputable def CK (a b : Int) (s : ByteArray) : Int :=
 if a < 1 ∨ a > 8 then 1 else if (a = 1 ∨ a = 2 ∨ a = 6 ∨ a = 7) ∧ s.size ≠ 0 ∨ ¬ (a = 1 ∨ a = 2 ∨ a = 6 ∨ a = 7) ∧ b ≠ 0 then 1
 else if a = 1 ∨ a = 2 then (if far b = true then 92 else 0) else if a = 3 then (if plainT s = true then 0 else 93) else if a = 4 then (if istok s = true then 0 else 91)
 else if a = 6 then (if b = 0 ∨ b = 1 then 0 else 95) else if a = 7 then (if far b = true then 96 else 0) else if a = 8 then (if validB s = true then 0 else 97) else 0
def CJ (f w t b v : Bool) (K : Int) : Int := if K = 1 ∨ K = 2 then (if f = true then 92 else 0) else if K = 3 then (if w = true then 93 else 0) else if K = 4 then (if t = true then 91 else 0) else if K = 6 then (if b = true then 95 else 0) else if K = 7 then (if f = true then 96 else 0) else if K = 8 then (if v = true then 97 else 0) else 0
theorem chk_j3 (f w t b v : Bool) (K n : Int) (s : ByteArray) (h0 : 1 ≤ K) (h1 : K ≤ 8) : bare_Check.j3 16 [⟨1, f, 92⟩, ⟨2, f, 92⟩, ⟨3, w, 93⟩, ⟨4, t, 91⟩, ⟨6, b, 95⟩, ⟨7, f, 96⟩, ⟨8, v, 97⟩] 7 0 K n s = some (CJ f w t b v K) := by
 have hK : K = 1 ∨ K = 2 ∨ K = 3 ∨ K = 4 ∨ K = 5 ∨ K = 6 ∨ K = 7 ∨ K = 8 := by omega
 rcases hK with rfl | rfl | rfl | rfl | rfl | rfl | rfl | rfl
 ·cases f <;> (refine Eq.trans ?_ (Eq.refl (some (CJ _ _ _ _ _ _))); kernel_rfl)
 ·cases f <;> (refine Eq.trans ?_ (Eq.refl (some (CJ _ _ _ _ _ _))); kernel_rfl)
 ·cases w <;> (refine Eq.trans ?_ (Eq.refl (some (CJ _ _ _ _ _ _))); kernel_rfl)
 ·cases t <;> (refine Eq.trans ?_ (Eq.refl (some (CJ _ _ _ _ _ _))); kernel_rfl)
 ·(refine Eq.trans ?_ (Eq.refl (some (CJ _ _ _ _ _ _))); kernel_rfl)
 ·cases b <;> (refine Eq.trans ?_ (Eq.refl (some (CJ _ _ _ _ _ _))); kernel_rfl)
 ·cases f <;> (refine Eq.trans ?_ (Eq.refl (some (CJ _ _ _ _ _ _))); kernel_rfl)
 ·cases v <;> (refine Eq.trans ?_ (Eq.refl (some (CJ _ _ _ _ _ _))); kernel_rfl)
theorem j3_ev (f w t b v : Bool) (K n : Int) (s : ByteArray) (h0 : 1 ≤ K) (h1 : K ≤ 8) : Ev (fun k => bare_Check.j3 k [⟨1, f, 92⟩, ⟨2, f, 92⟩, ⟨3, w, 93⟩, ⟨4, t, 91⟩, ⟨6, b, 95⟩, ⟨7, f, 96⟩, ⟨8, v, 97⟩] 7 0 K n s) (CJ f w t b v K) :=
 Ev.of (fun k => (bare_Check.mono_l k).2.2.2.1 _ _ _ _ _ _) (chk_j3 f w t b v K n s h0 h1)
theorem chk_j2 (f : Bool) (K n : Int) (s : ByteArray) (h0 : 1 ≤ K) (h1 : K ≤ 8) (hs : s.size ≤ 140737488355328) : Ev (fun k => bare_Check.j2 k f K n s) (CJ f (!plainT s) (!istok s) (!(decide (n = 0 ∨ n = 1))) (!validB s) K) := by
 obtain ⟨r, hr, _, hv⟩ := valid_f s
 refine Ev.step (f := fun k => (utf_Valid.f k s).bind fun bt109 => ((bare_within.f k s).bind fun t111 => ((bare_IsToken.f k s).bind fun t112 => (if n = 0 then (bare_Check.j3 k [⟨1, f, 92⟩, ⟨2, f, 92⟩, ⟨3, !t111, 93⟩, ⟨4, !t112, 91⟩, ⟨6, false, 95⟩, ⟨7, f, 96⟩, ⟨8, !bt109.1, 97⟩] 7 0 K n s) else (bare_Check.j3 k [⟨1, f, 92⟩, ⟨2, f, 92⟩, ⟨3, !t111, 93⟩, ⟨4, !t112, 91⟩, ⟨6, (n != 1), 95⟩, ⟨7, f, 96⟩, ⟨8, !bt109.1, 97⟩] 7 0 K n s))))) (fun k => by rw [bare_Check.j2]; rfl) ?_
 refine Ev.bind hr (Ev.bind (within_f s hs) (Ev.bind (istok_f s hs) ?_))
 rw [hv]
 by_cases hn : n = 0
 ·rw [decide_eq_true (Or.inl hn)]
  exact ev_pos hn (j3_ev _ _ _ _ _ _ _ _ h0 h1)
 ·refine ev_neg hn ?_
  rw [show (!(decide (n = 0 ∨ n = 1))) = (n != 1) by by_cases h : n = 1 <;> simp [h, hn]]
  exact j3_ev _ _ _ _ _ _ _ _ h0 h1
theorem chk_j1 (K n : Int) (s : ByteArray) (h0 : 1 ≤ K) (h1 : K ≤ 8) (hs : s.size ≤ 140737488355328) : Ev (fun k => bare_Check.j1 k false K n s) (CJ (far n) (!plainT s) (!istok s) (!(decide (n = 0 ∨ n = 1))) (!validB s) K) := by
 refine Ev.step (f := fun k => if n > 999999999999999 then bare_Check.j2 k true K n s else bare_Check.j2 k (decide (n < (-999999999999999))) K n s) (fun k => by rw [bare_Check.j1, if_neg (by decide)]) ?_
 unfold far
 by_cases h : n > 999999999999999
 ·rw [decide_eq_true h, Bool.true_or]
  exact ev_pos h (chk_j2 _ K n s h0 h1 hs)
 ·rw [decide_eq_false h, Bool.false_or]
  exact ev_neg h (chk_j2 _ K n s h0 h1 hs)
theorem bad_j1 (K n : Int) (s : ByteArray) : Ev (fun k => bare_Check.j1 k true K n s) 1 := Ev.step (f := fun _ => some 1) (fun k => by rw [bare_Check.j1, if_pos rfl]) (Ev.now _)
theorem chk_j0 (m : Bool) (K n : Int) (s : ByteArray) (hm : m = true ↔ (K = 1 ∨ K = 2 ∨ K = 6 ∨ K = 7)) (hs : s.size ≤ 140737488355328) : Ev (fun k => bare_Check.j0 k m K n s) (CK K n s) := by
 unfold CK
 by_cases h1 : K < 1
 ·rw [if_pos (Or.inl h1)]
  exact Ev.step (f := fun k => bare_Check.j1 k true K n s) (fun k => by rw [bare_Check.j0, if_pos h1]) (bad_j1 K n s)
 by_cases h2 : K > 8
 ·rw [if_pos (Or.inr h2)]
  exact Ev.step (f := fun k => bare_Check.j1 k true K n s) (fun k => by rw [bare_Check.j0, if_neg h1, if_pos h2]) (bad_j1 K n s)
 rw [if_neg (by omega)]
 have hfin : CJ (far n) (!plainT s) (!istok s) (!(decide (n = 0 ∨ n = 1))) (!validB s) K = (if K = 1 ∨ K = 2 then (if far n = true then 92 else 0) else if K = 3 then (if plainT s = true then 0 else 93) else if K = 4 then (if istok s = true then 0 else 91)
   else if K = 6 then (if n = 0 ∨ n = 1 then 0 else 95) else if K = 7 then (if far n = true then 96 else 0) else if K = 8 then (if validB s = true then 0 else 97) else 0) := by
  unfold CJ
  congr 1
  congr 1
  ·cases plainT s <;> rfl
  congr 1
  ·cases istok s <;> rfl
  congr 1
  ·by_cases h : n = 0 ∨ n = 1
   ·rw [decide_eq_true h, if_pos h]; rfl
   ·rw [decide_eq_false h, if_neg h]; rfl
  congr 1
  congr 1
  cases validB s <;> rfl
 by_cases hm2 : m = true
 ·have hn := hm.1 hm2
  by_cases hz : s.size = 0
  ·rw [if_neg (by omega), ← hfin]
   exact Ev.step (f := fun k => bare_Check.j1 k false K n s) (fun k => by rw [bare_Check.j0, if_neg h1, if_neg h2, if_pos hm2, if_pos ((empty_iff s).2 hz)]) (chk_j1 K n s (by omega) (by omega) hs)
  ·rw [if_pos (Or.inl ⟨hn, hz⟩)]
   exact Ev.step (f := fun k => bare_Check.j1 k true K n s) (fun k => by rw [bare_Check.j0, if_neg h1, if_neg h2, if_pos hm2, if_neg (fun h => hz ((empty_iff s).1 h))]) (bad_j1 K n s)
 ·have hn : ¬ (K = 1 ∨ K = 2 ∨ K = 6 ∨ K = 7) := fun h => hm2 (hm.2 h)
  by_cases hz : n = 0
  ·rw [if_neg (by omega), ← hfin]
   exact Ev.step (f := fun k => bare_Check.j1 k false K n s) (fun k => by rw [bare_Check.j0, if_neg h1, if_neg h2, if_neg hm2, hz]; rfl) (chk_j1 K n s (by omega) (by omega) hs)
  ·rw [if_pos (Or.inr ⟨hn, hz⟩)]
   exact Ev.step (f := fun k => bare_Check.j1 k true K n s) (fun k => by rw [bare_Check.j0, if_neg h1, if_neg h2, if_neg hm2, show (n != 0) = true by simp [hz]]) (bad_j1 K n s)
theorem check_f (K n : Int) (s : ByteArray) (hs : s.size ≤ 140737488355328) : Ev (fun k => bare_Check.f k K n s) (CK K n s) := by
 unfold bare_Check.f
 by_cases h1 : K = 1
 ·exact ev_pos h1 (chk_j0 true K n s (by simp [h1]) hs)
 refine ev_neg h1 ?_
 by_cases h2 : K = 2
 ·exact ev_pos h2 (chk_j0 true K n s (by simp [h2]) hs)
 refine ev_neg h2 ?_
 by_cases h6 : K = 6
 ·exact ev_pos h6 (chk_j0 true K n s (by simp [h6]) hs)
 exact ev_neg h6 (chk_j0 _ K n s (by simp [h1, h2, h6]) hs)
/-- What Print tells of an item that may be. -/
def PT (a b : Int) (s : ByteArray) : ByteArray :=
 if a = 1 then ⟨(Lib.itoa b).toArray⟩ else if a = 2 then decT b else if a = 3 then inQuotes s else if a = 5 then ((⟨#[58]⟩ : ByteArray) ++ strOfNums (b64L (bytesOf s))) ++ ⟨#[58]⟩
 else if a = 8 then ((⟨#[37, 34]⟩ : ByteArray) ++ strOfNums (pct (bytesOf s))) ++ ⟨#[34]⟩ else if a = 6 then (⟨#[63]⟩ : ByteArray) ++ ⟨(Lib.itoa b).toArray⟩ else if a = 7 then (⟨#[64]⟩ : ByteArray) ++ ⟨(Lib.itoa b).toArray⟩ else s
theorem itoa_short (n : Int) (hn : -999999999999999 ≤ n ∧ n ≤ 999999999999999) : (⟨(Lib.itoa n).toArray⟩ : ByteArray).size ≤ 16 := by
 have hz := size_le (bytes_itoa n)
 have hl := dd_len 14 n.natAbs (by omega)
 have hsg : (sgn n).length ≤ 1 := by unfold sgn; split <;> decide
 rw [List.length_append] at hz
 omega
theorem CK_num {a b : Int} {s : ByteArray} (h : CK a b s = 0) (ha : a = 1 ∨ a = 2 ∨ a = 6 ∨ a = 7) : s.size = 0 ∧ -999999999999999 ≤ b ∧ b ≤ 999999999999999 ∧ (a = 6 → b = 0 ∨ b = 1) := by
 unfold CK at h
 by_cases hz : s.size = 0
 ·rw [if_neg (by omega), if_neg (by omega)] at h
  rcases ha with rfl | rfl | rfl | rfl
  ·rw [if_pos (by omega)] at h
   have hf : far b = false := by cases hf : far b with | false => rfl | true => rw [hf] at h; cases h
   have := far_iff.1 hf
   omega
  ·rw [if_pos (by omega)] at h
   have hf : far b = false := by cases hf : far b with | false => rfl | true => rw [hf] at h; cases h
   have := far_iff.1 hf
   omega
  ·rw [if_neg (by omega), if_neg (by omega), if_neg (by omega), if_pos rfl] at h
   have : b = 0 ∨ b = 1 := by
    by_cases hb : b = 0 ∨ b = 1
    ·exact hb
    ·rw [if_neg hb] at h; cases h
   omega
  ·rw [if_neg (by omega), if_neg (by omega), if_neg (by omega), if_neg (by omega), if_pos rfl] at h
   have hf : far b = false := by cases hf : far b with | false => rfl | true => rw [hf] at h; cases h
   have := far_iff.1 hf
   omega
 ·rw [if_neg (by omega), if_pos (Or.inl ⟨ha, hz⟩)] at h
  cases h
theorem print_ok (a b : Int) (s : ByteArray) (hs : s.size ≤ 1000000000000) (h : CK a b s = 0) : Ev (fun k => bare_Print.f k a b s) (PT a b s, 0) := by
 refine Ev.bind (check_f a b s (by omega)) ?_
 rw [h]
 refine Ev.congr (fun k => if_pos rfl) ?_
 unfold PT
 by_cases h1 : a = 1
 ·rw [if_pos h1]
  obtain ⟨_, g1, g2, _⟩ := CK_num h (Or.inl h1)
  refine ev_pos h1 ?_
  rw [fmt_f (by omega)]
  exact Ev.now _
 rw [if_neg h1]
 refine ev_neg h1 ?_
 by_cases h2 : a = 2
 ·rw [if_pos h2]
  obtain ⟨_, g1, g2, _⟩ := CK_num h (Or.inr (Or.inl h2))
  exact ev_pos h2 (Ev.bind (Ev.of (fun k => bare_decimal.mono _ k) (dec_f b ⟨g1, g2⟩)) (Ev.now _))
 rw [if_neg h2]
 refine ev_neg h2 ?_
 by_cases h3 : a = 3
 ·rw [if_pos h3]
  exact ev_pos h3 (ev_pos hs (Ev.now _))
 rw [if_neg h3]
 refine ev_neg h3 ?_
 by_cases h5 : a = 5
 ·rw [if_pos h5]
  refine ev_pos h5 (Ev.bind (base64_f (bytesOf s) (Bytes.of s) (by rw [bytesOf_length]; omega)) ?_)
  have hl := b64L_len (bytesOf s).length (bytesOf s) (Nat.le_refl _)
  rw [bytesOf_length] at hl
  exact ev_pos ⟨hs, by rw [strOfNums_size]; omega⟩ (Ev.now _)
 rw [if_neg h5]
 refine ev_neg h5 ?_
 by_cases h8 : a = 8
 ·simp only [if_pos h8]
  exact ev_pos hs (Ev.now _)
 simp only [if_neg h8]
 by_cases h6 : a = 6
 ·simp only [if_pos h6]
  obtain ⟨_, g1, g2, _⟩ := CK_num h (by omega)
  rw [fmt_f (by omega)]
  have := itoa_short b ⟨g1, g2⟩
  refine Ev.congr (fun k => (Option.bind_some ..).trans (if_pos ?_)) (Ev.now _)
  show 1 + _ ≤ _
  omega
 simp only [if_neg h6]
 by_cases h7 : a = 7
 ·simp only [if_pos h7]
  obtain ⟨_, g1, g2, _⟩ := CK_num h (by omega)
  rw [fmt_f (by omega)]
  have := itoa_short b ⟨g1, g2⟩
  refine Ev.congr (fun k => (Option.bind_some ..).trans (if_pos ?_)) (Ev.now _)
  show 1 + _ ≤ _
  omega
 simp only [if_neg h7]
 exact Ev.now _
theorem print_bad (a b : Int) (s : ByteArray) (hs : s.size ≤ 1000000000000) (h : CK a b s ≠ 0) : Ev (fun k => bare_Print.f k a b s) (⟨#[]⟩, CK a b s) := by
 refine Ev.bind (check_f a b s (by omega)) ?_
 exact ev_neg h (Ev.now _)
end Go.Proofs.YtkbmbancfbfddaaGreatDoor.Pure
namespace Go.Proofs.YtkbmbancfbfddaaGreatDoor.Pure
open Go Go.Lib Go.RowKit Go.Proofs.YtkbmbancfbfddaaGreatDoor.X Go.Proofs.YtkbmbancfbfddaaGreatDoorW.PrintWords Go.Proofs.YtkbmbancfbfddaaGreatDoorW.PrintLast Go.Proofs.YtkbmbancfbfddaaGreatDoorW.PrintMore

/-! Go's reading, by widths -/
def F1 (b0 : Nat) : Prop := b0 < 128
def F2 (n b0 b1 : Nat) : Prop := 1 < n ∧ 192 ≤ b0 ∧ b0 < 224 ∧ b1 / 64 = 2 ∧ 128 ≤ b0 % 32 * 64 + b1 % 64
def F3 (n b0 b1 b2 : Nat) : Prop := 2 < n ∧ 224 ≤ b0 ∧ b0 < 240 ∧ b1 / 64 = 2 ∧ b2 / 64 = 2 ∧ 2048 ≤ b0 % 16 * 4096 + b1 % 64 * 64 + b2 % 64 ∧ (b0 % 16 * 4096 + b1 % 64 * 64 + b2 % 64 < 55296 ∨ 57344 ≤ b0 % 16 * 4096 + b1 % 64 * 64 + b2 % 64)
def F4 (n b0 b1 b2 b3 : Nat) : Prop := 3 < n ∧ 240 ≤ b0 ∧ b0 < 248 ∧ b1 / 64 = 2 ∧ b2 / 64 = 2 ∧ b3 / 64 = 2 ∧ 65536 ≤ b0 % 8 * 262144 + b1 % 64 * 4096 + b2 % 64 * 64 + b3 % 64 ∧ b0 % 8 * 262144 + b1 % 64 * 4096 + b2 % 64 * 64 + b3 % 64 ≤ 1114111
theorem dec1 {n b0 b1 b2 b3 : Nat} (h : F1 b0) : decodeN n b0 b1 b2 b3 = (b0, 1) := by unfold F1 at h; unfold decodeN; rw [if_pos h]
theorem dec2 {n b0 b1 b2 b3 : Nat} (h : F2 n b0 b1) : (decodeN n b0 b1 b2 b3).2 = 2 := by
 obtain ⟨h1, h2, h3, h4, h5⟩ := h
 unfold decodeN
 rw [if_neg (by omega), if_pos (by omega), if_pos (by omega)]
theorem dec3 {n b0 b1 b2 b3 : Nat} (h : F3 n b0 b1 b2) : (decodeN n b0 b1 b2 b3).2 = 3 := by
 obtain ⟨h1, h2, h3, h4, h5, h6, h7⟩ := h
 unfold decodeN
 rw [if_neg (by omega), if_neg (by omega), if_pos (by omega), if_pos (by omega)]
theorem dec4 {n b0 b1 b2 b3 : Nat} (h : F4 n b0 b1 b2 b3) : (decodeN n b0 b1 b2 b3).2 = 4 := by
 obtain ⟨h1, h2, h3, h4, h5, h6, h7, h8⟩ := h
 unfold decodeN
 rw [if_neg (by omega), if_neg (by omega), if_neg (by omega), if_pos (by omega), if_pos (by omega)]
theorem dec0 {n b0 b1 b2 b3 : Nat} (h1 : ¬ F1 b0) (h2 : ¬ F2 n b0 b1) (h3 : ¬ F3 n b0 b1 b2) (h4 : ¬ F4 n b0 b1 b2 b3) : decodeN n b0 b1 b2 b3 = (65533, 1) := by
 unfold F1 at h1
 unfold F2 at h2
 unfold F3 at h3
 unfold F4 at h4
 unfold decodeN
 rw [if_neg h1]
 split
 ·rw [if_neg (by omega)]
 split
 ·rw [if_neg (by omega)]
 split
 ·rw [if_neg (by omega)]
 ·rfl

/-! the page's reading -/
theorem and_b {c : Int} (h : 0 ≤ c ∧ c < 256) : Go.bits .and .u8 c 63 = c % 64 ∧ Go.bits .and .u8 c 127 = c % 128 ∧ Go.bits .and .u8 c 31 = c % 32 ∧ Go.bits .and .u8 c 15 = c % 16 ∧ Go.bits .and .u8 c 7 = c % 8 :=
 byte_all (p := fun c => Go.bits .and .u8 c 63 = c % 64 ∧ Go.bits .and .u8 c 127 = c % 128 ∧ Go.bits .and .u8 c 31 = c % 32 ∧ Go.bits .and .u8 c 15 = c % 16 ∧ Go.bits .and .u8 c 7 = c % 8) (by decide +kernel) h
theorem w32 {x : Int} (h : -2147483648 ≤ x) (h2 : x ≤ 2147483647) : wrap32 x = x := by unfold wrap32; omega
theorem byte_in' (s : ByteArray) (i : Int) : 0 ≤ bt s i ∧ bt s i < 256 := ⟨(bt_range s i).1, by have := (bt_range s i).2; omega⟩
section
variable (s : ByteArray) (hs : s.size ≤ 1000000000000) (p : Int) (h0 : 0 ≤ p)
include hs h0
theorem gl0_step (w x j : Int) (hj : 1 ≤ j) (hjw : j < w) (hw : w ≤ 4) (hp : p + w ≤ (s.size : Int)) (hx : 0 ≤ x ∧ x < 2097152) (r : Int) (h : Ev (fun k => pergolaref02_guess.l0 k s p w (x * 64 + bt s (p + j) % 64) (j + 1)) r) :
  Ev (fun k => pergolaref02_guess.l0 k s p w x j) r := by
 refine Ev.step (fun k => ?_) h
 have hb := byte_in' s (p + j)
 rw [pergolaref02_guess.l0, if_pos hjw, w64 (x := p + j) (by omega) (by omega), if_pos (by omega), if_pos (by omega), (and_b hb).1, w32 (x := x * 64) (by omega) (by omega), w32 (x := bt s (p + j) % 64) (by omega) (by omega), w32 (by omega) (by omega), w64 (x := j + 1) (by omega) (by omega)]
omit hs h0 in
theorem gl0_end (w x : Int) : Ev (fun k => pergolaref02_guess.l0 k s p w x w) x := by
 refine Ev.step (f := fun _ => some x) (fun k => ?_) (Ev.now _)
 rw [pergolaref02_guess.l0, if_neg (by omega)]
omit hs in
theorem guess_1 (hp : p + 1 ≤ (s.size : Int)) : Ev (fun k => pergolaref02_guess.f k s p 1) (bt s p % 128) := by
 have hb := byte_in' s p
 refine Ev.congr (fun k => ?_) (gl0_end s p 1 (bt s p % 128))
 unfold pergolaref02_guess.f
 rw [Option.bind_some, if_pos h0, if_pos (by omega), if_pos (by decide), if_pos (by decide), show rd [0, 127, 31, 15, 7] 1 = 127 from rfl, (and_b hb).2.1, w32 (by omega) (by omega)]
theorem guess_2 (hp : p + 2 ≤ (s.size : Int)) : Ev (fun k => pergolaref02_guess.f k s p 2) (bt s p % 32 * 64 + bt s (p + 1) % 64) := by
 have hb := byte_in' s p
 refine Ev.congr (fun k => ?_) (gl0_step s hs p h0 2 (bt s p % 32) 1 (by omega) (by omega) (by omega) hp (by omega) _ (gl0_end s p 2 _))
 unfold pergolaref02_guess.f
 rw [Option.bind_some, if_pos h0, if_pos (by omega), if_pos (by decide), if_pos (by decide), show rd [0, 127, 31, 15, 7] 2 = 31 from rfl, (and_b hb).2.2.1, w32 (by omega) (by omega)]
theorem guess_3 (hp : p + 3 ≤ (s.size : Int)) : Ev (fun k => pergolaref02_guess.f k s p 3) ((bt s p % 16 * 64 + bt s (p + 1) % 64) * 64 + bt s (p + 2) % 64) := by
 have hb := byte_in' s p
 refine Ev.congr (fun k => ?_) (gl0_step s hs p h0 3 (bt s p % 16) 1 (by omega) (by omega) (by omega) hp (by omega) _ (gl0_step s hs p h0 3 (bt s p % 16 * 64 + bt s (p + 1) % 64) 2 (by omega) (by omega) (by omega) hp (by omega) _ (gl0_end s p 3 _)))
 unfold pergolaref02_guess.f
 rw [Option.bind_some, if_pos h0, if_pos (by omega), if_pos (by decide), if_pos (by decide), show rd [0, 127, 31, 15, 7] 3 = 15 from rfl, (and_b hb).2.2.2.1, w32 (by omega) (by omega)]
theorem guess_4 (hp : p + 4 ≤ (s.size : Int)) : Ev (fun k => pergolaref02_guess.f k s p 4) (((bt s p % 8 * 64 + bt s (p + 1) % 64) * 64 + bt s (p + 2) % 64) * 64 + bt s (p + 3) % 64) := by
 have hb := byte_in' s p
 refine Ev.congr (fun k => ?_) (gl0_step s hs p h0 4 (bt s p % 8) 1 (by omega) (by omega) (by omega) hp (by omega) _ (gl0_step s hs p h0 4 (bt s p % 8 * 64 + bt s (p + 1) % 64) 2 (by omega) (by omega) (by omega) hp (by omega) _ (gl0_step s hs p h0 4 ((bt s p % 8 * 64 + bt s (p + 1) % 64) * 64 + bt s (p + 2) % 64) 3 (by omega) (by omega) (by omega) hp (by omega) _ (gl0_end s p 4 _))))
 unfold pergolaref02_guess.f
 rw [Option.bind_some, if_pos h0, if_pos (by omega), if_pos (by decide), if_pos (by decide), show rd [0, 127, 31, 15, 7] 4 = 7 from rfl, (and_b hb).2.2.2.2, w32 (by omega) (by omega)]
end
def agree (s : ByteArray) : List Int → Int → Bool
 | [], _ => true
 | c :: t, q => decide (bt s q = c) && agree s t (q + 1)
theorem at_l0 (s : ByteArray) (hs : s.size ≤ 1000000000000) (p : Int) (h0 : 0 ≤ p) (l : List Int) (hp : p + l.length ≤ (s.size : Int)) : ∀ (d j : Nat), j + d = l.length → Ev (fun k => pergolaref02_at.l0 k s p l (j : Int)) (agree s (l.drop j) (p + j)) := by
 intro d
 induction d with
 | zero =>
  intro j hj
  rw [List.drop_of_length_le (by omega)]
  refine Ev.step (f := fun _ => some true) (fun k => ?_) (Ev.now _)
  rw [pergolaref02_at.l0, if_neg (by omega)]
 | succ d ih =>
  intro j hj
  have hd := getD_drop (l := l) (i := j) (by omega)
  rw [hd]
  have ih := ih (j + 1) (by omega)
  rw [show p + ((j + 1 : Nat) : Int) = p + j + 1 by omega] at ih
  have hrd : rd l (j : Int) = l.getD j 0 := by unfold rd; rw [Int.toNat_natCast]
  unfold agree
  by_cases he : bt s (p + j) = l.getD j 0
  ·rw [decide_eq_true he, Bool.true_and]
   refine Ev.step (fun k => ?_) ih
   rw [pergolaref02_at.l0, if_pos (by omega), w64 (x := p + (j : Int)) (by omega) (by omega), if_pos (by omega), if_pos (by omega), if_pos (by omega), hrd, if_pos he, w64 (x := (j : Int) + 1) (by omega) (by omega)]
   rfl
  ·rw [decide_eq_false he, Bool.false_and]
   refine Ev.step (f := fun _ => some false) (fun k => ?_) (Ev.now _)
   rw [pergolaref02_at.l0, if_pos (by omega), w64 (x := p + (j : Int)) (by omega) (by omega), if_pos (by omega), if_pos (by omega), if_pos (by omega), hrd, if_neg he]
theorem at_f (s : ByteArray) (hs : s.size ≤ 1000000000000) (p : Int) (h0 : 0 ≤ p) (l : List Int) (hp : p + l.length ≤ (s.size : Int)) : Ev (fun k => pergolaref02_at.f k s p l) (agree s l p) := by
 have h := at_l0 s hs p h0 l hp l.length 0 (by omega)
 rw [List.drop_zero, show p + ((0 : Nat) : Int) = p by omega] at h
 refine Ev.congr (fun k => ?_) h
 unfold pergolaref02_at.f
 rw [w64 (x := (s.size : Int) - p) (by omega) (by omega), if_neg (by omega)]
 rfl
section
variable (s : ByteArray) (hs : s.size ≤ 1000000000000) (p : Int) (h0 : 0 ≤ p)
include hs h0
theorem one_j1 (w : Int) (hw : 1 ≤ w ∧ w ≤ 4) (hp : p + w ≤ (s.size : Int)) (r : Int × Int × Int × Bool) (h : Ev (fun k => pergolaref02_One.j1 k s p false w true) r) : Ev (fun k => pergolaref02_One.l0 k s p false w) r := by
 refine Ev.step (fun k => ?_) h
 rw [pergolaref02_One.l0, if_pos hw.2, w64 (x := p + w) (by omega) (by omega), decide_eq_true hp]
theorem one_hit (w : Int) (hw : 1 ≤ w ∧ w ≤ 4) (hp : p + w ≤ (s.size : Int)) (t : Int) (l : List Int) (hg : Ev (fun k => pergolaref02_guess.f k s p w) t) (hS : pergolaref02_Scalar.f t = some true) (hB : pergolaref02_Bytes.f t = some l) (hl : (l.length : Int) = w) (ha : agree s l p = true) :
  Ev (fun k => pergolaref02_One.l0 k s p false w) (p, w, t, false) := by
 refine one_j1 s hs p h0 w hw hp _ ?_
 have hA := at_f s hs p h0 l (by omega)
 rw [ha] at hA
 refine Ev.step (f := fun k => (pergolaref02_guess.f k s p w).bind fun t203 => ((pergolaref02_Scalar.f t203).bind fun t204 => (if t204 = true then ((pergolaref02_Bytes.f t203).bind fun t205 => (if (t205.length : Int) = w then ((pergolaref02_Bytes.f t203).bind fun t208 => ((pergolaref02_at.f k s p t208).bind fun t211 => (if t211 = true then (some (p, w, t203, false)) else (pergolaref02_One.l0 k s p false (wrap64 (w + 1)))))) else (pergolaref02_One.l0 k s p false (wrap64 (w + 1))))) else (pergolaref02_One.l0 k s p false (wrap64 (w + 1)))))) (fun k => ?_) (Ev.bind hg ?_)
 ·rw [pergolaref02_One.j1, if_pos rfl]
  rfl
 ·rw [hS, hB]
  simp only [Option.bind_some, if_true, if_pos hl]
  exact Ev.bind hA (Ev.congr (fun k => if_pos rfl) (Ev.now _))
theorem one_miss (w : Int) (hw : 1 ≤ w ∧ w ≤ 4) (hp : p + w ≤ (s.size : Int)) (t : Int) (hg : Ev (fun k => pergolaref02_guess.f k s p w) t) (h : pergolaref02_Scalar.f t = some false ∨ ∃ l, pergolaref02_Scalar.f t = some true ∧ pergolaref02_Bytes.f t = some l ∧ ((l.length : Int) ≠ w ∨ ((l.length : Int) = w ∧ agree s l p = false)))
  (r : Int × Int × Int × Bool) (hr : Ev (fun k => pergolaref02_One.l0 k s p false (w + 1)) r) : Ev (fun k => pergolaref02_One.l0 k s p false w) r := by
 refine one_j1 s hs p h0 w hw hp _ ?_
 have hw1 : wrap64 (w + 1) = w + 1 := w64 (by omega) (by omega)
 refine Ev.step (f := fun k => (pergolaref02_guess.f k s p w).bind fun t203 => ((pergolaref02_Scalar.f t203).bind fun t204 => (if t204 = true then ((pergolaref02_Bytes.f t203).bind fun t205 => (if (t205.length : Int) = w then ((pergolaref02_Bytes.f t203).bind fun t208 => ((pergolaref02_at.f k s p t208).bind fun t211 => (if t211 = true then (some (p, w, t203, false)) else (pergolaref02_One.l0 k s p false (wrap64 (w + 1)))))) else (pergolaref02_One.l0 k s p false (wrap64 (w + 1))))) else (pergolaref02_One.l0 k s p false (wrap64 (w + 1)))))) (fun k => ?_) (Ev.bind hg ?_)
 ·rw [pergolaref02_One.j1, if_pos rfl]
  rfl
 ·rw [hw1]
  rcases h with hS | ⟨l, hS, hB, h | ⟨hl, ha⟩⟩
  ·rw [hS]
   exact Ev.congr (fun k => rfl) hr
  ·rw [hS, hB]
   simp only [Option.bind_some, if_true, if_neg h]
   exact hr
  ·rw [hS, hB]
   simp only [Option.bind_some, if_true, if_pos hl]
   have hA := at_f s hs p h0 l (by omega)
   rw [ha] at hA
   exact Ev.bind hA (Ev.congr (fun k => if_neg (by decide)) hr)
omit h0 in
theorem one_end (hp0 : p < (s.size : Int)) (w : Int) (hw : 1 ≤ w ∧ w ≤ 5) (hp : w ≤ 4 → (s.size : Int) < p + w) : Ev (fun k => pergolaref02_One.l0 k s p false w) (p, 1, 65533, true) := by
 refine Ev.step (f := fun k => pergolaref02_One.j1 k s p false w false) (fun k => ?_) (Ev.step (f := fun _ => some (p, 1, 65533, true)) (fun k => ?_) (Ev.now _))
 ·rw [pergolaref02_One.l0]
  by_cases h4 : w ≤ 4
  ·have := hp h4
   rw [if_pos h4, w64 (x := p + w) (by omega) (by omega), decide_eq_false (by omega)]
  ·rw [if_neg h4]
 ·rw [pergolaref02_One.j1, if_neg (by decide)]
end
theorem scalar_f (t : Int) : pergolaref02_Scalar.f t = some (decide (0 ≤ t ∧ t ≤ 1114111 ∧ (t < 55296 ∨ 57343 < t))) := by
 unfold pergolaref02_Scalar.f
 by_cases h1 : t ≥ 0
 ·by_cases h2 : t ≤ 1114111
  ·by_cases h3 : t < 55296
   ·rw [if_pos h1, if_pos h2, if_pos h3, decide_eq_true (by omega)]
   ·rw [if_pos h1, if_pos h2, if_neg h3]
    by_cases h4 : t > 57343
    ·rw [decide_eq_true h4, decide_eq_true (by omega)]
    ·rw [decide_eq_false h4, decide_eq_false (by omega)]
  ·rw [if_pos h1, if_neg h2, decide_eq_false (by omega)]
 ·rw [if_neg h1, decide_eq_false (by omega)]
theorem bytes_1 {t : Int} (h : 0 ≤ t ∧ t < 128) : pergolaref02_Bytes.f t = some [t] := by
 unfold pergolaref02_Bytes.f
 rw [if_pos h.2, show t % 256 = t by omega]
theorem bytes_2 {t : Int} (h : 128 ≤ t ∧ t < 2048) : pergolaref02_Bytes.f t = some [192 + t / 64, 128 + t % 64] := by
 unfold pergolaref02_Bytes.f
 rw [if_neg (by omega), if_pos h.2, Int.tdiv_eq_ediv_of_nonneg (by omega), Int.tmod_eq_emod_of_nonneg (by omega), w32 (x := t / 64) (by omega) (by omega), w32 (x := 192 + t / 64) (by omega) (by omega), w32 (x := 128 + t % 64) (by omega) (by omega), show (192 + t / 64) % 256 = 192 + t / 64 by omega, show (128 + t % 64) % 256 = 128 + t % 64 by omega]
theorem bytes_3 {t : Int} (h : 2048 ≤ t ∧ t < 65536) : pergolaref02_Bytes.f t = some [224 + t / 4096, 128 + t / 64 % 64, 128 + t % 64] := by
 unfold pergolaref02_Bytes.f
 rw [if_neg (by omega), if_neg (by omega), if_pos h.2, Int.tdiv_eq_ediv_of_nonneg (by omega), Int.tdiv_eq_ediv_of_nonneg (by omega), w32 (x := t / 64) (by omega) (by omega), w32 (x := t / 4096) (by omega) (by omega), Int.tmod_eq_emod_of_nonneg (by omega), Int.tmod_eq_emod_of_nonneg (by omega), w32 (x := 224 + t / 4096) (by omega) (by omega), w32 (x := 128 + t / 64 % 64) (by omega) (by omega), w32 (x := 128 + t % 64) (by omega) (by omega), show (224 + t / 4096) % 256 = 224 + t / 4096 by omega, show (128 + t / 64 % 64) % 256 = 128 + t / 64 % 64 by omega, show (128 + t % 64) % 256 = 128 + t % 64 by omega]
theorem bytes_4 {t : Int} (h : 65536 ≤ t ∧ t < 2097152) : pergolaref02_Bytes.f t = some [240 + t / 262144, 128 + t / 4096 % 64, 128 + t / 64 % 64, 128 + t % 64] := by
 unfold pergolaref02_Bytes.f
 rw [if_neg (by omega), if_neg (by omega), if_neg (by omega), Int.tdiv_eq_ediv_of_nonneg (by omega), Int.tdiv_eq_ediv_of_nonneg (by omega), Int.tdiv_eq_ediv_of_nonneg (by omega), w32 (x := t / 64) (by omega) (by omega), w32 (x := t / 4096) (by omega) (by omega), w32 (x := t / 262144) (by omega) (by omega), Int.tmod_eq_emod_of_nonneg (by omega), Int.tmod_eq_emod_of_nonneg (by omega), Int.tmod_eq_emod_of_nonneg (by omega), w32 (x := 240 + t / 262144) (by omega) (by omega), w32 (x := 128 + t / 4096 % 64) (by omega) (by omega), w32 (x := 128 + t / 64 % 64) (by omega) (by omega), w32 (x := 128 + t % 64) (by omega) (by omega), show (240 + t / 262144) % 256 = 240 + t / 262144 by omega, show (128 + t / 4096 % 64) % 256 = 128 + t / 4096 % 64 by omega, show (128 + t / 64 % 64) % 256 = 128 + t / 64 % 64 by omega, show (128 + t % 64) % 256 = 128 + t % 64 by omega]
theorem bt_get (s : ByteArray) (k : Nat) (h : k < s.size) : bt s (k : Int) = ((s.get! k).toNat : Int) := by
 unfold bt
 rw [dif_pos (by rw [Int.toNat_natCast]; exact h)]
 have : s.get! k = s[k]'h := by
  show s.data[k]! = _
  rw [getElem!_pos s.data k h]
  rfl
 rw [this]
 simp only [Int.toNat_natCast]
/-- What the page's One tells of a place: as wide, and as wrong, as Go's reading. -/
theorem one_f (s : ByteArray) (hs : s.size ≤ 1000000000000) (pos : Nat) (hp : pos < s.size) : ∃ t, Ev (fun k => pergolaref02_One.f k s (pos : Int) false) ((pos : Int), ((Utf8.decode s pos).2 : Int), t, wrongAt s pos) := by
 have hf : ∀ r, Ev (fun k => pergolaref02_One.l0 k s (pos : Int) false 1) r → Ev (fun k => pergolaref02_One.f k s (pos : Int) false) r := fun r h => Ev.congr (fun k => if_neg (by decide)) h
 have h0 : (0 : Int) ≤ (pos : Int) := by omega
 have e0 := bt_get s pos hp
 have e1 := bt_get s (pos + 1)
 have e2 := bt_get s (pos + 2)
 have e3 := bt_get s (pos + 3)
 have g1 := guess_1 s pos h0 (by omega)
 have g2 := guess_2 s hs pos h0
 have g3 := guess_3 s hs pos h0
 have g4 := guess_4 s hs pos h0
 have b0 := (s.get! pos).toNat_lt
 have b1 := (s.get! (pos + 1)).toNat_lt
 have b2 := (s.get! (pos + 2)).toNat_lt
 have b3 := (s.get! (pos + 3)).toNat_lt
 unfold wrongAt
 rw [decode_at]
 rw [show ((pos + 1 : Nat) : Int) = (pos : Int) + 1 by omega] at e1
 rw [show ((pos + 2 : Nat) : Int) = (pos : Int) + 2 by omega] at e2
 rw [show ((pos + 3 : Nat) : Int) = (pos : Int) + 3 by omega] at e3
 generalize (s.get! pos).toNat = c0 at *
 generalize (s.get! (pos + 1)).toNat = c1 at *
 generalize (s.get! (pos + 2)).toNat = c2 at *
 generalize (s.get! (pos + 3)).toNat = c3 at *
 have z1 : (pos : Int) + 1 + 1 = (pos : Int) + 2 := by omega
 have z2 : (pos : Int) + 2 + 1 = (pos : Int) + 3 := by omega
 by_cases f1 : F1 c0
 ·rw [dec1 f1]
  unfold F1 at f1
  have he : bt s (pos : Int) % 128 = bt s (pos : Int) := by omega
  rw [he] at g1
  have h := one_hit s hs pos h0 1 (by omega) (by omega) _ _ g1 (by rw [scalar_f, decide_eq_true (by omega)]) (bytes_1 (by omega)) rfl (by simp [agree])
  have hw : (decide (c0 = 65533) && decide (1 = 1)) = false := by rw [decide_eq_false (by omega)]; rfl
  show ∃ t, Ev _ ((pos : Int), ((1 : Nat) : Int), t, decide (c0 = 65533) && decide (1 = 1))
  rw [hw]
  exact ⟨_, hf _ h⟩
 have m1 : ∀ r, Ev (fun k => pergolaref02_One.l0 k s (pos : Int) false 2) r → Ev (fun k => pergolaref02_One.l0 k s (pos : Int) false 1) r := by
  intro r hr
  unfold F1 at f1
  refine one_miss s hs pos h0 1 (by omega) (by omega) _ g1 (.inr ⟨_, by rw [scalar_f, decide_eq_true (by omega)], bytes_1 (by omega), .inr ⟨rfl, ?_⟩⟩) r hr
  simp only [agree, Bool.and_true]
  exact decide_eq_false (by omega)
 have hbad : ∀ r, r = ((pos : Int), (1 : Int), (65533 : Int), true) → decodeN (s.size - pos) c0 c1 c2 c3 = (65533, 1) → r = ((pos : Int), ((decodeN (s.size - pos) c0 c1 c2 c3).2 : Int), (65533 : Int), decide ((decodeN (s.size - pos) c0 c1 c2 c3).1 = 65533) && decide ((decodeN (s.size - pos) c0 c1 c2 c3).2 = 1)) := fun r h1 h2 => by rw [h2, h1]; rfl
 by_cases n1 : s.size - pos ≤ 1
 ·have hd : decodeN (s.size - pos) c0 c1 c2 c3 = (65533, 1) := dec0 f1 (fun h => by have := h.1; omega) (fun h => by have := h.1; omega) (fun h => by have := h.1; omega)
  exact ⟨65533, hf _ (m1 _ (hbad _ rfl hd ▸ one_end s hs pos (by omega) 2 (by omega) (by omega)))⟩
 have e1 := e1 (by omega)
 have g2 := g2 (by omega)
 by_cases f2 : F2 (s.size - pos) c0 c1
 ·have hd := dec2 (b2 := c2) (b3 := c3) f2
  obtain ⟨_, h2, h3, h4, h5⟩ := f2
  have h := one_hit s hs pos h0 2 (by omega) (by omega) _ _ g2 (by rw [scalar_f, decide_eq_true (by omega)]) (bytes_2 (by omega)) rfl (by
   simp only [agree, Bool.and_true, Bool.and_eq_true, decide_eq_true_eq]
   omega)
  rw [hd, show decide (2 = 1) = false from rfl, Bool.and_false]
  exact ⟨_, hf _ (m1 _ h)⟩
 have m2 : ∀ r, Ev (fun k => pergolaref02_One.l0 k s (pos : Int) false 3) r → Ev (fun k => pergolaref02_One.l0 k s (pos : Int) false 2) r := by
  intro r hr
  unfold F2 at f2
  refine one_miss s hs pos h0 2 (by omega) (by omega) _ g2 (.inr ?_) r hr
  by_cases ht : bt s (pos : Int) % 32 * 64 + bt s ((pos : Int) + 1) % 64 < 128
  ·exact ⟨_, by rw [scalar_f, decide_eq_true (by omega)], bytes_1 (by omega), .inl (by simp only [List.length_cons, List.length_nil]; omega)⟩
  ·refine ⟨_, by rw [scalar_f, decide_eq_true (by omega)], bytes_2 (by omega), .inr ⟨rfl, ?_⟩⟩
   simp only [agree, Bool.and_true, Bool.and_eq_false_iff, decide_eq_false_iff_not]
   omega
 by_cases n2 : s.size - pos ≤ 2
 ·have hd : decodeN (s.size - pos) c0 c1 c2 c3 = (65533, 1) := dec0 f1 f2 (fun h => by have := h.1; omega) (fun h => by have := h.1; omega)
  exact ⟨65533, hf _ (m1 _ (m2 _ (hbad _ rfl hd ▸ one_end s hs pos (by omega) 3 (by omega) (by omega))))⟩
 have e2 := e2 (by omega)
 have g3 := g3 (by omega)
 by_cases f3 : F3 (s.size - pos) c0 c1 c2
 ·have hd := dec3 (b3 := c3) f3
  obtain ⟨_, h2, h3, h4, h5, h6, h7⟩ := f3
  have h := one_hit s hs pos h0 3 (by omega) (by omega) _ _ g3 (by rw [scalar_f, decide_eq_true (by omega)]) (bytes_3 (by omega)) rfl (by
   simp only [agree, Bool.and_true, Bool.and_eq_true, decide_eq_true_eq, z1]
   omega)
  rw [hd, show decide (3 = 1) = false from rfl, Bool.and_false]
  exact ⟨_, hf _ (m1 _ (m2 _ h))⟩
 have m3 : ∀ r, Ev (fun k => pergolaref02_One.l0 k s (pos : Int) false 4) r → Ev (fun k => pergolaref02_One.l0 k s (pos : Int) false 3) r := by
  intro r hr
  unfold F3 at f3
  refine one_miss s hs pos h0 3 (by omega) (by omega) _ g3 ?_ r hr
  by_cases hsu : 55296 ≤ (bt s (pos : Int) % 16 * 64 + bt s ((pos : Int) + 1) % 64) * 64 + bt s ((pos : Int) + 2) % 64 ∧ (bt s (pos : Int) % 16 * 64 + bt s ((pos : Int) + 1) % 64) * 64 + bt s ((pos : Int) + 2) % 64 ≤ 57343
  ·exact .inl (by rw [scalar_f, decide_eq_false (by omega)])
  refine .inr ?_
  by_cases ht : (bt s (pos : Int) % 16 * 64 + bt s ((pos : Int) + 1) % 64) * 64 + bt s ((pos : Int) + 2) % 64 < 128
  ·exact ⟨_, by rw [scalar_f, decide_eq_true (by omega)], bytes_1 (by omega), .inl (by simp only [List.length_cons, List.length_nil]; omega)⟩
  by_cases ht2 : (bt s (pos : Int) % 16 * 64 + bt s ((pos : Int) + 1) % 64) * 64 + bt s ((pos : Int) + 2) % 64 < 2048
  ·exact ⟨_, by rw [scalar_f, decide_eq_true (by omega)], bytes_2 (by omega), .inl (by simp only [List.length_cons, List.length_nil]; omega)⟩
  ·refine ⟨_, by rw [scalar_f, decide_eq_true (by omega)], bytes_3 (by omega), .inr ⟨rfl, ?_⟩⟩
   simp only [agree, Bool.and_true, Bool.and_eq_false_iff, decide_eq_false_iff_not, z1]
   omega
 by_cases n3 : s.size - pos ≤ 3
 ·have hd : decodeN (s.size - pos) c0 c1 c2 c3 = (65533, 1) := dec0 f1 f2 f3 (fun h => by have := h.1; omega)
  exact ⟨65533, hf _ (m1 _ (m2 _ (m3 _ (hbad _ rfl hd ▸ one_end s hs pos (by omega) 4 (by omega) (by omega)))))⟩
 have e3 := e3 (by omega)
 have g4 := g4 (by omega)
 by_cases f4 : F4 (s.size - pos) c0 c1 c2 c3
 ·have hd := dec4 f4
  obtain ⟨_, h2, h3, h4, h5, h6, h7, h8⟩ := f4
  have h := one_hit s hs pos h0 4 (by omega) (by omega) _ _ g4 (by rw [scalar_f, decide_eq_true (by omega)]) (bytes_4 (by omega)) rfl (by
   simp only [agree, Bool.and_true, Bool.and_eq_true, decide_eq_true_eq, z1, z2]
   omega)
  rw [hd, show decide (4 = 1) = false from rfl, Bool.and_false]
  exact ⟨_, hf _ (m1 _ (m2 _ (m3 _ h)))⟩
 have hd : decodeN (s.size - pos) c0 c1 c2 c3 = (65533, 1) := dec0 f1 f2 f3 f4
 refine ⟨65533, hf _ (m1 _ (m2 _ (m3 _ ?_)))⟩
 rw [← hbad _ rfl hd]
 unfold F4 at f4
 refine one_miss s hs pos h0 4 (by omega) (by omega) _ g4 ?_ _ (one_end s hs pos (by omega) 5 (by omega) (by omega))
 generalize hT : ((bt s (pos : Int) % 8 * 64 + bt s ((pos : Int) + 1) % 64) * 64 + bt s ((pos : Int) + 2) % 64) * 64 + bt s ((pos : Int) + 3) % 64 = T
 by_cases hsu : (55296 ≤ T ∧ T ≤ 57343) ∨ 1114111 < T
 ·exact .inl (by rw [scalar_f, decide_eq_false (by omega)])
 refine .inr ?_
 by_cases ht : T < 128
 ·exact ⟨_, by rw [scalar_f, decide_eq_true (by omega)], bytes_1 (by omega), .inl (by simp only [List.length_cons, List.length_nil]; omega)⟩
 by_cases ht2 : T < 2048
 ·exact ⟨_, by rw [scalar_f, decide_eq_true (by omega)], bytes_2 (by omega), .inl (by simp only [List.length_cons, List.length_nil]; omega)⟩
 by_cases ht3 : T < 65536
 ·exact ⟨_, by rw [scalar_f, decide_eq_true (by omega)], bytes_3 (by omega), .inl (by simp only [List.length_cons, List.length_nil]; omega)⟩
 ·have hT2 : T < 2097152 := by omega
  refine ⟨_, by rw [scalar_f, decide_eq_true (by omega)], bytes_4 ⟨by omega, hT2⟩, .inr ⟨rfl, Bool.eq_false_iff.mpr fun ha => ?_⟩⟩
  simp only [agree, Bool.and_true, Bool.and_eq_true, decide_eq_true_eq, z1, z2] at ha
  obtain ⟨a0, a1, a2, a3⟩ := ha
  rw [e0] at a0 hT
  rw [e1] at a1 hT
  rw [e2] at a2 hT
  rw [e3] at a3 hT
  have d0 : T / 262144 = (c0 : Int) % 8 := by clear a0 a1 a2 a3 f1 f2 f3 f4 m1 m2 m3; omega
  have k0 : (c0 : Int) / 8 = 30 := by clear a1 a2 a3 f1 f2 f3 f4 hT; omega
  have k1 : (c1 : Int) / 64 = 2 := by clear a0 a2 a3 f1 f2 f3 f4 hT; omega
  have k2 : (c2 : Int) / 64 = 2 := by clear a0 a1 a3 f1 f2 f3 f4 hT; omega
  have k3 : (c3 : Int) / 64 = 2 := by clear a0 a1 a2 f1 f2 f3 f4 hT; omega
  clear a0 a1 a2 a3 f1 f2 f3 m1 m2 m3
  exact f4 ⟨by omega, by omega, by omega, by omega, by omega, by omega, by omega, by omega⟩

/-! Valid -/
def chk : List S109 → Bool × Int
 | [] => (true, 0)
 | y :: t => if y.f3 = true then (false, y.f0) else chk t
theorem valid_l0 (l : List S109) (hl : l.length ≤ 1000000000000) : ∀ (d j : Nat), j + d = l.length → Ev (fun k => pergolaref02_Valid.l0 k l (j : Int)) (chk (l.drop j)) := by
 intro d
 induction d with
 | zero =>
  intro j hj
  rw [List.drop_of_length_le (by omega)]
  refine Ev.step (f := fun _ => some (true, 0)) (fun k => ?_) (Ev.now _)
  rw [pergolaref02_Valid.l0, if_neg (by omega)]
 | succ d ih =>
  intro j hj
  have hlt : j < l.length := by omega
  rw [List.drop_eq_getElem_cons hlt]
  have hrd : rd_T109 l (j : Int) = l[j] := by
   unfold rd_T109
   rw [Int.toNat_natCast, List.getD_eq_getElem?_getD, List.getElem?_eq_getElem hlt]
   rfl
  unfold chk
  by_cases h3 : (l[j]).f3 = true
  ·rw [if_pos h3]
   refine Ev.step (f := fun _ => some (false, (l[j]).f0)) (fun k => ?_) (Ev.now _)
   rw [pergolaref02_Valid.l0, if_pos (by omega), if_pos (by omega), hrd, if_pos h3]
  ·rw [if_neg h3]
   refine Ev.step (fun k => ?_) (ih (j + 1) (by omega))
   rw [pergolaref02_Valid.l0, if_pos (by omega), if_pos (by omega), hrd, if_neg h3, w64 (x := (j : Int) + 1) (by omega) (by omega)]
   rfl
theorem pieces_l0 (s : ByteArray) (hs : s.size ≤ 1000000000000) : ∀ (d pos : Nat), s.size ≤ pos + d → ∃ (ys : List S109) (r : Bool × Int), ys.length ≤ d ∧ (∀ xs : List S109, xs.length + d ≤ 1000000000000 → Ev (fun k => pergolaref02_Pieces.l0 k s xs (pos : Int)) (xs ++ ys)) ∧ Ev (fun k => utf_Valid.l0 k s pos) r ∧ chk ys = r := by
 intro d
 induction d using Nat.strongRecOn with
 | _ d ih =>
  intro pos h
  by_cases hlt : pos < s.size
  rotate_left
  ·refine ⟨[], (true, 0), Nat.zero_le _, fun xs hx => ?_, Ev.step (f := fun _ => some (true, (0 : Int))) (fun k => by rw [utf_Valid.l0, if_neg hlt]) (Ev.now _), rfl⟩
   rw [List.append_nil]
   refine Ev.step (f := fun _ => some xs) (fun k => ?_) (Ev.now _)
   rw [pergolaref02_Pieces.l0, if_neg (by omega)]
  have hw := Lib.decode_width_pos s pos hlt
  have hw4 : (Utf8.decode s pos).2 ≤ 4 := by
   rw [decode_at]
   unfold decodeN
   repeat' split
   all_goals simp
  obtain ⟨t, ht⟩ := one_f s hs pos hlt
  obtain ⟨ys, r, hlen, hP, hV, hr⟩ := ih (d - (Utf8.decode s pos).2) (by omega) (pos + (Utf8.decode s pos).2) (by omega)
  refine ⟨⟨(pos : Int), ((Utf8.decode s pos).2 : Int), t, wrongAt s pos⟩ :: ys, if wrongAt s pos = true then (false, (pos : Int)) else r, by simp only [List.length_cons]; omega, fun xs hx => ?_, ?_, ?_⟩
  ·have hn := hP (xs ++ [⟨(pos : Int), ((Utf8.decode s pos).2 : Int), t, wrongAt s pos⟩]) (by rw [List.length_append]; simp only [List.length_cons, List.length_nil]; omega)
   rw [List.append_assoc, List.singleton_append] at hn
   refine Ev.step (f := fun k => (pergolaref02_One.f k s (pos : Int) false).bind fun bt219 => (if xs.length < 5864062014805 then (pergolaref02_Pieces.l0 k s (xs ++ [(⟨bt219.1, bt219.2.1, bt219.2.2.1, bt219.2.2.2⟩ : S109)]) (wrap64 ((pos : Int) + bt219.2.1))) else (none))) (fun k => ?_) (Ev.bind ht ?_)
   ·rw [pergolaref02_Pieces.l0, if_pos (by omega)]
   ·refine Ev.congr (fun k => ?_) hn
    simp only
    rw [if_pos (by omega), w64 (x := (pos : Int) + ((Utf8.decode s pos).2 : Int)) (by omega) (by omega), Int.natCast_add]
  ·by_cases hwr : wrongAt s pos = true
   ·rw [if_pos hwr]
    exact Ev.step (f := fun _ => some (false, (pos : Int))) (fun k => by rw [utf_Valid.l0, if_pos hlt, if_pos hwr]) (Ev.now _)
   ·rw [if_neg hwr]
    exact Ev.step (f := fun k => utf_Valid.l0 k s (pos + (Utf8.decode s pos).2)) (fun k => by rw [utf_Valid.l0, if_pos hlt, if_neg hwr]) hV
  ·simp only [chk]
   rw [hr]
/-- The page's Valid tells what the program's tells. -/
theorem rvalid_f (s : ByteArray) (hs : s.size ≤ 1000000000000) : ∃ r, vaF s = some r ∧ Ev (fun k => pergolaref02_Valid.f k s) r := by
 obtain ⟨ys, r, hlen, hP, hV, hr⟩ := pieces_l0 s hs s.size 0 (by omega)
 refine ⟨r, everO_ev (fun k => utf_Valid.mono s k) hV, ?_⟩
 have hp := hP [] (by simp only [List.length_nil]; omega)
 rw [List.nil_append] at hp
 have hv := valid_l0 ys (by omega) ys.length 0 (by omega)
 rw [List.drop_zero, hr] at hv
 exact Ev.bind hp hv
end Go.Proofs.YtkbmbancfbfddaaGreatDoor.Pure
namespace Go.Proofs.YtkbmbancfbfddaaGreatDoor.Pure
open Go.RowKit Go.Proofs.YtkbmbancfbfddaaGreatDoor.X Go.Proofs.YtkbmbancfbfddaaGreatDoorW.PrintWords Go.Proofs.YtkbmbancfbfddaaGreatDoorW.PrintLast Go.Proofs.YtkbmbancfbfddaaGreatDoorW.PrintMore

/-! keys -/
def keyB (c : Int) : Bool := (bare_keyed.f c).getD false
theorem keyB_f {c : Int} (h : 0 ≤ c ∧ c < 256) : bare_keyed.f c = some (keyB c) :=
 byte_all (p := fun c => bare_keyed.f c = some (keyB c)) (by decide +kernel) h
def keyFin (s : ByteArray) (E : Int) : ByteArray × Int × Int := if E > 64 then (⟨#[]⟩, 0, 5) else (s.extract 0 E.toNat, E, 0)
theorem key_l0 (s : ByteArray) (hs : s.size ≤ 140737488355328) (d : Nat) : ∀ (j : Nat), j + d = s.size → Ev (fun k => bare_ReadKey.l0 k s 0 (j : Int)) (keyFin s (tokE keyB s (j : Int))) := by
 have hend : ∀ j : Nat, j ≤ s.size → (if (wrap64 ((j : Int) - 0)) > 64 then (some ((⟨#[]⟩ : ByteArray), (0 : Int), (5 : Int))) else (if (0 : Int) ≤ 0 then (if (0 : Int) ≤ (j : Int) then (if (j : Int) ≤ (s.size : Int) then (some (s.extract (0 : Int).toNat (j : Int).toNat, (j : Int), (0 : Int))) else none) else none) else none)) = some (keyFin s (j : Int)) := by
  intro j hj
  have hw : wrap64 ((j : Int) - 0) = (j : Int) := by unfold wrap64; omega
  rw [hw, if_pos (Int.le_refl 0), if_pos (show (0 : Int) ≤ (j : Int) by omega), if_pos (show (j : Int) ≤ (s.size : Int) by omega)]
  unfold keyFin
  split <;> rfl
 induction d with
 | zero =>
  intro j hj
  refine Ev.step (f := fun _ => some (keyFin s (tokE keyB s (j : Int)))) (fun k => ?_) (Ev.now _)
  rw [bare_ReadKey.l0, if_neg (by omega), tokE_stop (fun h => by omega)]
  exact hend j (by omega)
 | succ d ih =>
  intro j hj
  have hw : wrap64 ((j : Int) + 1) = ((j + 1 : Nat) : Int) := by unfold wrap64; omega
  refine Ev.step (f := fun k => if keyB (bt s (j : Int)) = true then bare_ReadKey.l0 k s 0 ((j + 1 : Nat) : Int) else some (keyFin s (j : Int))) (fun k => ?_) ?_
  ·rw [bare_ReadKey.l0, if_pos (by omega), if_pos (by omega), keyB_f (byte_of s _), Option.bind_some, hw]
   split
   ·rfl
   ·exact hend j (by omega)
  ·by_cases hT : keyB (bt s (j : Int)) = true
   ·rw [tokE_step (by omega) hT]
    exact ev_pos hT (ih (j + 1) (by omega))
   ·rw [tokE_stop (fun h => hT h.2)]
    exact ev_neg hT (Ev.now _)
def firstB (c : Int) : Bool := (bare_small.f c).getD false || c == 42
theorem small_f (c : Int) : bare_small.f c = some ((bare_small.f c).getD false) := by
 unfold bare_small.f
 split <;> rfl
def rkey (s : ByteArray) : ByteArray × Int × Int := if s.size = 0 then (⟨#[]⟩, 0, 99) else if firstB (bt s 0) = true then keyFin s (tokE keyB s 0) else (⟨#[]⟩, 0, 101)
theorem rkey_f (s : ByteArray) (hs : s.size ≤ 140737488355328) : Ev (fun k => bare_ReadKey.f k s 0) (rkey s) := by
 have hd : decide ((0 : Int) > (s.size : Int)) = false := decide_eq_false (by omega)
 refine Ev.congr (fun k => ?_ : ∀ k, bare_ReadKey.f k s 0 = bare_ReadKey.j0 k s 0 false) ?_
 ·unfold bare_ReadKey.f
  rw [if_neg (by omega), hd]
 unfold rkey
 by_cases h0 : s.size = 0
 ·rw [if_pos h0]
  refine Ev.step (f := fun _ => some ((⟨#[]⟩ : ByteArray), (0 : Int), (99 : Int))) (fun k => ?_) (Ev.now _)
  rw [bare_ReadKey.j0, if_neg (by decide), if_pos (by omega)]
 ·rw [if_neg h0]
  have hk := key_l0 s hs s.size 0 (by omega)
  have hj : Ev (fun k => bare_ReadKey.j1 k s 0) (keyFin s (tokE keyB s 0)) := Ev.step (f := fun k => bare_ReadKey.l0 k s 0 0) (fun k => by rw [bare_ReadKey.j1]) hk
  refine Ev.step (f := fun k => if firstB (bt s 0) = true then bare_ReadKey.j1 k s 0 else some ((⟨#[]⟩ : ByteArray), (0 : Int), (101 : Int))) (fun k => ?_) ?_
  ·rw [bare_ReadKey.j0, if_neg (by decide), if_neg (by omega), if_pos (Int.le_refl 0), if_pos (by omega), small_f, Option.bind_some]
   unfold firstB
   by_cases h1 : (bare_small.f (bt s 0)).getD false = true
   ·rw [if_pos h1, if_pos (by rw [h1]; rfl)]
   ·rw [if_neg h1]
    by_cases h2 : bt s 0 = 42
    ·rw [if_pos h2, if_pos (by simp [h2])]
    ·rw [if_neg h2, if_neg (by simp [h1, h2])]
  ·by_cases h : firstB (bt s 0) = true
   ·rw [if_pos h]
    exact ev_pos h hj
   ·rw [if_neg h]
    exact ev_neg h (Ev.now _)
def iskey (s : ByteArray) : Bool := if (rkey s).2.2 = 0 then (if (rkey s).2.1 = (s.size : Int) then (rkey s).1.toList == s.toList else false) else false
theorem iskey_f (s : ByteArray) (hs : s.size ≤ 140737488355328) : Ev (fun k => bare_IsKey.f k s) (iskey s) := by
 unfold bare_IsKey.f
 refine Ev.bind (rkey_f s hs) ?_
 refine ev_some ?_
 unfold iskey
 split
 ·split <;> rfl
 ·rfl
end Go.Proofs.YtkbmbancfbfddaaGreatDoor.Pure
namespace Go.Proofs.YtkbmbancfbfddaaGreatDoor.Pure
open Go.RowKit Go.Proofs.YtkbmbancfbfddaaGreatDoor.X Go.Proofs.YtkbmbancfbfddaaGreatDoorW.PrintWords Go.Proofs.YtkbmbancfbfddaaGreatDoorW.PrintLast Go.Proofs.YtkbmbancfbfddaaGreatDoorW.PrintMore
set_option linter.unusedVariables false

theorem rtok_f {c : Int} (h : 0 ≤ c ∧ c < 256) : Ev (fun k => pergolaref09_inToken.f k c) (inTok c) :=
 Ev.of (fun k => pergolaref09_inToken.mono c k) (k := 20) (byte_all (p := fun c => pergolaref09_inToken.f 20 c = some (inTok c)) (by decide +kernel) h)
theorem rlet {c : Int} (h : 0 ≤ c ∧ c < 256) : ∃ b, pergolaref09_letter.f c = some b ∧ (b || c == 42) = letB c := by
 have h1 : ((pergolaref09_letter.f c).isSome = true) ∧ ((pergolaref09_letter.f c).getD false || c == 42) = letB c := byte_all (p := fun c => ((pergolaref09_letter.f c).isSome = true) ∧ ((pergolaref09_letter.f c).getD false || c == 42) = letB c) (by decide +kernel) h
 obtain ⟨b, hb⟩ := Option.isSome_iff_exists.mp h1.1
 have h2 := h1.2
 rw [hb] at h2
 exact ⟨b, hb, h2⟩
theorem rtok_l0 (s : ByteArray) (hs : s.size ≤ 140737488355328) (d : Nat) : ∀ (j : Nat), j + d = s.size → Ev (fun k => pergolaref09_IsToken.l0 k s (j : Int)) (decide (tokE inTok s (j : Int) = (s.size : Int))) := by
 induction d with
 | zero =>
  intro j hj
  refine Ev.step (f := fun _ => some true) (fun k => ?_) ?_
  ·rw [pergolaref09_IsToken.l0, if_neg (by omega)]
  ·rw [tokE_stop (fun h => by omega), show decide ((j : Int) = (s.size : Int)) = true from decide_eq_true (by omega)]
   exact Ev.now _
 | succ d ih =>
  intro j hj
  have hw : wrap64 ((j : Int) + 1) = ((j + 1 : Nat) : Int) := by unfold wrap64; omega
  refine Ev.step (f := fun k => (pergolaref09_inToken.f k (bt s (j : Int))).bind fun t => if t = true then pergolaref09_IsToken.l0 k s ((j + 1 : Nat) : Int) else some false) (fun k => ?_) (Ev.bind (rtok_f (byte_of s _)) ?_)
  ·rw [pergolaref09_IsToken.l0, if_pos (by omega), if_pos (by omega), hw]
  ·by_cases hT : inTok (bt s (j : Int)) = true
   ·rw [tokE_step (by omega) hT]
    exact ev_pos hT (ih (j + 1) (by omega))
   ·rw [tokE_stop (fun h => hT h.2), show decide ((j : Int) = (s.size : Int)) = false from decide_eq_false (by omega)]
    exact ev_neg hT (Ev.now _)
theorem ristok_f (s : ByteArray) (hs : s.size ≤ 140737488355328) : Ev (fun k => pergolaref09_IsToken.f k s) (istok s) := by
 unfold istok
 have hbad : Ev (fun k => pergolaref09_IsToken.j0 k s true) false := Ev.step (f := fun _ => some false) (fun k => by rw [pergolaref09_IsToken.j0, if_pos rfl]) (Ev.now _)
 have hok : Ev (fun k => pergolaref09_IsToken.j0 k s false) (decide (tokE inTok s 0 = (s.size : Int))) := Ev.step (f := fun k => pergolaref09_IsToken.l0 k s 0) (fun k => by rw [pergolaref09_IsToken.j0, if_neg (by decide)]) (rtok_l0 s hs s.size 0 (by omega))
 unfold pergolaref09_IsToken.f
 by_cases h0 : s.size = 0
 ·rw [show decide (s.size ≠ 0) = false from decide_eq_false (fun h => h h0), Bool.false_and, Bool.false_and]
  exact ev_pos (by omega) hbad
 ·rw [show decide (s.size ≠ 0) = true from decide_eq_true h0, Bool.true_and]
  refine ev_neg (by omega) (ev_pos (by omega) ?_)
  obtain ⟨b, hb, hl⟩ := rlet (byte_of s 0)
  rw [hb, ← hl]
  refine Ev.congr (fun k => Option.bind_some ..) ?_
  cases b with
  | true => exact ev_pos rfl (by rw [Bool.true_or, Bool.true_and]; exact hok)
  | false =>
   refine ev_neg (by decide) ?_
   rw [Bool.false_or]
   by_cases h42 : bt s 0 = 42
   ·rw [h42]; exact hok
   ·rw [show (bt s 0 != 42) = true by simp [h42], show (bt s 0 == 42) = false by simp [h42], Bool.false_and]
    exact hbad
theorem rnext_f {c : Int} (h : 0 ≤ c ∧ c < 256) : pergolaref09_next.f c = some (keyB c) := byte_all (p := fun c => pergolaref09_next.f c = some (keyB c)) (by decide +kernel) h
theorem rfirst_f {c : Int} (h : 0 ≤ c ∧ c < 256) : pergolaref09_first.f c = some (firstB c) := byte_all (p := fun c => pergolaref09_first.f c = some (firstB c)) (by decide +kernel) h
theorem rkey_l0 (s : ByteArray) (hs : s.size ≤ 140737488355328) (d : Nat) : ∀ (j : Nat), j + d = s.size → Ev (fun k => pergolaref09_IsKey.l0 k s (j : Int)) (decide (tokE keyB s (j : Int) = (s.size : Int))) := by
 induction d with
 | zero =>
  intro j hj
  refine Ev.step (f := fun _ => some true) (fun k => ?_) ?_
  ·rw [pergolaref09_IsKey.l0, if_neg (by omega)]
  ·rw [tokE_stop (fun h => by omega), show decide ((j : Int) = (s.size : Int)) = true from decide_eq_true (by omega)]
   exact Ev.now _
 | succ d ih =>
  intro j hj
  have hw : wrap64 ((j : Int) + 1) = ((j + 1 : Nat) : Int) := by unfold wrap64; omega
  refine Ev.step (f := fun k => if keyB (bt s (j : Int)) = true then pergolaref09_IsKey.l0 k s ((j + 1 : Nat) : Int) else some false) (fun k => ?_) ?_
  ·rw [pergolaref09_IsKey.l0, if_pos (by omega), if_pos (by omega), rnext_f (byte_of s _), Option.bind_some, hw]
  ·by_cases hT : keyB (bt s (j : Int)) = true
   ·rw [tokE_step (by omega) hT]
    exact ev_pos hT (ih (j + 1) (by omega))
   ·rw [tokE_stop (fun h => hT h.2), show decide ((j : Int) = (s.size : Int)) = false from decide_eq_false (by omega)]
    exact ev_neg hT (Ev.now _)
theorem key_extract (s : ByteArray) : s.extract 0 s.size = s := by simp
theorem riskey_f (s : ByteArray) (hs : s.size ≤ 140737488355328) : Ev (fun k => pergolaref09_IsKey.f k s) (iskey s) := by
 have hbad : Ev (fun k => pergolaref09_IsKey.j0 k s true) false := Ev.step (f := fun _ => some false) (fun k => by rw [pergolaref09_IsKey.j0, if_pos rfl]) (Ev.now _)
 have hok : Ev (fun k => pergolaref09_IsKey.j0 k s false) (decide (tokE keyB s 0 = (s.size : Int))) := Ev.step (f := fun k => pergolaref09_IsKey.l0 k s 0) (fun k => by rw [pergolaref09_IsKey.j0, if_neg (by decide)]) (rkey_l0 s hs s.size 0 (by omega))
 unfold pergolaref09_IsKey.f iskey rkey
 by_cases h0 : s.size = 0
 ·rw [if_pos h0]
  exact ev_pos (by omega) hbad
 rw [if_neg h0]
 refine ev_neg (by omega) ?_
 have hE := tokE_spec keyB s s.size 0 (by omega) (by omega)
 by_cases hf : firstB (bt s 0) = true
 ·rw [if_pos hf]
  unfold keyFin
  by_cases h64 : (s.size : Int) > 64
  ·refine ev_pos h64 ?_
   by_cases hE64 : tokE keyB s 0 > 64
   ·rw [if_pos hE64]
    exact hbad
   ·rw [if_neg hE64, if_pos rfl, if_neg (by simp only; omega)]
    exact hbad
  ·refine ev_neg h64 (ev_pos (by omega) ?_)
   rw [rfirst_f (byte_of s 0), hf, if_neg (show ¬ tokE keyB s 0 > 64 by omega), if_pos (show (0 : Int) = 0 from rfl)]
   refine Ev.congr (fun k => Option.bind_some ..) ?_
   by_cases he : tokE keyB s 0 = (s.size : Int)
   ·rw [if_pos he, he]
    rw [decide_eq_true he] at hok
    simp only [Int.toNat_natCast, key_extract, beq_self_eq_true]
    exact hok
   ·rw [if_neg he]
    rw [decide_eq_false he] at hok
    exact hok
 ·rw [if_neg hf, if_neg (by decide)]
  by_cases h64 : (s.size : Int) > 64
  ·exact ev_pos h64 hbad
  ·refine ev_neg h64 (ev_pos (by omega) ?_)
   rw [rfirst_f (byte_of s 0)]
   refine Ev.congr (fun k => Option.bind_some ..) ?_
   rw [show firstB (bt s 0) = false by simpa using hf]
   exact hbad
theorem rplain_l0 (s : ByteArray) (hs : s.size ≤ 140737488355328) (d : Nat) : ∀ j : Nat, j + d = s.size → Ev (fun k => pergolaref09_plain.l0 k s (j : Int)) (((bytesOf s).drop j).all plainB) := by
 induction d with
 | zero =>
  intro j hj
  refine Ev.step (f := fun _ => some true) (fun k => ?_) ?_
  ·rw [pergolaref09_plain.l0, if_neg (by omega)]
  ·rw [List.drop_of_length_le (by rw [bytesOf_length]; omega)]
   exact Ev.now _
 | succ d ih =>
  intro j hj
  have hw : wrap64 ((j : Int) + 1) = ((j + 1 : Nat) : Int) := by unfold wrap64; omega
  rw [drop_bt (by omega), List.all_cons]
  refine Ev.step (f := fun k => if bt s (j : Int) < 32 then some false else if bt s (j : Int) > 126 then some false else pergolaref09_plain.l0 k s ((j + 1 : Nat) : Int)) (fun k => ?_) ?_
  ·rw [pergolaref09_plain.l0, if_pos (by omega), if_pos (by omega), hw]
  ·by_cases h1 : bt s (j : Int) < 32
   ·rw [show plainB (bt s (j : Int)) = false by unfold plainB; rw [decide_eq_false (by omega)]; rfl]
    exact ev_pos h1 (Ev.now _)
   ·refine ev_neg h1 ?_
    by_cases h2 : bt s (j : Int) > 126
    ·rw [show plainB (bt s (j : Int)) = false by unfold plainB; rw [decide_eq_false (p := bt s (j : Int) ≤ 126) (by omega), Bool.and_false]]
     exact ev_pos h2 (Ev.now _)
    ·refine ev_neg h2 ?_
     rw [show plainB (bt s (j : Int)) = true by unfold plainB; rw [decide_eq_true (by omega), decide_eq_true (by omega)]; rfl, Bool.true_and]
     exact ih (j + 1) (by omega)
theorem rplain_f (s : ByteArray) (hs : s.size ≤ 140737488355328) : Ev (fun k => pergolaref09_plain.f k s) (plainT s) := rplain_l0 s hs s.size 0 (by omega)
theorem rwithin_f (n : Int) : pergolaref09_within.f n = some (!far n) := by
 unfold pergolaref09_within.f far
 by_cases h1 : n ≥ -999999999999999
 ·rw [if_pos h1, decide_eq_false (p := n < -999999999999999) (by omega), Bool.or_false]
  by_cases h2 : n ≤ 999999999999999
  ·rw [decide_eq_true h2, decide_eq_false (by omega)]; rfl
  ·rw [decide_eq_false h2, decide_eq_true (by omega)]; rfl
 ·rw [if_neg h1, decide_eq_true (p := n < -999999999999999) (by omega), Bool.or_true]; rfl
/-- The last of Check's tests. -/
noncomputable def CT (K n : Int) (s : ByteArray) : Int := if K = 1 ∨ K = 2 then (if far n = true then 92 else 0) else if K = 3 then (if plainT s = true then 0 else 93) else if K = 4 then (if istok s = true then 0 else 91)
 else if K = 6 then (if n = 0 ∨ n = 1 then 0 else 95) else if K = 7 then (if far n = true then 96 else 0) else if K = 8 then (if validB s = true then 0 else 97) else 0
theorem ev_bool {p : Bool} {x y : Int} : Ev (fun _ => if p = true then some x else some y) (if p = true then x else y) := by
 cases p <;> exact Ev.now _
theorem rchk_j3 (m : Bool) (K n : Int) (s : ByteArray) (hm : m = true ↔ (K = 1 ∨ K = 2)) (hs : s.size ≤ 1000000000000) : Ev (fun k => pergolaref09_Check.j3 k K m K n s) (CT K n s) := by
 unfold CT
 refine Ev.step (fun k => pergolaref09_Check.j3.eq_2 _ _ _ _ _ k) ?_
 have hfar : ∀ x : Int, Ev (fun _ => (pergolaref09_within.f n).bind fun t => if t = true then some 0 else some x) (if far n = true then x else 0) := by
  intro x
  rw [rwithin_f]
  refine Ev.congr (fun k => Option.bind_some ..) ?_
  cases far n
  ·exact Ev.now _
  ·exact Ev.now _
 by_cases h12 : K = 1 ∨ K = 2
 ·rw [if_pos h12]
  exact ev_pos (hm.2 h12) (hfar 92)
 rw [if_neg h12]
 refine ev_neg (fun h => h12 (hm.1 h)) ?_
 by_cases h3 : K = 3
 ·rw [if_pos h3]
  exact ev_pos h3 (Ev.bind (rplain_f s (by omega)) ev_bool)
 rw [if_neg h3]
 refine ev_neg h3 ?_
 by_cases h4 : K = 4
 ·rw [if_pos h4]
  exact ev_pos h4 (Ev.bind (ristok_f s (by omega)) ev_bool)
 rw [if_neg h4]
 refine ev_neg h4 ?_
 by_cases h6 : K = 6
 ·rw [if_pos h6]
  refine ev_pos h6 ?_
  by_cases h0 : n = 0
  ·rw [show (if n = 0 ∨ n = 1 then (0 : Int) else 95) = 0 from if_pos (Or.inl h0)]; exact ev_pos h0 (Ev.now _)
  ·refine ev_neg h0 ?_
   by_cases h1 : n = 1
   ·rw [show (if n = 0 ∨ n = 1 then (0 : Int) else 95) = 0 from if_pos (Or.inr h1)]; exact ev_pos h1 (Ev.now _)
   ·rw [show (if n = 0 ∨ n = 1 then (0 : Int) else 95) = 95 from if_neg (by omega)]; exact ev_neg h1 (Ev.now _)
 rw [if_neg h6]
 refine ev_neg h6 ?_
 by_cases h7 : K = 7
 ·rw [if_pos h7]
  exact ev_pos h7 (hfar 96)
 rw [if_neg h7]
 refine ev_neg h7 ?_
 by_cases h8 : K = 8
 ·rw [if_pos h8]
  refine ev_pos h8 ?_
  obtain ⟨r, hr, hv⟩ := rvalid_f s hs
  have hb : validB s = r.1 := by unfold validB; rw [hr]; rfl
  rw [hb]
  exact Ev.bind hv ev_bool
 rw [if_neg h8]
 exact ev_neg h8 (Ev.now _)
theorem rchk_j2 (K n : Int) (s : ByteArray) (hs : s.size ≤ 1000000000000) : Ev (fun k => pergolaref09_Check.j2 k false K n s) (CT K n s) ∧ Ev (fun k => pergolaref09_Check.j2 k true K n s) 1 := by
 constructor
 ·refine Ev.step (fun k => pergolaref09_Check.j2.eq_2 _ _ _ _ k) (ev_neg (by decide) ?_)
  by_cases h1 : K = 1
  ·exact ev_pos h1 (rchk_j3 _ K n s (by simp [h1]) hs)
  ·exact ev_neg h1 (rchk_j3 _ K n s (by simp [h1]) hs)
 ·exact Ev.step (fun k => pergolaref09_Check.j2.eq_2 _ _ _ _ k) (ev_pos rfl (Ev.now _))
theorem rchk_num (K n : Int) (s : ByteArray) (hs : s.size ≤ 1000000000000) : Ev (fun k => pergolaref09_Check.j1 k true K n s) (if s.size ≠ 0 then 1 else CT K n s) := by
 refine Ev.step (fun k => pergolaref09_Check.j1.eq_2 _ _ _ _ k) (ev_pos rfl ?_)
 by_cases hz : s.size = 0
 ·rw [if_neg (by omega)]
  exact ev_pos ((empty_iff s).2 hz) (rchk_j2 K n s hs).1
 ·rw [if_pos hz]
  exact ev_neg (fun h => hz ((empty_iff s).1 h)) (rchk_j2 K n s hs).2
theorem rchk_txt (K n : Int) (s : ByteArray) (hs : s.size ≤ 1000000000000) : Ev (fun k => pergolaref09_Check.j1 k false K n s) (if n ≠ 0 then 1 else CT K n s) := by
 refine Ev.step (fun k => pergolaref09_Check.j1.eq_2 _ _ _ _ k) (ev_neg (by decide) ?_)
 by_cases hz : n = 0
 ·rw [if_neg (by omega), hz]
  exact (rchk_j2 K 0 s hs).1
 ·rw [if_pos hz, show (n != 0) = true by simp [hz]]
  exact (rchk_j2 K n s hs).2
theorem rchk_j0 (m : Bool) (K n : Int) (s : ByteArray) (hm : m = true ↔ (K = 1 ∨ K = 2 ∨ K = 6 ∨ K = 7)) (hs : s.size ≤ 1000000000000) : Ev (fun k => pergolaref09_Check.j0 k false K m K n s) (CK K n s) := by
 have hCK : CK K n s = if K < 1 ∨ K > 8 then 1 else if (K = 1 ∨ K = 2 ∨ K = 6 ∨ K = 7) ∧ s.size ≠ 0 ∨ ¬ (K = 1 ∨ K = 2 ∨ K = 6 ∨ K = 7) ∧ n ≠ 0 then 1 else CT K n s := rfl
 rw [hCK]
 refine Ev.step (fun k => pergolaref09_Check.j0.eq_2 _ _ _ _ _ _ k) ?_
 by_cases hk : K = 1 ∨ K = 2 ∨ K = 6 ∨ K = 7
 ·refine ev_pos (hm.2 hk) ?_
  rw [if_neg (by omega)]
  have h := rchk_num K n s hs
  by_cases hz : s.size = 0
  ·rw [if_neg (by omega)] at h
   rw [if_neg (by omega)]; exact h
  ·rw [if_pos hz] at h
   rw [if_pos (Or.inl ⟨hk, hz⟩)]; exact h
 refine ev_neg (fun h => hk (hm.1 h)) ?_
 have ht := rchk_txt K n s hs
 have hfin : 1 ≤ K → K ≤ 8 → Ev (fun k => pergolaref09_Check.j1 k false K n s) (if K < 1 ∨ K > 8 then 1 else if (K = 1 ∨ K = 2 ∨ K = 6 ∨ K = 7) ∧ s.size ≠ 0 ∨ ¬ (K = 1 ∨ K = 2 ∨ K = 6 ∨ K = 7) ∧ n ≠ 0 then 1 else CT K n s) := by
  intro h1 h2
  rw [if_neg (by omega)]
  by_cases hz : n = 0
  ·rw [if_neg (by omega)] at ht
   rw [if_neg (by omega)]; exact ht
  ·rw [if_pos hz] at ht
   rw [if_pos (Or.inr ⟨hk, hz⟩)]; exact ht
 by_cases h3 : K = 3
 ·exact ev_pos h3 (hfin (by omega) (by omega))
 refine ev_neg h3 ?_
 by_cases h4 : K = 4
 ·exact ev_pos h4 (hfin (by omega) (by omega))
 refine ev_neg h4 ?_
 by_cases h5 : K = 5
 ·exact ev_pos h5 (hfin (by omega) (by omega))
 refine ev_neg h5 ?_
 by_cases h8 : K = 8
 ·exact ev_pos h8 (hfin (by omega) (by omega))
 refine ev_neg h8 ?_
 rw [if_pos (by omega)]
 exact Ev.now _
theorem rcheck_f (K n : Int) (s : ByteArray) (hs : s.size ≤ 1000000000000) : Ev (fun k => pergolaref09_Check.f k K n s) (CK K n s) := by
 unfold pergolaref09_Check.f
 by_cases h1 : K = 1
 ·exact ev_pos h1 (rchk_j0 _ K n s (by simp [h1]) hs)
 refine ev_neg h1 ?_
 by_cases h2 : K = 2
 ·exact ev_pos h2 (rchk_j0 _ K n s (by simp [h2]) hs)
 refine ev_neg h2 ?_
 by_cases h6 : K = 6
 ·exact ev_pos h6 (rchk_j0 _ K n s (by simp [h6]) hs)
 exact ev_neg h6 (rchk_j0 _ K n s (by simp [h1, h2, h6]) hs)
end Go.Proofs.YtkbmbancfbfddaaGreatDoor.Pure
namespace Go.Proofs.YtkbmbancfbfddaaGreatDoor.Pure
open Go.RowKit Go.Proofs.YtkbmbancfbfddaaGreatDoor.X Go.Proofs.YtkbmbancfbfddaaGreatDoorW.PrintWords Go.Proofs.YtkbmbancfbfddaaGreatDoorW.PrintLast Go.Proofs.YtkbmbancfbfddaaGreatDoorW.PrintMore

theorem or_two (x y : Int) (hx : 0 ≤ x ∧ x ≤ 255) (hy : 0 ≤ y ∧ y ≤ 255) : Go.bits .or .u64 (x * 65536) (y * 256) = x * 65536 + y * 256 := by
 obtain ⟨x, rfl⟩ := Int.eq_ofNat_of_zero_le hx.1
 obtain ⟨y, rfl⟩ := Int.eq_ofNat_of_zero_le hy.1
 have h1 := u64_or_nat (x * 65536) (y * 256) (by omega) (by omega)
 have e1 : x * 65536 ||| y * 256 = x * 65536 + y * 256 := by
  have := Nat.shiftLeft_add_eq_or_of_lt (show y * 256 < 2 ^ 16 by omega) x
  simp only [Nat.shiftLeft_eq, Nat.reducePow] at this
  exact this.symm
 rw [e1] at h1
 simp only [Int.natCast_mul, Int.natCast_add, Int.cast_ofNat_Int] at h1
 rw [h1]
/-- The four signs of three bytes, of which n are there. -/
def quad (V : Int) (n : Nat) : List Int := [b64d (V / 262144), b64d (V / 4096 % 64), if 2 ≤ n then b64d (V / 64 % 64) else 61, if 3 ≤ n then b64d (V % 64) else 61]
theorem rb64_j2 (l out : List Int) (i : Nat) (V : Int) (r : ByteArray) (hn : l.length ≤ 1048576) (hi : i < l.length) (ho : out.length ≤ 4 * l.length) (hV : 0 ≤ V ∧ V < 16777216)
  (h : Ev (fun k => pergolaref01_Base64.l0 k l (out ++ quad V (l.length - i)) ((i + 3 : Nat) : Int)) r) : Ev (fun k => pergolaref01_Base64.j2 k l out (i : Int) V) r := by
 have hw1 : wrap64 ((i : Int) + 1) = ((i + 1 : Nat) : Int) := by unfold wrap64; omega
 have hw2 : wrap64 ((i : Int) + 2) = ((i + 2 : Nat) : Int) := by unfold wrap64; omega
 have hw3 : wrap64 ((i : Int) + 3) = ((i + 3 : Nat) : Int) := by unfold wrap64; omega
 have a1 := b64_and (V / 4096) (by omega) (by omega)
 have a2 := b64_and (V / 64) (by omega) (by omega)
 have a3 := b64_and V (by omega) (by omega)
 refine Ev.step (fun k => ?_) h
 rw [pergolaref01_Base64.j2, a1, a2, a3, hw1, hw2, hw3, if_pos (by omega), if_pos (by omega), if_pos (by omega), if_pos (by omega), Option.bind_some, if_pos (by simp; omega), Option.bind_some]
 by_cases h2 : i + 1 < l.length
 ·rw [if_pos (by omega), if_pos (by omega), if_pos (by omega), if_pos (by simp; omega), Option.bind_some]
  by_cases h3 : i + 2 < l.length
  ·rw [if_pos (by omega), if_pos (by omega), if_pos (by omega), if_pos (by simp; omega)]
   unfold quad
   rw [if_pos (by omega), if_pos (by omega)]
   simp only [List.append_assoc, List.cons_append, List.nil_append]
   rfl
  ·rw [if_neg (by omega), if_pos (by simp; omega)]
   unfold quad
   rw [if_pos (by omega), if_neg (by omega)]
   simp only [List.append_assoc, List.cons_append, List.nil_append]
   rfl
 ·rw [if_neg (by omega), if_pos (by simp; omega), Option.bind_some, if_neg (by omega), if_pos (by simp; omega)]
  unfold quad
  rw [if_neg (by omega), if_neg (by omega)]
  simp only [List.append_assoc, List.cons_append, List.nil_append]
  rfl
def at3 (l : List Int) (i : Nat) : Int := l.getD i 0 * 65536 + l.getD (i + 1) 0 * 256 + l.getD (i + 2) 0
theorem rb64_round (l out : List Int) (i : Nat) (r : ByteArray) (hl : Bytes l) (hn : l.length ≤ 1048576) (hi : i < l.length) (ho : out.length ≤ 4 * l.length)
  (h : Ev (fun k => pergolaref01_Base64.l0 k l (out ++ quad (at3 l i) (l.length - i)) ((i + 3 : Nat) : Int)) r) : Ev (fun k => pergolaref01_Base64.l0 k l out (i : Int)) r := by
 have hw1 : wrap64 ((i : Int) + 1) = ((i + 1 : Nat) : Int) := by unfold wrap64; omega
 have hw2 : wrap64 ((i : Int) + 2) = ((i + 2 : Nat) : Int) := by unfold wrap64; omega
 have rd0 : ∀ j : Nat, rd l (j : Int) = l.getD j 0 := fun j => by unfold rd; rw [Int.toNat_natCast]
 have hx := hl.at_ i
 have hy := hl.at_ (i + 1)
 have hz := hl.at_ (i + 2)
 have y0 : ¬ i + 1 < l.length → l.getD (i + 1) 0 = 0 := fun h => by rw [List.getD_eq_getElem?_getD, List.getElem?_eq_none (by omega)]; rfl
 have z0 : ¬ i + 2 < l.length → l.getD (i + 2) 0 = 0 := fun h => by rw [List.getD_eq_getElem?_getD, List.getElem?_eq_none (by omega)]; rfl
 have rx := rd0 i
 have ry := rd0 (i + 1)
 have rz := rd0 (i + 2)
 unfold at3 at h
 generalize l.getD i 0 = x at hx h rx
 generalize l.getD (i + 1) 0 = y at hy h ry y0
 generalize l.getD (i + 2) 0 = z at hz h rz z0
 have o3 := b64_or x y z ⟨hx.1, by omega⟩ ⟨hy.1, by omega⟩ ⟨hz.1, by omega⟩
 have o2 := or_two x y ⟨hx.1, by omega⟩ ⟨hy.1, by omega⟩
 have ux : IntKind.u64.wrap (IntKind.u64.wrap x * 65536) = x * 65536 := by rw [wu64, wu64]; omega
 have uy : IntKind.u64.wrap (IntKind.u64.wrap y * 256) = y * 256 := by rw [wu64, wu64]; omega
 have uz : IntKind.u64.wrap z = z := by rw [wu64]; omega
 have hV : 0 ≤ x * 65536 + y * 256 + z ∧ x * 65536 + y * 256 + z < 16777216 := by omega
 have j2 := rb64_j2 l out i (x * 65536 + y * 256 + z) r hn hi ho hV h
 by_cases h1 : i + 1 < l.length
 ·refine Ev.step (f := fun k => pergolaref01_Base64.j1 k l out (i : Int) (Go.bits .or .u64 (x * 65536) (y * 256))) (fun k => ?_) ?_
  ·rw [pergolaref01_Base64.l0, if_pos (by omega), if_pos (by omega), hw1, if_pos (by omega), if_pos (by omega), rx, ry, ux, uy]
  ·by_cases h2 : i + 2 < l.length
   ·refine Ev.step (fun k => ?_) j2
    rw [pergolaref01_Base64.j1, hw2, if_pos (by omega), if_pos (by omega), rz, uz, o3]
   ·refine Ev.step (fun k => ?_) j2
    rw [pergolaref01_Base64.j1, hw2, if_neg (by omega), o2, z0 h2, Int.add_zero]
 ·refine Ev.step (f := fun k => pergolaref01_Base64.j1 k l out (i : Int) (x * 65536)) (fun k => ?_) (Ev.step (fun k => ?_) j2)
  ·rw [pergolaref01_Base64.l0, if_pos (by omega), if_pos (by omega), hw1, if_neg (by omega), rx, ux]
  ·rw [pergolaref01_Base64.j1, hw2, if_neg (by omega), y0 h1, z0 (by omega)]
   congr 1
   omega
theorem b64L_quad (l : List Int) (hl : Bytes l) (h : 0 < l.length) : b64L l = quad (at3 l 0) l.length ++ b64L (l.drop 3) := by
 match l, hl, h with
 | [a], hl, _ =>
  have ha := hl.head
  have e : a * 65536 / 262144 % 64 = a * 65536 / 262144 := by omega
  simp [b64L, quad, at3, e]
 | [a, b], hl, _ =>
  have ha := hl.head
  have hb := hl.tail.head
  have e : (a * 65536 + b * 256) / 262144 % 64 = (a * 65536 + b * 256) / 262144 := by omega
  simp [b64L, quad, at3, e]
 | a :: b :: c :: t, hl, _ =>
  have ha := hl.head
  have hb := hl.tail.head
  have hc := hl.tail.tail.head
  have e : (a * 65536 + b * 256 + c) / 262144 % 64 = (a * 65536 + b * 256 + c) / 262144 := by omega
  simp [b64L, quad, at3, e]
theorem rb64_l0 (l : List Int) (hl : Bytes l) (hn : l.length ≤ 1048576) (n : Nat) : ∀ (i : Nat) (out : List Int), l.length ≤ i + n → out.length ≤ 4 * i → out.length ≤ 4 * l.length → 
  Ev (fun k => pergolaref01_Base64.l0 k l out (i : Int)) (strOfNums (out ++ b64L (l.drop i))) := by
 induction n with
 | zero =>
  intro i out hi ho ho2
  refine Ev.step (f := fun _ => some (strOfNums (out ++ b64L (l.drop i)))) (fun k => ?_) (Ev.now _)
  rw [pergolaref01_Base64.l0, if_neg (by omega), List.drop_of_length_le (by omega)]
  simp [b64L]
 | succ n ih =>
  intro i out hi ho ho2
  by_cases h : i < l.length
  ·have hd : 0 < (l.drop i).length := by rw [List.length_drop]; omega
   have hq := b64L_quad (l.drop i) (hl.drop i) hd
   have hat : at3 (l.drop i) 0 = at3 l i := by
    unfold at3
    simp only [List.getD_eq_getElem?_getD, List.getElem?_drop]
    rfl
   rw [hat, List.length_drop, List.drop_drop] at hq
   rw [hq, ← List.append_assoc]
   refine rb64_round l out i _ hl (by omega) h (by omega) ?_
   by_cases h3 : i + 3 ≤ l.length
   ·exact ih (i + 3) _ (by omega) (by simp [quad]; omega) (by simp [quad]; omega)
   ·refine Ev.step (f := fun _ => some (strOfNums ((out ++ quad (at3 l i) (l.length - i)) ++ b64L (l.drop (i + 3))))) (fun k => ?_) (Ev.now _)
    rw [pergolaref01_Base64.l0, if_neg (by omega), List.drop_of_length_le (by omega)]
    simp [b64L]
  ·refine Ev.step (f := fun _ => some (strOfNums (out ++ b64L (l.drop i)))) (fun k => ?_) (Ev.now _)
   rw [pergolaref01_Base64.l0, if_neg (by omega), List.drop_of_length_le (by omega)]
   simp [b64L]
theorem rb64_f (l : List Int) (hl : Bytes l) (hn : l.length ≤ 1048576) : Ev (fun k => pergolaref01_Base64.f k l) (strOfNums (b64L l)) := by
 have h := rb64_l0 l hl hn l.length 0 [] (by omega) (by simp) (by simp)
 rw [List.drop_zero, List.nil_append] at h
 exact h
end Go.Proofs.YtkbmbancfbfddaaGreatDoor.Pure
namespace Go.Proofs.YtkbmbancfbfddaaGreatDoor.Pure
open Go.RowKit Go.Proofs.YtkbmbancfbfddaaGreatDoor.X Go.Proofs.YtkbmbancfbfddaaGreatDoorW.PrintWords Go.Proofs.YtkbmbancfbfddaaGreatDoorW.PrintLast Go.Proofs.YtkbmbancfbfddaaGreatDoorW.PrintMore
set_option linter.unusedVariables false

theorem dig_byte (d : Nat) (h : d < 10) : wrap64 (48 + (d : Int)) % 256 = ((48 + d : Nat) : Int) := by unfold wrap64; omega
theorem one_dig (d : Nat) (h : d < 10) : strOfNums [wrap64 (48 + (d : Int)) % 256] = ⟨[UInt8.ofNat (48 + d)].toArray⟩ := by
 rw [dig_byte d h]
 unfold strOfNums
 rw [List.map_cons, List.map_nil, Int.toNat_natCast]
theorem rdec_nat : ∀ (k u : Nat), u < 10 ^ (k + 1) → k ≤ 17 → (Lib.decDigits u).length ≤ k + 1 ∧ Ev (fun k => pergolaref09_Dec.f k (u : Int)) ⟨(Lib.decDigits u).toArray⟩ := by
 intro k
 induction k with
 | zero =>
  intro u h _
  have hu : u < 10 := h
  have hd : Lib.decDigits u = [UInt8.ofNat (48 + u)] := by rw [Lib.decDigits, dif_pos hu]
  rw [hd]
  refine ⟨Nat.le_refl _, Ev.step (f := fun _ => some (strOfNums [wrap64 (48 + (u : Int)) % 256])) (fun k => ?_) ?_⟩
  ·rw [pergolaref09_Dec.f, if_neg (by omega), if_pos (by omega)]
  ·rw [one_dig u hu]
   exact Ev.now _
 | succ k ih =>
  intro u h hk
  by_cases hu : u < 10
  ·have hd : Lib.decDigits u = [UInt8.ofNat (48 + u)] := by rw [Lib.decDigits, dif_pos hu]
   rw [hd]
   refine ⟨by simp, Ev.step (f := fun _ => some (strOfNums [wrap64 (48 + (u : Int)) % 256])) (fun k => ?_) ?_⟩
   ·rw [pergolaref09_Dec.f, if_neg (by omega), if_pos (by omega)]
   ·rw [one_dig u hu]
    exact Ev.now _
  ·have hp : (10 : Nat) ^ (k + 1 + 1) ≤ 10 ^ 19 := Nat.pow_le_pow_right (by decide) (by omega)
   have hp2 : (10 : Nat) ^ 19 = 10000000000000000000 := by decide
   have hpk : (10 : Nat) ^ (k + 1 + 1) = 10 ^ (k + 1) * 10 := Nat.pow_succ ..
   have hp3 : (10 : Nat) ^ (k + 1) ≤ 10 ^ 18 := Nat.pow_le_pow_right (by decide) (by omega)
   have hp4 : (10 : Nat) ^ 18 = 1000000000000000000 := by decide
   obtain ⟨hl, hev⟩ := ih (u / 10) (by omega) (by omega)
   rw [dec_step hu]
   refine ⟨by rw [List.length_append]; simp only [List.length_cons, List.length_nil]; omega, ?_⟩
   have hd : Int.tdiv (u : Int) 10 = ((u / 10 : Nat) : Int) := by rw [Int.tdiv_eq_ediv_of_nonneg (by omega)]; omega
   have hm : Int.tmod (u : Int) 10 = ((u % 10 : Nat) : Int) := by rw [Int.tmod_eq_emod_of_nonneg (by omega)]; omega
   have hw : wrap64 ((u / 10 : Nat) : Int) = ((u / 10 : Nat) : Int) := by unfold wrap64; omega
   refine Ev.step (f := fun k => (pergolaref09_Dec.f k ((u / 10 : Nat) : Int)).bind fun t236 => (if t236.size + (strOfNums [wrap64 (48 + ((u % 10 : Nat) : Int)) % 256]).size ≤ 9223372036854775807 then (some (t236 ++ (strOfNums [wrap64 (48 + ((u % 10 : Nat) : Int)) % 256]))) else (none))) (fun k => ?_) (Ev.bind hev ?_)
   ·rw [pergolaref09_Dec.f, if_neg (by omega), if_neg (by omega), hd, hm, hw]
    rfl
   ·rw [one_dig (u % 10) (by omega)]
    have hs1 : (⟨(Lib.decDigits (u / 10)).toArray⟩ : ByteArray).size ≤ 19 := by
     show (Lib.decDigits (u / 10)).toArray.size ≤ 19
     rw [List.size_toArray]
     omega
    refine ev_pos (by show _ + 1 ≤ _; omega) ?_
    have he : (⟨(Lib.decDigits (u / 10)).toArray⟩ : ByteArray) ++ ⟨[UInt8.ofNat (48 + u % 10)].toArray⟩ = ⟨(Lib.decDigits (u / 10) ++ [UInt8.ofNat (48 + u % 10)]).toArray⟩ := by
     refine ByteArray.ext ?_
     rw [ByteArray.data_append]
     simp
    rw [he]
    exact Ev.now _
theorem rdec_f (n : Int) (hn : -999999999999999 ≤ n ∧ n ≤ 999999999999999) : Ev (fun k => pergolaref09_Dec.f k n) ⟨(Lib.itoa n).toArray⟩ := by
 unfold Lib.itoa
 by_cases h : n < 0
 ·rw [if_pos h]
  obtain ⟨hl, hev⟩ := rdec_nat 15 n.natAbs (by omega) (by omega)
  have hw : wrap64 (-n) = (n.natAbs : Int) := by unfold wrap64; omega
  refine Ev.step (f := fun k => (pergolaref09_Dec.f k (n.natAbs : Int)).bind fun t232 => (if 1 + t232.size ≤ 9223372036854775807 then (some ((⟨#[45]⟩ : ByteArray) ++ t232)) else (none))) (fun k => ?_) (Ev.bind hev ?_)
  ·rw [pergolaref09_Dec.f, if_pos h, hw]
  ·have hs1 : (⟨(Lib.decDigits n.natAbs).toArray⟩ : ByteArray).size ≤ 16 := by
    show (Lib.decDigits n.natAbs).toArray.size ≤ 16
    rw [List.size_toArray]
    omega
   refine ev_pos (by omega) ?_
   have he : (⟨#[45]⟩ : ByteArray) ++ ⟨(Lib.decDigits n.natAbs).toArray⟩ = ⟨(45 :: Lib.decDigits n.natAbs).toArray⟩ := by
    refine ByteArray.ext ?_
    rw [ByteArray.data_append]
    simp
   rw [he]
   exact Ev.now _
 ·rw [if_neg h]
  obtain ⟨hl, hev⟩ := rdec_nat 15 n.toNat (by omega) (by omega)
  rwa [show ((n.toNat : Nat) : Int) = n by omega] at hev
/-- What the loop over the noughts comes to. -/
def rdecO (k : Nat) (x3 : ByteArray) (q : Int) (x4 : ByteArray) : Option ByteArray := (pergolaref09_Dec.f k (wrap64 (Int.tdiv q 1000))).bind fun t => (if x3.size + t.size ≤ 9223372036854775807 then (if (x3 ++ t).size + 1 ≤ 9223372036854775807 then (if ((x3 ++ t) ++ (⟨#[46]⟩ : ByteArray)).size + x4.size ≤ 9223372036854775807 then (some (((x3 ++ t) ++ (⟨#[46]⟩ : ByteArray)) ++ x4)) else (none)) else (none)) else (none))
theorem rdl_stop {x0 : Int} {x3 x4 r : ByteArray} (h : ¬ ((x4.size : Int) > 1)) (hr : Ev (fun k => rdecO k x3 x0 x4) r) : Ev (fun k => pergolaref09_decimal.l0 k x0 x3 x4) r :=
 Ev.step (fun k => by rw [pergolaref09_decimal.l0, if_neg h]; rfl) hr
theorem rdl_keep {x0 : Int} {x3 x4 r : ByteArray} (h : (x4.size : Int) > 1) (hs : x4.size < 1000) (hb : bt x4 ((x4.size : Int) - 1) ≠ 48) (hr : Ev (fun k => rdecO k x3 x0 x4) r) : Ev (fun k => pergolaref09_decimal.l0 k x0 x3 x4) r := by
 have hw : wrap64 ((x4.size : Int) - 1) = (x4.size : Int) - 1 := by unfold wrap64; omega
 exact Ev.step (fun k => by rw [pergolaref09_decimal.l0, if_pos h, hw, if_pos (by omega), if_pos (by omega), if_neg hb]; rfl) hr
theorem rdl_cut {x0 : Int} {x3 x4 r : ByteArray} (h : (x4.size : Int) > 1) (hs : x4.size < 1000) (hb : bt x4 ((x4.size : Int) - 1) = 48) (hr : Ev (fun k => pergolaref09_decimal.l0 k x0 x3 (x4.extract 0 ((x4.size : Int) - 1).toNat)) r) : Ev (fun k => pergolaref09_decimal.l0 k x0 x3 x4) r := by
 have hw : wrap64 ((x4.size : Int) - 1) = (x4.size : Int) - 1 := by unfold wrap64; omega
 exact Ev.step (fun k => by rw [pergolaref09_decimal.l0, if_pos h, hw, if_pos (by omega), if_pos (by omega), if_pos hb, if_pos (by omega)]) hr
theorem rdl0 (x0 : Int) (x3 r : ByteArray) (q : Nat) (hq : q < 1000) (hr : Ev (fun k => rdecO k x3 x0 ⟨(cutz q).toArray⟩) r) : Ev (fun k => pergolaref09_decimal.l0 k x0 x3 ⟨(three q).toArray⟩) r := by
 obtain ⟨h2, h1, _⟩ := three_all ⟨q, hq⟩
 simp only at h1 h2
 have e3 : (⟨(three q).toArray⟩ : ByteArray).size = 3 := rfl
 have e2 : (⟨((three q).take 2).toArray⟩ : ByteArray).size = 2 := rfl
 have x2 : (⟨(three q).toArray⟩ : ByteArray).extract 0 (((⟨(three q).toArray⟩ : ByteArray).size : Int) - 1).toNat = ⟨((three q).take 2).toArray⟩ := rfl
 have x1 : (⟨((three q).take 2).toArray⟩ : ByteArray).extract 0 (((⟨((three q).take 2).toArray⟩ : ByteArray).size : Int) - 1).toNat = ⟨((three q).take 1).toArray⟩ := rfl
 unfold cutz at hr
 by_cases hc : q % 10 ≠ 0
 ·rw [if_pos hc] at hr
  exact rdl_keep (by rw [e3]; decide) (by rw [e3]; decide) (by rw [e3]; show bt _ 2 ≠ 48; rw [h2]; omega) hr
 ·rw [if_neg hc] at hr
  refine rdl_cut (by rw [e3]; decide) (by rw [e3]; decide) (by rw [e3]; show bt _ 2 = 48; rw [h2]; omega) ?_
  rw [x2]
  by_cases hd : q / 10 % 10 ≠ 0
  ·rw [if_pos hd] at hr
   exact rdl_keep (by rw [e2]; decide) (by rw [e2]; decide) (by rw [e2]; show bt _ 1 ≠ 48; rw [h1]; omega) hr
  ·rw [if_neg hd] at hr
   refine rdl_cut (by rw [e2]; decide) (by rw [e2]; decide) (by rw [e2]; show bt _ 1 = 48; rw [h1]; omega) ?_
   rw [x1]
   exact rdl_stop (by show ¬ (((1 : Nat) : Int) > 1); decide) hr
theorem three_str (r : Nat) (h : r < 1000) : strOfNums [wrap64 (48 + wrap64 (Int.tdiv (r : Int) 100)) % 256, wrap64 (48 + Int.tmod (wrap64 (Int.tdiv (r : Int) 10)) 10) % 256, wrap64 (48 + Int.tmod (r : Int) 10) % 256] = ⟨(three r).toArray⟩ := by
 have hd1 : Int.tdiv (r : Int) 100 = ((r / 100 : Nat) : Int) := by rw [Int.tdiv_eq_ediv_of_nonneg (by omega)]; omega
 have hd2 : Int.tdiv (r : Int) 10 = ((r / 10 : Nat) : Int) := by rw [Int.tdiv_eq_ediv_of_nonneg (by omega)]; omega
 have hw1 : wrap64 ((r / 100 : Nat) : Int) = ((r / 100 : Nat) : Int) := by unfold wrap64; omega
 have hw2 : wrap64 ((r / 10 : Nat) : Int) = ((r / 10 : Nat) : Int) := by unfold wrap64; omega
 have hm1 : Int.tmod ((r / 10 : Nat) : Int) 10 = ((r / 10 % 10 : Nat) : Int) := by rw [Int.tmod_eq_emod_of_nonneg (by omega)]; omega
 have hm2 : Int.tmod (r : Int) 10 = ((r % 10 : Nat) : Int) := by rw [Int.tmod_eq_emod_of_nonneg (by omega)]; omega
 rw [hd1, hd2, hw1, hw2, hm1, hm2]
 rw [dig_byte _ (by clear hd1 hd2 hw1 hw2 hm1 hm2; omega), dig_byte _ (by clear hd1 hd2 hw1 hw2 hm1 hm2; omega), dig_byte _ (by clear hd1 hd2 hw1 hw2 hm1 hm2; omega)]
 unfold strOfNums three
 rw [List.map_cons, List.map_cons, List.map_cons, List.map_nil, Int.toNat_natCast, Int.toNat_natCast, Int.toNat_natCast]
theorem rdj0 (u : Nat) (hu : u < 10 ^ 15) (x3 r : ByteArray) (hr : Ev (fun k => rdecO k x3 (u : Int) ⟨(cutz (u % 1000)).toArray⟩) r) : Ev (fun k => pergolaref09_decimal.j0 k (u : Int) x3) r := by
 have hm : Int.tmod (u : Int) 1000 = ((u % 1000 : Nat) : Int) := by rw [Int.tmod_eq_emod_of_nonneg (by omega)]; omega
 refine Ev.step (f := fun k => pergolaref09_decimal.l0 k (u : Int) x3 ⟨(three (u % 1000)).toArray⟩) (fun k => ?_) (rdl0 _ _ _ _ (by omega) hr)
 rw [pergolaref09_decimal.j0, hm, three_str _ (by omega)]
theorem rdecimal_f (n : Int) (hn : -999999999999999 ≤ n ∧ n ≤ 999999999999999) : Ev (fun k => pergolaref09_decimal.f k n) (decT n) := by
 have hO : ∀ x3 : ByteArray, x3.size ≤ 1 → Ev (fun k => rdecO k x3 (n.natAbs : Int) ⟨(cutz (n.natAbs % 1000)).toArray⟩) (((x3 ++ ⟨(Lib.itoa ((n.natAbs / 1000 : Nat) : Int)).toArray⟩) ++ ⟨#[46]⟩) ++ ⟨(cutz (n.natAbs % 1000)).toArray⟩) := by
  intro x3 h3
  have hd : Int.tdiv (n.natAbs : Int) 1000 = ((n.natAbs / 1000 : Nat) : Int) := by rw [Int.tdiv_eq_ediv_of_nonneg (by omega)]; omega
  have hw : wrap64 ((n.natAbs / 1000 : Nat) : Int) = ((n.natAbs / 1000 : Nat) : Int) := by unfold wrap64; omega
  unfold rdecO
  rw [hd, hw]
  refine Ev.bind (rdec_f _ (by omega)) ?_
  have hz := size_le (bytes_nat (n.natAbs / 1000))
  have hl := dd_len 14 (n.natAbs / 1000) (by omega)
  obtain ⟨_, _, _, _, hc, _⟩ := three_all ⟨n.natAbs % 1000, by omega⟩
  simp only at hc
  have hcz : (⟨(cutz (n.natAbs % 1000)).toArray⟩ : ByteArray).size ≤ 3 := by
   show (cutz (n.natAbs % 1000)).toArray.size ≤ 3
   rw [List.size_toArray]
   exact hc
  exact ev_pos (by omega) (ev_pos (by rw [ByteArray.size_append]; omega) (ev_pos (by rw [ByteArray.size_append, ByteArray.size_append, show (⟨#[46]⟩ : ByteArray).size = 1 from rfl]; omega) (Ev.now _)))
 unfold pergolaref09_decimal.f decT sgT
 by_cases h0 : n < 0
 ·have hw : wrap64 (-n) = (n.natAbs : Int) := by unfold wrap64; omega
  rw [if_pos h0, hw]
  exact ev_pos h0 (rdj0 n.natAbs (by omega) _ _ (hO _ (by decide)))
 ·rw [if_neg h0]
  refine ev_neg h0 ?_
  have := rdj0 n.natAbs (by omega) _ _ (hO ⟨#[]⟩ (by decide))
  rwa [show (n.natAbs : Int) = n by omega] at this
theorem disp_same (X : ByteArray) : (⟨#[37]⟩ : ByteArray) ++ (((⟨#[34]⟩ : ByteArray) ++ X) ++ ⟨#[34]⟩) = ((⟨#[37, 34]⟩ : ByteArray) ++ X) ++ ⟨#[34]⟩ := by
 refine ByteArray.ext (Array.toList_inj.1 ?_)
 simp only [ByteArray.data_append, Array.toList_append]
 rfl
theorem rprint_ok (a b : Int) (s : ByteArray) (hs : s.size ≤ 1048576) (h : CK a b s = 0) : Ev (fun k => pergolaref09_Print.f k a b s) (PT a b s, 0) := by
 refine Ev.bind (rcheck_f a b s (by omega)) ?_
 rw [h]
 refine ev_pos rfl ?_
 unfold PT
 by_cases h1 : a = 1
 ·rw [if_pos h1]
  obtain ⟨_, g1, g2, _⟩ := CK_num h (by omega)
  exact ev_pos h1 (Ev.bind (rdec_f b ⟨g1, g2⟩) (Ev.now _))
 rw [if_neg h1]
 refine ev_neg h1 ?_
 by_cases h2 : a = 2
 ·rw [if_pos h2]
  obtain ⟨_, g1, g2, _⟩ := CK_num h (by omega)
  exact ev_pos h2 (Ev.bind (rdecimal_f b ⟨g1, g2⟩) (Ev.now _))
 rw [if_neg h2]
 refine ev_neg h2 ?_
 by_cases h5 : a = 5
 ·simp only [if_neg (show ¬ a = 3 by omega), if_pos h5]
  refine (Ev.bind (rb64_f (bytesOf s) (Bytes.of s) (by rw [bytesOf_length]; exact hs)) ?_)
  have hl := b64L_len (bytesOf s).length (bytesOf s) (Nat.le_refl _)
  rw [bytesOf_length] at hl
  exact ev_pos ⟨by omega, by rw [strOfNums_size]; omega⟩ (Ev.now _)
 refine ev_neg h5 ?_
 by_cases h6 : a = 6
 ·simp only [if_neg (show ¬ a = 3 by omega), if_neg h5, if_neg (show ¬ a = 8 by omega), if_pos h6]
  obtain ⟨_, g1, g2, _⟩ := CK_num h (by omega)
  have := itoa_short b ⟨g1, g2⟩
  exact Ev.bind (rdec_f b ⟨g1, g2⟩) (ev_pos (by show 1 + _ ≤ _; omega) (Ev.now _))
 refine ev_neg h6 ?_
 by_cases h7 : a = 7
 ·simp only [if_neg (show ¬ a = 3 by omega), if_neg h5, if_neg (show ¬ a = 8 by omega), if_neg h6, if_pos h7]
  obtain ⟨_, g1, g2, _⟩ := CK_num h (by omega)
  have := itoa_short b ⟨g1, g2⟩
  exact Ev.bind (rdec_f b ⟨g1, g2⟩) (ev_pos (by show 1 + _ ≤ _; omega) (Ev.now _))
 refine ev_neg h7 ?_
 have hk : 1 ≤ a ∧ a ≤ 8 := by
  unfold CK at h
  by_cases hk : a < 1 ∨ a > 8
  ·rw [if_pos hk] at h; cases h
  ·omega
 have ha : a = 4 ∨ a = 3 ∨ a = 8 := by omega
 rcases ha with rfl | rfl | rfl
 ·exact Ev.now _
 ·exact ev_neg (by decide) (ev_pos rfl (ev_pos (by omega) (Ev.now _)))
 ·refine ev_neg (by decide) (ev_neg (by decide) (ev_pos rfl (ev_pos (by omega) ?_)))
  rw [disp_same]
  exact Ev.now _
theorem rprint_bad (a b : Int) (s : ByteArray) (hs : s.size ≤ 1048576) (h : CK a b s ≠ 0) : Ev (fun k => pergolaref09_Print.f k a b s) (⟨#[]⟩, CK a b s) := by
 refine Ev.bind (rcheck_f a b s (by omega)) ?_
 exact ev_neg h (Ev.now _)
end Go.Proofs.YtkbmbancfbfddaaGreatDoor.Pure
namespace Go.Proofs.YtkbmbancfbfddaaGreatDoor.Pure
open Go.RowKit Go.Proofs.YtkbmbancfbfddaaGreatDoor.X Go.Proofs.YtkbmbancfbfddaaGreatDoorW.PrintWords Go.Proofs.YtkbmbancfbfddaaGreatDoorW.PrintLast Go.Proofs.YtkbmbancfbfddaaGreatDoorW.PrintMore

theorem num_f (e : Int) : pergolalaw09_num.f e = some e := rfl
theorem alive_ev : Ev (fun k => pergolalaw09_alive.f k) true := Ev.of (fun k => pergolalaw09_alive.mono k) alive_20
theorem num_ev {β : Type} (e : Int) {g : Nat → Int → Option β} {r : β} (h : Ev (fun k => g k e) r) : Ev (fun k => (pergolalaw09_num.f e).bind (g k)) r := Ev.congr (fun k => by rw [num_f, Option.bind_some]) h
theorem both_print (a b : Int) (s : ByteArray) (hs : s.size ≤ 1048576) : ∃ r, Ev (fun k => bare_Print.f k a b s) r ∧ Ev (fun k => pergolaref09_Print.f k a b s) r := by
 by_cases h : CK a b s = 0
 ·exact ⟨_, print_ok a b s (by omega) h, rprint_ok a b s hs h⟩
 ·exact ⟨_, print_bad a b s (by omega) h, rprint_bad a b s hs h⟩
def TH (c a b : Int) : Int × Int := if c = 0 then (if a = 1 then (wrap64 (1000 * b), 0) else if a = 2 then (b, 0) else (0, 162)) else (0, c)
theorem th_ev (c a b : Int) : Ev (fun _ => if c = 0 then (if a = 1 then (some (wrap64 (1000 * b), 0)) else (if a = 2 then (some (b, 0)) else (some ((0 : Int), (162 : Int))))) else (some (0, c))) (TH c a b) := by
 unfold TH
 refine Ev.congr (fun k => ?_ : ∀ k : Nat, _ = some (if c = 0 then (if a = 1 then (wrap64 (1000 * b), (0 : Int)) else if a = 2 then (b, 0) else (0, 162)) else (0, c))) (Ev.now _)
 repeat' split
 all_goals rfl
theorem BarePrintsU (a0 a1 : Int) (a2 s : ByteArray) (ha : a2.size ≤ 1048576) (hs : s.size ≤ 1048576) : ∃ k, pergolalaw09_BarePrints.f k a0 a1 a2 s = some true := by
 refine Ev.rounds ?_
 unfold pergolalaw09_BarePrints.f
 obtain ⟨r, h1, h2⟩ := both_print a0 a1 a2 ha
 refine Ev.bind h1 (Ev.bind h2 ?_)
 have h3 : Ev (fun k => bare_Thousandths.f k a0 a1 a2) (TH (CK a0 a1 a2) a0 a1) := Ev.bind (check_f a0 a1 a2 (by omega)) (th_ev _ _ _)
 have h4 : Ev (fun k => pergolaref09_Thousandths.f k a0 a1 a2) (TH (CK a0 a1 a2) a0 a1) := Ev.bind (rcheck_f a0 a1 a2 (by omega)) (th_ev _ _ _)
 refine Ev.bind h3 (Ev.bind h4 (Ev.bind (check_f a0 a1 a2 (by omega)) (num_ev _ (Ev.bind (rcheck_f a0 a1 a2 (by omega)) ?_))))
 refine ev_pos rfl (ev_pos rfl (num_ev _ (ev_pos rfl (ev_pos rfl (num_ev _ (ev_pos rfl ?_))))))
 refine Ev.bind (iskey_f s (by omega)) (Ev.bind (riskey_f s (by omega)) (ev_pos (by simp) ?_))
 refine Ev.bind (istok_f s (by omega)) (Ev.bind (ristok_f s (by omega)) (ev_pos (by simp) ?_))
 exact Ev.bind alive_ev (Ev.now _)
end Go.Proofs.YtkbmbancfbfddaaGreatDoor.Pure
