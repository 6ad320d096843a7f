/- What octets.Unhex computes, on lists of bytes. (Carved out of XPHex.) -/
import Derived.Test.YtkbmbancfbfddaaGreatDoorPBase
import Derived.Test.YtkbmbancfbfddaaGreatDoorX6
namespace Go.Proofs.YtkbmbancfbfddaaGreatDoor.Pure
open Go.RowKit Go.Proofs.YtkbmbancfbfddaaGreatDoor.X Go.Proofs.YtkbmbancfbfddaaGreatDoorW.PrintWords Go.Proofs.YtkbmbancfbfddaaGreatDoorW.PrintLast Go.Proofs.YtkbmbancfbfddaaGreatDoorW.PrintMore

def hexDig : ByteArray := ⟨#[48, 49, 50, 51, 52, 53, 54, 55, 56, 57, 97, 98, 99, 100, 101, 102]⟩
/-- The place of a digit. -/
def hexIdx (c : Int) : Int := Lib.indexByte hexDig.data.toList (Go.bits .or .u8 c 32).toNat.toUInt8
theorem hexIdx_f (c : Int) : strings_IndexByte.f (⟨#[48, 49, 50, 51, 52, 53, 54, 55, 56, 57, 97, 98, 99, 100, 101, 102]⟩ : ByteArray) (Go.bits .or .u8 c 32) = some (hexIdx c) := rfl
/-- A digit's number; -1: it is none. -/
def nib (c : Int) : Int := if hexIdx c < 0 then -1 else
 if hexIdx c < 10 then (if (c != bt hexDig (hexIdx c)) = true then -1 else hexIdx c) else
 hexIdx c
/-- What is known of a byte as a digit. -/
def NibFacts (c : Int) : Prop := (nib c = -1 ∨ (0 ≤ nib c ∧ nib c < 16)) ∧ hexIdx c < 16 ∧ -1 ≤ hexIdx c
instance (c : Int) : Decidable (NibFacts c) := by unfold NibFacts; infer_instance
theorem nib_facts {c : Int} (h : 0 ≤ c ∧ c < 256) : NibFacts c := byte_all (p := NibFacts) (by decide +kernel) h
/-- The reading, from a place on. -/
def unGo : List Int → Nat → List Int → List Int × Int × Int
 | [], i, out => if i % 2 = 1 then ([], 3, (i : Int)) else (out, 0, 0)
 | c :: cs, i, out => if nib c < 0 then ([], 11, (i : Int)) else if i % 2 = 0 then unGo cs (i + 1) (out ++ [nib c * 16]) else unGo cs (i + 1) (out.set (i / 2) (Go.bits .or .u8 (out.getD (i / 2) 0) (nib c)))
theorem unhex_round (s : ByteArray) (hn : s.size ≤ 140737488355328) (out : List Int) (i : Nat) (c q N : Int) (hi : i < s.size) (ho : out.length = (i + 1) / 2) (hbt : bt s (i : Int) = c) (hf : (q = -1 ∨ (0 ≤ q ∧ q < 16)) ∧ N < 16 ∧ -1 ≤ N)
  (hidx : strings_IndexByte.f (⟨#[48, 49, 50, 51, 52, 53, 54, 55, 56, 57, 97, 98, 99, 100, 101, 102]⟩ : ByteArray) (Go.bits .or .u8 c 32) = some N) (hnib : q = if N < 0 then -1 else if N < 10 then (if (c != bt hexDig N) = true then -1 else N) else N)
  (ih : ∀ o : List Int, o.length = (i + 1 + 1) / 2 → Ev (fun k => octets_Unhex.l0 k s o (s.size : Int) ((i + 1 : Nat) : Int)) (unGo ((bytesOf s).drop (i + 1)) (i + 1) o)) :
  Ev (fun k => octets_Unhex.l0 k s out (s.size : Int) (i : Int)) (if q < 0 then ([], 11, (i : Int)) else if i % 2 = 0 then unGo ((bytesOf s).drop (i + 1)) (i + 1) (out ++ [q * 16]) else unGo ((bytesOf s).drop (i + 1)) (i + 1) (out.set (i / 2) (Go.bits .or .u8 (out.getD (i / 2) 0) q))) := by
 obtain ⟨hf1, hf2, hf3⟩ := hf
 have hw : wrap64 ((i : Int) + 1) = ((i + 1 : Nat) : Int) := by unfold wrap64; omega
 have htd : wrap64 (Int.tdiv (i : Int) 2) = ((i / 2 : Nat) : Int) := by
  rw [show Int.tdiv (i : Int) 2 = ((i / 2 : Nat) : Int) from rfl]
  unfold wrap64
  omega
 have htm : Int.tmod (i : Int) 2 = ((i % 2 : Nat) : Int) := rfl
 have good : 0 ≤ q → q = N → Ev (fun k => octets_Unhex.j1 k s out (i : Int) N (s.size : Int) (i : Int) false) (if q < 0 then ([], 11, (i : Int)) else if i % 2 = 0 then unGo ((bytesOf s).drop (i + 1)) (i + 1) (out ++ [q * 16]) else unGo ((bytesOf s).drop (i + 1)) (i + 1) (out.set (i / 2) (Go.bits .or .u8 (out.getD (i / 2) 0) q))) := by
  intro h0 he
  subst he
  have h16 : q < 16 := by omega
  rw [if_neg (by omega)]
  by_cases hp : i % 2 = 0
  ·rw [if_pos hp]
   refine Ev.step (f := fun k => octets_Unhex.l0 k s (out ++ [q * 16]) (s.size : Int) ((i + 1 : Nat) : Int)) (fun k => ?_) (ih _ (by simp; omega))
   simp only [octets_Unhex.j1]
   rw [if_neg (by simp), if_pos (by omega), if_pos (by omega), hw, w64 (by omega) (by omega), Int.emod_eq_of_lt (by omega) (by omega)]
  ·rw [if_neg hp]
   refine Ev.step (f := fun k => octets_Unhex.l0 k s (out.set (i / 2) (Go.bits .or .u8 (out.getD (i / 2) 0) q)) (s.size : Int) ((i + 1 : Nat) : Int)) (fun k => ?_) (ih _ (by rw [List.length_set]; omega))
   simp only [octets_Unhex.j1]
   have hrd : rd out ((i / 2 : Nat) : Int) = out.getD (i / 2) 0 := by unfold rd; rw [Int.toNat_natCast]
   rw [if_neg (by simp), if_neg (by omega), htd, if_pos (by omega), if_pos (by omega), hw, hrd, Int.toNat_natCast, Int.emod_eq_of_lt h0 (by omega)]
 have bad : q < 0 → ∀ t, Ev (fun k => octets_Unhex.j1 k s out (i : Int) t (s.size : Int) (i : Int) true) (if q < 0 then ([], 11, (i : Int)) else if i % 2 = 0 then unGo ((bytesOf s).drop (i + 1)) (i + 1) (out ++ [q * 16]) else unGo ((bytesOf s).drop (i + 1)) (i + 1) (out.set (i / 2) (Go.bits .or .u8 (out.getD (i / 2) 0) q))) := by
  intro h0 t
  rw [if_pos h0]
  refine Ev.step (f := fun _ => some ([], 11, (i : Int))) (fun k => ?_) (Ev.now _)
  simp only [octets_Unhex.j1]
  rw [if_pos trivial]
 have hstep : ∀ k, octets_Unhex.l0 (k + 1) s out (s.size : Int) (i : Int) = if N < 0 then octets_Unhex.j1 k s out (i : Int) N (s.size : Int) (i : Int) true else (if N < 10 then octets_Unhex.j1 k s out (i : Int) N (s.size : Int) (i : Int) (c != bt hexDig N) else octets_Unhex.j1 k s out (i : Int) N (s.size : Int) (i : Int) false) := by
  intro k
  simp only [octets_Unhex.l0]
  rw [if_pos (by omega), if_pos (by omega), if_pos (by omega), hbt, hidx, Option.bind_some]
  by_cases h1 : N < 0
  ·rw [if_pos h1, if_pos h1]
  ·rw [if_neg h1, if_neg h1]
   by_cases h2 : N < 10
   ·rw [if_pos h2, if_pos h2, if_pos (by omega), if_pos (by omega)]
    rfl
   ·rw [if_neg h2, if_neg h2]
 by_cases h1 : N < 0
 ·rw [if_pos h1] at hnib
  exact Ev.step (f := fun k => octets_Unhex.j1 k s out (i : Int) N (s.size : Int) (i : Int) true) (fun k => by rw [hstep k, if_pos h1]) (bad (by omega) N)
 ·rw [if_neg h1] at hnib
  by_cases h2 : N < 10
  ·rw [if_pos h2] at hnib
   cases hq : (c != bt hexDig N) with
   | true =>
    rw [hq, if_pos rfl] at hnib
    exact Ev.step (f := fun k => octets_Unhex.j1 k s out (i : Int) N (s.size : Int) (i : Int) true) (fun k => by rw [hstep k, if_neg h1, if_pos h2, hq]) (bad (by omega) N)
   | false =>
    rw [hq, if_neg (by simp)] at hnib
    exact Ev.step (f := fun k => octets_Unhex.j1 k s out (i : Int) N (s.size : Int) (i : Int) false) (fun k => by rw [hstep k, if_neg h1, if_pos h2, hq]) (good (by omega) hnib)
  ·rw [if_neg h2] at hnib
   exact Ev.step (f := fun k => octets_Unhex.j1 k s out (i : Int) N (s.size : Int) (i : Int) false) (fun k => by rw [hstep k, if_neg h1, if_neg h2]) (good (by omega) hnib)
theorem unhex_l0 (s : ByteArray) (hn : s.size ≤ 140737488355328) (d : Nat) : ∀ (i : Nat) (out : List Int), i + d = s.size → out.length = (i + 1) / 2 →
  Ev (fun k => octets_Unhex.l0 k s out (s.size : Int) (i : Int)) (unGo ((bytesOf s).drop i) i out) := by
 have hlen := bytesOf_length s
 induction d with
 | zero =>
  intro i out hi ho
  obtain rfl : i = s.size := by omega
  refine Ev.step (f := fun _ => some (unGo [] s.size out)) (fun k => ?_) (by rw [List.drop_of_length_le (by omega)]; exact Ev.now _)
  simp only [octets_Unhex.l0, unGo]
  rw [if_neg (by omega)]
  by_cases hp : s.size % 2 = 1
  ·rw [if_pos (by omega), if_pos hp]
  ·rw [if_neg (by omega), if_neg hp]
 | succ d ih =>
  intro i out hi ho
  have hb := (Bytes.of s).at_ i
  have hbt := bt_at' s i
  generalize hcd : (bytesOf s).getD i 0 = c at hb hbt
  rw [getD_drop (show i < (bytesOf s).length by omega), hcd]
  have hf := nib_facts hb
  have hun : unGo (c :: (bytesOf s).drop (i + 1)) i out = if nib c < 0 then ([], 11, (i : Int)) else if i % 2 = 0 then unGo ((bytesOf s).drop (i + 1)) (i + 1) (out ++ [nib c * 16]) else unGo ((bytesOf s).drop (i + 1)) (i + 1) (out.set (i / 2) (Go.bits .or .u8 (out.getD (i / 2) 0) (nib c))) := by rw [unGo]
  have hidx := hexIdx_f c
  have hnib : nib c = if hexIdx c < 0 then -1 else if hexIdx c < 10 then (if (c != bt hexDig (hexIdx c)) = true then -1 else hexIdx c) else hexIdx c := rfl
  unfold NibFacts at hf
  generalize nib c = q at *
  generalize hexIdx c = N at *
  rw [hun]
  exact unhex_round s hn out i c q N (by omega) ho hbt hf hidx hnib (fun o h => ih (i + 1) o (by omega) h)
theorem unhex_f (s : ByteArray) (hn : s.size ≤ 140737488355328) : Ev (fun k => octets_Unhex.f k s) (unGo (bytesOf s) 0 []) := by
 have := unhex_l0 s hn s.size 0 [] (by omega) rfl
 rw [List.drop_zero] at this
 exact this
end Go.Proofs.YtkbmbancfbfddaaGreatDoor.Pure
