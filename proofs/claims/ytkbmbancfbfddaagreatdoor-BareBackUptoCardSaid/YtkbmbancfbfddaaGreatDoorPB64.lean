/- What octets.Base64 and octets.Unbase64 compute, on lists of bytes. -/
import Derived.Test.YtkbmbancfbfddaaGreatDoorPBase
import Derived.Test.YtkbmbancfbfddaaGreatDoorX4
import Derived.Test.YtkbmbancfbfddaaGreatDoorX5
namespace Go.Proofs.YtkbmbancfbfddaaGreatDoor.Pure
open Go.RowKit Go.Proofs.YtkbmbancfbfddaaGreatDoor.X Go.Proofs.YtkbmbancfbfddaaGreatDoorW.PrintWords Go.Proofs.YtkbmbancfbfddaaGreatDoorW.PrintLast Go.Proofs.YtkbmbancfbfddaaGreatDoorW.PrintMore

def b64d (q : Int) : Int := bt b64base q
def b64L : List Int → List Int
 | [] => []
 | [a] => [b64d (a * 65536 / 262144 % 64), b64d (a * 65536 / 4096 % 64), 61, 61]
 | [a, b] => [b64d ((a * 65536 + b * 256) / 262144 % 64), b64d ((a * 65536 + b * 256) / 4096 % 64), b64d ((a * 65536 + b * 256) / 64 % 64), 61]
 | a :: b :: c :: t => b64d ((a * 65536 + b * 256 + c) / 262144 % 64) :: b64d ((a * 65536 + b * 256 + c) / 4096 % 64) :: b64d ((a * 65536 + b * 256 + c) / 64 % 64) :: b64d ((a * 65536 + b * 256 + c) % 64) :: b64L t
theorem isByte_mk {x : Int} (h : 0 ≤ x ∧ x < 256) : isByte x = true := by simp [isByte]; omega
theorem base64_l0 (n : Nat) : ∀ (b out : List Int), b.length ≤ n → Bytes b → out.length + 4 * n < 140737488355328 - 4 → Ev (fun k => octets_Base64.l0 k b out) (strOfNums (out ++ b64L b)) := by
 induction n using Nat.strongRecOn with
 | _ n ih =>
  intro b out hn hb ho
  match b, hn, hb with
  | [], _, _ =>
   refine Ev.step (f := fun _ => some (strOfNums (out ++ b64L []))) (fun k => ?_) (Ev.now _)
   simp only [octets_Base64.l0]
   rw [if_neg (by simp), b64L, List.append_nil]
  | [a], hn, hb =>
   have h1 := ih 0 (by simp at hn; omega) [] (out ++ b64four [a]) (by simp) Bytes.nil (by simp [b64four] at *; omega)
   refine Ev.step (f := fun k => octets_Base64.l0 k [] (out ++ b64four [a])) (fun k => ?_) ?_
   ·simp only [octets_Base64.l0]
    have e : (isByte ([a].getD 0 0) && isByte ([a].getD 1 0) && isByte ([a].getD 2 0)) = true := by
     have := isByte_mk hb.head
     simp [this, isByte_mk (x := 0) (by omega)]
    rw [if_pos (by simp), if_pos e, if_pos (by simp at hn; omega)]
    rfl
   ·have e : b64four [a] = b64L [a] := by simp [b64four, b64L, b64v, b64dig, b64d]
    rw [e] at h1 ⊢
    simpa [b64L] using h1
  | [a, c], hn, hb =>
   have h1 := ih 0 (by simp at hn; omega) [] (out ++ b64four [a, c]) (by simp) Bytes.nil (by simp [b64four] at *; omega)
   refine Ev.step (f := fun k => octets_Base64.l0 k [] (out ++ b64four [a, c])) (fun k => ?_) ?_
   ·simp only [octets_Base64.l0]
    have e : (isByte ([a, c].getD 0 0) && isByte ([a, c].getD 1 0) && isByte ([a, c].getD 2 0)) = true := by
     have := isByte_mk hb.head
     have := isByte_mk hb.tail.head
     simp [*, isByte_mk (x := 0) (by omega)]
    rw [if_pos (by simp), if_pos e, if_pos (by simp at hn; omega)]
    rfl
   ·have e : b64four [a, c] = b64L [a, c] := by simp [b64four, b64L, b64v, b64dig, b64d]
    rw [e] at h1 ⊢
    simpa [b64L] using h1
  | a :: c :: d :: t, hn, hb =>
   have hlen : t.length + 3 ≤ n := by simpa using hn
   have h1 := ih (n - 3) (by omega) t (out ++ b64four (a :: c :: d :: t)) (by omega) hb.tail.tail.tail (by simp [b64four]; omega)
   have hmin : min 3 (a :: c :: d :: t).length = 3 := by simp
   refine Ev.step (f := fun k => octets_Base64.l0 k t (out ++ b64four (a :: c :: d :: t))) (fun k => ?_) ?_
   ·simp only [octets_Base64.l0]
    have e : (isByte ((a :: c :: d :: t).getD 0 0) && isByte ((a :: c :: d :: t).getD 1 0) && isByte ((a :: c :: d :: t).getD 2 0)) = true := by
     have := isByte_mk hb.head
     have := isByte_mk hb.tail.head
     have := isByte_mk hb.tail.tail.head
     simp [*]
    rw [if_pos (by simp), if_pos e, if_pos (by omega), hmin]
    rfl
   ·have e : b64four (a :: c :: d :: t) = [b64d ((a * 65536 + c * 256 + d) / 262144 % 64), b64d ((a * 65536 + c * 256 + d) / 4096 % 64), b64d ((a * 65536 + c * 256 + d) / 64 % 64), b64d ((a * 65536 + c * 256 + d) % 64)] := by
     have hm : min (a :: c :: d :: t).length 3 = 3 := by simp
     unfold b64four b64dig b64v b64d
     rw [hm]
     simp
    rw [e] at h1 ⊢
    simpa [b64L] using h1
theorem base64_f (b : List Int) (hb : Bytes b) (hn : b.length ≤ 17592186044416) : Ev (fun k => octets_Base64.f k b) (strOfNums (b64L b)) := by
 have := base64_l0 b.length b [] (Nat.le_refl _) hb (by simp; omega)
 exact this

/-! The digits -/
def v64 (c : Int) : Int := Lib.indexByte b64base.data.toList c.toNat.toUInt8
theorem v64_f (c : Int) : strings_IndexByte.f (⟨#[65, 66, 67, 68, 69, 70, 71, 72, 73, 74, 75, 76, 77, 78, 79, 80, 81, 82, 83, 84, 85, 86, 87, 88, 89, 90, 97, 98, 99, 100, 101, 102, 103, 104, 105, 106, 107, 108, 109, 110, 111, 112, 113, 114, 115, 116, 117, 118, 119, 120, 121, 122, 48, 49, 50, 51, 52, 53, 54, 55, 56, 57, 43, 47]⟩ : ByteArray) c = some (v64 c) := rfl
def V64Facts (c : Int) : Prop := (v64 c = -1 ∨ (0 ≤ v64 c ∧ v64 c < 64 ∧ b64d (v64 c) = c)) ∧ (c = 61 → v64 c = -1)
instance (c : Int) : Decidable (V64Facts c) := by unfold V64Facts; infer_instance
theorem v64_facts {c : Int} (h : 0 ≤ c ∧ c < 256) : V64Facts c := byte_all (p := V64Facts) (by decide +kernel) h
theorem v64_b64d {q : Int} (h : 0 ≤ q ∧ q < 64) : v64 (b64d q) = q := by
 have : ∀ i : Fin 64, v64 (b64d (i.val : Int)) = (i.val : Int) := by decide +kernel
 obtain ⟨n, rfl⟩ := Int.eq_ofNat_of_zero_le h.1
 exact this ⟨n, by omega⟩
theorem b64d_byte (q : Int) : 0 ≤ b64d q ∧ b64d q < 256 := by have := bt_range b64base q; unfold b64d; omega

/-! The first loop: where the digits end -/
def scan (len : Nat) : List Int → Nat → Nat → Nat × Option Nat
 | [], _, n => (n, none)
 | c :: t, i, n => if c = 61 ∧ len ≤ i + 2 then scan len t (i + 1) (min n i) else if 0 ≤ v64 c then (if n < len then (n, some i) else scan len t (i + 1) n) else (n, some i)
def ubTail (cs : List Int) (n : Nat) : Bool := (decide (n < cs.length) && decide (cs.length % 4 ≠ 0)) || (decide (n = cs.length) && decide (n % 4 = 1))

/-! The second loop: six bits a digit -/
def unStep (h : Nat) (r t : Int) : List Int × Int × Nat := if h = 0 then ([], t, 6) else if h = 6 then ([(r * 64 + t) / 16], (r * 64 + t) % 16, 4) else if h = 4 then ([(r * 64 + t) / 4], (r * 64 + t) % 4, 2) else ([r * 64 + t], 0, 0)
def un64 : List Int → Int → Nat → List Int → List Int × Int × Nat
 | [], r, h, out => (out, r, h)
 | v :: t, r, h, out => un64 t (unStep h r v).2.1 (unStep h r v).2.2 (out ++ (unStep h r v).1)
def ubEnd (n : Nat) (u : List Int × Int × Nat) : List Int × Int × Int := if u.2.1 = 0 then (u.1, 0, 0) else ([], 12, (n : Int) - 1)
def ub (cs : List Int) : List Int × Int × Int :=
 match scan cs.length cs 0 cs.length with
 | (_, some i) => ([], 11, (i : Int))
 | (n, none) => if ubTail cs n = true then ([], 12, (cs.length : Int)) else ubEnd n (un64 ((cs.take n).map v64) 0 0 [])
/-- The machine's bits, and what is kept of them. -/
structure Keeps (B r : Int) (h : Nat) : Prop where
 lo : 0 ≤ B
 hi : B < 18446744073709551616
 form : (h = 0 ∧ r = 0) ∨ (h = 2 ∧ B % 4 = r) ∨ (h = 4 ∧ B % 16 = r) ∨ (h = 6 ∧ B % 64 = r)
theorem or6 {x t : Int} (hx : 0 ≤ x ∧ x < 18446744073709551616) (hd : x % 64 = 0) (ht : 0 ≤ t ∧ t < 64) : Go.bits .or .u64 x t = x + t := by
 obtain ⟨x, rfl⟩ := Int.eq_ofNat_of_zero_le hx.1
 obtain ⟨t, rfl⟩ := Int.eq_ofNat_of_zero_le ht.1
 have h1 := u64_or_nat x t (by omega) (by omega)
 rw [h1]
 have := Nat.shiftLeft_add_eq_or_of_lt (show t < 2 ^ 6 by omega) (x / 64)
 rw [Nat.shiftLeft_eq, show x / 64 * 2 ^ 6 = x by omega] at this
 omega
theorem wu64 (x : Int) : IntKind.u64.wrap x = x % 18446744073709551616 := by simp [IntKind.wrap, IntKind.signed, IntKind.bits]
theorem and_mask (B : Int) (hB : 0 ≤ B ∧ B < 18446744073709551616) : Go.bits .and .u64 B 0 = 0 ∧ Go.bits .and .u64 B 3 = B % 4 ∧ Go.bits .and .u64 B 15 = B % 16 ∧ Go.bits .and .u64 B 63 = B % 64 := by
 obtain ⟨B, rfl⟩ := Int.eq_ofNat_of_zero_le hB.1
 have h0 := u64_and_nat B 0 (by omega) (by omega)
 have h1 := u64_and_nat B 3 (by omega) (by omega)
 have h2 := u64_and_nat B 15 (by omega) (by omega)
 have h3 := u64_and_nat B 63 (by omega) (by omega)
 rw [Nat.and_zero] at h0
 rw [show B &&& 3 = B % 4 from Nat.and_two_pow_sub_one_eq_mod B 2] at h1
 rw [show B &&& 15 = B % 16 from Nat.and_two_pow_sub_one_eq_mod B 4] at h2
 rw [show B &&& 63 = B % 64 from Nat.and_two_pow_sub_one_eq_mod B 6] at h3
 exact ⟨h0, h1, h2, h3⟩
theorem ub_step (s : ByteArray) (n j h : Nat) (out : List Int) (B C c t : Int) (hj : j < n) (hn : n ≤ s.size) (hs : s.size ≤ 140737488355328) (hbt : bt s (j : Int) = c) (hidx : strings_IndexByte.f (⟨#[65, 66, 67, 68, 69, 70, 71, 72, 73, 74, 75, 76, 77, 78, 79, 80, 81, 82, 83, 84, 85, 86, 87, 88, 89, 90, 97, 98, 99, 100, 101, 102, 103, 104, 105, 106, 107, 108, 109, 110, 111, 112, 113, 114, 115, 116, 117, 118, 119, 120, 121, 122, 48, 49, 50, 51, 52, 53, 54, 55, 56, 57, 43, 47]⟩ : ByteArray) c = some t)
  (hB : Go.bits .or .u64 (IntKind.u64.wrap (B * 64)) (IntKind.u64.wrap t) = C) (k : Nat) : octets_Unbase64.l1 (k + 1) s (n : Int) out B (h : Int) (n : Int) (j : Int) = (if (wrap64 ((h : Int) + 6)) ≥ 8 then (if 0 ≤ (wrap64 ((wrap64 ((h : Int) + 6)) - 8)) then (if out.length < 140737488355328 then (octets_Unbase64.l1 k s (n : Int) (out ++ [(shr .u64 C (wrap64 ((wrap64 ((h : Int) + 6)) - 8))) % 256]) C (wrap64 ((wrap64 ((h : Int) + 6)) - 8)) (n : Int) ((j + 1 : Nat) : Int)) else (none)) else (none)) else (octets_Unbase64.l1 k s (n : Int) out C (wrap64 ((h : Int) + 6)) (n : Int) ((j + 1 : Nat) : Int))) := by
 have hw : wrap64 ((j : Int) + 1) = ((j + 1 : Nat) : Int) := by unfold wrap64; omega
 have j1 : (j : Int) < (n : Int) := by omega
 have j2 : (0 : Int) ≤ (j : Int) := by omega
 have j3 : (j : Int) < (s.size : Int) := by omega
 rw [octets_Unbase64.l1]
 rw [if_pos j1, if_pos j2, if_pos j3, hbt, hidx, Option.bind_some]
 rw [hB, hw]
theorem ub_round (s : ByteArray) (n : Nat) (hn : n ≤ s.size) (hs : s.size ≤ 140737488355328) (j : Nat) (out : List Int) (B r c t : Int) (h : Nat) (hj : j < n) (ho : out.length ≤ j) (hk : Keeps B r h) (ht : 0 ≤ t ∧ t < 64) (hbt : bt s (j : Int) = c)
  (hidx : strings_IndexByte.f (⟨#[65, 66, 67, 68, 69, 70, 71, 72, 73, 74, 75, 76, 77, 78, 79, 80, 81, 82, 83, 84, 85, 86, 87, 88, 89, 90, 97, 98, 99, 100, 101, 102, 103, 104, 105, 106, 107, 108, 109, 110, 111, 112, 113, 114, 115, 116, 117, 118, 119, 120, 121, 122, 48, 49, 50, 51, 52, 53, 54, 55, 56, 57, 43, 47]⟩ : ByteArray) c = some t) (res : List Int × Int × Int)
  (ih : ∀ (B2 : Int), Keeps B2 (unStep h r t).2.1 (unStep h r t).2.2 → Ev (fun k => octets_Unbase64.l1 k s (n : Int) (out ++ (unStep h r t).1) B2 ((unStep h r t).2.2 : Int) (n : Int) ((j + 1 : Nat) : Int)) res) :
  Ev (fun k => octets_Unbase64.l1 k s (n : Int) out B (h : Int) (n : Int) (j : Int)) res := by
 have hw : wrap64 ((j : Int) + 1) = ((j + 1 : Nat) : Int) := by unfold wrap64; omega
 have hlo := hk.lo
 have hhi := hk.hi
 have hB : Go.bits .or .u64 (IntKind.u64.wrap (B * 64)) (IntKind.u64.wrap t) = B * 64 % 18446744073709551616 + t := by
  rw [wu64, wu64, Int.emod_eq_of_lt ht.1 (by omega)]
  exact or6 (by omega) (by omega) ht
 generalize hC : B * 64 % 18446744073709551616 + t = C at *
 have hC0 : 0 ≤ C ∧ C < 18446744073709551616 := by omega
 have hstep := ub_step s n j h out B C c t hj hn hs hbt hidx hB
 clear hidx hbt
 rcases hk.form with ⟨rfl, h2⟩ | ⟨rfl, h2⟩ | ⟨rfl, h2⟩ | ⟨rfl, h2⟩
 ·refine Ev.step (f := fun k => octets_Unbase64.l1 k s (n : Int) out C ((6 : Nat) : Int) (n : Int) ((j + 1 : Nat) : Int)) (fun k => ?_) ?_
  ·rw [hstep k, show wrap64 (((0 : Nat) : Int) + 6) = ((6 : Nat) : Int) from by decide +kernel, if_neg (by omega)]
  ·have := ih C ⟨hC0.1, hC0.2, by right; right; right; exact ⟨rfl, by simp [unStep]; omega⟩⟩
   simpa [unStep] using this
 ·refine Ev.step (f := fun k => octets_Unbase64.l1 k s (n : Int) (out ++ [r * 64 + t]) C ((0 : Nat) : Int) (n : Int) ((j + 1 : Nat) : Int)) (fun k => ?_) ?_
  ·rw [hstep k, show wrap64 (((2 : Nat) : Int) + 6) = 8 from by decide +kernel, if_pos (by omega), show wrap64 (8 - 8) = ((0 : Nat) : Int) from by decide +kernel, if_pos (by omega), if_pos (by omega)]
   have : shr .u64 C ((0 : Nat) : Int) % 256 = r * 64 + t := by
    unfold shr
    simp
    omega
   rw [this]
  ·have := ih C ⟨hC0.1, hC0.2, .inl ⟨rfl, rfl⟩⟩
   simpa [unStep] using this
 ·refine Ev.step (f := fun k => octets_Unbase64.l1 k s (n : Int) (out ++ [(r * 64 + t) / 4]) C ((2 : Nat) : Int) (n : Int) ((j + 1 : Nat) : Int)) (fun k => ?_) ?_
  ·rw [hstep k, show wrap64 (((4 : Nat) : Int) + 6) = 10 from by decide +kernel, if_pos (by omega), show wrap64 (10 - 8) = ((2 : Nat) : Int) from by decide +kernel, if_pos (by omega), if_pos (by omega)]
   have : shr .u64 C ((2 : Nat) : Int) % 256 = (r * 64 + t) / 4 := by
    unfold shr
    rw [Int.toNat_natCast, Nat.min_eq_left (by decide), show ((2 : Int) ^ 2) = 4 from rfl]
    omega
   rw [this]
  ·have := ih C ⟨hC0.1, hC0.2, .inr (.inl ⟨rfl, by simp [unStep]; omega⟩)⟩
   simpa [unStep] using this
 ·refine Ev.step (f := fun k => octets_Unbase64.l1 k s (n : Int) (out ++ [(r * 64 + t) / 16]) C ((4 : Nat) : Int) (n : Int) ((j + 1 : Nat) : Int)) (fun k => ?_) ?_
  ·rw [hstep k, show wrap64 (((6 : Nat) : Int) + 6) = 12 from by decide +kernel, if_pos (by omega), show wrap64 (12 - 8) = ((4 : Nat) : Int) from by decide +kernel, if_pos (by omega), if_pos (by omega)]
   have : shr .u64 C ((4 : Nat) : Int) % 256 = (r * 64 + t) / 16 := by
    unfold shr
    rw [Int.toNat_natCast, Nat.min_eq_left (by decide), show ((2 : Int) ^ 4) = 16 from rfl]
    omega
   rw [this]
  ·have := ih C ⟨hC0.1, hC0.2, .inr (.inr (.inl ⟨rfl, by simp [unStep]; omega⟩))⟩
   simpa [unStep] using this
theorem unStep_len (h : Nat) (r t : Int) : (unStep h r t).1.length ≤ 1 := by
 unfold unStep
 repeat' split
 all_goals simp
theorem ub_l1_end (s : ByteArray) (n : Nat) (hs : n ≤ 140737488355328) (out : List Int) (B r : Int) (h : Nat) (hk : Keeps B r h) : Ev (fun k => octets_Unbase64.l1 k s (n : Int) out B (h : Int) (n : Int) (n : Int)) (ubEnd n (out, r, h)) := by
 obtain ⟨m0, m2, m4, m6⟩ := and_mask B ⟨hk.lo, hk.hi⟩
 have hw : wrap64 ((n : Int) - 1) = (n : Int) - 1 := by unfold wrap64; omega
 have hstep : ∀ k, octets_Unbase64.l1 (k + 1) s (n : Int) out B (h : Int) (n : Int) (n : Int) = if r = 0 then some (out, 0, 0) else some ([], 12, (n : Int) - 1) := by
  intro k
  simp only [octets_Unbase64.l1]
  rw [if_neg (by omega), if_pos (by omega), hw]
  rcases hk.form with ⟨rfl, h2⟩ | ⟨rfl, h2⟩ | ⟨rfl, h2⟩ | ⟨rfl, h2⟩
  ·rw [show IntKind.u64.wrap (shl .u64 1 ((0 : Nat) : Int) - 1) = 0 from by decide +kernel, m0, h2]
  ·rw [show IntKind.u64.wrap (shl .u64 1 ((2 : Nat) : Int) - 1) = 3 from by decide +kernel, m2, h2]
  ·rw [show IntKind.u64.wrap (shl .u64 1 ((4 : Nat) : Int) - 1) = 15 from by decide +kernel, m4, h2]
  ·rw [show IntKind.u64.wrap (shl .u64 1 ((6 : Nat) : Int) - 1) = 63 from by decide +kernel, m6, h2]
 unfold ubEnd
 by_cases hr : r = 0
 ·rw [if_pos hr]
  exact Ev.step (f := fun _ => some (out, 0, 0)) (fun k => by rw [hstep k, if_pos hr]) (Ev.now _)
 ·rw [if_neg hr]
  exact Ev.step (f := fun _ => some ([], 12, (n : Int) - 1)) (fun k => by rw [hstep k, if_neg hr]) (Ev.now _)
theorem ub_l1 (s : ByteArray) (n : Nat) (hn : n ≤ s.size) (hs : s.size ≤ 140737488355328) (hv : ∀ j, j < n → 0 ≤ v64 ((bytesOf s).getD j 0) ∧ v64 ((bytesOf s).getD j 0) < 64) (d : Nat) : ∀ (j : Nat) (out : List Int) (B r : Int) (h : Nat), j + d = n → out.length ≤ j → Keeps B r h →
  Ev (fun k => octets_Unbase64.l1 k s (n : Int) out B (h : Int) (n : Int) (j : Int)) (ubEnd n (un64 ((((bytesOf s).take n).drop j).map v64) r h out)) := by
 have hlen := bytesOf_length s
 have htl : ((bytesOf s).take n).length = n := by rw [List.length_take]; omega
 induction d with
 | zero =>
  intro j out B r h hj ho hk
  obtain rfl : j = n := by omega
  rw [List.drop_of_length_le (by omega), List.map_nil]
  exact ub_l1_end s j (by omega) out B r h hk
 | succ d ih =>
  intro j out B r h hj ho hk
  have hdrop : ((bytesOf s).take n).drop j = (bytesOf s).getD j 0 :: ((bytesOf s).take n).drop (j + 1) := by
   rw [getD_drop (show j < ((bytesOf s).take n).length by omega)]
   congr 1
   rw [List.getD_eq_getElem?_getD, List.getElem?_take, if_pos (by omega), List.getD_eq_getElem?_getD]
  rw [hdrop, List.map_cons]
  have hl := unStep_len h r (v64 ((bytesOf s).getD j 0))
  exact ub_round s n hn hs j out B r _ _ h (by omega) ho hk (hv j (by omega)) (bt_at' s j) (v64_f _) _ (fun B2 hk2 => ih (j + 1) _ B2 _ _ (by omega) (by rw [List.length_append]; omega) hk2)
theorem scan_round (s : ByteArray) (hs : s.size ≤ 140737488355328) (i n : Nat) (hi : i < s.size) (hn : n ≤ s.size) (c t : Int) (hbt : bt s (i : Int) = c) (res : List Int × Int × Int)
  (hidx : strings_IndexByte.f (⟨#[65, 66, 67, 68, 69, 70, 71, 72, 73, 74, 75, 76, 77, 78, 79, 80, 81, 82, 83, 84, 85, 86, 87, 88, 89, 90, 97, 98, 99, 100, 101, 102, 103, 104, 105, 106, 107, 108, 109, 110, 111, 112, 113, 114, 115, 116, 117, 118, 119, 120, 121, 122, 48, 49, 50, 51, 52, 53, 54, 55, 56, 57, 43, 47]⟩ : ByteArray) c = some t)
  (h1 : c = 61 ∧ s.size ≤ i + 2 → Ev (fun k => octets_Unbase64.l0 k s ((min n i : Nat) : Int) (s.size : Int) ((i + 1 : Nat) : Int)) res)
  (h2 : ¬ (c = 61 ∧ s.size ≤ i + 2) → 0 ≤ t → ¬ n < s.size → Ev (fun k => octets_Unbase64.l0 k s (n : Int) (s.size : Int) ((i + 1 : Nat) : Int)) res)
  (h3 : ¬ (c = 61 ∧ s.size ≤ i + 2) → (¬ 0 ≤ t ∨ n < s.size) → res = ([], 11, (i : Int))) : Ev (fun k => octets_Unbase64.l0 k s (n : Int) (s.size : Int) (i : Int)) res := by
 have hw : wrap64 ((i : Int) + 1) = ((i + 1 : Nat) : Int) := by unfold wrap64; omega
 have hw2 : wrap64 ((s.size : Int) - 2) = (s.size : Int) - 2 := by unfold wrap64; omega
 have hstep : ∀ k, octets_Unbase64.l0 (k + 1) s (n : Int) (s.size : Int) (i : Int) = octets_Unbase64.j1 k s (n : Int) (i : Int) (decide (t ≥ 0)) (s.size : Int) (i : Int) (decide (c = 61 ∧ s.size ≤ i + 2)) := by
  intro k
  simp only [octets_Unbase64.l0]
  rw [if_pos (by omega), if_pos (by omega), if_pos (by omega), hbt, hidx, hw2, Option.bind_some]
  by_cases hc : c = 61
  ·rw [if_pos hc]
   congr 1
   simp [hc]
   omega
  ·rw [if_neg hc]
   congr 1
   simp [hc]
 by_cases hc : c = 61 ∧ s.size ≤ i + 2
 ·refine Ev.step (hstep) (Ev.step (f := fun k => octets_Unbase64.l0 k s ((min n i : Nat) : Int) (s.size : Int) ((i + 1 : Nat) : Int)) (fun k => ?_) (h1 hc))
  simp only [octets_Unbase64.j1]
  rw [if_pos (by simp [hc]), hw]
  congr 1
  unfold mn
  split <;> omega
 ·by_cases hbad : ¬ 0 ≤ t ∨ n < s.size
  ·rw [h3 hc hbad]
   refine Ev.step (hstep) (Ev.step (f := fun _ => some ([], 11, (i : Int))) (fun k => ?_) (Ev.now _))
   simp only [octets_Unbase64.j1]
   rw [if_neg (by simpa using hc)]
   by_cases ht : 0 ≤ t
   ·rw [if_pos (by simpa using ht), if_pos (by omega)]
   ·rw [if_neg (by simpa using ht)]
  ·refine Ev.step (hstep) (Ev.step (f := fun k => octets_Unbase64.l0 k s (n : Int) (s.size : Int) ((i + 1 : Nat) : Int)) (fun k => ?_) (h2 hc (by omega) (by omega)))
   simp only [octets_Unbase64.j1]
   rw [if_neg (by simpa using hc), if_pos (by simp; omega), if_neg (by omega), hw]
def ubRest (cs : List Int) (p : Nat × Option Nat) : List Int × Int × Int :=
 match p with
 | (_, some i) => ([], 11, (i : Int))
 | (n, none) => if ubTail cs n = true then ([], 12, (cs.length : Int)) else ubEnd n (un64 ((cs.take n).map v64) 0 0 [])
theorem ub_rest (cs : List Int) : ub cs = ubRest cs (scan cs.length cs 0 cs.length) := rfl
/-- What the first loop has seen: digits up to n. -/
theorem unbase64_l0 (s : ByteArray) (hs : s.size ≤ 140737488355328) (d : Nat) : ∀ (i n : Nat), i + d = s.size → n ≤ s.size → (n < s.size → n ≤ i) → (∀ j, j < n → j < i → 0 ≤ v64 ((bytesOf s).getD j 0) ∧ v64 ((bytesOf s).getD j 0) < 64) →
  Ev (fun k => octets_Unbase64.l0 k s (n : Int) (s.size : Int) (i : Int)) (ubRest (bytesOf s) (scan s.size ((bytesOf s).drop i) i n)) := by
 have hlen := bytesOf_length s
 induction d with
 | zero =>
  intro i n hi hn hni hv
  obtain rfl : i = s.size := by omega
  rw [List.drop_of_length_le (by omega)]
  simp only [scan, ubRest]
  have htail : ubTail (bytesOf s) n = ((decide (n < s.size) && decide (s.size % 4 ≠ 0)) || (decide (n = s.size) && decide (n % 4 = 1))) := by unfold ubTail; rw [hlen]
  rw [hlen]
  have tail : ∀ b : Bool, b = ((decide (n < s.size) && decide (s.size % 4 ≠ 0)) || (decide (n = s.size) && decide (n % 4 = 1))) → Ev (fun k => octets_Unbase64.j2 k s (n : Int) b) (if ubTail (bytesOf s) n = true then ([], 12, (s.size : Int)) else ubEnd n (un64 (((bytesOf s).take n).map v64) 0 0 [])) := by
   intro b hb
   rw [htail, ← hb]
   cases b with
   | true =>
    rw [if_pos rfl]
    refine Ev.step (f := fun _ => some ([], 12, (s.size : Int))) (fun k => ?_) (Ev.now _)
    simp only [octets_Unbase64.j2]
    rw [if_pos trivial]
   | false =>
    rw [if_neg (by simp)]
    have h1 := ub_l1 s n hn hs (fun j hj => hv j hj (by omega)) n 0 [] 0 0 0 (by omega) (by simp) ⟨by omega, by omega, .inl ⟨rfl, rfl⟩⟩
    rw [List.drop_zero] at h1
    refine Ev.step (f := fun k => octets_Unbase64.l1 k s (n : Int) [] 0 ((0 : Nat) : Int) (n : Int) ((0 : Nat) : Int)) (fun k => ?_) h1
    simp only [octets_Unbase64.j2]
    rw [if_neg (by simp)]
    rfl
  have htm : Int.tmod (n : Int) 4 = ((n % 4 : Nat) : Int) := rfl
  refine Ev.step (f := fun k => octets_Unbase64.j2 k s (n : Int) ((decide (n < s.size) && decide (s.size % 4 ≠ 0)) || (decide (n = s.size) && decide (n % 4 = 1)))) (fun k => ?_) (tail _ rfl)
  simp only [octets_Unbase64.l0]
  rw [if_neg (by omega), htm]
  have hbeq : ((((n % 4 : Nat) : Int) == 1) : Bool) = decide (n % 4 = 1) := by
   by_cases h : n % 4 = 1
   ·simp [h]
   ·have : ¬ ((n % 4 : Nat) : Int) = 1 := by omega
    simp [h]
    omega
  by_cases h1 : n < s.size
  ·rw [if_pos (by omega)]
   by_cases h2 : s.size % 4 = 0
   ·rw [if_pos (by omega), if_neg (by omega)]
    congr 1
    simp [h2]
    omega
   ·rw [if_neg (by omega)]
    congr 1
    simp [h1, h2]
  ·obtain rfl : n = s.size := by omega
   rw [if_neg (by omega), if_pos rfl, hbeq]
   congr 1
   simp
 | succ d ih =>
  intro i n hi hn hni hv
  have hb := (Bytes.of s).at_ i
  have hf := v64_facts hb
  have hdr := getD_drop (l := bytesOf s) (show i < (bytesOf s).length by omega)
  rw [hdr]
  simp only [scan]
  refine scan_round s hs i n (by omega) hn _ _ (bt_at' s i) _ (v64_f _) (fun hc => ?_) (fun hc ht hns => ?_) (fun hc hbad => ?_)
  ·rw [if_pos hc]
   exact ih (i + 1) (min n i) (by omega) (by omega) (fun _ => by omega) (fun j hj _ => hv j (by omega) (by omega))
  ·rw [if_neg hc, if_pos ht, if_neg hns]
   refine ih (i + 1) n (by omega) hn (fun h => absurd h hns) (fun j hj hj2 => ?_)
   rcases Nat.lt_or_ge j i with h | h
   ·exact hv j hj h
   ·obtain rfl : j = i := by omega
    unfold V64Facts at hf
    exact ⟨ht, by omega⟩
  ·rw [if_neg hc]
   by_cases ht : 0 ≤ v64 ((bytesOf s).getD i 0)
   ·rw [if_pos ht, if_pos (by omega)]
    rfl
   ·rw [if_neg ht]
    rfl
theorem unbase64_f (s : ByteArray) (hs : s.size ≤ 140737488355328) : Ev (fun k => octets_Unbase64.f k s) (ub (bytesOf s)) := by
 have h := unbase64_l0 s hs s.size 0 s.size (by omega) (Nat.le_refl _) (fun h => by omega) (fun j _ hj => by omega)
 rw [List.drop_zero] at h
 rw [ub_rest, bytesOf_length]
 exact h
end Go.Proofs.YtkbmbancfbfddaaGreatDoor.Pure
