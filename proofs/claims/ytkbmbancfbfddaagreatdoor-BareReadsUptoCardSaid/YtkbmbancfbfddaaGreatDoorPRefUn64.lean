/- What the reference's Unbase64 computes, on lists of bytes: the same as octets' own. (Carved out of XPRefB64.) -/
import Derived.Test.YtkbmbancfbfddaaGreatDoorPUn64
import Derived.Test.YtkbmbancfbfddaaGreatDoorX9
namespace Go.Proofs.YtkbmbancfbfddaaGreatDoor.Pure
open Go.RowKit Go.Proofs.YtkbmbancfbfddaaGreatDoor.X Go.Proofs.YtkbmbancfbfddaaGreatDoorW.PrintWords Go.Proofs.YtkbmbancfbfddaaGreatDoorW.PrintLast Go.Proofs.YtkbmbancfbfddaaGreatDoorW.PrintMore

theorem value_mono (c : Int) : ∀ k, LeO (pergolaref01_value.f k c) (pergolaref01_value.f (k + 1) c) := pergolaref01_value.mono c
theorem value_f {c : Int} (h : 0 ≤ c ∧ c < 256) : Ev (fun k => pergolaref01_value.f k c) (v64 c) :=
 Ev.of (value_mono c) (k := 70) (byte_all (p := fun c => pergolaref01_value.f 70 c = some (v64 c)) (by decide +kernel) h)

/-! Unbase64: the first loop -/
def rscan (len : Nat) : List Int → Nat → Nat → Nat × Option Nat
 | [], _, p => (p, none)
 | c :: t, i, p => if c = 61 then (if i + 2 < len then (p, some i) else rscan len t (i + 1) (p + 1)) else if v64 c < 0 then (p, some i) else if 0 < p then (p, some i) else rscan len t (i + 1) p
theorem v64_61 : v64 61 = -1 := (v64_facts (c := 61) (by omega)).2 rfl
theorem scan_rscan (len : Nat) : ∀ (cs : List Int) (i p n : Nat), i + cs.length = len → (p = 0 ∧ n = len) ∨ (0 < p ∧ n + p = i ∧ len ≤ n + 2) →
  (scan len cs i n).2 = (rscan len cs i p).2 ∧ ((rscan len cs i p).2 = none → (scan len cs i n).1 + (rscan len cs i p).1 = len ∧ (rscan len cs i p).1 ≤ 2) := by
 intro cs
 induction cs with
 | nil =>
  intro i p n hi h
  simp only [scan, rscan]
  refine ⟨trivial, fun _ => ?_⟩
  simp at hi
  omega
 | cons c t ih =>
  intro i p n hi h
  simp at hi
  simp only [scan, rscan]
  by_cases hc : c = 61
  ·subst hc
   rw [if_pos rfl]
   by_cases h2 : i + 2 < len
   ·rw [if_pos h2, if_neg (by omega), v64_61, if_neg (by omega)]
    exact ⟨rfl, fun h => by cases h⟩
   ·rw [if_neg h2, if_pos ⟨rfl, by omega⟩]
    exact ih (i + 1) (p + 1) (min n i) (by omega) (by omega)
  ·rw [if_neg hc, if_neg (fun h => hc h.1)]
   by_cases hv : v64 c < 0
   ·rw [if_pos hv, if_neg (by omega)]
    exact ⟨rfl, fun h => by cases h⟩
   ·rw [if_neg hv, if_pos (by omega)]
    by_cases hp : 0 < p
    ·rw [if_pos hp, if_pos (by omega)]
     exact ⟨rfl, fun h => by cases h⟩
    ·rw [if_neg hp, if_neg (by omega)]
     exact ih (i + 1) p n (by omega) (by omega)
/-! the second loop -/
structure RKeeps (r : Int) (h : Nat) : Prop where
 form : (h = 0 ∧ r = 0) ∨ (h = 2 ∧ 0 ≤ r ∧ r < 4) ∨ (h = 4 ∧ 0 ≤ r ∧ r < 16) ∨ (h = 6 ∧ 0 ≤ r ∧ r < 64)
theorem rub_round (s : ByteArray) (n : Nat) (hn : n ≤ s.size) (hs : s.size ≤ 140737488355328) (j : Nat) (out : List Int) (r c t : Int) (h : Nat) (hj : j < n) (ho : out.length ≤ j) (hk : RKeeps r h) (hbt : bt s (j : Int) = c) (ht : 0 ≤ t ∧ t < 64) (hc : Ev (fun k => pergolaref01_value.f k c) t)
  (res : List Int × Int × Int) (hnext : Ev (fun k => pergolaref01_Unbase64.l1 k s (n : Int) (unStep h r t).2.1 ((unStep h r t).2.2 : Int) (out ++ (unStep h r t).1) ((j + 1 : Nat) : Int)) res) :
  Ev (fun k => pergolaref01_Unbase64.l1 k s (n : Int) r (h : Int) out (j : Int)) res := by
 have hw : wrap64 ((j : Int) + 1) = ((j + 1 : Nat) : Int) := by unfold wrap64; omega
 have hr : 0 ≤ r ∧ r < 64 := by have := hk.form; omega
 have u1 : IntKind.u64.wrap (r * 64) = r * 64 := by rw [wu64]; omega
 have u2 : IntKind.u64.wrap t = t := by rw [wu64]; omega
 have hor := or6 (x := r * 64) (t := t) ⟨by omega, by omega⟩ (by omega) ht
 obtain ⟨B, hB⟩ : ∃ B, B = r * 64 + t := ⟨_, rfl⟩
 rw [← hB] at hor
 have hm := and_mask B ⟨by omega, by omega⟩
 refine Ev.step (f := fun k => (pergolaref01_value.f k c).bind fun t167 => (if (wrap64 ((h : Int) + 6)) ≥ 8 then (if 0 ≤ (IntKind.u64.wrap (wrap64 ((wrap64 ((h : Int) + 6)) - 8))) then (if out.length < 140737488355328 then (pergolaref01_Unbase64.l1 k s (n : Int) (Go.bits .and .u64 (Go.bits .or .u64 (IntKind.u64.wrap (r * 64)) (IntKind.u64.wrap (t167))) (IntKind.u64.wrap ((shl .u64 1 (IntKind.u64.wrap (wrap64 ((wrap64 ((h : Int) + 6)) - 8)))) - 1))) (wrap64 ((wrap64 ((h : Int) + 6)) - 8)) (out ++ [(shr .u64 (Go.bits .or .u64 (IntKind.u64.wrap (r * 64)) (IntKind.u64.wrap (t167))) (IntKind.u64.wrap (wrap64 ((wrap64 ((h : Int) + 6)) - 8)))) % 256]) (wrap64 ((j : Int) + 1))) else (none)) else (none)) else (pergolaref01_Unbase64.l1 k s (n : Int) (Go.bits .or .u64 (IntKind.u64.wrap (r * 64)) (IntKind.u64.wrap (t167))) (wrap64 ((h : Int) + 6)) out (wrap64 ((j : Int) + 1))))) (fun k => ?_) (Ev.bind hc ?_)
 ·rw [pergolaref01_Unbase64.l1, if_pos (by omega), if_pos (by omega), if_pos (by omega), hbt]
 ·rw [u1, u2, hor, hw]
  rcases hk.form with ⟨rfl, rfl⟩ | ⟨rfl, h1⟩ | ⟨rfl, h1⟩ | ⟨rfl, h1⟩
  ·refine Ev.congr (fun k => ?_) hnext
   rw [if_neg (by decide +kernel), show wrap64 (((0 : Nat) : Int) + 6) = ((6 : Nat) : Int) by decide +kernel]
   simp only [unStep, if_true, List.append_nil]
   rw [hB, Int.zero_mul, Int.zero_add]
  ·refine Ev.congr (fun k => ?_) hnext
   rw [if_pos (by decide +kernel), if_pos (by decide +kernel), if_pos (by omega)]
   rw [show IntKind.u64.wrap (shl .u64 1 (IntKind.u64.wrap (wrap64 (wrap64 (((2 : Nat) : Int) + 6) - 8))) - 1) = 0 by decide +kernel, hm.1]
   rw [show IntKind.u64.wrap (wrap64 (wrap64 (((2 : Nat) : Int) + 6) - 8)) = 0 by decide +kernel, show wrap64 (wrap64 (((2 : Nat) : Int) + 6) - 8) = ((0 : Nat) : Int) by decide +kernel]
   rw [show shr .u64 B 0 = B by simp [shr]]
   rw [show B % 256 = r * 64 + t by omega]
   rfl
  ·refine Ev.congr (fun k => ?_) hnext
   rw [if_pos (by decide +kernel), if_pos (by decide +kernel), if_pos (by omega)]
   rw [show IntKind.u64.wrap (shl .u64 1 (IntKind.u64.wrap (wrap64 (wrap64 (((4 : Nat) : Int) + 6) - 8))) - 1) = 3 by decide +kernel, hm.2.1]
   rw [show IntKind.u64.wrap (wrap64 (wrap64 (((4 : Nat) : Int) + 6) - 8)) = 2 by decide +kernel, show wrap64 (wrap64 (((4 : Nat) : Int) + 6) - 8) = ((2 : Nat) : Int) by decide +kernel]
   rw [show shr .u64 B 2 = B / 4 from rfl]
   rw [show B / 4 % 256 = (r * 64 + t) / 4 by omega, hB]
   rfl
  ·refine Ev.congr (fun k => ?_) hnext
   rw [if_pos (by decide +kernel), if_pos (by decide +kernel), if_pos (by omega)]
   rw [show IntKind.u64.wrap (shl .u64 1 (IntKind.u64.wrap (wrap64 (wrap64 (((6 : Nat) : Int) + 6) - 8))) - 1) = 15 by decide +kernel, hm.2.2.1]
   rw [show IntKind.u64.wrap (wrap64 (wrap64 (((6 : Nat) : Int) + 6) - 8)) = 4 by decide +kernel, show wrap64 (wrap64 (((6 : Nat) : Int) + 6) - 8) = ((4 : Nat) : Int) by decide +kernel]
   rw [show shr .u64 B 4 = B / 16 from rfl]
   rw [show B / 16 % 256 = (r * 64 + t) / 16 by omega, hB]
   rfl
theorem unStep_keeps {h : Nat} {r t : Int} (hk : RKeeps r h) (ht : 0 ≤ t ∧ t < 64) : RKeeps (unStep h r t).2.1 (unStep h r t).2.2 := by
 rcases hk.form with ⟨rfl, rfl⟩ | ⟨rfl, h1⟩ | ⟨rfl, h1⟩ | ⟨rfl, h1⟩
 ·exact ⟨.inr (.inr (.inr ⟨rfl, ht.1, ht.2⟩))⟩
 ·exact ⟨.inl ⟨rfl, rfl⟩⟩
 ·exact ⟨.inr (.inl ⟨rfl, by show 0 ≤ (r * 64 + t) % 4; omega, by show (r * 64 + t) % 4 < 4; omega⟩)⟩
 ·exact ⟨.inr (.inr (.inl ⟨rfl, by show 0 ≤ (r * 64 + t) % 16; omega, by show (r * 64 + t) % 16 < 16; omega⟩))⟩
theorem rub_l1 (s : ByteArray) (n : Nat) (hn : n ≤ s.size) (hs : s.size ≤ 140737488355328) (hv : ∀ j, j < n → 0 ≤ v64 ((bytesOf s).getD j 0) ∧ v64 ((bytesOf s).getD j 0) < 64) (d : Nat) : ∀ (j : Nat) (out : List Int) (r : Int) (h : Nat), j + d = n → out.length ≤ j → RKeeps r h →
  Ev (fun k => pergolaref01_Unbase64.l1 k s (n : Int) r (h : Int) out (j : Int)) (ubEnd n (un64 ((((bytesOf s).take n).drop j).map v64) r h out)) := by
 have hlen := bytesOf_length s
 induction d with
 | zero =>
  intro j out r h hj ho hk
  rw [List.drop_of_length_le (by rw [List.length_take]; omega)]
  simp only [List.map_nil, un64, ubEnd]
  have hw : wrap64 ((n : Int) - 1) = (n : Int) - 1 := by unfold wrap64; omega
  by_cases hr : r = 0
  ·rw [if_pos hr]
   refine Ev.step (f := fun _ => some (out, 0, 0)) (fun k => ?_) (Ev.now _)
   rw [pergolaref01_Unbase64.l1, if_neg (by omega), if_pos hr]
  ·rw [if_neg hr]
   refine Ev.step (f := fun _ => some ([], 12, (n : Int) - 1)) (fun k => ?_) (Ev.now _)
   rw [pergolaref01_Unbase64.l1, if_neg (by omega), if_neg hr, hw]
 | succ d ih =>
  intro j out r h hj ho hk
  have hb := (Bytes.of s).at_ j
  have ht := hv j (by omega)
  have hg : ((bytesOf s).take n).getD j 0 = (bytesOf s).getD j 0 := by
   simp only [List.getD_eq_getElem?_getD, List.getElem?_take, if_pos (show j < n by omega)]
  rw [getD_drop (show j < ((bytesOf s).take n).length by rw [List.length_take]; omega), hg]
  simp only [List.map_cons, un64]
  refine rub_round s n hn hs j out r _ _ h (by omega) ho hk (bt_at' s j) ht (value_f hb) _ ?_
  exact ih (j + 1) _ _ _ (by omega) (by have := unStep_len h r (v64 ((bytesOf s).getD j 0)); rw [List.length_append]; omega) (unStep_keeps hk ht)
def rubRest (cs : List Int) (p : Nat × Option Nat) : List Int × Int × Int :=
 match p with
 | (_, some i) => ([], 11, (i : Int))
 | (p, none) => if (decide (0 < p ∧ cs.length % 4 ≠ 0) || decide ((cs.length - p) % 4 = 1)) = true then ([], 12, (cs.length : Int)) else ubEnd (cs.length - p) (un64 ((cs.take (cs.length - p)).map v64) 0 0 [])
theorem runb_l0 (s : ByteArray) (hs : s.size ≤ 140737488355328) (d : Nat) : ∀ (i p : Nat), i + d = s.size → p ≤ i → (∀ j, j + p < i → 0 ≤ v64 ((bytesOf s).getD j 0) ∧ v64 ((bytesOf s).getD j 0) < 64) →
  Ev (fun k => pergolaref01_Unbase64.l0 k s (p : Int) (i : Int)) (rubRest (bytesOf s) (rscan s.size ((bytesOf s).drop i) i p)) := by
 have hlen := bytesOf_length s
 induction d with
 | zero =>
  intro i p hi hp hv
  obtain rfl : i = s.size := by omega
  rw [List.drop_of_length_le (by omega)]
  simp only [rscan, rubRest]
  rw [hlen]
  have hw : wrap64 ((s.size : Int) - (p : Int)) = ((s.size - p : Nat) : Int) := by unfold wrap64; omega
  have htm : Int.tmod ((s.size - p : Nat) : Int) 4 = (((s.size - p) % 4 : Nat) : Int) := rfl
  have hbeq : (((((s.size - p) % 4 : Nat) : Int) == 1) : Bool) = decide ((s.size - p) % 4 = 1) := by
   by_cases h : (s.size - p) % 4 = 1
   ·simp [h]
   ·have : ¬ (((s.size - p) % 4 : Nat) : Int) = 1 := by omega
    rw [decide_eq_false h]
    exact beq_eq_false_iff_ne.2 this
  have tail : ∀ b : Bool, b = (decide (0 < p ∧ s.size % 4 ≠ 0) || decide ((s.size - p) % 4 = 1)) → Ev (fun k => pergolaref01_Unbase64.j1 k s ((s.size - p : Nat) : Int) b) (if (decide (0 < p ∧ s.size % 4 ≠ 0) || decide ((s.size - p) % 4 = 1)) = true then ([], 12, (s.size : Int)) else ubEnd (s.size - p) (un64 (((bytesOf s).take (s.size - p)).map v64) 0 0 [])) := by
   intro b hb
   rw [← hb]
   cases b with
   | true =>
    rw [if_pos rfl]
    refine Ev.step (f := fun _ => some ([], 12, (s.size : Int))) (fun k => ?_) (Ev.now _)
    rw [pergolaref01_Unbase64.j1, if_pos rfl]
   | false =>
    rw [if_neg (by simp)]
    have h1 := rub_l1 s (s.size - p) (by omega) hs (fun j hj => hv j (by omega)) (s.size - p) 0 [] 0 0 (by omega) (by simp) ⟨.inl ⟨rfl, rfl⟩⟩
    rw [List.drop_zero] at h1
    refine Ev.step (f := fun k => pergolaref01_Unbase64.l1 k s ((s.size - p : Nat) : Int) 0 ((0 : Nat) : Int) [] ((0 : Nat) : Int)) (fun k => ?_) h1
    rw [pergolaref01_Unbase64.j1, if_neg (by simp)]
    rfl
  refine Ev.step (f := fun k => pergolaref01_Unbase64.j1 k s ((s.size - p : Nat) : Int) (decide (0 < p ∧ s.size % 4 ≠ 0) || decide ((s.size - p) % 4 = 1))) (fun k => ?_) (tail _ rfl)
  rw [pergolaref01_Unbase64.l0, if_neg (by omega), hw, htm, hbeq]
  by_cases hp0 : 0 < p
  ·rw [if_pos (by omega)]
   by_cases h4 : (s.size : Int) % 4 = 0
   ·rw [if_pos h4, decide_eq_false (show ¬ (0 < p ∧ s.size % 4 ≠ 0) by omega), Bool.false_or]
   ·rw [if_neg h4, decide_eq_true (show (0 < p ∧ s.size % 4 ≠ 0) by omega), Bool.true_or]
  ·rw [if_neg (by omega), decide_eq_false (show ¬ (0 < p ∧ s.size % 4 ≠ 0) by omega), Bool.false_or]
 | succ d ih =>
  intro i p hi hp hv
  have hb := (Bytes.of s).at_ i
  have hf := v64_facts hb
  have hval := value_f hb
  have hw : wrap64 ((i : Int) + 1) = ((i + 1 : Nat) : Int) := by unfold wrap64; omega
  have hwp : wrap64 ((p : Int) + 1) = ((p + 1 : Nat) : Int) := by unfold wrap64; omega
  have hw2 : wrap64 ((s.size : Int) - 2) = (s.size : Int) - 2 := by unfold wrap64; omega
  rw [getD_drop (show i < (bytesOf s).length by omega)]
  simp only [rscan]
  have hbt := bt_at' s i
  have ih' := fun p' => ih (i + 1) p' (by omega)
  generalize hcc : (bytesOf s).getD i 0 = c at *
  by_cases hc : c = 61
  ·rw [if_pos hc]
   by_cases h2 : i + 2 < s.size
   ·rw [if_pos h2]
    refine Ev.step (f := fun _ => some ([], 11, (i : Int))) (fun k => ?_) (Ev.now _)
    rw [pergolaref01_Unbase64.l0, if_pos (by omega), if_pos (by omega), hbt, if_pos hc, hw2, if_pos (by omega)]
   ·rw [if_neg h2]
    refine Ev.step (fun k => ?_) (ih' (p + 1) (by omega) (fun j hj => hv j (by omega)))
    rw [pergolaref01_Unbase64.l0, if_pos (by omega), if_pos (by omega), hbt, if_pos hc, hw2, if_neg (by omega), hw, hwp]
  ·rw [if_neg hc]
   refine Ev.step (f := fun k => (pergolaref01_value.f k c).bind fun t166 => (if t166 < 0 then (some (([] : List Int), 11, (i : Int))) else (if (p : Int) > 0 then (some (([] : List Int), 11, (i : Int))) else (pergolaref01_Unbase64.l0 k s (p : Int) ((i + 1 : Nat) : Int))))) (fun k => ?_) (Ev.bind hval ?_)
   ·rw [pergolaref01_Unbase64.l0, if_pos (by omega), if_pos (by omega), hbt, if_neg hc, hw]
   ·by_cases hv0 : v64 c < 0
    ·rw [if_pos hv0]
     exact Ev.congr (fun k => if_pos hv0) (Ev.now _)
    ·rw [if_neg hv0]
     refine Ev.congr (fun k => if_neg hv0) ?_
     by_cases hp0 : 0 < p
     ·rw [if_pos hp0]
      exact Ev.congr (fun k => if_pos (by omega)) (Ev.now _)
     ·rw [if_neg hp0]
      refine Ev.congr (fun k => if_neg (by omega)) (ih' p (by omega) (fun j hj => ?_))
      by_cases hji : j = i
      ·subst hji
       rw [hcc]
       rcases hf.1 with h | h <;> omega
      ·exact hv j (by omega)
theorem runb_f (s : ByteArray) (hs : s.size ≤ 140737488355328) : Ev (fun k => pergolaref01_Unbase64.f k s) (ub (bytesOf s)) := by
 have hlen := bytesOf_length s
 have h1 := runb_l0 s hs s.size 0 0 (by omega) (by omega) (fun j hj => by omega)
 rw [List.drop_zero] at h1
 have e : rubRest (bytesOf s) (rscan s.size (bytesOf s) 0 0) = ub (bytesOf s) := by
  rw [ub_rest, hlen]
  obtain ⟨h2, h3⟩ := scan_rscan s.size (bytesOf s) 0 0 s.size (by omega) (.inl ⟨rfl, rfl⟩)
  generalize hS : scan s.size (bytesOf s) 0 s.size = S at *
  generalize hR : rscan s.size (bytesOf s) 0 0 = R at *
  obtain ⟨n, o⟩ := S
  obtain ⟨p, o'⟩ := R
  simp only at h2 h3
  subst h2
  cases o with
  | some i => rfl
  | none =>
   obtain ⟨h4, h5⟩ := h3 rfl
   simp only [rubRest, ubRest]
   rw [hlen, show s.size - p = n by omega]
   have hT : (decide (0 < p ∧ s.size % 4 ≠ 0) || decide (n % 4 = 1)) = ubTail (bytesOf s) n := by
    unfold ubTail
    rw [hlen]
    by_cases hp : 0 < p
    ·rw [decide_eq_true (show n < s.size by omega), decide_eq_false (show ¬ n = s.size by omega), Bool.true_and, Bool.false_and, Bool.or_false]
     by_cases h4' : s.size % 4 = 0
     ·rw [decide_eq_false (show ¬ (0 < p ∧ s.size % 4 ≠ 0) by omega), decide_eq_false (show ¬ n % 4 = 1 by omega), decide_eq_false (show ¬ s.size % 4 ≠ 0 by omega)]
      rfl
     ·rw [decide_eq_true (show (0 < p ∧ s.size % 4 ≠ 0) from ⟨hp, h4'⟩), decide_eq_true (show s.size % 4 ≠ 0 from h4')]
      rfl
    ·rw [decide_eq_false (show ¬ n < s.size by omega), decide_eq_true (show n = s.size by omega), decide_eq_false (show ¬ (0 < p ∧ s.size % 4 ≠ 0) by omega)]
     rfl
   rw [hT]
 rw [← e]
 exact h1
end Go.Proofs.YtkbmbancfbfddaaGreatDoor.Pure
