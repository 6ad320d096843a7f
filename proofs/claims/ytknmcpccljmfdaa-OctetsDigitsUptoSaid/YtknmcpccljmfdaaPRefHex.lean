/- What the reference's Hex and Unhex compute, on lists of bytes: the same as octets' own. -/
import Derived.Test.YtknmcpccljmfdaaPHex
import Derived.Test.YtknmcpccljmfdaaX7
import Derived.Test.YtknmcpccljmfdaaX6
import Derived.Test.YtknmcpccljmfdaaX5
namespace Go.Proofs.Ytknmcpccljmfdaa.Pure
open Go.RowKit Go.Proofs.Ytknmcpccljmfdaa.X Go.Proofs.YtknmcpccljmfdaaW.PrintWords Go.Proofs.YtknmcpccljmfdaaW.PrintLast Go.Proofs.YtknmcpccljmfdaaW.PrintMore

theorem rhex_l0 (l : List Int) (hl : Bytes l) (hn : l.length ≤ 35184372088832) (d : Nat) : ∀ (i : Nat) (out : List Int), i + d = l.length → out.length ≤ 2 * i →
    Ev (fun k => pergolaref01_Hex.l0 k l out (i : Int)) (strOfNums (out ++ hexL (l.drop i))) := by
  induction d with
  | zero =>
    intro i out hi ho
    refine Ev.step (f := fun _ => some (strOfNums (out ++ hexL (l.drop i)))) (fun k => ?_) (Ev.now _)
    simp only [pergolaref01_Hex.l0]
    rw [if_neg (by omega), List.drop_of_length_le (by omega)]
    simp [hexL]
  | succ d ih =>
    intro i out hi ho
    have hc := hl.at_ i
    have hrd : rd l (i : Int) = l.getD i 0 := by unfold rd; rw [Int.toNat_natCast]
    have hw : wrap64 ((i : Int) + 1) = ((i + 1 : Nat) : Int) := by unfold wrap64; omega
    have hd : Int.tdiv (l.getD i 0) 16 % 256 = l.getD i 0 / 16 := by rw [Int.tdiv_eq_ediv_of_nonneg hc.1]; omega
    have hm : Int.tmod (l.getD i 0) 16 = l.getD i 0 % 16 := Int.tmod_eq_emod_of_nonneg hc.1
    refine Ev.step (f := fun k => pergolaref01_Hex.l0 k l (out ++ [hexd (l.getD i 0 / 16), hexd (l.getD i 0 % 16)]) ((i + 1 : Nat) : Int)) (fun k => ?_) ?_
    · simp only [pergolaref01_Hex.l0]
      rw [if_pos (by omega), if_pos (by omega), hrd, hd, hm, if_pos (by omega), if_pos (by omega), if_pos (by omega), if_pos (by omega)]
      rw [Option.bind_some, if_pos (by simp; omega), hw]
      rfl
    · have := ih (i + 1) (out ++ [hexd (l.getD i 0 / 16), hexd (l.getD i 0 % 16)]) (by omega) (by simp; omega)
      rw [getD_drop (show i < l.length by omega)]
      simpa [hexL] using this
theorem rhex_f (l : List Int) (hl : Bytes l) (hn : l.length ≤ 35184372088832) : Ev (fun k => pergolaref01_Hex.f k l) (strOfNums (hexL l)) := by
  refine Ev.congr (f := fun k => pergolaref01_Hex.l0 k l [] ((0 : Nat) : Int)) (fun k => rfl) (by simpa using rhex_l0 l hl hn l.length 0 [] (by omega) (by simp))
theorem nibble_f {c : Int} (h : 0 ≤ c ∧ c < 256) : Ev (fun k => pergolaref01_Nibble.f k c) (nib c) :=
  Ev.of (pergolaref01_Nibble.mono c) (k := 3) (byte_all (p := fun c => pergolaref01_Nibble.f 3 c = some (nib c)) (by decide +kernel) h)
/-- The first byte that is no digit. -/
def bad : List Int → Nat → Option Nat
  | [], _ => none
  | c :: t, i => if nib c < 0 then some i else bad t (i + 1)
/-- Two digits a byte. -/
def prs : List Int → List Int
  | a :: b :: t => (nib a * 16 + nib b) :: prs t
  | _ => []
def unRef (cs : List Int) (p : Option Nat) : List Int × Int × Int :=
  match p with
  | some i => ([], 11, (i : Int))
  | none => if (cs.length : Int) % 2 = 1 then ([], 3, (cs.length : Int)) else (prs cs, 0, 0)
def unRefAt (m : Nat) (out : List Int) (l : List Int) (p : Option Nat) : List Int × Int × Int :=
  match p with
  | some i => ([], 11, (i : Int))
  | none => if l.length % 2 = 1 then ([], 3, ((2 * m + l.length : Nat) : Int)) else (out ++ prs l, 0, 0)
theorem unGo_ref (n : Nat) : ∀ (l : List Int), l.length ≤ n → Bytes l → ∀ (m : Nat) (out : List Int), out.length = m → unGo l (2 * m) out = unRefAt m out l (bad l (2 * m)) := by
  induction n with
  | zero =>
    intro l hl _ m out ho
    obtain rfl : l = [] := List.eq_nil_of_length_eq_zero (by omega)
    simp only [unGo, bad, unRefAt, prs]
    rw [if_neg (by omega), if_neg (by simp)]
    simp
  | succ n ih =>
    intro l hl hb m out ho
    match l, hl, hb with
    | [], _, _ =>
      simp only [unGo, bad, unRefAt, prs]
      rw [if_neg (by omega), if_neg (by simp)]
      simp
    | [a], _, hb =>
      simp only [unGo, bad]
      by_cases ha : nib a < 0
      · rw [if_pos ha, if_pos ha]
        rfl
      · rw [if_neg ha, if_neg ha, if_pos (by omega), if_pos (by omega)]
        rfl
    | a :: b :: t, hl, hb =>
      by_cases ha : nib a < 0
      · simp only [unGo, bad]
        rw [if_pos ha, if_pos ha]
        rfl
      · by_cases hc : nib b < 0
        · simp only [unGo, bad]
          rw [if_neg ha, if_neg ha, if_pos (by omega), if_pos hc, if_pos hc]
          rfl
        · have fa := (nib_facts hb.head).1
          have fb := (nib_facts hb.tail.head).1
          rw [unGo_two a b t m out ho (by omega) (by omega), ih t (by simp at hl; omega) hb.tail.tail (m + 1) _ (by simp [ho])]
          simp only [bad]
          rw [if_neg ha, if_neg hc, show 2 * m + 1 + 1 = 2 * (m + 1) by omega]
          cases bad t (2 * (m + 1)) with
          | some i => rfl
          | none =>
            simp only [unRefAt, prs, List.append_assoc, List.singleton_append]
            by_cases h : t.length % 2 = 1
            · rw [if_pos h, if_pos (show (a :: b :: t).length % 2 = 1 by simp only [List.length_cons]; omega), show 2 * (m + 1) + t.length = 2 * m + (a :: b :: t).length by simp only [List.length_cons]; omega]
            · rw [if_neg h, if_neg (show ¬ (a :: b :: t).length % 2 = 1 by simp only [List.length_cons]; omega)]
theorem unGo_unRef (l : List Int) (hb : Bytes l) : unGo l 0 [] = unRef l (bad l 0) := by
  have := unGo_ref l.length l (by omega) hb 0 [] rfl
  rw [this]
  cases bad l 0 with
  | some i => rfl
  | none =>
    simp only [unRefAt, unRef]
    by_cases h : l.length % 2 = 1
    · rw [if_pos h, if_pos (by omega)]
      simp
    · rw [if_neg h, if_neg (by omega)]
      simp
theorem bad_none (l : List Int) : ∀ (i : Nat), bad l i = none → ∀ j, j < l.length → 0 ≤ nib (l.getD j 0) := by
  induction l with
  | nil => intro i _ j hj; simp at hj
  | cons c t ih =>
    intro i h j hj
    simp only [bad] at h
    by_cases hc : nib c < 0
    · rw [if_pos hc] at h
      cases h
    · rw [if_neg hc] at h
      cases j with
      | zero => simpa using (by omega : 0 ≤ nib c)
      | succ j => simpa using ih (i + 1) h j (by simp at hj; omega)
theorem runhex_l1 (s : ByteArray) (hn : s.size ≤ 140737488355328) (hev : s.size % 2 = 0) (hv : ∀ j, j < s.size → 0 ≤ nib ((bytesOf s).getD j 0)) (d : Nat) : ∀ (m : Nat) (out : List Int), 2 * m + 2 * d = s.size → out.length = m →
    Ev (fun k => pergolaref01_Unhex.l1 k s out ((2 * m : Nat) : Int)) (out ++ prs ((bytesOf s).drop (2 * m)), 0, 0) := by
  have hlen := bytesOf_length s
  induction d with
  | zero =>
    intro m out hm ho
    refine Ev.step (f := fun _ => some (out ++ prs ((bytesOf s).drop (2 * m)), 0, 0)) (fun k => ?_) (Ev.now _)
    rw [pergolaref01_Unhex.l1, if_neg (by omega), List.drop_of_length_le (by omega)]
    simp [prs]
  | succ d ih =>
    intro m out hm ho
    have hb := Bytes.of s
    have fa := nib_facts (hb.at_ (2 * m))
    have fb := nib_facts (hb.at_ (2 * m + 1))
    have va := hv (2 * m) (by omega)
    have vb := hv (2 * m + 1) (by omega)
    have na := nibble_f (hb.at_ (2 * m))
    have nb := nibble_f (hb.at_ (2 * m + 1))
    have hw1 : wrap64 (((2 * m : Nat) : Int) + 1) = ((2 * m + 1 : Nat) : Int) := by unfold wrap64; omega
    have hw2 : wrap64 (((2 * m : Nat) : Int) + 2) = ((2 * (m + 1) : Nat) : Int) := by unfold wrap64; omega
    have hwv : wrap64 (wrap64 (16 * nib ((bytesOf s).getD (2 * m) 0)) + nib ((bytesOf s).getD (2 * m + 1) 0)) % 256 = nib ((bytesOf s).getD (2 * m) 0) * 16 + nib ((bytesOf s).getD (2 * m + 1) 0) := by
      have h1 := fa.1
      have h2 := fb.1
      generalize nib ((bytesOf s).getD (2 * m) 0) = a at *
      generalize nib ((bytesOf s).getD (2 * m + 1) 0) = b at *
      unfold wrap64
      omega
    have e := ih (m + 1) (out ++ [nib ((bytesOf s).getD (2 * m) 0) * 16 + nib ((bytesOf s).getD (2 * m + 1) 0)]) (by omega) (by simp [ho])
    rw [getD_drop (show 2 * m < (bytesOf s).length by omega), getD_drop (show 2 * m + 1 < (bytesOf s).length by omega)]
    simp only [prs]
    refine Ev.step (f := fun k => (pergolaref01_Nibble.f k ((bytesOf s).getD (2 * m) 0)).bind fun t161 => ((pergolaref01_Nibble.f k ((bytesOf s).getD (2 * m + 1) 0)).bind fun t162 => (if out.length < 140737488355328 then (pergolaref01_Unhex.l1 k s (out ++ [(wrap64 ((wrap64 (16 * t161)) + t162)) % 256]) ((2 * (m + 1) : Nat) : Int)) else none))) (fun k => ?_) (Ev.bind na (Ev.bind nb ?_))
    · rw [pergolaref01_Unhex.l1, if_pos (by omega), if_pos (by omega), bt_at']
      congr 1
      funext t161
      rw [hw1, if_pos (by omega), if_pos (by omega), bt_at', hw2]
    · refine Ev.congr (f := fun k => pergolaref01_Unhex.l1 k s (out ++ [nib ((bytesOf s).getD (2 * m) 0) * 16 + nib ((bytesOf s).getD (2 * m + 1) 0)]) ((2 * (m + 1) : Nat) : Int)) (fun k => ?_) (by rw [show 2 * m + 1 + 1 = 2 * (m + 1) by omega]; simpa using e)
      rw [if_pos (by omega), hwv]
theorem runhex_l0 (s : ByteArray) (hn : s.size ≤ 140737488355328) (d : Nat) : ∀ (i : Nat), i + d = s.size → (∀ j, j < i → 0 ≤ nib ((bytesOf s).getD j 0)) →
    Ev (fun k => pergolaref01_Unhex.l0 k s (i : Int)) (unRef (bytesOf s) (bad ((bytesOf s).drop i) i)) := by
  have hlen := bytesOf_length s
  induction d with
  | zero =>
    intro i hi hv
    rw [List.drop_of_length_le (by omega)]
    simp only [bad, unRef]
    rw [hlen]
    by_cases h : (s.size : Int) % 2 = 1
    · rw [if_pos h]
      refine Ev.step (f := fun _ => some ([], 3, (s.size : Int))) (fun k => ?_) (Ev.now _)
      rw [pergolaref01_Unhex.l0, if_neg (by omega), if_pos h]
    · rw [if_neg h]
      have e := runhex_l1 s hn (by omega) (fun j hj => hv j (by omega)) (s.size / 2) 0 [] (by omega) rfl
      refine Ev.step (f := fun k => pergolaref01_Unhex.l1 k s [] ((2 * 0 : Nat) : Int)) (fun k => ?_) (by simpa using e)
      rw [pergolaref01_Unhex.l0, if_neg (by omega), if_neg h]
      rfl
  | succ d ih =>
    intro i hi hv
    have hb := Bytes.of s
    have na := nibble_f (hb.at_ i)
    have hw : wrap64 ((i : Int) + 1) = ((i + 1 : Nat) : Int) := by unfold wrap64; omega
    rw [getD_drop (show i < (bytesOf s).length by omega)]
    simp only [bad]
    refine Ev.step (f := fun k => (pergolaref01_Nibble.f k ((bytesOf s).getD i 0)).bind fun t160 => (if t160 < 0 then (some (([] : List Int), 11, (i : Int))) else (pergolaref01_Unhex.l0 k s ((i + 1 : Nat) : Int)))) (fun k => ?_) (Ev.bind na ?_)
    · rw [pergolaref01_Unhex.l0, if_pos (by omega), if_pos (by omega), bt_at', hw]
    · by_cases hc : nib ((bytesOf s).getD i 0) < 0
      · rw [if_pos hc]
        refine Ev.congr (fun k => if_pos hc) ?_
        exact Ev.now _
      · rw [if_neg hc]
        refine Ev.congr (fun k => if_neg hc) (ih (i + 1) (by omega) (fun j hj => ?_))
        by_cases hji : j = i
        · subst hji
          omega
        · exact hv j (by omega)
theorem runhex_f (s : ByteArray) (hn : s.size ≤ 140737488355328) : Ev (fun k => pergolaref01_Unhex.f k s) (unGo (bytesOf s) 0 []) := by
  rw [unGo_unRef _ (Bytes.of s)]
  have := runhex_l0 s hn s.size 0 (by omega) (fun j hj => by omega)
  rw [List.drop_zero] at this
  exact this
end Go.Proofs.Ytknmcpccljmfdaa.Pure
