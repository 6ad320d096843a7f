/- What octets.Sum computes: a register of 32 bits, a bit at a time; two texts whose bits part within 32 neighbouring places end in other registers. -/
import Derived.Test.YtknmcpccljmfdaaPBase
import Derived.Test.YtknmcpccljmfdaaX1
import Derived.Laws.BitsAllLaws
namespace Go.Proofs.Ytknmcpccljmfdaa.Pure
open Go.RowKit Go.Proofs.Ytknmcpccljmfdaa.X Go.Proofs.YtknmcpccljmfdaaW.PrintWords Go.Proofs.YtknmcpccljmfdaaW.PrintLast Go.Proofs.YtknmcpccljmfdaaW.PrintMore

/-- One step of the register. -/
def crcM (s : BitVec 32) : BitVec 32 := if s.getLsbD 0 then (s >>> 1) ^^^ 2197175160#32 else s >>> 1
def bit32 (b : Bool) : BitVec 32 := if b then 1#32 else 0#32
def iter (n : Nat) (s : BitVec 32) : BitVec 32 := match n with
  | 0 => s
  | n + 1 => iter n (crcM s)
theorem iter_succ (n : Nat) (s : BitVec 32) : iter (n + 1) s = crcM (iter n s) := by
  induction n generalizing s with
  | zero => rfl
  | succ n ih => rw [iter, ih]; rfl
theorem iter_add (a b : Nat) (s : BitVec 32) : iter (a + b) s = iter a (iter b s) := by
  induction a with
  | zero => rw [Nat.zero_add]; rfl
  | succ a ih => rw [Nat.succ_add, iter_succ, ih, iter_succ]
theorem crcM_xor (a b : BitVec 32) : crcM (a ^^^ b) = crcM a ^^^ crcM b := by
  unfold crcM
  rw [BitVec.getLsbD_xor, BitVec.ushiftRight_xor_distrib]
  generalize a >>> 1 = x
  generalize b >>> 1 = y
  generalize (2197175160#32 : BitVec 32) = p
  cases a.getLsbD 0 <;> cases b.getLsbD 0 <;> simp
  · ac_rfl
  · ac_rfl
  · rw [show (x ^^^ p) ^^^ (y ^^^ p) = (x ^^^ y) ^^^ (p ^^^ p) from by ac_rfl]
    simp
theorem crcM_zero : crcM 0#32 = 0#32 := by decide
theorem crcM_ne (s : BitVec 32) (h : s ≠ 0#32) : crcM s ≠ 0#32 := by
  intro he
  unfold crcM at he
  cases h0 : s.getLsbD 0 with
  | true =>
    rw [h0, if_pos rfl] at he
    have h31 := congrArg (fun v => v.getLsbD 31) he
    simp at h31
  | false =>
    rw [h0] at he
    simp only [Bool.false_eq_true, if_false] at he
    refine h (BitVec.eq_of_getLsbD_eq fun i hi => ?_)
    rcases Nat.eq_zero_or_pos i with rfl | hp
    · rw [h0]; simp
    · have h1 := congrArg (fun v => v.getLsbD (i - 1)) he
      simp only [BitVec.getLsbD_ushiftRight, BitVec.getLsbD_zero] at h1
      rw [show 1 + (i - 1) = i from by omega] at h1
      rw [h1]; simp
theorem iter_xor (n : Nat) (a b : BitVec 32) : iter n (a ^^^ b) = iter n a ^^^ iter n b := by
  induction n generalizing a b with
  | zero => rfl
  | succ n ih => rw [iter, crcM_xor, ih]; rfl
theorem iter_zero (n : Nat) : iter n 0#32 = 0#32 := by
  induction n with
  | zero => rfl
  | succ n ih => rw [iter, crcM_zero, ih]
theorem iter_ne (n : Nat) (s : BitVec 32) (h : s ≠ 0#32) : iter n s ≠ 0#32 := by
  induction n generalizing s with
  | zero => exact h
  | succ n ih => exact ih _ (crcM_ne s h)
theorem crcM_bit : ∀ j : Fin 31, crcM (1#32 <<< (j.val + 1)) = 1#32 <<< j.val := by decide
theorem iter_bit (j : Nat) (h : j < 32) : iter j (1#32 <<< j) = 1#32 := by
  induction j with
  | zero => rfl
  | succ j ih => rw [iter, crcM_bit ⟨j, by omega⟩]; exact ih (by omega)

/-- The register after p bits. -/
def reg (f : Nat → Bool) (s : BitVec 32) : Nat → BitVec 32
  | 0 => s
  | p + 1 => crcM (reg f s p ^^^ bit32 (f p))
theorem reg_xor (f g : Nat → Bool) (s t : BitVec 32) (p : Nat) : reg f s p ^^^ reg g t p = reg (fun i => (f i ^^ g i)) (s ^^^ t) p := by
  induction p with
  | zero => rfl
  | succ p ih =>
    simp only [reg]
    rw [← crcM_xor, ← ih]
    congr 1
    have hb : bit32 (f p ^^ g p) = bit32 (f p) ^^^ bit32 (g p) := by cases f p <;> cases g p <;> decide
    rw [hb]
    generalize bit32 (f p) = x
    generalize bit32 (g p) = y
    ac_rfl
theorem reg_quiet (f : Nat → Bool) (s : BitVec 32) (p r : Nat) (h : ∀ i, p ≤ i → i < p + r → f i = false) : reg f s (p + r) = iter r (reg f s p) := by
  induction r with
  | zero => rfl
  | succ r ih =>
    rw [← Nat.add_assoc, reg, ih (fun i h1 h2 => h i h1 (by omega)), h (p + r) (by omega) (by omega), iter_succ]
    congr 1
    simp [bit32]
/-- The bits of a window, the first lowest. -/
def wnd (f : Nat → Bool) (p : Nat) : Nat → BitVec 32
  | 0 => 0#32
  | j + 1 => wnd f p j ^^^ (if f (p + j) then 1#32 <<< j else 0#32)
theorem reg_wnd (f : Nat → Bool) (s : BitVec 32) (p : Nat) (j : Nat) (hj : j ≤ 32) : reg f s (p + j) = iter j (reg f s p ^^^ wnd f p j) := by
  induction j with
  | zero => simp [iter, wnd]
  | succ j ih =>
    rw [← Nat.add_assoc, reg, ih (by omega), iter_succ]
    congr 1
    rw [wnd, ← BitVec.xor_assoc, iter_xor j (reg f s p ^^^ wnd f p j)]
    congr 1
    cases f (p + j) with
    | true => simp only [if_true, bit32]; rw [iter_bit j (by omega)]
    | false => simp [bit32, iter_zero]
theorem wnd_hi (f : Nat → Bool) (p : Nat) (j : Nat) (hj : j ≤ 32) (i : Nat) (hi : j ≤ i) : (wnd f p j).getLsbD i = false := by
  induction j with
  | zero => simp [wnd]
  | succ j ih =>
    rw [wnd, BitVec.getLsbD_xor, ih (by omega) (by omega)]
    cases f (p + j) <;> simp
    intro h1 h2
    omega
theorem wnd_bit (f : Nat → Bool) (p : Nat) (j : Nat) (hj : j ≤ 32) (i : Nat) (hi : i < j) : (wnd f p j).getLsbD i = f (p + i) := by
  induction j with
  | zero => omega
  | succ j ih =>
    rw [wnd, BitVec.getLsbD_xor]
    rcases Nat.lt_or_ge i j with h | h
    · rw [ih (by omega) h]
      cases f (p + j) <;> simp [h]
    · obtain rfl : i = j := by omega
      rw [wnd_hi f p i (by omega) i (Nat.le_refl _)]
      cases f (p + i) <;> simp
      omega
/-- Bits that part within 32 neighbouring places: other registers. -/
theorem reg_apart (f g : Nat → Bool) (s : BitVec 32) (n p : Nat) (h1 : ∀ i, i < n → i < p → f i = g i) (h2 : ∀ i, i < n → p + 32 ≤ i → f i = g i) (k : Nat) (hk : p + k < n) (hk32 : k < 32) (hne : f (p + k) ≠ g (p + k)) :
    reg f s n ≠ reg g s n := by
  intro he
  have hx := reg_xor f g s s n
  rw [he] at hx
  simp only [BitVec.xor_self] at hx
  generalize hd : (fun i => (f i ^^ g i)) = d at hx
  have d1 : ∀ i, i < n → i < p → d i = false := fun i a b => by rw [← hd]; simp [h1 i a b]
  have d2 : ∀ i, i < n → p + 32 ≤ i → d i = false := fun i a b => by rw [← hd]; simp [h2 i a b]
  have d3 : d (p + k) = true := by
    rw [← hd]
    revert hne
    cases h5 : f (p + k) <;> cases h6 : g (p + k) <;> simp [h5, h6]
  have r1 : reg d 0#32 p = 0#32 := by
    have := reg_quiet d 0#32 0 p (fun i _ hi => d1 i (by omega) (by omega))
    rw [Nat.zero_add] at this
    rw [this, reg, iter_zero]
  obtain ⟨J, hJ, hJ2, hJ3⟩ : ∃ J, J ≤ 32 ∧ k < J ∧ p + J ≤ n ∧ (J = 32 ∨ p + J = n) := by
    by_cases h : p + 32 ≤ n
    · exact ⟨32, by omega, by omega, h, .inl rfl⟩
    · exact ⟨n - p, by omega, by omega, by omega, .inr (by omega)⟩
  have r2 := reg_wnd d 0#32 p J hJ
  rw [r1, BitVec.zero_xor] at r2
  have r3 : reg d 0#32 (p + J) ≠ 0#32 := by
    rw [r2]
    refine iter_ne _ _ fun hz => ?_
    have := wnd_bit d p J hJ k hJ2
    rw [hz, d3] at this
    simp at this
  have r4 := reg_quiet d 0#32 (p + J) (n - (p + J)) (fun i a b => d2 i (by omega) (by omega))
  rw [show p + J + (n - (p + J)) = n from by omega] at r4
  rw [r4] at hx
  exact iter_ne _ _ r3 hx.symm

/-! octets.Sum -/
def bitAt (l : List Int) (p : Nat) : Bool := (l.getD (p / 8) 0).toNat.testBit (p % 8)
theorem reg_byte (l : List Int) (s : BitVec 32) (i : Nat) (v : Nat) (hv : (l.getD i 0).toNat = v) (h8 : v < 256) : reg (bitAt l) s (8 * (i + 1)) = iter 8 (reg (bitAt l) s (8 * i) ^^^ BitVec.ofNat 32 v) := by
  rw [show 8 * (i + 1) = 8 * i + 8 from by omega, reg_wnd _ _ _ 8 (by omega)]
  congr 2
  refine BitVec.eq_of_getLsbD_eq fun j hj => ?_
  rw [BitVec.getLsbD_ofNat]
  rcases Nat.lt_or_ge j 8 with h | h
  · rw [wnd_bit _ _ 8 (by omega) j h]
    unfold bitAt
    rw [show (8 * i + j) / 8 = i from by omega, show (8 * i + j) % 8 = j from by omega, hv]
    simp [hj]
  · rw [wnd_hi _ _ 8 (by omega) j h]
    have : v.testBit j = false := Nat.testBit_lt_two_pow (Nat.lt_of_lt_of_le (show v < 2 ^ 8 from h8) (Nat.pow_le_pow_right (by decide) h))
    simp [this]
theorem lsb_true (s : BitVec 32) (h : s.getLsbD 0 = true) : Go.bits .and .u32 (s.toNat : Int) 1 = 1 ∧ Go.bits .xor .u32 ((s.toNat : Int) / 2) 2197175160 = ((crcM s).toNat : Int) := by
  have hs := s.isLt
  constructor
  · have := u32_and_nat s.toNat 1 hs (by omega)
    rw [show ((1 : Nat) : Int) = 1 from rfl] at this
    rw [this, Nat.and_one_is_mod]
    have : s.toNat.testBit 0 = true := h
    rw [Nat.testBit_zero] at this
    simp at this
    omega
  · have := u32_xor_nat (s.toNat / 2) 2197175160 (by omega) (by omega)
    rw [show ((2197175160 : Nat) : Int) = 2197175160 from rfl, Int.natCast_ediv] at this
    rw [show ((2 : Nat) : Int) = 2 from rfl] at this
    rw [this]
    unfold crcM
    rw [if_pos h, BitVec.toNat_xor, BitVec.toNat_ushiftRight, Nat.shiftRight_eq_div_pow]
    rfl
theorem lsb_false (s : BitVec 32) (h : s.getLsbD 0 = false) : ¬ Go.bits .and .u32 (s.toNat : Int) 1 = 1 ∧ (s.toNat : Int) / 2 = ((crcM s).toNat : Int) := by
  have hs := s.isLt
  constructor
  · have := u32_and_nat s.toNat 1 hs (by omega)
    rw [show ((1 : Nat) : Int) = 1 from rfl] at this
    rw [this, Nat.and_one_is_mod]
    have : s.toNat.testBit 0 = false := h
    rw [Nat.testBit_zero] at this
    simp at this
    omega
  · unfold crcM
    rw [h, if_neg (by simp), BitVec.toNat_ushiftRight, Nat.shiftRight_eq_div_pow]
    simp
theorem sum_l1 (x6 : List Int) (x7 : Int) (x8 : Int) (r : Int) (d : Nat) : ∀ (s : BitVec 32) (j : Nat), j + d = 8 → Ev (fun k => octets_Sum.l0 k ((iter d s).toNat : Int) x6 x7 (wrap64 (x8 + 1))) r →
    Ev (fun k => octets_Sum.l1 k (s.toNat : Int) x6 x7 x8 (j : Int)) r := by
  induction d with
  | zero =>
    intro s j hj h
    refine Ev.step (f := fun k => octets_Sum.l0 k ((iter 0 s).toNat : Int) x6 x7 (wrap64 (x8 + 1))) (fun k => ?_) h
    simp only [octets_Sum.l1]
    rw [if_neg (by omega)]
    rfl
  | succ d ih =>
    intro s j hj h
    have hw : wrap64 ((j : Int) + 1) = ((j + 1 : Nat) : Int) := by unfold wrap64; omega
    cases h0 : s.getLsbD 0 with
    | true =>
      obtain ⟨e1, e2⟩ := lsb_true s h0
      refine Ev.step (f := fun k => octets_Sum.l1 k ((crcM s).toNat : Int) x6 x7 x8 ((j + 1 : Nat) : Int)) (fun k => ?_) (ih (crcM s) (j + 1) (by omega) h)
      simp only [octets_Sum.l1]
      rw [if_pos (by omega), if_pos e1, e2, hw]
    | false =>
      obtain ⟨e1, e2⟩ := lsb_false s h0
      refine Ev.step (f := fun k => octets_Sum.l1 k ((crcM s).toNat : Int) x6 x7 x8 ((j + 1 : Nat) : Int)) (fun k => ?_) (ih (crcM s) (j + 1) (by omega) h)
      simp only [octets_Sum.l1]
      rw [if_pos (by omega), if_neg e1, e2, hw]
theorem sum_l0 (l : List Int) (hl : Bytes l) (hn : l.length ≤ 140737488355328) (d : Nat) : ∀ (i : Nat), i + d = l.length →
    Ev (fun k => octets_Sum.l0 k ((reg (bitAt l) 4294967295#32 (8 * i)).toNat : Int) l (l.length : Int) (i : Int)) ((~~~ reg (bitAt l) 4294967295#32 (8 * l.length)).toNat : Int) := by
  induction d with
  | zero =>
    intro i hi
    obtain rfl : i = l.length := by omega
    refine Ev.step (f := fun _ => some ((~~~ reg (bitAt l) 4294967295#32 (8 * l.length)).toNat : Int)) (fun k => ?_) (Ev.now _)
    simp only [octets_Sum.l0]
    rw [if_neg (by omega)]
    generalize reg (bitAt l) 4294967295#32 (8 * l.length) = s
    have hs := s.isLt
    have := u32_xor_nat 4294967295 s.toNat (by omega) hs
    rw [show ((4294967295 : Nat) : Int) = 4294967295 from rfl] at this
    rw [this]
    congr 2
  | succ d ih =>
    intro i hi
    obtain ⟨v, hv⟩ : ∃ v : Nat, l.getD i 0 = (v : Int) := ⟨(l.getD i 0).toNat, by have := hl.at_ i; omega⟩
    have hv8 : v < 256 := by have := hl.at_ i; omega
    have hw : wrap64 ((i : Int) + 1) = ((i + 1 : Nat) : Int) := by unfold wrap64; omega
    have hr := reg_byte l 4294967295#32 i v (by rw [hv]; rfl) hv8
    generalize reg (bitAt l) 4294967295#32 (8 * i) = s at *
    refine Ev.step (f := fun k => octets_Sum.l1 k ((s ^^^ BitVec.ofNat 32 v).toNat : Int) l (l.length : Int) (i : Int) ((0 : Nat) : Int)) (fun k => ?_) (sum_l1 l _ _ _ 8 _ 0 (by omega) (by rw [← hr, hw]; exact ih (i + 1) (by omega)))
    simp only [octets_Sum.l0]
    rw [if_pos (by omega), if_pos (by omega), if_pos (by omega)]
    have hrd : rd l (i : Int) = (v : Int) := by unfold rd; rw [Int.toNat_natCast]; exact hv
    rw [hrd, show ((v : Int) % 4294967296) = (v : Int) from by omega, u32_xor_nat s.toNat v s.isLt (by omega)]
    congr 2
    rw [BitVec.toNat_xor, BitVec.toNat_ofNat, Nat.mod_eq_of_lt (by omega)]
theorem sum_f (l : List Int) (hl : Bytes l) (hn : l.length ≤ 140737488355328) : Ev (fun k => octets_Sum.f k l) ((~~~ reg (bitAt l) 4294967295#32 (8 * l.length)).toNat : Int) := by
  have := sum_l0 l hl hn l.length 0 (by omega)
  exact this
end Go.Proofs.Ytknmcpccljmfdaa.Pure
