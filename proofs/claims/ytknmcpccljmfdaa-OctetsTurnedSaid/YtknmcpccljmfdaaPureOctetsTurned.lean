/- octets.Sum tells up to 32 neighbouring bits that were turned: for every list of bytes, every place and every pattern the law OctetsTurned answers true. -/
import Derived.Test.YtknmcpccljmfdaaX10
import Derived.Test.YtknmcpccljmfdaaPSum
namespace Go.Proofs.Ytknmcpccljmfdaa.Pure
open Go.RowKit Go.Proofs.Ytknmcpccljmfdaa.X Go.Proofs.YtknmcpccljmfdaaW.PrintWords Go.Proofs.YtknmcpccljmfdaaW.PrintLast Go.Proofs.YtknmcpccljmfdaaW.PrintMore

theorem alive_ev : Ev (fun k => pergolalaw01_alive.f k) true := Ev.of pergolalaw01_alive.mono (k := 200) (by decide +kernel)
theorem bitAt_set (c : List Int) (i : Nat) (v : Nat) (hi : i < c.length) (p : Nat) : bitAt (c.set i (v : Int)) p = if p / 8 = i then v.testBit (p % 8) else bitAt c p := by
  unfold bitAt
  rw [List.getD_eq_getElem?_getD, List.getElem?_set]
  by_cases h : i = p / 8
  · rw [if_pos h, if_pos (by omega), if_pos h.symm]
    simp
  · rw [if_neg h, if_neg (fun e => h e.symm), List.getD_eq_getElem?_getD]
/-- What holds when i bits of the pattern have been looked at. -/
structure Inv (l : List Int) (a1 : Int) (m : Nat) (i : Nat) (c : List Int) (ch : Bool) : Prop where
  bytes : Bytes c
  len : c.length = l.length
  bits : ∀ p, p < 8 * l.length → bitAt c p = (bitAt l p ^^ (decide (0 ≤ a1 ∧ a1.toNat ≤ p ∧ p < a1.toNat + i) && m.testBit (p - a1.toNat)))
  turned : ch = true → 0 ≤ a1 ∧ ∃ j, j < i ∧ m.testBit j = true ∧ a1.toNat + j < 8 * l.length
theorem Inv.skip {l : List Int} {a1 : Int} {m i : Nat} {c : List Int} {ch : Bool} (h : Inv l a1 m i c ch) (hs : 0 ≤ a1 → m.testBit i = true → 8 * l.length ≤ a1.toNat + i) : Inv l a1 m (i + 1) c ch := by
  refine ⟨h.bytes, h.len, fun p hp => ?_, fun hc => ?_⟩
  · rw [h.bits p hp]
    by_cases e : 0 ≤ a1 ∧ p = a1.toNat + i
    · obtain ⟨e1, rfl⟩ := e
      have hm : m.testBit i = false := by
        cases hm : m.testBit i with
        | false => rfl
        | true => have := hs e1 hm; omega
      rw [show a1.toNat + i - a1.toNat = i from by omega, hm]
      simp
    · have : (0 ≤ a1 ∧ a1.toNat ≤ p ∧ p < a1.toNat + i) ↔ (0 ≤ a1 ∧ a1.toNat ≤ p ∧ p < a1.toNat + (i + 1)) := by omega
      simp only [this]
  · obtain ⟨h1, j, h2, h3⟩ := h.turned hc
    exact ⟨h1, j, by omega, h3⟩
theorem Inv.flip {l : List Int} {a1 : Int} {m i : Nat} {c : List Int} {ch : Bool} (h : Inv l a1 m i c ch) (h0 : 0 ≤ a1) (hm : m.testBit i = true) (hp : a1.toNat + i < 8 * l.length) (v : Nat) (hv : c.getD ((a1.toNat + i) / 8) 0 = (v : Int)) :
    Inv l a1 m (i + 1) (c.set ((a1.toNat + i) / 8) ((v ^^^ 2 ^ ((a1.toNat + i) % 8) : Nat) : Int)) true := by
  have hlen := h.len
  have hv8 : v < 256 := by have := h.bytes.at_ ((a1.toNat + i) / 8); omega
  have hx : v ^^^ 2 ^ ((a1.toNat + i) % 8) < 2 ^ 8 := Nat.xor_lt_two_pow hv8 (Nat.pow_lt_pow_right (by decide) (by omega))
  refine ⟨fun x hx' => ?_, by rw [List.length_set, hlen], fun p hpp => ?_, fun _ => ⟨h0, i, by omega, hm, hp⟩⟩
  · rcases List.mem_or_eq_of_mem_set hx' with h1 | rfl
    · exact h.bytes x h1
    · omega
  · rw [bitAt_set _ _ _ (by omega)]
    by_cases e8 : p / 8 = (a1.toNat + i) / 8
    · rw [if_pos e8, Nat.testBit_xor, Nat.testBit_two_pow]
      have hb := h.bits p hpp
      have hc : bitAt c p = v.testBit (p % 8) := by unfold bitAt; rw [e8, hv]; rfl
      rw [← hc, hb]
      by_cases e : p = a1.toNat + i
      · subst e
        rw [show a1.toNat + i - a1.toNat = i from by omega, hm]
        have n1 : decide (0 ≤ a1 ∧ a1.toNat ≤ a1.toNat + i ∧ a1.toNat + i < a1.toNat + i) = false := decide_eq_false (by omega)
        have n2 : decide (0 ≤ a1 ∧ a1.toNat ≤ a1.toNat + i ∧ a1.toNat + i < a1.toNat + (i + 1)) = true := decide_eq_true (by omega)
        rw [n1, n2]
        simp
      · have : (0 ≤ a1 ∧ a1.toNat ≤ p ∧ p < a1.toNat + i) ↔ (0 ≤ a1 ∧ a1.toNat ≤ p ∧ p < a1.toNat + (i + 1)) := by omega
        simp only [this]
        have : decide ((a1.toNat + i) % 8 = p % 8) = false := decide_eq_false (by omega)
        rw [this]
        simp
    · rw [if_neg e8, h.bits p hpp]
      have : (0 ≤ a1 ∧ a1.toNat ≤ p ∧ p < a1.toNat + i) ↔ (0 ≤ a1 ∧ a1.toNat ≤ p ∧ p < a1.toNat + (i + 1)) := by
        have : p ≠ a1.toNat + i := fun e => e8 (by rw [e])
        omega
      simp only [this]
theorem turned_end {l : List Int} {a1 : Int} {m : Nat} {c : List Int} {ch : Bool} (hl : Bytes l) (hn : l.length ≤ 140737488351232) (h : Inv l a1 m 32 c ch) : Ev (fun k => pergolalaw01_OctetsTurned.l0 k l a1 (m : Int) c ch (32 : Nat)) true := by
  cases ch with
  | false =>
    refine Ev.step (f := fun _ => some true) (fun k => ?_) (Ev.now _)
    simp only [pergolalaw01_OctetsTurned.l0]
    rw [if_neg (by omega), if_neg (by simp)]
  | true =>
    have hlen := h.len
    obtain ⟨h0, j, hj, hm, hp⟩ := h.turned rfl
    have hne : reg (bitAt c) 4294967295#32 (8 * l.length) ≠ reg (bitAt l) 4294967295#32 (8 * l.length) := by
      refine reg_apart _ _ _ _ a1.toNat (fun i hi hi2 => ?_) (fun i hi hi2 => ?_) j hp hj ?_
      · rw [h.bits i hi, decide_eq_false (by omega)]; simp
      · rw [h.bits i hi, decide_eq_false (by omega)]; simp
      · rw [h.bits _ hp, decide_eq_true (by omega), show a1.toNat + j - a1.toNat = j from by omega, hm]
        cases bitAt l (a1.toNat + j) <;> simp
    have s1 := sum_f c h.bytes (by omega)
    have s2 := sum_f l hl (by omega)
    rw [hlen] at s1
    refine Ev.step (f := fun k => (octets_Sum.f k c).bind fun t152 => ((octets_Sum.f k l).bind fun t153 => (some (t152 != t153)))) (fun k => ?_) (Ev.bind s1 (Ev.bind s2 ?_))
    · simp only [pergolalaw01_OctetsTurned.l0]
      rw [if_neg (by omega), if_pos trivial]
    · have : (((~~~reg (bitAt c) 4294967295#32 (8 * l.length)).toNat : Int) != ((~~~reg (bitAt l) 4294967295#32 (8 * l.length)).toNat : Int)) = true := by
        rw [bne_iff_ne]
        intro e
        refine hne ?_
        have e2 : (~~~reg (bitAt c) 4294967295#32 (8 * l.length)) = (~~~reg (bitAt l) 4294967295#32 (8 * l.length)) := BitVec.eq_of_toNat_eq (by omega)
        have e3 := congrArg (fun x => ~~~ x) e2
        simpa using e3
      rw [this]
      exact Ev.now _
theorem turned_l0 {l : List Int} {a1 : Int} {m : Nat} (hl : Bytes l) (hn : l.length ≤ 140737488351232) (ha : -9223372036854775808 ≤ a1 ∧ a1 ≤ 9223372036854775807) (hm32 : m < 4294967296) (d : Nat) : ∀ (i : Nat) (c : List Int) (ch : Bool), i + d = 32 → Inv l a1 m i c ch →
    Ev (fun k => pergolalaw01_OctetsTurned.l0 k l a1 (m : Int) c ch (i : Nat)) true := by
  induction d with
  | zero =>
    intro i c ch hi h
    obtain rfl : i = 32 := by omega
    exact turned_end hl hn h
  | succ d ih =>
    intro i c ch hi h
    have hlen := h.len
    have hw : wrap64 ((i : Int) + 1) = ((i + 1 : Nat) : Int) := by unfold wrap64; omega
    have hu : IntKind.u64.wrap (i : Int) = (i : Int) := by simp [IntKind.wrap, IntKind.signed, IntKind.bits]; omega
    have h8 : wrap64 (8 * (l.length : Int)) = ((8 * l.length : Nat) : Int) := by unfold wrap64; omega
    have hsh : shr .u32 (m : Int) (i : Int) = ((m >>> i : Nat) : Int) := by
      unfold shr
      rw [Int.toNat_natCast, Nat.min_eq_left (by simp [IntKind.bits]; omega), Nat.shiftRight_eq_div_pow, Int.natCast_ediv, Int.natCast_pow]
      rfl
    have hmi : m >>> i < 4294967296 := Nat.lt_of_le_of_lt (Nat.shiftRight_le m i) hm32
    have hand : Go.bits .and .u32 ((m >>> i : Nat) : Int) 1 = if m.testBit i then 1 else 0 := by
      have := u32_and_nat (m >>> i) 1 hmi (by omega)
      rw [show ((1 : Nat) : Int) = 1 from rfl] at this
      rw [this, Nat.and_one_is_mod, Nat.testBit_eq_decide_div_mod_eq, Nat.shiftRight_eq_div_pow]
      have := Nat.mod_two_eq_zero_or_one (m / 2 ^ i)
      rcases this with e | e <;> rw [e] <;> simp
    have skip : Inv l a1 m (i + 1) c ch → Ev (fun k => pergolalaw01_OctetsTurned.j1 k l a1 (m : Int) c ch (i : Nat) true) true := fun hI => by
      refine Ev.step (f := fun k => pergolalaw01_OctetsTurned.l0 k l a1 (m : Int) c ch ((i + 1 : Nat) : Int)) (fun k => ?_) (ih (i + 1) c ch (by omega) hI)
      simp only [pergolalaw01_OctetsTurned.j1]
      rw [if_pos trivial, hw]
    cases hb : m.testBit i with
    | false =>
      refine Ev.step (f := fun k => pergolalaw01_OctetsTurned.j1 k l a1 (m : Int) c ch (i : Nat) true) (fun k => ?_) (skip (h.skip (fun _ hm => by rw [hb] at hm; cases hm)))
      simp only [pergolalaw01_OctetsTurned.l0]
      rw [if_pos (by omega), hu, if_pos (by omega), hsh, hand, hb, if_pos (by simp)]
    | true =>
      by_cases hneg : a1 < 0
      · refine Ev.step (f := fun k => pergolalaw01_OctetsTurned.j1 k l a1 (m : Int) c ch (i : Nat) true) (fun k => ?_) (skip (h.skip (fun _ _ => by omega)))
        simp only [pergolalaw01_OctetsTurned.l0]
        rw [if_pos (by omega), hu, if_pos (by omega), hsh, hand, hb, if_neg (by simp), if_pos hneg]
      · by_cases hfar : a1 > ((8 * l.length : Nat) : Int)
        · refine Ev.step (f := fun k => pergolalaw01_OctetsTurned.j1 k l a1 (m : Int) c ch (i : Nat) true) (fun k => ?_) (skip (h.skip (fun _ _ => by omega)))
          simp only [pergolalaw01_OctetsTurned.l0]
          rw [if_pos (by omega), hu, if_pos (by omega), hsh, hand, hb, if_neg (by simp), if_neg hneg, h8, decide_eq_true hfar]
        · refine Ev.step (f := fun k => pergolalaw01_OctetsTurned.j1 k l a1 (m : Int) c ch (i : Nat) false) (fun k => ?_) ?_
          · simp only [pergolalaw01_OctetsTurned.l0]
            rw [if_pos (by omega), hu, if_pos (by omega), hsh, hand, hb, if_neg (by simp), if_neg hneg, h8, decide_eq_false hfar]
          obtain ⟨q, hq⟩ : ∃ q : Nat, a1.toNat + i = q := ⟨_, rfl⟩
          have hw2 : wrap64 (a1 + (i : Int)) = (q : Int) := by unfold wrap64; omega
          by_cases hin : (q : Int) < ((8 * l.length : Nat) : Int)
          · obtain ⟨v, hv⟩ : ∃ v : Nat, c.getD (q / 8) 0 = (v : Int) := ⟨(c.getD (q / 8) 0).toNat, by have := h.bytes.at_ (q / 8); omega⟩
            have hv8 : v < 256 := by have := h.bytes.at_ (q / 8); omega
            have hd : wrap64 (Int.tdiv (q : Int) 8) = ((q / 8 : Nat) : Int) := by
              rw [show Int.tdiv (q : Int) 8 = ((q / 8 : Nat) : Int) from rfl]
              unfold wrap64
              omega
            have hmod : IntKind.u64.wrap (Int.tmod (q : Int) 8) = ((q % 8 : Nat) : Int) := by
              rw [show Int.tmod (q : Int) 8 = ((q % 8 : Nat) : Int) from rfl]
              simp [IntKind.wrap, IntKind.signed, IntKind.bits]
              omega
            have hshl : shl .u8 1 ((q % 8 : Nat) : Int) = ((2 ^ (q % 8) : Nat) : Int) := by
              unfold shl
              rw [Int.toNat_natCast, Nat.min_eq_left (by simp [IntKind.bits]; omega)]
              have h9 : q % 8 < 8 := Nat.mod_lt _ (by omega)
              have : (2 ^ (q % 8) : Nat) < 256 := Nat.pow_lt_pow_right (n := 8) (by decide) h9
              rw [Int.one_mul, show ((2 : Int) ^ (q % 8)) = ((2 ^ (q % 8) : Nat) : Int) from by rw [Int.natCast_pow]; rfl]
              generalize 2 ^ (q % 8) = z at this
              simp [IntKind.wrap, IntKind.signed, IntKind.bits]
              omega
            have hF := h.flip (by omega) hb (by omega) v (by rw [hq]; exact hv)
            rw [hq] at hF
            refine Ev.step (f := fun k => pergolalaw01_OctetsTurned.l0 k l a1 (m : Int) (c.set (q / 8) ((v ^^^ 2 ^ (q % 8) : Nat) : Int)) true ((i + 1 : Nat) : Int)) (fun k => ?_) (ih (i + 1) _ true (by omega) hF)
            simp only [pergolalaw01_OctetsTurned.j1]
            have hrd : rd c ((q / 8 : Nat) : Int) = (v : Int) := by unfold rd; rw [Int.toNat_natCast]; exact hv
            have h9 : q % 8 < 8 := Nat.mod_lt _ (by omega)
            have hpow : (2 ^ (q % 8) : Nat) < 256 := Nat.pow_lt_pow_right (n := 8) (by decide) h9
            rw [if_neg (by simp), hw2, h8, if_pos hin, hd, if_pos (by omega), if_pos (by omega), hmod, if_pos (by omega), hrd, hshl, u8_xor_nat v (2 ^ (q % 8)) hv8 hpow, hw, Int.toNat_natCast]
          · refine Ev.step (f := fun k => pergolalaw01_OctetsTurned.l0 k l a1 (m : Int) c ch ((i + 1 : Nat) : Int)) (fun k => ?_) (ih (i + 1) c ch (by omega) (h.skip (fun _ _ => by omega)))
            simp only [pergolalaw01_OctetsTurned.j1]
            rw [if_neg (by simp), hw2, h8, if_neg hin, hw]
theorem bytes_of_wf {l : List Int} (h : ∀ x ∈ l, (Lit.int .u8 x).wf = true) : Bytes l := fun x hx => by
  have := h x hx
  simp [Lit.wf, IntKind.min, IntKind.max, IntKind.signed, IntKind.bits] at this
  omega
theorem OctetsTurned : pergolalaw01_OctetsTurned.Pure := by
  intro l a1 a2 _ hn hl ha1 ha2
  have hb := bytes_of_wf hl
  have h1 : -9223372036854775808 ≤ a1 ∧ a1 ≤ 9223372036854775807 := by
    simp [Lit.wf, IntKind.min, IntKind.max, IntKind.signed, IntKind.bits] at ha1
    omega
  have h2 : 0 ≤ a2 ∧ a2 < 4294967296 := by
    simp [Lit.wf, IntKind.min, IntKind.max, IntKind.signed, IntKind.bits] at ha2
    omega
  obtain ⟨m, rfl⟩ := Int.eq_ofNat_of_zero_le h2.1
  refine Ev.rounds ?_
  unfold pergolalaw01_OctetsTurned.f
  refine Ev.bind alive_ev ?_
  simp only [if_true]
  refine Ev.congr (fun k => if_pos (by simp; omega)) ?_
  exact turned_l0 hb (by omega) h1 (by omega) 32 0 _ false (by omega) ⟨hb, rfl, fun p _ => by rw [decide_eq_false (by omega)]; simp, fun h => by cases h⟩
end Go.Proofs.Ytknmcpccljmfdaa.Pure
