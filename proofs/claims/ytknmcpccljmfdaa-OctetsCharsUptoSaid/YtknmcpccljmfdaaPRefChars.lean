/- What the reference's Chars, Bytes and Sum compute: the same as octets' own. -/
import Derived.Test.YtknmcpccljmfdaaPChars
import Derived.Test.YtknmcpccljmfdaaPSum
import Derived.Test.YtknmcpccljmfdaaX14
import Derived.Test.YtknmcpccljmfdaaX13
import Derived.Test.YtknmcpccljmfdaaX14
namespace Go.Proofs.Ytknmcpccljmfdaa.Pure
open Go.RowKit Go.Proofs.Ytknmcpccljmfdaa.X Go.Proofs.YtknmcpccljmfdaaW.PrintWords Go.Proofs.YtknmcpccljmfdaaW.PrintLast Go.Proofs.YtknmcpccljmfdaaW.PrintMore

/-! Chars -/
theorem and63 {c : Int} (h : 0 ≤ c ∧ c < 256) : Go.bits .and .u8 c 63 = c % 64 :=
  byte_all (p := fun c => Go.bits .and .u8 c 63 = c % 64) (by decide +kernel) h
theorem rchars_l0 (l : List Int) (hl : Bytes l) (hn : l.length ≤ 35184372088832) (d : Nat) : ∀ (i : Nat) (out : List Int), i + d = l.length → out.length ≤ 2 * i →
    Ev (fun k => pergolaref01_Chars.l0 k l out (i : Int)) (strOfNums (out ++ chL (l.drop i))) := by
  induction d with
  | zero =>
    intro i out hi ho
    refine Ev.step (f := fun _ => some (strOfNums (out ++ chL (l.drop i)))) (fun k => ?_) (Ev.now _)
    rw [pergolaref01_Chars.l0, if_neg (by omega), List.drop_of_length_le (by omega)]
    simp [chL]
  | succ d ih =>
    intro i out hi ho
    have hc := hl.at_ i
    have hrd : rd l (i : Int) = l.getD i 0 := by unfold rd; rw [Int.toNat_natCast]
    have hw : wrap64 ((i : Int) + 1) = ((i + 1 : Nat) : Int) := by unfold wrap64; omega
    have hlen := ch_len (l.getD i 0)
    have e := ih (i + 1) (out ++ ch (l.getD i 0)) (by omega) (by rw [List.length_append]; omega)
    rw [getD_drop (show i < l.length by omega)]
    have hcons : chL (l.getD i 0 :: l.drop (i + 1)) = ch (l.getD i 0) ++ chL (l.drop (i + 1)) := by simp [chL]
    rw [hcons, ← List.append_assoc]
    refine Ev.step (fun k => ?_) e
    rw [pergolaref01_Chars.l0, if_pos (by omega), if_pos (by omega), hrd, hw]
    generalize l.getD i 0 = c at *
    by_cases h : c < 128
    · rw [if_pos h, if_pos (by omega)]
      unfold ch
      rw [if_pos h]
    · rw [if_neg h, Option.bind_some, if_pos (by simp only [List.length_cons, List.length_nil]; omega), and63 hc, show (192 + c / 64) % 256 = 192 + c / 64 by omega, show (128 + c % 64) % 256 = 128 + c % 64 by omega]
      unfold ch
      rw [if_neg h]
theorem rchars_f (l : List Int) (hl : Bytes l) (hn : l.length ≤ 35184372088832) : Ev (fun k => pergolaref01_Chars.f k l) (strOfNums (chL l)) := by
  have h := rchars_l0 l hl hn l.length 0 [] (by omega) (by simp)
  rw [List.drop_zero, List.nil_append] at h
  exact h

/-! Bytes -/
theorem decode_big (s : ByteArray) (pos b0 b1 : Nat) (e0 : (s.get! (pos + 0)).toNat = b0) (e1 : (s.get! (pos + 1)).toNat = b1) (h : 128 ≤ b0) (h2 : b0 < 256)
    (hn : ¬ ((b0 = 194 ∨ b0 = 195) ∧ pos + 1 < s.size ∧ b1 / 64 = 2)) : 255 < (Utf8.decode s pos).1 := by
  have hr : 255 < Utf8.runeError := by decide
  unfold Utf8.decode
  simp only [e0, e1]
  rw [if_neg (by omega)]
  split
  · rename_i hc
    simp only [Bool.and_eq_true, beq_iff_eq, decide_eq_true_eq] at hc
    split
    · show 255 < b0 % 32 * 64 + b1 % 64
      omega
    · exact hr
  · split
    · split
      · rename_i h3
        simp only [ge_iff_le, Bool.and_eq_true, decide_eq_true_eq] at h3
        show 255 < b0 % 16 * 4096 + b1 % 64 * 64 + (s.get! (pos + 2)).toNat % 64
        omega
      · exact hr
    · split
      · split
        · rename_i h3
          simp only [ge_iff_le, Bool.and_eq_true, decide_eq_true_eq] at h3
          show 255 < b0 % 8 * 262144 + b1 % 64 * 4096 + (s.get! (pos + 2)).toNat % 64 * 64 + (s.get! (pos + 3)).toNat % 64
          omega
        · exact hr
      · exact hr
theorem bytes_both (s : ByteArray) (hs : s.size ≤ 140737488351232) (n : Nat) : ∀ (pos : Nat) (out : List Int), s.size ≤ pos + n → pos ≤ s.size → out.length ≤ pos →
    ∃ r : List Int × Int × Int, Ev (fun k => octets_Bytes.l0 k s pos out) r ∧ Ev (fun k => pergolaref01_Bytes.l0 k s out (pos : Int)) r ∧ r.1.length ≤ s.size := by
  have hlen := bytesOf_length s
  induction n with
  | zero =>
    intro pos out hp hp2 ho
    refine ⟨(out, 0, 0), Ev.step (f := fun _ => some (out, 0, 0)) (fun k => ?_) (Ev.now _), Ev.step (f := fun _ => some (out, 0, 0)) (fun k => ?_) (Ev.now _), by show out.length ≤ s.size; omega⟩
    · rw [octets_Bytes.l0, if_neg (by omega)]
    · rw [pergolaref01_Bytes.l0, if_neg (by omega)]
  | succ n ih =>
    intro pos out hp hp2 ho
    by_cases hlt : pos < s.size
    · have hb := Bytes.of s
      have hb0 := hb.at_ pos
      have hb1 := hb.at_ (pos + 1)
      have g0 := get_bytes s pos hlt
      have hw1 : wrap64 ((pos : Int) + 1) = ((pos + 1 : Nat) : Int) := by unfold wrap64; omega
      have hw2 : wrap64 (((pos + 1 : Nat) : Int) + 1) = ((pos + 2 : Nat) : Int) := by unfold wrap64; omega
      have hbt0 := bt_at' s pos
      have hbt1 := bt_at' s (pos + 1)
      obtain ⟨c, hc⟩ : ∃ c : Nat, (s.get! (pos + 0)).toNat = c := ⟨_, rfl⟩
      obtain ⟨d, hd⟩ : ∃ d : Nat, (s.get! (pos + 1)).toNat = d := ⟨_, rfl⟩
      rw [Nat.add_zero] at hc
      rw [← g0, hc] at hbt0 hb0
      have h256 : c < 256 := by omega
      by_cases h1 : c < 128
      · obtain ⟨r, a, b, l⟩ := ih (pos + 1) (out ++ [(c : Int)]) (by omega) (by omega) (by rw [List.length_append]; simp; omega)
        have hdec := decode_one s pos c hc h1
        refine ⟨r, Ev.step (fun k => ?_) a, Ev.step (fun k => ?_) b, l⟩
        · rw [octets_Bytes.l0, if_pos hlt, hdec, if_neg (by show ¬ 255 < c; omega), if_pos (by omega)]
        · rw [pergolaref01_Bytes.l0, if_pos (by omega), if_pos (by omega), hbt0, if_pos (by omega), if_pos (by omega), hw1]
      · by_cases h2 : (c = 194 ∨ c = 195) ∧ pos + 1 < s.size ∧ d / 64 = 2
        · obtain ⟨h3, h4, h5⟩ := h2
          have g1 := get_bytes s (pos + 1) h4
          rw [← g1, hd] at hbt1 hb1
          have hd256 : d < 256 := by omega
          have hdec := decode_two s pos c d h4 hc hd (by omega) h5
          obtain ⟨r, a, b, l⟩ := ih (pos + 2) (out ++ [((c % 32 * 64 + d % 64 : Nat) : Int)]) (by omega) (by omega) (by rw [List.length_append]; simp; omega)
          have hv : (((((((c : Int) - 192) % 256 * 64) % 256 + (d : Int)) % 256) - 128) % 256) = ((c % 32 * 64 + d % 64 : Nat) : Int) := by omega
          refine ⟨r, Ev.step (fun k => ?_) a, Ev.step (fun k => ?_) b, l⟩
          · rw [octets_Bytes.l0, if_pos hlt, hdec, if_neg (by show ¬ 255 < c % 32 * 64 + d % 64; omega), if_pos (by omega)]
          · rw [pergolaref01_Bytes.l0, if_pos (by omega), if_pos (by omega), hbt0, if_neg (by omega), hw1]
            rcases h3 with rfl | rfl
            · rw [if_pos (by omega), if_pos (by omega), if_pos (by omega), hbt1, if_pos (by omega), if_pos (by omega), hv, hw2]
            · rw [if_neg (by omega), if_pos (by omega), if_pos (by omega), if_pos (by omega), hbt1, if_pos (by omega), if_pos (by omega), hv, hw2]
        · have hbig := decode_big s pos c d hc hd (by omega) h256 h2
          refine ⟨([], 4, (pos : Int)), Ev.step (f := fun _ => some ([], 4, (pos : Int))) (fun k => ?_) (Ev.now _), Ev.step (f := fun _ => some ([], 4, (pos : Int))) (fun k => ?_) (Ev.now _), by simp⟩
          · rw [octets_Bytes.l0, if_pos hlt, if_pos hbig]
          · rw [pergolaref01_Bytes.l0, if_pos (by omega), if_pos (by omega), hbt0, if_neg (by omega), hw1]
            by_cases h3 : c = 194
            · rw [if_pos (by omega)]
              by_cases h4 : pos + 1 < s.size
              · have g1 := get_bytes s (pos + 1) h4
                rw [← g1, hd] at hbt1
                rw [if_pos (by omega), if_pos (by omega), hbt1, if_neg (by omega)]
              · rw [if_neg (by omega)]
            · rw [if_neg (by omega)]
              by_cases h3' : c = 195
              · rw [if_pos (by omega)]
                by_cases h4 : pos + 1 < s.size
                · have g1 := get_bytes s (pos + 1) h4
                  rw [← g1, hd] at hbt1
                  rw [if_pos (by omega), if_pos (by omega), hbt1, if_neg (by omega)]
                · rw [if_neg (by omega)]
              · rw [if_neg (by omega)]
    · refine ⟨(out, 0, 0), Ev.step (f := fun _ => some (out, 0, 0)) (fun k => ?_) (Ev.now _), Ev.step (f := fun _ => some (out, 0, 0)) (fun k => ?_) (Ev.now _), by show out.length ≤ s.size; omega⟩
      · rw [octets_Bytes.l0, if_neg (by omega)]
      · rw [pergolaref01_Bytes.l0, if_neg (by omega)]
theorem bytes_same (s : ByteArray) (hs : s.size ≤ 140737488351232) : ∃ r : List Int × Int × Int, Ev (fun k => octets_Bytes.f k s) r ∧ Ev (fun k => pergolaref01_Bytes.f k s) r ∧ r.1.length ≤ s.size := by
  obtain ⟨r, a, b, l⟩ := bytes_both s hs s.size 0 [] (by omega) (by omega) (by simp)
  refine ⟨r, Ev.congr (fun k => ?_) a, b, l⟩
  rw [octets_Bytes.f, if_pos (by omega)]

/-! Sum -/
theorem rsum_l1 (l : List Int) (x4 : Int) (r : Int) (d : Nat) : ∀ (s : BitVec 32) (j : Nat), j + d = 8 → Ev (fun k => pergolaref01_Sum.l0 k l ((iter d s).toNat : Int) (wrap64 (x4 + 1))) r →
    Ev (fun k => pergolaref01_Sum.l1 k l (s.toNat : Int) x4 (j : Int)) r := by
  induction d with
  | zero =>
    intro s j hj h
    refine Ev.step (f := fun k => pergolaref01_Sum.l0 k l ((iter 0 s).toNat : Int) (wrap64 (x4 + 1))) (fun k => ?_) h
    rw [pergolaref01_Sum.l1, if_neg (by omega)]
    rfl
  | succ d ih =>
    intro s j hj h
    have hw : wrap64 ((j : Int) + 1) = ((j + 1 : Nat) : Int) := by unfold wrap64; omega
    cases h0 : s.getLsbD 0 with
    | true =>
      obtain ⟨e1, e2⟩ := lsb_true s h0
      refine Ev.step (f := fun k => pergolaref01_Sum.l1 k l ((crcM s).toNat : Int) x4 ((j + 1 : Nat) : Int)) (fun k => ?_) (ih (crcM s) (j + 1) (by omega) h)
      rw [pergolaref01_Sum.l1, if_pos (by omega), if_pos e1, e2, hw]
    | false =>
      obtain ⟨e1, e2⟩ := lsb_false s h0
      refine Ev.step (f := fun k => pergolaref01_Sum.l1 k l ((crcM s).toNat : Int) x4 ((j + 1 : Nat) : Int)) (fun k => ?_) (ih (crcM s) (j + 1) (by omega) h)
      rw [pergolaref01_Sum.l1, if_pos (by omega), if_neg e1, e2, hw]
theorem rsum_l0 (l : List Int) (hl : Bytes l) (hn : l.length ≤ 140737488355328) (d : Nat) : ∀ (i : Nat), i + d = l.length →
    Ev (fun k => pergolaref01_Sum.l0 k l ((reg (bitAt l) 4294967295#32 (8 * i)).toNat : Int) (i : Int)) ((~~~ reg (bitAt l) 4294967295#32 (8 * l.length)).toNat : Int) := by
  induction d with
  | zero =>
    intro i hi
    obtain rfl : i = l.length := by omega
    refine Ev.step (f := fun _ => some ((~~~ reg (bitAt l) 4294967295#32 (8 * l.length)).toNat : Int)) (fun k => ?_) (Ev.now _)
    rw [pergolaref01_Sum.l0, if_neg (by omega)]
    generalize reg (bitAt l) 4294967295#32 (8 * l.length) = s
    have hs := s.isLt
    have := u32_xor_nat s.toNat 4294967295 hs (by omega)
    rw [show ((4294967295 : Nat) : Int) = 4294967295 from rfl, Nat.xor_comm] at this
    rw [this]
    congr 2
  | succ d ih =>
    intro i hi
    obtain ⟨v, hv⟩ : ∃ v : Nat, l.getD i 0 = (v : Int) := ⟨(l.getD i 0).toNat, by have := hl.at_ i; omega⟩
    have hv8 : v < 256 := by have := hl.at_ i; omega
    have hw : wrap64 ((i : Int) + 1) = ((i + 1 : Nat) : Int) := by unfold wrap64; omega
    have hr := reg_byte l 4294967295#32 i v (by rw [hv]; rfl) hv8
    generalize reg (bitAt l) 4294967295#32 (8 * i) = s at *
    refine Ev.step (f := fun k => pergolaref01_Sum.l1 k l ((s ^^^ BitVec.ofNat 32 v).toNat : Int) (i : Int) ((0 : Nat) : Int)) (fun k => ?_) (rsum_l1 l _ _ 8 _ 0 (by omega) (by rw [← hr, hw]; exact ih (i + 1) (by omega)))
    rw [pergolaref01_Sum.l0, if_pos (by omega), if_pos (by omega)]
    have hrd : rd l (i : Int) = (v : Int) := by unfold rd; rw [Int.toNat_natCast]; exact hv
    rw [hrd, show ((v : Int) % 4294967296) = (v : Int) from by omega, u32_xor_nat s.toNat v s.isLt (by omega)]
    congr 2
    rw [BitVec.toNat_xor, BitVec.toNat_ofNat, Nat.mod_eq_of_lt (by omega)]
theorem rsum_f (l : List Int) (hl : Bytes l) (hn : l.length ≤ 140737488355328) : Ev (fun k => pergolaref01_Sum.f k l) ((~~~ reg (bitAt l) 4294967295#32 (8 * l.length)).toNat : Int) :=
  rsum_l0 l hl hn l.length 0 (by omega)
end Go.Proofs.Ytknmcpccljmfdaa.Pure
