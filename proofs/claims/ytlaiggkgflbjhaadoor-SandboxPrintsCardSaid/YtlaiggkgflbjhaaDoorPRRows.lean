/- Layer 17's page: its rows are the program's tokens; off. -/
import Derived.Test.YtlaiggkgflbjhaaDoorPParse
import Derived.Test.YtlaiggkgflbjhaaDoorX10
import Derived.Test.YtlaiggkgflbjhaaDoorX10
namespace Go.Proofs.YtlaiggkgflbjhaaDoor.Pure
open Go.RowKit Go.Proofs.YtlaiggkgflbjhaaDoor.X Go.Proofs.YtlaiggkgflbjhaaDoorW.PrintWords Go.Proofs.YtlaiggkgflbjhaaDoorW.PrintLast Go.Proofs.YtlaiggkgflbjhaaDoorW.PrintMore

/-! The page's rows: the program's tokens -/
def rowsS : List (S93) := (pergolaref17_Rows.f).getD []
theorem rows_f : pergolaref17_Rows.f = some rowsS := by
  unfold rowsS pergolaref17_Rows.f
  rfl
theorem rows_len : rowsS.length = 14 := by decide +kernel
theorem rows_name (i : Nat) (hi : i < 14) : (rd_T93 rowsS (i : Int)).f0 = tokName i := by
  have h : ∀ j : Fin 14, (rd_T93 rowsS (j.val : Int)).f0 = tokName j.val := by decide +kernel
  exact h ⟨i, hi⟩
theorem rows_flags (i : Nat) (hi : i < 14) : ((rd_T93 rowsS (i : Int)).f1.all fun n => decide (0 ≤ n ∧ n < 16)) = true := by
  have h : ∀ j : Fin 14, ((rd_T93 rowsS (j.val : Int)).f1.all fun n => decide (0 ≤ n ∧ n < 16)) = true := by decide +kernel
  exact h ⟨i, hi⟩
theorem rows_few (i : Nat) (hi : i < 14) : (rd_T93 rowsS (i : Int)).f1.length ≤ 3 := by
  have h : ∀ j : Fin 14, (rd_T93 rowsS (j.val : Int)).f1.length ≤ 3 := by decide +kernel
  exact h ⟨i, hi⟩
theorem rows_bits (i : Nat) (hi : i < 14) : ((rd_T93 rowsS (i : Int)).f1.foldl (fun m n => m ||| 2 ^ n.toNat) 0) = (tokOff i).toNat := by
  have h : ∀ j : Fin 14, ((rd_T93 rowsS (j.val : Int)).f1.foldl (fun m n => m ||| 2 ^ n.toNat) 0) = (tokOff j.val).toNat := by decide +kernel
  exact h ⟨i, hi⟩
theorem tok_lower (i : Nat) (hi : i < 14) : lw (tokName i) = tokName i := by
  have h : ∀ j : Fin 14, lw (tokName j.val) = tokName j.val := by decide +kernel
  exact h ⟨i, hi⟩
theorem tok_size (i : Nat) (hi : i < 14) : (tokName i).size ≤ 100 := by
  have h : ∀ j : Fin 14, (tokName j.val).size ≤ 100 := by decide +kernel
  exact h ⟨i, hi⟩
theorem tok_apart : ∀ i j : Fin 14, tokName i.val = tokName j.val → i = j := by decide +kernel

/-! off -/
theorem off_l0 (nm : ByteArray) (l : List Int) (hl : l.length ≤ 3) (hb : (l.all fun n => decide (0 ≤ n ∧ n < 16)) = true) (d : Nat) : ∀ (i f : Nat), i + d = l.length → f < 4294967296 →
    Ev (fun k => pergolaref17_off.l0 k (f : Int) (i : Int) nm l) (((l.drop i).foldl (fun f n => an f (2 ^ n.toNat)) f : Nat) : Int) := by
  induction d with
  | zero =>
    intro i f hi hf
    refine Ev.step (f := fun _ => some (f : Int)) (fun k => ?_) ?_
    · rw [pergolaref17_off.l0, if_neg (by omega)]
    · rw [List.drop_of_length_le (by omega)]
      exact Ev.now _
  | succ d ih =>
    intro i f hi hf
    have hw : wrap64 ((i : Int) + 1) = ((i + 1 : Nat) : Int) := by unfold wrap64; omega
    have hil : i < l.length := by omega
    rw [drop_at 0 hil, List.foldl_cons]
    have hm : l.getD i 0 ∈ l := by
      rw [List.getD_eq_getElem?_getD, List.getElem?_eq_getElem hil]
      exact List.getElem_mem hil
    have hn := of_decide_eq_true (List.all_eq_true.1 hb _ hm)
    have hx : rd l (i : Int) = l.getD i 0 := by unfold rd; rw [Int.toNat_natCast]
    generalize l.getD i 0 = n at hn hx ⊢
    have hsm : ∀ j : Fin 16, IntKind.u64.wrap (j.val : Int) = (j.val : Int) ∧ shl .u32 1 (j.val : Int) = ((2 ^ j.val : Nat) : Int) ∧ 2 ^ j.val < 4294967296 := by decide +kernel
    obtain ⟨h1, h2, h3⟩ := hsm ⟨n.toNat, by omega⟩
    simp only [show ((n.toNat : Nat) : Int) = n by omega] at h1 h2
    have hle := an_le f (2 ^ n.toNat)
    refine Ev.step (fun k => ?_) (ih (i + 1) (an f (2 ^ n.toNat)) (by omega) (by omega))
    rw [pergolaref17_off.l0, if_pos (by omega), if_pos (by omega), hx, h1, if_pos (by omega), h2, an_u32 f _ hf h3, hw]
theorem an_or (a b c : Nat) (ha : a < 4294967296) (hb : b < 4294967296) (hc : c < 4294967296) : an (an a b) c = an a (b ||| c) := by
  have hle := an_le a b
  apply Nat.eq_of_testBit_eq
  intro i
  rw [an_bit _ c i (by omega) hc, an_bit a b i ha hb, an_bit a _ i ha (u32_or b c hb hc), Nat.testBit_or]
  cases a.testBit i <;> cases b.testBit i <;> cases c.testBit i <;> rfl
theorem an_zero (a : Nat) (ha : a < 4294967296) : an a 0 = a := by
  apply Nat.eq_of_testBit_eq
  intro i
  rw [an_bit a 0 i ha (by omega), Nat.zero_testBit]
  cases a.testBit i <;> rfl
theorem fold_an (l : List Int) (hb : (l.all fun n => decide (0 ≤ n ∧ n < 16)) = true) (f : Nat) (hf : f < 4294967296) : ∀ m : Nat, m < 4294967296 → l.foldl (fun f n => an f (2 ^ n.toNat)) (an f m) = an f (l.foldl (fun m n => m ||| 2 ^ n.toNat) m) := by
  induction l with
  | nil => intro m _; rfl
  | cons n t ih =>
    intro m hm
    rw [List.all_cons, Bool.and_eq_true] at hb
    have hn := of_decide_eq_true hb.1
    have h3 : 2 ^ n.toNat < 4294967296 := by
      have := Nat.pow_lt_pow_right (a := 2) (by omega) (show n.toNat < 32 by omega)
      omega
    rw [List.foldl_cons, List.foldl_cons, an_or f m _ hf hm h3]
    exact ih hb.2 _ (u32_or _ _ hm h3)
theorem off_f (i f : Nat) (hi : i < 14) (hf : f < 4294967296) : Ev (fun k => pergolaref17_off.f k (f : Int) ((rd_T93 rowsS (i : Int)).f0) ((rd_T93 rowsS (i : Int)).f1)) ((an f (tokOff i).toNat : Nat) : Int) := by
  have hb := rows_flags i hi
  have h := off_l0 (rd_T93 rowsS (i : Int)).f0 (rd_T93 rowsS (i : Int)).f1 (rows_few i hi) hb _ 0 f (Nat.zero_add _) hf
  have h2 := fold_an _ hb f hf 0 (by omega)
  rw [rows_bits i hi, an_zero f hf] at h2
  rw [List.drop_zero, h2] at h
  exact h

end Go.Proofs.YtlaiggkgflbjhaaDoor.Pure
