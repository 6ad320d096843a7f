/- SandboxLess, for every two flags. -/
import Derived.Test.YtlaiggkgflbjhaaDoorPSand
import Derived.Test.YtlaiggkgflbjhaaDoorX9
import Derived.Test.YtlaiggkgflbjhaaDoorX8
namespace Go.Proofs.YtlaiggkgflbjhaaDoor.Pure
open Go.RowKit Go.Proofs.YtlaiggkgflbjhaaDoor.X Go.Proofs.YtlaiggkgflbjhaaDoorW.PrintWords Go.Proofs.YtlaiggkgflbjhaaDoorW.PrintLast Go.Proofs.YtlaiggkgflbjhaaDoorW.PrintMore

theorem check_of (x : Nat) (hx : x < 4294967296) : sandbox_Check.f (x : Int) = if an x 65535 = 0 then some 0 else some 171 := by
  have h := an_u32 x 65535 hx (by omega)
  rw [show ((65535 : Nat) : Int) = 65535 from rfl] at h
  rw [sandbox_Check.f, h]
  by_cases h0 : an x 65535 = 0
  · rw [if_pos h0, if_pos (by omega)]
  · rw [if_neg h0, if_neg (by omega)]
theorem join_of (a b : Nat) (ha : a < 4294967296) (hb : b < 4294967296) : sandbox_Join.f (a : Int) (b : Int) = if an (a ||| b) 65535 = 0 then some (((a ||| b : Nat) : Int), 0) else some (0, 171) := by
  rw [sandbox_Join.f, u32_or_nat a b ha hb, check_of _ (u32_or a b ha hb)]
  by_cases h0 : an (a ||| b) 65535 = 0
  · rw [if_pos h0, if_pos h0]
    rfl
  · rw [if_neg h0, if_neg h0]
    rfl
theorem small_an (x : Nat) (h : x ≤ 65535) : an x 65535 = 0 := by
  apply Nat.eq_of_testBit_eq
  intro i
  rw [an_bit x 65535 i (by omega) (by omega), Nat.zero_testBit]
  by_cases hi : i < 16
  · have : (65535 : Nat).testBit i = true := by
      have h2 : ∀ i : Fin 16, (65535 : Nat).testBit i.val = true := by decide +kernel
      exact h2 ⟨i, hi⟩
    rw [this]
    simp
  · have : x.testBit i = false := Nat.testBit_lt_two_pow (Nat.lt_of_lt_of_le (show x < 2 ^ 16 by omega) (Nat.pow_le_pow_right (by omega) (by omega)))
    rw [this]
    rfl
theorem SandboxLess : pergolalaw17_SandboxLess.Pure := by
  intro a0 b0 ha hb
  have ha1 : 0 ≤ a0 ∧ a0 ≤ 4294967295 := by simpa [Lit.wf, IntKind.min, IntKind.max, IntKind.signed, IntKind.bits] using ha
  have hb1 : 0 ≤ b0 ∧ b0 ≤ 4294967295 := by simpa [Lit.wf, IntKind.min, IntKind.max, IntKind.signed, IntKind.bits] using hb
  obtain ⟨a, rfl⟩ := Int.eq_ofNat_of_zero_le ha1.1
  obtain ⟨b, rfl⟩ := Int.eq_ofNat_of_zero_le hb1.1
  have ha2 : a < 4294967296 := by omega
  have hb2 : b < 4294967296 := by omega
  have hab := u32_or a b ha2 hb2
  refine Ev.rounds ?_
  refine Ev.bind sand_alive (Ev.congr (f := fun _ => some true) (fun k => ?_) (Ev.now _))
  rw [if_pos rfl, join_of a b ha2 hb2, join_of b a hb2 ha2, Nat.or_comm b a]
  by_cases h0 : an (a ||| b) 65535 = 0
  · rw [if_pos h0, Option.bind_some, Option.bind_some]
    simp only [pergolalaw17_num.f, Option.bind_some, if_true]
    rw [join_of (a ||| b) a hab ha2]
    have e1 : (a ||| b) ||| a = a ||| b := by
      apply Nat.eq_of_testBit_eq
      intro i
      simp only [Nat.testBit_or]
      cases a.testBit i <;> cases b.testBit i <;> rfl
    have e2 : (a ||| b) &&& a = a := by
      apply Nat.eq_of_testBit_eq
      intro i
      simp only [Nat.testBit_or, Nat.testBit_and]
      cases a.testBit i <;> cases b.testBit i <;> rfl
    have e3 : (a ||| b) &&& b = b := by
      apply Nat.eq_of_testBit_eq
      intro i
      simp only [Nat.testBit_or, Nat.testBit_and]
      cases a.testBit i <;> cases b.testBit i <;> rfl
    have e4 : an (a ||| b) (a ||| b) = 0 := by
      apply Nat.eq_of_testBit_eq
      intro i
      rw [an_bit _ _ i hab hab, Nat.zero_testBit]
      cases (a ||| b).testBit i <;> rfl
    rw [e1, if_pos h0, Option.bind_some, u32_and_nat _ _ hab ha2, e2, if_pos rfl, u32_and_nat _ _ hab hb2, e3, if_pos rfl, u32_or_nat a b ha2 hb2, an_u32 _ _ hab hab, e4, if_pos rfl, if_pos (show ((0 : Nat) : Int) = 0 from rfl)]
    simp only [sandbox_Opaque.f, Option.bind_some]
    have o1 := u32_and_nat a 128 ha2 (by omega)
    have o2 := u32_and_nat (a ||| b) 128 hab (by omega)
    rw [show ((128 : Nat) : Int) = 128 from rfl] at o1 o2
    rw [o1, o2]
    by_cases h128 : a &&& 128 = 0
    · rw [h128]
      rfl
    · have h3 : (a ||| b) &&& 128 ≠ 0 := by
        intro h4
        apply h128
        apply Nat.eq_of_testBit_eq
        intro i
        have h5 := congrArg (fun n => n.testBit i) h4
        simp only [Nat.testBit_or, Nat.testBit_and, Nat.zero_testBit] at h5 ⊢
        cases h6 : a.testBit i <;> cases h7 : Nat.testBit 128 i <;> simp [h6, h7] at h5 ⊢
      have hb1 : (((a &&& 128 : Nat) : Int) != 0) = true := bne_iff_ne.2 (by omega)
      have hb2 : ((((a ||| b) &&& 128 : Nat) : Int) != 0) = true := bne_iff_ne.2 (by omega)
      rw [hb1, hb2, if_pos rfl]
  · rw [if_neg h0, Option.bind_some, Option.bind_some]
    simp only [pergolalaw17_num.f, Option.bind_some, if_true]
    rw [if_neg (by decide)]
    by_cases h1 : (a : Int) > 65535
    · rw [if_pos h1]
    · rw [if_neg h1]
      have h2 : (b : Int) > 65535 := by
        by_cases h3 : (b : Int) > 65535
        · exact h3
        · exfalso
          apply h0
          apply small_an
          have := Nat.or_lt_two_pow (n := 16) (show a < 2 ^ 16 by omega) (show b < 2 ^ 16 by omega)
          omega
      rw [decide_eq_true h2]
end Go.Proofs.YtlaiggkgflbjhaaDoor.Pure
