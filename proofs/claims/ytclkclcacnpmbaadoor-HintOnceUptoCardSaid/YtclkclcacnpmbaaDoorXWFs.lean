/- Layer 10's members, over what a step does. -/
import Derived.Test.YtclkclcacnpmbaaDoorXWFr
namespace Go.Proofs.YtclkclcacnpmbaaDoorW.PrintWords
open Go.RowKit

def fdMembers {σ : Type} (IX : ByteArray → Int → Int) (s : ByteArray) (st : Int → σ → Option (FR σ)) : Nat → Int → σ → Option (FR σ)
 | 0, _, _ => none
 | n + 1, a, x => (st a x).bind fun X => match X with
  | .inl f => some (.inl f)
  | .inr (y, c) => match fdComma IX s c with
   | .inl f => some (.inl f)
   | .inr (true, d) => fdMembers IX s st n d y
   | .inr (false, d) => some (.inr (y, d))
def fdAll {σ : Type} (IX : ByteArray → Int → Int) (s : ByteArray) (st : Int → σ → Option (FR σ)) (n : Nat) (x : σ) : Option (FR σ) :=
 if tokE (inSet IX ⟨#[32]⟩) s 0 = (s.size : Int) then some (.inr (x, tokE (inSet IX ⟨#[32]⟩) s 0)) else fdMembers IX s st n (tokE (inSet IX ⟨#[32]⟩) s 0) x
def GivesM {σ : Type} (I : World → σ → Prop) (F : World → Prop) (e : Ending) (w' : World) (g : Nat) (s : ByteArray) : FR σ → Prop
 | .inl f => e = .panicked (wrongF f.1 f.2) ∧ F w'
 | .inr (y, a) => e = .returned (.tuple #[]) ∧ FdAt w' g s a ∧ I w' y ∧ F w'
theorem comma_in (IX : ByteArray → Int → Int) {s : ByteArray} {a : Int} (_h0 : 0 ≤ a) (h1 : a ≤ (s.size : Int)) {b : Bool} {d : Int} (h : fdComma IX s a = .inr (b, d)) : a ≤ d ∧ d ≤ (s.size : Int) := by
 have k1 := tokE_in (inSet IX ⟨#[9, 32]⟩) s h1
 unfold fdComma at h
 simp only at h
 split at h
 ·injection h with h
  injection h with _ h
  omega
 ·split at h
  ·cases h
  ·rename_i hc
   have hlt := isB_lt (show isB s (tokE (inSet IX ⟨#[9, 32]⟩) s a) 44 = true by simpa using hc)
   have k2 := tokE_in (inSet IX ⟨#[9, 32]⟩) s (a := tokE (inSet IX ⟨#[9, 32]⟩) s a + 1) (by omega)
   split at h
   ·cases h
   ·injection h with h
    injection h with _ h
    omega
set_option linter.unusedVariables false
set_option maxHeartbeats 4000000 in
set_option maxRecDepth 100000 in
theorem members_calls {σ : Type} (IX : ByteArray → Int → Int) (HI : ∀ (a : ByteArray) (c : Int) (w : World), 0 ≤ c → c < 256 → Calls Tryd.prog 66 #[.string a, .int .u8 c] w fun x w' => x = .returned (.int .i64 (IX a c)) ∧ Drawn0 w w')
  (I : World → σ → Prop) (F : World → Prop) (k : Nat) (cap : Array Value) (eg : ∀ args w, (callFunc k args).run Tryd.prog w = .ok (.enter k args) w) (st : Int → σ → Option (FR σ)) (g : Nat) (s : ByteArray) (hs : s.size ≤ 281474976710656)
  (hI : ∀ w w' x, I w x → Went w w' g → I w' x) (hF : ∀ w w', F w → Went w w' g → F w')
  (hst : ∀ w a x R, F w → FdAt w g s a → I w x → 0 ≤ a → a ≤ (s.size : Int) → st a x = some R → Calls Tryd.prog k cap w fun e w' => GivesM I F e w' g s R)
  (hin : ∀ a x y c, 0 ≤ a → a ≤ (s.size : Int) → st a x = some (.inr (y, c)) → a ≤ c ∧ c ≤ (s.size : Int))
  (x : σ) (w : World) (hw : F w) (hr : FdAt w g s 0) (hx : I w x) (n : Nat) (R : FR σ) (hR : fdAll IX s st n x = some R) :
  Calls Tryd.prog 30 #[.pointer (some ⟨g, 0, none⟩), .func (.func k) #[] cap] w fun e w' => GivesM I F e w' g s R := by
 unfold fdAll at hR
 have HFF := Aside0.mk hF
 have HII := Aside0.mk hI
 have HST := Aside0.mk hst
 have HIN := Aside0.mk hin
 obtain ⟨b, hb⟩ : ∃ b, tokE (inSet IX ⟨#[32]⟩) s 0 = b := ⟨_, rfl⟩
 have S1 := skip_calls IX HI ⟨#[32]⟩ g s 0 w hr (by omega) (by omega) (by omega)
 have hb1 := tokE_in (inSet IX ⟨#[32]⟩) s (a := 0) (by omega)
 simp only [hb] at hR S1 hb1
 have S1' := Aside0.mk S1
 have HW0 := Aside0.mk hw
 have HX0 := Aside0.mk hx
 have HC := Aside0.mk (fun a w hr h0 h1 => comma_calls IX HI g s a w hr h0 h1 hs)
 clear S1 hb hw hr hx HI hI hst hin hF
 go_enter Tryd.func30, Tryd.ntmps30
 go_upto_region 1 with (go_at_call 50; refine S1'.out.mono ?_; rintro e w1 ⟨rfl, hr1, hw1⟩; have HR1 := Aside0.mk hr1; have HX1 := Aside0.mk (HII.out _ _ _ HX0.out hw1); have W1 := Aside0.mk (HFF.out _ _ HW0.out hw1); clear hr1 hw1)
 clear HX0 HW0 S1'
 by_cases he : b = (s.size : Int)
 ·rw [if_pos he] at hR
  have hR := Option.some.inj hR
  subst hR
  have HD := Aside0.mk (done_at HR1.out true (decide_eq_true he))
  go_wp2_with (go_at_call 51; refine HD.out.mono ?_; rintro e w2 ⟨rfl, hd⟩)
  refine bodyPost_ret (v := .tuple #[]) (results_none rfl _ _ _) rfl ?_
  exact ⟨rfl, HR1.out.drawn hd, HII.out _ _ _ HX1.out ((Went.refl _ g).drawn hd), HFF.out _ _ W1.out ((Went.refl _ g).drawn hd)⟩
 ·rw [if_neg he] at hR
  have HE0 := Aside0.mk hR
  clear hR
  have HD := Aside0.mk (done_at HR1.out false (decide_eq_false he))
  go_wp2_with (go_at_call 51; refine HD.out.mono ?_; rintro e w2 ⟨rfl, hd⟩; have HR2 := Aside0.mk (HR1.out.drawn hd); have HX2 := Aside0.mk (HII.out _ _ _ HX1.out ((Went.refl _ g).drawn hd)); have W2 := Aside0.mk (HFF.out _ _ W1.out ((Went.refl _ g).drawn hd)); clear hd)
  clear HD HR1 HX1 W1
  go_loopg [4] n (fun gk v4 wr => ∃ (b : Bool) (a : Int) (x : σ), v4 = .bool b ∧ Aside0 ((if b = true then fdMembers IX s st gk a x else some (.inr (x, a))) = some R) ∧ Aside0 (FdAt wr g s a) ∧ Aside0 (I wr x) ∧ Aside0 (F wr) ∧ 0 ≤ a ∧ a ≤ (s.size : Int))
  case atStart => exact ⟨true, b, x, rfl, HE0, HR2, HX2, W2, by omega, hb1.2⟩
  case round =>
   obtain ⟨bb, a, x2, rfl, HE, HR3, HX3, W3, h0, h1⟩ := hrel
   clear HE0 HR2 HX2 W2
   cases bb with
   | false =>
    have hE := Option.some.inj HE.out
    subst hE
    go_wp2
    go_end0
    exact ⟨rfl, HR3.out, HX3.out, W3.out⟩
   | true =>
    have hE := HE.out
    clear HE
    rw [if_pos rfl] at hE
    cases gk with
    | zero => exact absurd hE (by simp [fdMembers])
    | succ m =>
     unfold fdMembers at hE
     obtain ⟨X, hX, hE⟩ := Option.bind_eq_some_iff.mp hE
     have hcall := HST.out _ a x2 X W3.out HR3.out HX3.out h0 h1 hX
     rcases X with f | ⟨y, c⟩
     ·have hE := Option.some.inj hE
      subst hE
      have HCL : Aside0 (Calls Tryd.prog k cap wr fun e w' => e = .panicked (wrongF f.1 f.2) ∧ F w') := ⟨hcall⟩
      clear hcall
      go_wp2_with (go_at_fn k; refine HCL.out.mono ?_; rintro e w4 ⟨rfl, hb4⟩)
      exact ⟨rfl, rfl, hb4⟩
     ·have hc1 := HIN.out _ _ _ _ h0 h1 hX
      have HCL : Aside0 (Calls Tryd.prog k cap wr fun e w' => e = .returned (.tuple #[]) ∧ FdAt w' g s c ∧ I w' y ∧ F w') := ⟨hcall⟩
      clear hcall
      simp only at hE
      have HCM := Aside0.mk (fun w hr => HC.out c w hr (by omega) hc1.2)
      rcases hcm : fdComma IX s c with f | ⟨b2, d⟩
      ·rw [hcm] at HCM hE
       have hE := Option.some.inj hE
       subst hE
       unfold GivesO at HCM
       simp only at HCM
       go_wp2_with (first | (go_at_fn k; refine HCL.out.mono ?_; rintro e w4 ⟨rfl, hr4, hx4, hb4⟩; have HR4 := Aside0.mk hr4; have W4 := Aside0.mk hb4; clear hr4 hb4 hx4) | (go_at_call 52; refine (HCM.out _ HR4.out).mono ?_; rintro e w5 ⟨rfl, hw5⟩))
       exact ⟨rfl, rfl, HFF.out _ _ W4.out hw5⟩
      ·have hd1 := comma_in IX (by omega) hc1.2 hcm
       rw [hcm] at HCM hE
       unfold GivesO at HCM
       simp only at HCM
       have HE2 : Aside0 ((if b2 = true then fdMembers IX s st m d y else some (.inr (y, d))) = some R) := ⟨by cases b2 <;> exact hE⟩
       clear hE hcm
       go_wp2_with (first | (go_at_fn k; refine HCL.out.mono ?_; rintro e w4 ⟨rfl, hr4, hx4, hb4⟩; have HR4 := Aside0.mk hr4; have HX4 := Aside0.mk hx4; have W4 := Aside0.mk hb4; clear hr4 hb4 hx4) | (go_at_call 52; refine (HCM.out _ HR4.out).mono ?_; rintro e w5 ⟨rfl, hr5, hw5⟩; have HR5 := Aside0.mk hr5; have HX5 := Aside0.mk (HII.out _ _ _ HX4.out hw5); have W5 := Aside0.mk (HFF.out _ _ W4.out hw5); clear hr5 hw5))
       go_roundg m
       case measure => omega
       case rel => exact ⟨b2, d, y, rfl, HE2, HR5, HX5, W5, by omega, hd1.2⟩
end Go.Proofs.YtclkclcacnpmbaaDoorW.PrintWords
