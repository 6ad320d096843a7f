/- Layer 10's reader (fields): comma, by hand. -/
import Derived.Test.YtclkclcacnpmbaaDoorXWFf
namespace Go.Proofs.YtclkclcacnpmbaaDoorW.PrintWords
open Go.RowKit

theorem tokEnd_in (T : Int → Bool) (s : ByteArray) : ∀ (k : Nat) (a : Int), a + k ≤ (s.size : Int) → a ≤ tokEnd T s k a ∧ tokEnd T s k a ≤ (s.size : Int)
 | 0, a, h => by unfold tokEnd; omega
 | k + 1, a, h => by
  unfold tokEnd
  split
  ·have := tokEnd_in T s k (a + 1) (by omega)
   omega
  ·omega
theorem tokE_in (T : Int → Bool) (s : ByteArray) {a : Int} (h : a ≤ (s.size : Int)) : a ≤ tokE T s a ∧ tokE T s a ≤ (s.size : Int) := tokEnd_in T s _ a (by omega)
theorem FdAt.drawn {w w' : World} {g : Nat} {s : ByteArray} {a : Int} (h : FdAt w g s a) (hd : Drawn0 w w') : FdAt w' g s a := by
 obtain ⟨⟨n, rfl⟩⟩ := hd
 exact h.drewN n
theorem Went.drawn {w w1 w2 : World} {g : Nat} (h : Went w w1 g) (hd : Drawn0 w1 w2) : Went w w2 g := by
 obtain ⟨⟨n, rfl⟩⟩ := hd
 exact h.drewN n
theorem done_at {g : Nat} {s : ByteArray} {a : Int} {w : World} (hr : FdAt w g s a) (b : Bool) (h : decide (a = (s.size : Int)) = b) :
  Calls Tryd.prog 51 #[.pointer (some ⟨g, 0, none⟩)] w fun x w' => x = .returned (.bool b) ∧ Drawn0 w w' := by
 rw [← h]
 exact done_calls g s a w hr
theorem is_at {g : Nat} {s : ByteArray} {a c : Int} {w : World} (hr : FdAt w g s a) (h0 : 0 ≤ a) (h1 : a ≤ (s.size : Int)) (b : Bool) (h : isB s a c = b) :
  Calls Tryd.prog 53 #[.pointer (some ⟨g, 0, none⟩), .int .u8 c] w fun x w' => x = .returned (.bool b) ∧ Drawn0 w w' := by
 rw [← h]
 exact is_calls g s a c w hr h0 h1
def fdComma (IX : ByteArray → Int → Int) (s : ByteArray) (a : Int) : FR Bool :=
 let b := tokE (inSet IX ⟨#[9, 32]⟩) s a
 if b = (s.size : Int) then .inr (false, b)
 else if isB s b 44 = false then .inl (102, b)
 else
  let c := tokE (inSet IX ⟨#[9, 32]⟩) s (b + 1)
  if c = (s.size : Int) then .inl (102, c) else .inr (true, c)
def GivesO (x : Ending) (w w' : World) (g : Nat) (s : ByteArray) : FR Bool → Prop
 | .inl f => x = .panicked (wrongF f.1 f.2) ∧ Went w w' g
 | .inr (b, a) => x = .returned (.bool b) ∧ FdAt w' g s a ∧ Went w w' g
set_option linter.unusedVariables false
set_option maxHeartbeats 4000000 in
set_option maxRecDepth 100000 in
theorem comma_calls (IX : ByteArray → Int → Int) (HI : ∀ (a : ByteArray) (c : Int) (w : World), 0 ≤ c → c < 256 → Calls Tryd.prog 66 #[.string a, .int .u8 c] w fun x w' => x = .returned (.int .i64 (IX a c)) ∧ Drawn0 w w')
  (g : Nat) (s : ByteArray) (a : Int) (w : World) (hr : FdAt w g s a) (h0 : 0 ≤ a) (h1 : a ≤ (s.size : Int)) (hs : s.size ≤ 281474976710656) :
  Calls Tryd.prog 52 #[.pointer (some ⟨g, 0, none⟩)] w fun x w' => GivesO x w w' g s (fdComma IX s a) := by
 obtain ⟨R, hR⟩ : ∃ R, fdComma IX s a = R := ⟨_, rfl⟩
 rw [hR]
 unfold fdComma at hR
 have W0 := Aside0.mk (Went.refl w g)
 have SK := Aside0.mk (fun (w : World) (a : Int) (hr : FdAt w g s a) (h0 : 0 ≤ a) (h1 : a ≤ (s.size : Int)) => skip_calls IX HI ⟨#[9, 32]⟩ g s a w hr h0 h1 (by omega))
 obtain ⟨b, hb⟩ : ∃ b, tokE (inSet IX ⟨#[9, 32]⟩) s a = b := ⟨_, rfl⟩
 have S1 := SK.out w a hr h0 h1
 have hb1 := tokE_in (inSet IX ⟨#[9, 32]⟩) s h1
 simp only [hb] at hR S1 hb1
 have S1' := Aside0.mk S1
 clear S1 hr HI hb
 go_enter Tryd.func52, Tryd.ntmps52
 go_upto_region 2 with (go_at_call 50; refine S1'.out.mono ?_; rintro x w1 ⟨rfl, hr1, hw1⟩; have HR1 := Aside0.mk hr1; have W1 := Aside0.mk hw1; clear hr1 hw1)
 by_cases he : b = (s.size : Int)
 ·rw [if_pos he] at hR
  subst hR
  have HD := Aside0.mk (done_at HR1.out true (decide_eq_true he))
  go_wp2_with (go_at_call 51; refine HD.out.mono ?_; rintro x w2 ⟨rfl, hd⟩)
  go_ret
  exact ⟨rfl, HR1.out.drawn hd, W1.out.drawn hd⟩
 ·rw [if_neg he] at hR
  have HD := Aside0.mk (done_at HR1.out false (decide_eq_false he))
  go_upto_region 4 with (go_at_call 51; refine HD.out.mono ?_; rintro x w2 ⟨rfl, hd⟩; have HR2 := Aside0.mk (HR1.out.drawn hd); have W2 := Aside0.mk (W1.out.drawn hd); clear hd)
  by_cases hc : isB s b 44 = false
  ·rw [if_pos hc] at hR
   subst hR
   have HS := Aside0.mk (is_at HR2.out (by omega) hb1.2 false hc)
   go_wp2_with (first
    | (go_at_call 53; refine HS.out.mono ?_; rintro x w3 ⟨rfl, hd⟩; have HR3 := Aside0.mk (HR2.out.drawn hd); have W3 := Aside0.mk (W2.out.drawn hd); have q1 := HR3.out.c1; clear hd)
    | (go_at_call 32; refine (fail_calls _ _ _ _).mono ?_; rintro x w6 ⟨rfl, rfl⟩))
   exact ⟨rfl, rfl, W3.out⟩
  ·rw [if_neg hc] at hR
   have hc' : isB s b 44 = true := by simpa using hc
   have hlt : b < (s.size : Int) := by omega
   have HS := Aside0.mk (is_at HR2.out (by omega) hb1.2 true hc')
   go_upto_region 7 with (go_at_call 53; refine HS.out.mono ?_; rintro x w3 ⟨rfl, hd⟩; have HR3 := Aside0.mk (HR2.out.drawn hd); have W3 := Aside0.mk (W2.out.drawn hd); have q1 := HR3.out.c1; have f1 := HR3.out.f1; clear hd)
   have HR4 := Aside0.mk (HR3.out.set (b + 1))
   have W4 := Aside0.mk (W3.out.set 1 (.int .i64 (b + 1)))
   clear q1 f1 HR3 W3 HS HD HR2 W2 HR1 W1
   generalize w3.setCell ⟨g, 1, none⟩ (.int .i64 (b + 1)) = w4 at *
   obtain ⟨c, hcq⟩ : ∃ c, tokE (inSet IX ⟨#[9, 32]⟩) s (b + 1) = c := ⟨_, rfl⟩
   have S2 := SK.out w4 (b + 1) HR4.out (by omega) (by omega)
   have hc1 := tokE_in (inSet IX ⟨#[9, 32]⟩) s (a := b + 1) (by omega)
   simp only [hcq] at hR S2 hc1
   have S2' := Aside0.mk S2
   clear S2 hcq
   go_upto_region 8 with (go_at_call 50; refine S2'.out.mono ?_; rintro x w5 ⟨rfl, hr5, hw5⟩; have HR5 := Aside0.mk hr5; have W5 := Aside0.mk (W4.out.trans hw5); clear hr5 hw5)
   by_cases he2 : c = (s.size : Int)
   ·rw [if_pos he2] at hR
    subst hR
    have HD := Aside0.mk (done_at HR5.out true (decide_eq_true he2))
    go_wp2_with (first
     | (go_at_call 51; refine HD.out.mono ?_; rintro x w6 ⟨rfl, hd⟩; have HR6 := Aside0.mk (HR5.out.drawn hd); have W6 := Aside0.mk (W5.out.drawn hd); have q1 := HR6.out.c1; clear hd)
     | (go_at_call 32; refine (fail_calls _ _ _ _).mono ?_; rintro x w7 ⟨rfl, rfl⟩))
    exact ⟨rfl, (by rw [← he2]), W6.out⟩
   ·rw [if_neg he2] at hR
    subst hR
    have HD := Aside0.mk (done_at HR5.out false (decide_eq_false he2))
    go_wp2_with (go_at_call 51; refine HD.out.mono ?_; rintro x w6 ⟨rfl, hd⟩; have HR6 := Aside0.mk (HR5.out.drawn hd); have W6 := Aside0.mk (W5.out.drawn hd); clear hd)
    go_ret
    exact ⟨rfl, HR6.out, W6.out⟩
end Go.Proofs.YtclkclcacnpmbaaDoorW.PrintWords
