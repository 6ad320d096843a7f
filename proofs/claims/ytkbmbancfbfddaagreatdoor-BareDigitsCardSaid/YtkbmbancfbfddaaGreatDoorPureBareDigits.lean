/- BareDigits: every integer, thousandth and date that may be is told in digits and read again; the next one beyond is refused. -/
import Derived.Test.YtkbmbancfbfddaaGreatDoorX7
import Derived.Test.YtkbmbancfbfddaaGreatDoorPAlive
import Derived.Test.YtkbmbancfbfddaaGreatDoorPDecimal
namespace Go.Proofs.YtkbmbancfbfddaaGreatDoor.Pure
open Go.RowKit Go.Proofs.YtkbmbancfbfddaaGreatDoor.X Go.Proofs.YtkbmbancfbfddaaGreatDoorW.PrintWords Go.Proofs.YtkbmbancfbfddaaGreatDoorW.PrintLast Go.Proofs.YtkbmbancfbfddaaGreatDoorW.PrintMore

theorem num_f (e : Int) : pergolalaw09_num.f e = some e := rfl
theorem alive_ev : Ev (fun k => pergolalaw09_alive.f k) true := Ev.of (fun k => pergolalaw09_alive.mono k) alive_20
theorem digits_j1 (n K x3 : Int) (hK : K = 1 ∨ K = 2 ∨ K = 7) (x5 : ByteArray) (x6 : Int) (m : Bool)
  (h : far n = true → x6 ≠ 0 ∧ m = false) (h2 : far n = false → x6 = 0 ∧ m = true ∧ x5 = numT K n) (hl : Ev (fun k => pergolalaw09_BareDigits.l0 k n (wrap64 (x3 + 1))) true) :
  Ev (fun k => pergolalaw09_BareDigits.j1 k n x3 x5 x6 m K n ⟨#[]⟩) true := by
 refine Ev.step (f := fun k => (pergolalaw09_num.f x6).bind fun t => (if ((t == 0) != m) = true then (some false) else (if m = true then ((bare_Read.f x5 0).bind fun b => ((pergolalaw09_num.f b.2.2.2.2).bind fun t168 => (if t168 = 0 then (if b.2.2.2.1 = (x5.size : Int) then (if (!(b.1 == K) || (!(b.2.1 == n) || (!(b.2.2.1.toList == (⟨#[]⟩ : ByteArray).toList)))) = true then (some false) else (pergolalaw09_BareDigits.l0 k n (wrap64 (x3 + 1)))) else (some false)) else (some false)))) else (pergolalaw09_BareDigits.l0 k n (wrap64 (x3 + 1)))))) (fun k => by rw [pergolalaw09_BareDigits.j1]) ?_
 cases hf : far n with
 | true =>
  obtain ⟨h0, rfl⟩ := h hf
  refine Ev.congr (fun k => ?_ : ∀ k, _ = pergolalaw09_BareDigits.l0 k n (wrap64 (x3 + 1))) hl
  rw [num_f, Option.bind_some, if_neg (by simp [h0]), if_neg (by decide)]
 | false =>
  obtain ⟨rfl, rfl, rfl⟩ := h2 hf
  refine Ev.congr (fun k => ?_ : ∀ k, _ = pergolalaw09_BareDigits.l0 k n (wrap64 (x3 + 1))) hl
  rw [num_f, Option.bind_some, if_neg (by decide), if_pos rfl, num_back n K hK hf, Option.bind_some, num_f, Option.bind_some, if_pos rfl, if_pos rfl, if_neg (by simp)]
theorem digits_l0 (n K : Int) (i : Nat) (hi : i < 3) (hK : K = 1 ∨ K = 2 ∨ K = 7) (hr : rd ([1, 2, 7] : List Int) (i : Int) = K) (hl : Ev (fun k => pergolalaw09_BareDigits.l0 k n ((i + 1 : Nat) : Int)) true) :
  Ev (fun k => pergolalaw09_BareDigits.l0 k n (i : Int)) true := by
 have hw : wrap64 ((i : Int) + 1) = ((i + 1 : Nat) : Int) := by unfold wrap64; omega
 have hj : ∀ m : Bool, m = decide (-999999999999999 ≤ n ∧ n ≤ 999999999999999) → Ev (fun k => (bare_Print.f k K n ⟨#[]⟩).bind fun bt159 => pergolalaw09_BareDigits.j1 k n (i : Int) bt159.1 bt159.2 m K n ⟨#[]⟩) true := by
  intro m hm
  cases hf : far n with
  | true =>
   have hnn : ¬ (-999999999999999 ≤ n ∧ n ≤ 999999999999999) := fun h => by rw [far_iff.mpr h] at hf; cases hf
   refine Ev.bind (print_far n K hK hf) ?_
   refine digits_j1 n K i hK _ _ m (fun _ => ⟨by unfold wrongE; split <;> decide, by rw [hm]; exact decide_eq_false hnn⟩) (fun h => by rw [hf] at h; cases h) (by rw [hw]; exact hl)
  | false =>
   refine Ev.bind (print_num n K hK hf) ?_
   refine digits_j1 n K i hK _ _ m (fun h => by rw [hf] at h; cases h) (fun _ => ⟨rfl, by rw [hm]; exact decide_eq_true (far_iff.mp hf), rfl⟩) (by rw [hw]; exact hl)
 refine Ev.step (f := fun k => (bare_Print.f k K n ⟨#[]⟩).bind fun bt159 => (if n ≥ (-999999999999999) then (pergolalaw09_BareDigits.j1 k n (i : Int) bt159.1 bt159.2 (decide (n ≤ 999999999999999)) K n ⟨#[]⟩) else (pergolalaw09_BareDigits.j1 k n (i : Int) bt159.1 bt159.2 false K n ⟨#[]⟩))) (fun k => ?_) ?_
 ·rw [pergolalaw09_BareDigits.l0, if_pos (by omega), Option.bind_some, if_pos (by omega), if_pos (by show (i : Int) < ((3 : Nat) : Int); omega), hr]
 ·by_cases h : n ≥ -999999999999999
  ·refine Ev.congr (fun k => ?_) (hj (decide (n ≤ 999999999999999)) (by by_cases h2 : n ≤ 999999999999999 <;> simp [h2] <;> omega))
   simp only [if_pos h]
  ·refine Ev.congr (fun k => ?_) (hj false (by symm; exact decide_eq_false (fun h2 => by omega)))
   simp only [if_neg h]
theorem BareDigits : pergolalaw09_BareDigits.Pure := by
 intro n _
 refine Ev.rounds ?_
 unfold pergolalaw09_BareDigits.f
 refine Ev.bind alive_ev ?_
 refine Ev.congr (fun k => if_pos rfl) ?_
 have h3 : Ev (fun k => pergolalaw09_BareDigits.l0 k n ((3 : Nat) : Int)) true := Ev.step (f := fun _ => some true) (fun k => by rw [pergolalaw09_BareDigits.l0, if_neg (by decide)]) (Ev.now _)
 have h2 := digits_l0 n 7 2 (by decide) (by decide) rfl h3
 have h1 := digits_l0 n 2 1 (by decide) (by decide) rfl h2
 exact digits_l0 n 1 0 (by decide) (by decide) rfl h1
end Go.Proofs.YtkbmbancfbfddaaGreatDoor.Pure
