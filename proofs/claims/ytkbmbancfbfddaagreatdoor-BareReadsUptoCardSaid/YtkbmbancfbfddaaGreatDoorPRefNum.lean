/- The page's number, text and date (pergolaref09) tell what the program's tell. -/
import Derived.Test.YtkbmbancfbfddaaGreatDoorPBase
import Derived.Test.YtkbmbancfbfddaaGreatDoorX6
import Derived.Test.YtkbmbancfbfddaaGreatDoorX7
import Derived.Test.YtkbmbancfbfddaaGreatDoorX8
import Derived.Test.YtkbmbancfbfddaaGreatDoorX10
namespace Go.Proofs.YtkbmbancfbfddaaGreatDoor.Pure
open Go.RowKit Go.Proofs.YtkbmbancfbfddaaGreatDoor.X Go.Proofs.YtkbmbancfbfddaaGreatDoorW.PrintWords Go.Proofs.YtkbmbancfbfddaaGreatDoorW.PrintLast Go.Proofs.YtkbmbancfbfddaaGreatDoorW.PrintMore

def ansR : RR → Int × Int × ByteArray × Int × Int
 | .inl f => (0, 0, ⟨#[]⟩, f.1, f.2)
 | .inr v => (v.1.1, v.1.2.1, v.1.2.2, v.2, 0)
theorem byte_in (s : ByteArray) (i : Int) : 0 ≤ bt s i ∧ bt s i < 256 := ⟨(bt_range s i).1, by have := (bt_range s i).2; omega⟩
theorem rdig (c : Int) : pergolaref09_digit.f c = some (dig c) := by
 unfold pergolaref09_digit.f dig
 by_cases h : c ≥ 48
 ·rw [if_pos h, decide_eq_true h, Bool.true_and]
 ·rw [if_neg h, decide_eq_false h, Bool.false_and]
theorem sg_wrap {sg n : Int} (hsg : sg = 1 ∨ sg = -1) (h : 0 ≤ n ∧ n ≤ 1000000000000000000) : wrap64 (sg * n) = sg * n := by
 rcases hsg with rfl | rfl <;> (unfold wrap64; omega)

/-! number -/
theorem rl1_3 (a sg n : Int) (hsg : sg = 1 ∨ sg = -1) (h : 0 ≤ n ∧ n ≤ 1000000000000000000) : Ev (fun k => pergolaref09_number.l1 k a sg n 3) (2, sg * n, ⟨#[]⟩, a, 0) := by
 refine Ev.step (f := fun _ => some (2, sg * n, ⟨#[]⟩, a, 0)) (fun k => ?_) (Ev.now _)
 rw [pergolaref09_number.l1, if_neg (by omega), sg_wrap hsg h]
theorem rl1_2 (a sg n : Int) (hsg : sg = 1 ∨ sg = -1) (h : 0 ≤ n ∧ n ≤ 100000000000000000) : Ev (fun k => pergolaref09_number.l1 k a sg n 2) (2, sg * (n * 10), ⟨#[]⟩, a, 0) := by
 refine Ev.step (fun k => ?_) (rl1_3 a sg (n * 10) hsg (by omega))
 rw [pergolaref09_number.l1, if_pos (by omega), w64 (x := n * 10) (by omega) (by omega), show wrap64 (2 + 1) = 3 by decide +kernel]
theorem rl1_1 (a sg n : Int) (hsg : sg = 1 ∨ sg = -1) (h : 0 ≤ n ∧ n ≤ 10000000000000000) : Ev (fun k => pergolaref09_number.l1 k a sg n 1) (2, sg * (n * 10 * 10), ⟨#[]⟩, a, 0) := by
 refine Ev.step (fun k => ?_) (rl1_2 a sg (n * 10) hsg (by omega))
 rw [pergolaref09_number.l1, if_pos (by omega), w64 (x := n * 10) (by omega) (by omega), show wrap64 (1 + 1) = 2 by decide +kernel]
/-- The dot's place and the digits behind it, as the page keeps them. -/
def Dots (dot b rb w : Int) : Prop := (dot < 0 ∧ b = 0 ∧ rb = -1 ∧ w ≤ 15) ∨ (0 ≤ dot ∧ rb = b ∧ b ≤ 3 ∧ w ≤ 12)
theorem rnum_j4 (a sg n w b dot rb : Int) (hsg : sg = 1 ∨ sg = -1) (hn : 0 ≤ n ∧ n ≤ 1000000000000000) (hb : 0 ≤ b) (h : Dots dot b rb w) : Ev (fun k => pergolaref09_number.j4 k a sg n rb) (ansR (rdTold a (sg * n) dot b)) := by
 unfold rdTold
 rcases h with ⟨hd, rfl, rfl, _⟩ | ⟨hd, rfl, hb3, _⟩
 ·rw [if_pos hd]
  refine Ev.step (f := fun _ => some (ansR (.inr ((1, sg * n, ⟨#[]⟩), a)))) (fun k => ?_) (Ev.now _)
  rw [pergolaref09_number.j4, if_pos (by omega), sg_wrap hsg (by omega)]
  rfl
 ·rw [if_neg (by omega)]
  by_cases h0 : rb = 0
  ·subst h0
   rw [if_pos rfl]
   refine Ev.step (f := fun _ => some (ansR (.inl (a, 92)))) (fun k => ?_) (Ev.now _)
   rw [pergolaref09_number.j4, if_neg (by omega), if_pos rfl]
   rfl
  ·rw [if_neg h0]
   refine Ev.step (f := fun k => pergolaref09_number.l1 k a sg n rb) (fun k => by rw [pergolaref09_number.j4, if_neg (by omega), if_neg h0]) ?_
   have h3 : rb = 1 ∨ rb = 2 ∨ rb = 3 := by omega
   rcases h3 with rfl | rfl | rfl
   ·have h := rl1_1 a sg n hsg (by omega)
    rw [show sg * (n * 10 * 10) = tell (sg * n) 1 by rw [show tell (sg * n) 1 = sg * n * 100 from rfl, Int.mul_assoc sg, Int.mul_assoc n]; rfl] at h
    exact h
   ·have h := rl1_2 a sg n hsg (by omega)
    rw [show sg * (n * 10) = tell (sg * n) 2 by rw [show tell (sg * n) 2 = sg * n * 10 from rfl, Int.mul_assoc sg]] at h
    exact h
   ·have h := rl1_3 a sg n hsg (by omega)
    rw [show sg * n = tell (sg * n) 3 by rw [show tell (sg * n) 3 = sg * n * 1 from rfl, Int.mul_one]] at h
    exact h
theorem rnum_l0 (s : ByteArray) (hs : s.size ≤ 140737488355328) (sg : Int) (hsg : sg = 1 ∨ sg = -1) : ∀ (d : Nat) (a n w b dot rb : Int), 0 ≤ a → a + d = (s.size : Int) → 0 ≤ n → n < pw (w + b) → 0 ≤ w → 0 ≤ b → Dots dot b rb w →
  Ev (fun k => pergolaref09_number.l0 k s a sg n w rb) (ansR (numE s sg a n w dot b)) := by
 intro d
 induction d with
 | zero =>
  intro a n w b dot rb h0 ha hn hp hw hb h
  rw [numE_end (by omega)]
  have hl := pw_le (k := w + b) (by rcases h with h | h <;> omega)
  refine Ev.step (fun k => ?_) (rnum_j4 a sg n w b dot rb hsg ⟨hn, by omega⟩ hb h)
  rw [pergolaref09_number.l0, if_neg (by omega)]
 | succ d ih =>
  intro a n w b dot rb h0 ha hn hp hw hb h
  have hl := pw_le (k := w + b) (by rcases h with h | h <;> omega)
  have hps := pw_step (k := w + b) (by omega)
  have hlt : a < (s.size : Int) := by omega
  have hwa : wrap64 (a + 1) = a + 1 := w64 (by omega) (by omega)
  rw [numE_step hlt]
  by_cases hc : dig (bt s a) = true
  ·rw [if_pos hc]
   have hcc := dig_iff.mp hc
   have hv : wrap64 (wrap64 (n * 10) + ((bt s a - 48) % 256)) = 10 * n + (bt s a - 48) := by
    rw [w64 (x := n * 10) (by omega) (by omega), w64 (by omega) (by omega)]
    omega
   rcases h with ⟨hd, rfl, rfl, hw15⟩ | ⟨hd, rfl, hb3, hw12⟩
   ·rw [if_pos hd]
    refine Ev.step (f := fun k => pergolaref09_number.j2 k s a sg n w (-1) true) (fun k => by rw [pergolaref09_number.l0, if_pos hlt, if_pos h0, rdig, Option.bind_some, if_pos hc]; rfl) ?_
    have hww : wrap64 (w + 1) = w + 1 := w64 (by omega) (by omega)
    by_cases h15 : w + 1 > 15
    ·rw [if_pos h15]
     refine Ev.step (f := fun _ => some (ansR (.inl (a, 92)))) (fun k => ?_) (Ev.now _)
     rw [pergolaref09_number.j2, if_pos rfl, hww, if_pos h15]
     rfl
    ·rw [if_neg h15]
     refine Ev.step (fun k => ?_) (ih (a + 1) (10 * n + (bt s a - 48)) (w + 1) 0 dot (-1) (by omega) (by omega) (by omega) ?_ (by omega) (by omega) (.inl ⟨hd, rfl, rfl, by omega⟩))
     ·rw [pergolaref09_number.j2, if_pos rfl, hww, if_neg h15, if_pos h0, if_pos hlt, hwa, hv]
     ·rw [show w + 1 + 0 = w + 0 + 1 by omega, hps]
      omega
   ·rw [if_neg (by omega)]
    have hrb : wrap64 (rb + 1) = rb + 1 := w64 (by omega) (by omega)
    refine Ev.step (f := fun k => pergolaref09_number.j2 k s a sg n w rb false) (fun k => by rw [pergolaref09_number.l0, if_pos hlt, if_pos h0, rdig, Option.bind_some, if_pos hc, decide_eq_false (by omega)]) ?_
    refine Ev.step (f := fun k => pergolaref09_number.j3 k s a sg n w rb false) (fun k => by rw [pergolaref09_number.j2, if_neg (by decide), if_pos h0, if_pos hlt, if_neg (by omega)]) ?_
    by_cases h3 : rb + 1 > 3
    ·rw [if_pos h3]
     refine Ev.step (f := fun _ => some (ansR (.inl (a, 92)))) (fun k => ?_) (Ev.now _)
     rw [pergolaref09_number.j3, if_neg (by decide), if_pos h0, if_pos hlt, rdig, Option.bind_some, if_pos hc, hrb, if_pos h3]
     rfl
    ·rw [if_neg h3]
     refine Ev.step (fun k => ?_) (ih (a + 1) (10 * n + (bt s a - 48)) w (rb + 1) dot (rb + 1) (by omega) (by omega) (by omega) ?_ (by omega) (by omega) (.inr ⟨hd, rfl, by omega, hw12⟩))
     ·rw [pergolaref09_number.j3, if_neg (by decide), if_pos h0, if_pos hlt, rdig, Option.bind_some, if_pos hc, hrb, if_neg h3, hwa, hv]
     ·rw [show w + (rb + 1) = w + rb + 1 by omega, hps]
      omega
  ·rw [if_neg hc]
   by_cases hdot : bt s a = 46 ∧ dot < 0
   ·rw [if_pos hdot]
    have hrb : rb = -1 ∧ b = 0 ∧ w ≤ 15 := by rcases h with h | h <;> omega
    obtain ⟨rfl, rfl, hw15⟩ := hrb
    refine Ev.step (f := fun k => pergolaref09_number.j2 k s a sg n w (-1) false) (fun k => by rw [pergolaref09_number.l0, if_pos hlt, if_pos h0, rdig, Option.bind_some, if_neg hc]) ?_
    refine Ev.step (f := fun k => pergolaref09_number.j3 k s a sg n w (-1) true) (fun k => by rw [pergolaref09_number.j2, if_neg (by decide), if_pos h0, if_pos hlt, if_pos hdot.1]; rfl) ?_
    by_cases h12 : w > 12
    ·rw [if_pos h12]
     refine Ev.step (f := fun _ => some (ansR (.inl (a, 92)))) (fun k => ?_) (Ev.now _)
     rw [pergolaref09_number.j3, if_pos rfl, if_pos h12]
     rfl
    ·rw [if_neg h12]
     refine Ev.step (fun k => ?_) (ih (a + 1) n w 0 a 0 (by omega) (by omega) hn hp hw (by omega) (.inr ⟨h0, rfl, by omega, by omega⟩))
     rw [pergolaref09_number.j3, if_pos rfl, if_neg h12, hwa]
   ·rw [if_neg hdot]
    refine Ev.step (f := fun k => pergolaref09_number.j2 k s a sg n w rb false) (fun k => by rw [pergolaref09_number.l0, if_pos hlt, if_pos h0, rdig, Option.bind_some, if_neg hc]) ?_
    refine Ev.step (f := fun k => pergolaref09_number.j3 k s a sg n w rb false) (fun k => ?_) ?_
    ·rw [pergolaref09_number.j2, if_neg (by decide), if_pos h0, if_pos hlt]
     by_cases h46 : bt s a = 46
     ·rw [if_pos h46, decide_eq_false (by rcases h with h | h <;> omega)]
     ·rw [if_neg h46]
    ·refine Ev.step (fun k => ?_) (rnum_j4 a sg n w b dot rb hsg ⟨hn, by omega⟩ hb h)
     rw [pergolaref09_number.j3, if_neg (by decide), if_pos h0, if_pos hlt, rdig, Option.bind_some, if_neg hc]
theorem rnumber_f (s : ByteArray) (hs : s.size ≤ 140737488355328) (a : Int) (h0 : 0 ≤ a) (h : a < (s.size : Int)) : Ev (fun k => pergolaref09_number.f k s a) (ansR (rdNumber s a)) := by
 have hwa : wrap64 (a + 1) = a + 1 := w64 (by omega) (by omega)
 have hJ : ∀ (a' sg : Int), 0 ≤ a' → a' ≤ (s.size : Int) → sg = 1 ∨ sg = -1 → Ev (fun k => pergolaref09_number.j0 k s a' sg) (ansR (numE s sg a' 0 0 (-1) 0)) := fun a' sg g0 g1 hsg =>
  Ev.step (f := fun k => pergolaref09_number.l0 k s a' sg 0 0 (-1)) (fun k => by rw [pergolaref09_number.j0]) (rnum_l0 s hs sg hsg ((s.size : Int) - a').toNat a' 0 0 0 (-1) (-1) g0 (by omega) (by omega) (by decide) (by omega) (by omega) (.inl ⟨by omega, rfl, rfl, by omega⟩))
 unfold rdNumber
 by_cases h45 : bt s a = 45
 ·rw [if_pos h45]
  by_cases h1 : a + 1 < (s.size : Int)
  ·by_cases hd : dig (bt s (a + 1)) = true
   ·rw [if_pos ⟨h1, hd⟩]
    refine Ev.congr (fun k => ?_) (hJ (a + 1) (-1) (by omega) (by omega) (.inr rfl))
    rw [pergolaref09_number.f, if_pos h0, if_pos h, if_pos h45, hwa, if_neg (by omega), if_pos (by omega), if_pos h1, rdig, Option.bind_some, if_pos hd]
   ·rw [if_neg (fun h => hd h.2)]
    refine Ev.congr (fun k => ?_) (Ev.now _)
    rw [pergolaref09_number.f, if_pos h0, if_pos h, if_pos h45, hwa, if_neg (by omega), if_pos (by omega), if_pos h1, rdig, Option.bind_some, if_neg hd]
    rfl
  ·rw [if_neg (fun h => h1 h.1)]
   refine Ev.congr (fun k => ?_) (Ev.now _)
   rw [pergolaref09_number.f, if_pos h0, if_pos h, if_pos h45, hwa, if_pos (by omega)]
   rfl
 ·rw [if_neg h45]
  refine Ev.congr (fun k => ?_) (hJ a 1 h0 (by omega) (.inl rfl))
  rw [pergolaref09_number.f, if_pos h0, if_pos h, if_neg h45]

/-! text -/
theorem rtext_l0 (s : ByteArray) (hs : s.size ≤ 140737488355327) : ∀ (d : Nat) (a : Int) (xs : List Int), 0 ≤ a → (s.size : Int) ≤ a + d → (xs.length : Int) ≤ a → Ev (fun k => pergolaref09_text.l0 k s xs a) (ansR (textE s a xs)) := by
 intro d
 induction d using Nat.strongRecOn with
 | _ d ih =>
  intro a xs h0 hd hx
  by_cases hlt : a < (s.size : Int)
  rotate_left
  ·rw [textE_end hlt]
   refine Ev.step (f := fun _ => some (ansR (.inl ((s.size : Int), 99)))) (fun k => ?_) (Ev.now _)
   rw [pergolaref09_text.l0, if_neg hlt]
   rfl
  have hwa : wrap64 (a + 1) = a + 1 := w64 (by omega) (by omega)
  have hlen : xs.length < 140737488355328 := by omega
  rw [textE_step hlt]
  by_cases h34 : bt s a = 34
  ·rw [if_pos h34]
   refine Ev.step (f := fun _ => some (ansR (.inr ((3, 0, strOfNums xs), a + 1)))) (fun k => ?_) (Ev.now _)
   rw [pergolaref09_text.l0, if_pos hlt, if_pos h0, if_pos h34, hwa]
   rfl
  rw [if_neg h34]
  by_cases h92 : bt s a = 92
  ·rw [if_neg (by omega), if_pos h92]
   by_cases h1 : a + 1 < (s.size : Int)
   ·have hwb : wrap64 (a + 1 + 1) = a + 1 + 1 := w64 (by omega) (by omega)
    have hn := ih (d - 2) (by omega) (a + 1 + 1) (xs ++ [bt s (a + 1)]) (by omega) (by omega) (by rw [List.length_append]; simp only [List.length_cons, List.length_nil]; omega)
    rw [if_pos h1]
    by_cases h3 : bt s (a + 1) = 34
    ·rw [if_neg (fun h => h.1 h3)]
     refine Ev.step (fun k => ?_) hn
     rw [pergolaref09_text.l0, if_pos hlt, if_pos h0, if_neg h34, if_pos h92, hwa, if_neg (by omega), if_pos (by omega), if_pos h1, if_pos h3, if_pos hlen, hwb]
    ·by_cases h4 : bt s (a + 1) = 92
     ·rw [if_neg (fun h => h.2 h4)]
      refine Ev.step (fun k => ?_) hn
      rw [pergolaref09_text.l0, if_pos hlt, if_pos h0, if_neg h34, if_pos h92, hwa, if_neg (by omega), if_pos (by omega), if_pos h1, if_neg h3, if_pos h4, if_pos hlen, hwb]
     ·rw [if_pos ⟨h3, h4⟩]
      refine Ev.step (f := fun _ => some (ansR (.inl (a + 1, 93)))) (fun k => ?_) (Ev.now _)
      rw [pergolaref09_text.l0, if_pos hlt, if_pos h0, if_neg h34, if_pos h92, hwa, if_neg (by omega), if_pos (by omega), if_pos h1, if_neg h3, if_neg h4]
      rfl
   ·rw [if_neg h1]
    refine Ev.step (f := fun _ => some (ansR (.inl ((s.size : Int), 99)))) (fun k => ?_) (Ev.now _)
    rw [pergolaref09_text.l0, if_pos hlt, if_pos h0, if_neg h34, if_pos h92, hwa, if_pos (by omega)]
    rfl
  ·by_cases hr : bt s a < 32 ∨ bt s a > 126
   ·rw [if_pos hr]
    refine Ev.step (f := fun _ => some (ansR (.inl (a, 93)))) (fun k => ?_) (Ev.now _)
    rw [pergolaref09_text.l0, if_pos hlt, if_pos h0, if_neg h34, if_neg h92]
    by_cases h32 : bt s a < 32
    ·rw [if_pos h32]
     rfl
    ·rw [if_neg h32, if_pos (by omega)]
     rfl
   ·rw [if_neg hr, if_neg h92]
    refine Ev.step (fun k => ?_) (ih (d - 1) (by omega) (a + 1) (xs ++ [bt s a]) (by omega) (by omega) (by rw [List.length_append]; simp only [List.length_cons, List.length_nil]; omega))
    rw [pergolaref09_text.l0, if_pos hlt, if_pos h0, if_neg h34, if_neg h92, if_neg (by omega), if_neg (by omega), if_pos hlen, hwa]
theorem rtext_f (s : ByteArray) (hs : s.size ≤ 140737488355327) (a : Int) (h0 : 0 ≤ a) (h : a < (s.size : Int)) : Ev (fun k => pergolaref09_text.f k s a) (ansR (textE s (a + 1) [])) := by
 refine Ev.congr (fun k => ?_) (rtext_l0 s hs s.size (a + 1) [] (by omega) (by omega) (by simp only [List.length_nil]; omega))
 rw [pergolaref09_text.f, w64 (x := a + 1) (by omega) (by omega)]

/-! date -/
theorem rdate_j3 (s : ByteArray) (sg f a n : Int) (hsg : sg = 1 ∨ sg = -1) (h0 : 0 ≤ a) (hn : 0 ≤ n ∧ n ≤ 1000000000000000) (hd : a < (s.size : Int) → dig (bt s a) = true → False) : Ev (fun k => pergolaref09_date.j3 k s a sg f n false) (ansR (rdDateF s sg f (a, n))) := by
 have hw := sg_wrap hsg (show 0 ≤ n ∧ n ≤ 1000000000000000000 by omega)
 unfold rdDateF
 by_cases hf : a = f
 ·rw [if_pos (.inl hf)]
  refine Ev.step (f := fun _ => some (ansR (.inl (a, 96)))) (fun k => ?_) (Ev.now _)
  rw [pergolaref09_date.j3, if_neg (by decide), if_pos hf]
  rfl
 ·by_cases hlt : a < (s.size : Int)
  ·by_cases h46 : bt s a = 46
   ·rw [if_pos (.inr ⟨hlt, .inr h46⟩)]
    refine Ev.step (f := fun _ => some (ansR (.inl (a, 96)))) (fun k => ?_) (Ev.now _)
    rw [pergolaref09_date.j3, if_neg (by decide), if_neg hf, if_pos hlt, if_pos h0, if_pos h46]
    rfl
   ·rw [if_neg (fun h => h.elim hf (fun h => h.2.elim (hd hlt) h46))]
    refine Ev.step (f := fun _ => some (ansR (.inr ((7, sg * n, ⟨#[]⟩), a)))) (fun k => ?_) (Ev.now _)
    rw [pergolaref09_date.j3, if_neg (by decide), if_neg hf, if_pos hlt, if_pos h0, if_neg h46, hw]
    rfl
  ·rw [if_neg (fun h => h.elim hf (fun h => hlt h.1))]
   refine Ev.step (f := fun _ => some (ansR (.inr ((7, sg * n, ⟨#[]⟩), a)))) (fun k => ?_) (Ev.now _)
   rw [pergolaref09_date.j3, if_neg (by decide), if_neg hf, if_neg hlt, hw]
   rfl
theorem rdate_l0 (s : ByteArray) (hs : s.size ≤ 140737488355328) (sg f : Int) (hsg : sg = 1 ∨ sg = -1) (hf0 : 0 ≤ f) : ∀ (d : Nat) (a n : Int), f ≤ a → a ≤ f + 15 → a + d = (s.size : Int) → 0 ≤ n → n < pw (a - f) →
  Ev (fun k => pergolaref09_date.l0 k s a sg f n) (ansR (rdDateF s sg f (digE s f a n))) := by
 intro d
 induction d with
 | zero =>
  intro a n hf h15 ha hn hp
  have hl := pw_le (k := a - f) (by omega)
  rw [digE_stop (fun h => by omega)]
  refine Ev.step (fun k => ?_) (rdate_j3 s sg f a n hsg (by omega) ⟨hn, by omega⟩ (fun h => by omega))
  rw [pergolaref09_date.l0, if_neg (by omega)]
 | succ d ih =>
  intro a n hf h15 ha hn hp
  have hl := pw_le (k := a - f) (by omega)
  have hps := pw_step (k := a - f) (by omega)
  have hlt : a < (s.size : Int) := by omega
  by_cases hc : dig (bt s a) = true
  ·have hcc := dig_iff.mp hc
   refine Ev.step (f := fun k => pergolaref09_date.j3 k s a sg f n true) (fun k => by rw [pergolaref09_date.l0, if_pos hlt, if_pos (by omega), rdig, Option.bind_some, hc]) ?_
   have hwf : wrap64 (a - f) = a - f := w64 (by omega) (by omega)
   by_cases hm : a < f + 15
   ·rw [digE_step hlt hc hm]
    have hv : wrap64 (wrap64 (n * 10) + ((bt s a - 48) % 256)) = 10 * n + (bt s a - 48) := by
     rw [w64 (x := n * 10) (by omega) (by omega), w64 (by omega) (by omega)]
     omega
    refine Ev.step (fun k => ?_) (ih (a + 1) (10 * n + (bt s a - 48)) (by omega) (by omega) (by omega) (by omega) ?_)
    ·rw [pergolaref09_date.j3, if_pos rfl, hwf, if_neg (by omega), if_pos (by omega), if_pos hlt, hv, w64 (x := a + 1) (by omega) (by omega)]
    ·rw [show a + 1 - f = a - f + 1 by omega, hps]
     omega
   ·rw [digE_stop (fun h => hm h.2.2)]
    unfold rdDateF
    rw [if_pos (.inr ⟨hlt, .inl hc⟩)]
    refine Ev.step (f := fun _ => some (ansR (.inl (a, 96)))) (fun k => ?_) (Ev.now _)
    rw [pergolaref09_date.j3, if_pos rfl, hwf, if_pos (by omega)]
    rfl
  ·rw [digE_stop (fun h => hc h.2.1)]
   refine Ev.step (fun k => ?_) (rdate_j3 s sg f a n hsg (by omega) ⟨hn, by omega⟩ (fun _ h => hc h))
   rw [pergolaref09_date.l0, if_pos hlt, if_pos (by omega), rdig, Option.bind_some, Bool.eq_false_iff.mpr hc]
theorem rdate_f (s : ByteArray) (hs : s.size ≤ 140737488355328) (a : Int) (h0 : 0 ≤ a) (h : a < (s.size : Int)) : Ev (fun k => pergolaref09_date.f k s a) (ansR (rdDate s a)) := by
 have hwa : wrap64 (a + 1) = a + 1 := w64 (by omega) (by omega)
 have hwb : wrap64 (a + 1 + 1) = a + 1 + 1 := w64 (by omega) (by omega)
 have hJ : ∀ (f sg : Int), 0 ≤ f → f ≤ (s.size : Int) → sg = 1 ∨ sg = -1 → Ev (fun k => pergolaref09_date.j1 k s f sg) (ansR (rdDateF s sg f (digE s f f 0))) := fun f sg g0 g1 hsg =>
  Ev.step (f := fun k => pergolaref09_date.l0 k s f sg f 0) (fun k => by rw [pergolaref09_date.j1]) (rdate_l0 s hs sg f hsg g0 ((s.size : Int) - f).toNat f 0 (by omega) (by omega) (by omega) (by omega) (by rw [show f - f = 0 by omega]; decide))
 unfold rdDate
 by_cases h1 : a + 1 < (s.size : Int)
 ·by_cases h45 : bt s (a + 1) = 45
  ·rw [if_pos ⟨h1, h45⟩]
   refine Ev.congr (f := fun k => pergolaref09_date.j0 k s (a + 1) 1 true) (fun k => ?_) (Ev.step (fun k => ?_) (hJ (a + 1 + 1) (-1) (by omega) (by omega) (.inr rfl)))
   ·rw [pergolaref09_date.f, hwa, if_pos h1, if_pos (by omega), h45]
    rfl
   ·rw [pergolaref09_date.j0, if_pos rfl, hwb]
  ·rw [if_neg (fun h => h45 h.2)]
   refine Ev.congr (f := fun k => pergolaref09_date.j0 k s (a + 1) 1 false) (fun k => ?_) (Ev.step (fun k => ?_) (hJ (a + 1) 1 (by omega) (by omega) (.inl rfl)))
   ·rw [pergolaref09_date.f, hwa, if_pos h1, if_pos (by omega), beq_eq_false_iff_ne.mpr h45]
   ·rw [pergolaref09_date.j0, if_neg (by decide)]
 ·rw [if_neg (fun h => h1 h.1)]
  refine Ev.congr (f := fun k => pergolaref09_date.j0 k s (a + 1) 1 false) (fun k => ?_) (Ev.step (fun k => ?_) (hJ (a + 1) 1 (by omega) (by omega) (.inl rfl)))
  ·rw [pergolaref09_date.f, hwa, if_neg h1]
  ·rw [pergolaref09_date.j0, if_neg (by decide)]
end Go.Proofs.YtkbmbancfbfddaaGreatDoor.Pure
