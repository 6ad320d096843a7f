/- Where a run of bytes ends (tokE), a text with a byte behind it, and a key's and a token's own checks. -/
import Derived.Test.YtkbmbancfbfddaaGreatDoorX6
import Derived.Test.YtkbmbancfbfddaaGreatDoorX1
import Derived.Test.YtkbmbancfbfddaaGreatDoorX5
import Derived.Test.YtkbmbancfbfddaaGreatDoorPBase
namespace Go.Proofs.YtkbmbancfbfddaaGreatDoor.Pure
open Go.RowKit Go.Proofs.YtkbmbancfbfddaaGreatDoor.X Go.Proofs.YtkbmbancfbfddaaGreatDoorW.PrintWords Go.Proofs.YtkbmbancfbfddaaGreatDoorW.PrintLast Go.Proofs.YtkbmbancfbfddaaGreatDoorW.PrintMore

theorem ev_pos {α : Type} {c : Prop} [Decidable c] (h : c) {f g : Nat → Option α} {r : α} (hf : Ev f r) : Ev (fun k => if c then f k else g k) r := Ev.congr (fun _ => if_pos h) hf
theorem ev_neg {α : Type} {c : Prop} [Decidable c] (h : ¬ c) {f g : Nat → Option α} {r : α} (hf : Ev g r) : Ev (fun k => if c then f k else g k) r := Ev.congr (fun _ => if_neg h) hf
theorem ev_some {α : Type} {o : Option α} {r : α} (h : o = some r) : Ev (fun _ => o) r := Ev.congr (fun _ => h) (Ev.now r)

theorem tokE_to {T : Int → Bool} {s : ByteArray} {n : Int} (hn : n ≤ (s.size : Int)) (hT : ∀ i, 0 ≤ i → i < n → T (bt s i) = true) (hs : n < (s.size : Int) → T (bt s n) = false) : ∀ (d : Nat) (a : Int), 0 ≤ a → a + d = n → tokE T s a = n := by
 intro d
 induction d with
 | zero =>
  intro a h0 ha
  have : a = n := by omega
  subst this
  exact tokE_stop fun h => by rw [hs h.1] at h; exact absurd h.2 (by decide)
 | succ d ih =>
  intro a h0 ha
  rw [tokE_step (by omega) (hT a h0 (by omega))]
  exact ih (a + 1) (by omega) (by omega)
theorem tokE_spec (T : Int → Bool) (s : ByteArray) : ∀ (d : Nat) (a : Int), 0 ≤ a → a + d = (s.size : Int) → a ≤ tokE T s a ∧ tokE T s a ≤ (s.size : Int) ∧ (∀ i, a ≤ i → i < tokE T s a → T (bt s i) = true) := by
 intro d
 induction d with
 | zero =>
  intro a h0 ha
  rw [tokE_stop (fun h => by omega)]
  exact ⟨by omega, by omega, fun i h1 h2 => by omega⟩
 | succ d ih =>
  intro a h0 ha
  by_cases hT : T (bt s a) = true
  ·rw [tokE_step (by omega) hT]
   obtain ⟨h1, h2, h3⟩ := ih (a + 1) (by omega) (by omega)
   refine ⟨by omega, h2, fun i hi hlt => ?_⟩
   by_cases he : i = a
   ·rw [he]; exact hT
   ·exact h3 i (by omega) hlt
  ·rw [tokE_stop (fun h => hT h.2)]
   exact ⟨by omega, by omega, fun i h1 h2 => by omega⟩
theorem one_size (c : UInt8) : (⟨#[c]⟩ : ByteArray).size = 1 := rfl
theorem bytesOf_one (c : UInt8) : bytesOf ⟨#[c]⟩ = [(c.toNat : Int)] := rfl
theorem bytesOf_append (s t : ByteArray) : bytesOf (s ++ t) = bytesOf s ++ bytesOf t := by
 unfold bytesOf
 simp [ByteArray.data_append]
theorem bt_left {s t : ByteArray} {i : Int} (h0 : 0 ≤ i) (h : i < (s.size : Int)) : bt (s ++ t) i = bt s i := by
 obtain ⟨n, rfl⟩ : ∃ n : Nat, i = (n : Int) := ⟨i.toNat, by omega⟩
 rw [bt_at', bt_at', bytesOf_append]
 have hl := bytesOf_length s
 rw [List.getD_eq_getElem?_getD, List.getD_eq_getElem?_getD, List.getElem?_append_left (by omega)]
theorem bt_one {s : ByteArray} (c : UInt8) : bt (s ++ ⟨#[c]⟩) (s.size : Int) = (c.toNat : Int) := by
 rw [bt_at', bytesOf_append, bytesOf_one]
 have hl := bytesOf_length s
 rw [List.getD_eq_getElem?_getD, List.getElem?_append_right (by omega), show s.size - (bytesOf s).length = 0 by omega]
 rfl
theorem extract_left (s t : ByteArray) : (s ++ t).extract 0 s.size = s := by
 apply ByteArray.ext
 rw [ByteArray.data_extract, ByteArray.data_append]
 apply Array.ext'
 rw [Array.toList_extract, Array.toList_append]
 simp only [List.extract_eq_take_drop, List.drop_zero, Nat.sub_zero]
 exact List.take_left' (by rw [Array.length_toList]; rfl)
theorem size_one (s : ByteArray) (c : UInt8) : ((s ++ ⟨#[c]⟩ : ByteArray).size : Int) = s.size + 1 := by
 rw [ByteArray.size_append, one_size]
 omega

/-! keys -/
def keyB (c : Int) : Bool := (bare_keyed.f c).getD false
theorem keyB_f {c : Int} (h : 0 ≤ c ∧ c < 256) : bare_keyed.f c = some (keyB c) :=
 byte_all (p := fun c => bare_keyed.f c = some (keyB c)) (by decide +kernel) h
theorem byte_of (s : ByteArray) (i : Int) : 0 ≤ bt s i ∧ bt s i < 256 := ⟨(bt_range s i).1, by have := (bt_range s i).2; omega⟩
def keyFin (s : ByteArray) (E : Int) : ByteArray × Int × Int := if E > 64 then (⟨#[]⟩, 0, 5) else (s.extract 0 E.toNat, E, 0)
theorem key_l0 (s : ByteArray) (hs : s.size ≤ 140737488355328) (d : Nat) : ∀ (j : Nat), j + d = s.size → Ev (fun k => bare_ReadKey.l0 k s 0 (j : Int)) (keyFin s (tokE keyB s (j : Int))) := by
 have hend : ∀ j : Nat, j ≤ s.size → (if (wrap64 ((j : Int) - 0)) > 64 then (some ((⟨#[]⟩ : ByteArray), (0 : Int), (5 : Int))) else (if (0 : Int) ≤ 0 then (if (0 : Int) ≤ (j : Int) then (if (j : Int) ≤ (s.size : Int) then (some (s.extract (0 : Int).toNat (j : Int).toNat, (j : Int), (0 : Int))) else none) else none) else none)) = some (keyFin s (j : Int)) := by
  intro j hj
  have hw : wrap64 ((j : Int) - 0) = (j : Int) := by unfold wrap64; omega
  rw [hw, if_pos (Int.le_refl 0), if_pos (show (0 : Int) ≤ (j : Int) by omega), if_pos (show (j : Int) ≤ (s.size : Int) by omega)]
  unfold keyFin
  split <;> rfl
 induction d with
 | zero =>
  intro j hj
  refine Ev.step (f := fun _ => some (keyFin s (tokE keyB s (j : Int)))) (fun k => ?_) (Ev.now _)
  rw [bare_ReadKey.l0, if_neg (by omega), tokE_stop (fun h => by omega)]
  exact hend j (by omega)
 | succ d ih =>
  intro j hj
  have hw : wrap64 ((j : Int) + 1) = ((j + 1 : Nat) : Int) := by unfold wrap64; omega
  refine Ev.step (f := fun k => if keyB (bt s (j : Int)) = true then bare_ReadKey.l0 k s 0 ((j + 1 : Nat) : Int) else some (keyFin s (j : Int))) (fun k => ?_) ?_
  ·rw [bare_ReadKey.l0, if_pos (by omega), if_pos (by omega), keyB_f (byte_of s _), Option.bind_some, hw]
   split
   ·rfl
   ·exact hend j (by omega)
  ·by_cases hT : keyB (bt s (j : Int)) = true
   ·rw [tokE_step (by omega) hT]
    exact ev_pos hT (ih (j + 1) (by omega))
   ·rw [tokE_stop (fun h => hT h.2)]
    exact ev_neg hT (Ev.now _)
def firstB (c : Int) : Bool := (bare_small.f c).getD false || c == 42
theorem small_f (c : Int) : bare_small.f c = some ((bare_small.f c).getD false) := by
 unfold bare_small.f
 split <;> rfl
def rkey (s : ByteArray) : ByteArray × Int × Int := if s.size = 0 then (⟨#[]⟩, 0, 99) else if firstB (bt s 0) = true then keyFin s (tokE keyB s 0) else (⟨#[]⟩, 0, 101)
theorem rkey_f (s : ByteArray) (hs : s.size ≤ 140737488355328) : Ev (fun k => bare_ReadKey.f k s 0) (rkey s) := by
 have hd : decide ((0 : Int) > (s.size : Int)) = false := decide_eq_false (by omega)
 refine Ev.congr (fun k => ?_ : ∀ k, bare_ReadKey.f k s 0 = bare_ReadKey.j0 k s 0 false) ?_
 ·unfold bare_ReadKey.f
  rw [if_neg (by omega), hd]
 unfold rkey
 by_cases h0 : s.size = 0
 ·rw [if_pos h0]
  refine Ev.step (f := fun _ => some ((⟨#[]⟩ : ByteArray), (0 : Int), (99 : Int))) (fun k => ?_) (Ev.now _)
  rw [bare_ReadKey.j0, if_neg (by decide), if_pos (by omega)]
 ·rw [if_neg h0]
  have hk := key_l0 s hs s.size 0 (by omega)
  have hj : Ev (fun k => bare_ReadKey.j1 k s 0) (keyFin s (tokE keyB s 0)) := Ev.step (f := fun k => bare_ReadKey.l0 k s 0 0) (fun k => by rw [bare_ReadKey.j1]) hk
  refine Ev.step (f := fun k => if firstB (bt s 0) = true then bare_ReadKey.j1 k s 0 else some ((⟨#[]⟩ : ByteArray), (0 : Int), (101 : Int))) (fun k => ?_) ?_
  ·rw [bare_ReadKey.j0, if_neg (by decide), if_neg (by omega), if_pos (Int.le_refl 0), if_pos (by omega), small_f, Option.bind_some]
   unfold firstB
   by_cases h1 : (bare_small.f (bt s 0)).getD false = true
   ·rw [if_pos h1, if_pos (by rw [h1]; rfl)]
   ·rw [if_neg h1]
    by_cases h2 : bt s 0 = 42
    ·rw [if_pos h2, if_pos (by simp [h2])]
    ·rw [if_neg h2, if_neg (by simp [h1, h2])]
  ·by_cases h : firstB (bt s 0) = true
   ·rw [if_pos h]
    exact ev_pos h hj
   ·rw [if_neg h]
    exact ev_neg h (Ev.now _)
def iskey (s : ByteArray) : Bool := if (rkey s).2.2 = 0 then (if (rkey s).2.1 = (s.size : Int) then (rkey s).1.toList == s.toList else false) else false
theorem iskey_f (s : ByteArray) (hs : s.size ≤ 140737488355328) : Ev (fun k => bare_IsKey.f k s) (iskey s) := by
 unfold bare_IsKey.f
 refine Ev.bind (rkey_f s hs) ?_
 refine ev_some ?_
 unfold iskey
 split
 ·split <;> rfl
 ·rfl
/-- A key, and a byte behind it that is no key's: it is read whole. -/
theorem key_whole (s : ByteArray) (c : UInt8) (hc : keyB (c.toNat : Int) = false) (h : iskey s = true) : rkey (s ++ ⟨#[c]⟩) = (s, (s.size : Int), 0) := by
 unfold iskey at h
 split at h
 rotate_left
 ·exact absurd h (by decide)
 rename_i h2
 split at h
 rotate_left
 ·exact absurd h (by decide)
 rename_i h1
 unfold rkey at h1 h2
 by_cases h0 : s.size = 0
 ·rw [if_pos h0] at h2
  exact absurd h2 (by decide)
 rw [if_neg h0] at h1 h2
 by_cases hf : firstB (bt s 0) = true
 rotate_left
 ·rw [if_neg hf] at h2
  exact absurd h2 (by decide)
 rw [if_pos hf] at h1 h2
 unfold keyFin at h1 h2
 by_cases h64 : tokE keyB s 0 > 64
 ·rw [if_pos h64] at h2
  exact absurd h2 (by decide)
 rw [if_neg h64] at h1
 obtain ⟨_, _, hk⟩ := tokE_spec keyB s s.size 0 (by omega) (by omega)
 have hE : tokE keyB s 0 = (s.size : Int) := h1
 have hz := size_one s c
 have hE2 : tokE keyB (s ++ ⟨#[c]⟩) 0 = (s.size : Int) := by
  refine tokE_to (by omega) (fun i h0 hi => ?_) (fun _ => ?_) s.size 0 (by omega) (by omega)
  ·rw [bt_left h0 hi]
   exact hk i h0 (by omega)
  ·rw [bt_one]
   exact hc
 unfold rkey
 rw [if_neg (by omega), bt_left (by omega) (by omega), if_pos hf, hE2]
 unfold keyFin
 rw [if_neg (by omega), show ((s.size : Int)).toNat = s.size by omega, extract_left]

/-! tokens -/
theorem inTok_f {c : Int} (h : 0 ≤ c ∧ c < 256) : bare_inToken.f c = some (inTok c) := if_pos h
theorem tok_l0 (s : ByteArray) (hs : s.size ≤ 140737488355328) (d : Nat) : ∀ (j : Nat), j + d = s.size → Ev (fun k => bare_IsToken.l0 k s (s.size : Int) (j : Int)) (decide (tokE inTok s (j : Int) = (s.size : Int))) := by
 induction d with
 | zero =>
  intro j hj
  refine Ev.step (f := fun _ => some true) (fun k => ?_) ?_
  ·rw [bare_IsToken.l0, if_neg (by omega)]
  ·rw [tokE_stop (fun h => by omega), show decide ((j : Int) = (s.size : Int)) = true from decide_eq_true (by omega)]
   exact Ev.now _
 | succ d ih =>
  intro j hj
  have hw : wrap64 ((j : Int) + 1) = ((j + 1 : Nat) : Int) := by unfold wrap64; omega
  refine Ev.step (f := fun k => if inTok (bt s (j : Int)) = true then bare_IsToken.l0 k s (s.size : Int) ((j + 1 : Nat) : Int) else some false) (fun k => ?_) ?_
  ·rw [bare_IsToken.l0, if_pos (by omega), if_pos (by omega), if_pos (by omega), inTok_f (byte_of s _), Option.bind_some, hw]
  ·by_cases hT : inTok (bt s (j : Int)) = true
   ·rw [tokE_step (by omega) hT]
    exact ev_pos hT (ih (j + 1) (by omega))
   ·rw [tokE_stop (fun h => hT h.2), show decide ((j : Int) = (s.size : Int)) = false from decide_eq_false (by omega)]
    exact ev_neg hT (Ev.now _)
theorem letB_c {c : Int} (h : 0 ≤ c ∧ c < 256) : bare_letter.f c = some (letB c) := by
 have := letB_f c.toNat (by omega)
 rwa [show ((c.toNat : Nat) : Int) = c by omega] at this
def istok (s : ByteArray) : Bool := decide (s.size ≠ 0) && letB (bt s 0) && decide (tokE inTok s 0 = (s.size : Int))
theorem empty_iff (s : ByteArray) : s.toList = ([] : List UInt8) ↔ s.size = 0 := by
 rw [toList_data]
 constructor
 ·intro h
  have := Lib.size_eq s
  rw [h] at this
  simpa using this
 ·intro h
  exact List.eq_nil_of_length_eq_zero (by rw [Array.length_toList]; exact h)
theorem istok_f (s : ByteArray) (hs : s.size ≤ 140737488355328) : Ev (fun k => bare_IsToken.f k s) (istok s) := by
 unfold istok
 by_cases h0 : s.size = 0
 ·rw [show decide (s.size ≠ 0) = false from decide_eq_false (fun h => h h0)]
  refine Ev.congr (fun k => ?_ : ∀ k, bare_IsToken.f k s = bare_IsToken.j0 k s true) ?_
  ·unfold bare_IsToken.f
   rw [if_pos ((empty_iff s).2 h0)]
  ·refine Ev.step (f := fun _ => some false) (fun k => ?_) (Ev.now _)
   rw [bare_IsToken.j0, if_pos rfl]
 ·rw [show decide (s.size ≠ 0) = true from decide_eq_true h0, Bool.true_and]
  refine Ev.congr (fun k => ?_ : ∀ k, bare_IsToken.f k s = bare_IsToken.j0 k s (!letB (bt s 0))) ?_
  ·unfold bare_IsToken.f
   rw [if_neg (fun h => h0 ((empty_iff s).1 h)), if_pos (by omega), letB_c (byte_of s 0), Option.bind_some]
  ·cases hl : letB (bt s 0) with
   | false =>
    refine Ev.step (f := fun _ => some false) (fun k => ?_) (Ev.now _)
    rw [bare_IsToken.j0, if_pos (show (!false) = true from rfl)]
   | true =>
    refine Ev.step (f := fun k => bare_IsToken.l0 k s (s.size : Int) 0) (fun k => ?_) ?_
    ·rw [bare_IsToken.j0, if_neg (show ¬ (!true) = true by decide)]
    ·rw [Bool.true_and]
     exact tok_l0 s hs s.size 0 (by omega)
theorem let_not {c : Int} (h : 0 ≤ c ∧ c < 256) : letB c = true → dig c = false ∧ c ≠ 45 ∧ c ≠ 34 :=
 byte_all (p := fun c => letB c = true → dig c = false ∧ c ≠ 45 ∧ c ≠ 34) (by decide +kernel) h
/-- A token, and a byte behind it that is no token's: it is read whole. -/
theorem tok_whole (s : ByteArray) (hs : s.size ≤ 140737488355326) (c : UInt8) (hc : inTok (c.toNat : Int) = false) (h : istok s = true) : bare_Read.f (s ++ ⟨#[c]⟩) 0 = some (4, 0, s, (s.size : Int), 0) := by
 unfold istok at h
 simp only [Bool.and_eq_true, decide_eq_true_eq] at h
 obtain ⟨⟨h0, hl⟩, hE⟩ := h
 obtain ⟨_, _, hk⟩ := tokE_spec inTok s s.size 0 (by omega) (by omega)
 have hz := size_one s c
 have hz2 : (s ++ ⟨#[c]⟩ : ByteArray).size = s.size + 1 := by omega
 have hE2 : tokE inTok (s ++ ⟨#[c]⟩) 0 = (s.size : Int) := by
  refine tokE_to (by omega) (fun i h0 hi => ?_) (fun _ => ?_) s.size 0 (by omega) (by omega)
  ·rw [bt_left h0 hi]
   exact hk i h0 (by omega)
  ·rw [bt_one]
   exact hc
 obtain ⟨hd, h45, h34⟩ := let_not (byte_of s 0) hl
 unfold bare_Read.f readF rdRead rdItem
 rw [if_neg (by omega), if_neg (by omega), if_pos (by omega), bt_left (by omega) (by omega), if_neg (fun h => h.elim (fun h => by rw [hd] at h; cases h) h45), if_neg h34, if_pos hl]
 unfold rdToken
 rw [hE2, show ((s.size : Int)).toNat = s.size by omega, show (0 : Int).toNat = 0 from rfl, extract_left]
 rfl
end Go.Proofs.YtkbmbancfbfddaaGreatDoor.Pure
