/- BareMoves: what is read hangs on the text from the place on alone. -/
import Derived.Test.YtkbmbancfbfddaaGreatDoorX7
import Derived.Test.YtkbmbancfbfddaaGreatDoorPAlive
import Derived.Test.YtkbmbancfbfddaaGreatDoorPReadTot
namespace Go.Proofs.YtkbmbancfbfddaaGreatDoor.Pure
open Go.RowKit Go.Proofs.YtkbmbancfbfddaaGreatDoor.X Go.Proofs.YtkbmbancfbfddaaGreatDoorW.PrintWords Go.Proofs.YtkbmbancfbfddaaGreatDoorW.PrintLast Go.Proofs.YtkbmbancfbfddaaGreatDoorW.PrintMore

theorem num_f (e : Int) : pergolalaw09_num.f e = some e := rfl
theorem alive_ev : Ev (fun k => pergolalaw09_alive.f k) true := Ev.of (fun k => pergolalaw09_alive.mono k) alive_20
/-- What Read answers, flat. -/
def flat (A : (Int × Int × ByteArray) × Int × Int) : Int × Int × ByteArray × Int × Int := (A.1.1, A.1.2.1, A.1.2.2, A.2.1, A.2.2)
theorem read_at (s : ByteArray) {a : Int} {R : RR} (h0 : 0 ≤ a) (h : a < (s.size : Int)) (hs : s.size ≤ 140737488355327) (hR : rdItem inTok letB ixCol Go.Proofs.YtkbmbancfbfddaaGreatDoor.X.un64 vaF unHx octets_Lower.f s a = some R) : bare_Read.f s a = some (flat (rdAns R)) := by
 unfold bare_Read.f readF rdRead
 rw [if_neg (by omega), if_neg (by omega), if_pos hs, hR]
 rfl
theorem read_end (s : ByteArray) : bare_Read.f s (s.size : Int) = some (0, 0, ⟨#[]⟩, (s.size : Int), 99) := by
 unfold bare_Read.f readF rdRead
 rw [if_neg (by omega), if_pos rfl]
 rfl
theorem ixCol_ge (a : ByteArray) : -1 ≤ ixCol a := Lib.indexByte_ge _ _
theorem index_app (c : UInt8) : ∀ (l m : List UInt8), 0 ≤ Lib.indexByte l c → Lib.indexByte (l ++ m) c = Lib.indexByte l c
 | [], m, h => by simp [Lib.indexByte] at h
 | b :: l, m, h => by
  have ih := index_app c l m
  have hge := Lib.indexByte_ge l c
  unfold Lib.indexByte at h ⊢
  simp only [List.cons_append]
  by_cases hb : (b == c) = true
  ·rw [if_pos hb, if_pos hb]
  ·rw [if_neg hb] at h
   rw [if_neg hb, if_neg hb]
   by_cases h1 : (Lib.indexByte l c == -1) = true
   ·rw [if_pos h1] at h
    exact absurd h (by decide)
   ·have h2 : 0 ≤ Lib.indexByte l c := by
     have : Lib.indexByte l c ≠ -1 := fun e => h1 (by rw [e]; rfl)
     omega
    rw [ih h2]
theorem ixCol_app (x y : ByteArray) (h : 0 ≤ ixCol x) : ixCol (x ++ y) = ixCol x := by
 unfold ixCol at h ⊢
 rw [ByteArray.data_append, Array.toList_append]
 exact index_app _ _ _ h
/-- Behind a byte that ends what is read. -/
theorem read_behind (s b : ByteArray) (c : UInt8) (hc : c = 59 ∨ c = 44) (h0 : 0 < s.size) (hs : (s ++ ⟨#[c]⟩ ++ b : ByteArray).size ≤ 140737488355327) (v : (Int × Int × ByteArray) × Int)
  (hR : rdItem inTok letB ixCol Go.Proofs.YtkbmbancfbfddaaGreatDoor.X.un64 vaF unHx octets_Lower.f s 0 = some (.inr v)) : bare_Read.f (s ++ ⟨#[c]⟩ ++ b) 0 = some (flat (rdAns (.inr v))) := by
 rw [ByteArray.append_assoc] at hs ⊢
 have hz := size_app s (⟨#[c]⟩ ++ b)
 have hb : bt (s ++ (⟨#[c]⟩ ++ b)) (s.size : Int) = (c.toNat : Int) := by
  have h1 := bt_right s (⟨#[c]⟩ ++ b) (i := 0) (Int.le_refl 0)
  rw [Int.zero_add] at h1
  rw [h1, bt_fore ⟨#[c]⟩ b (Int.le_refl 0) (by show (0 : Int) < ((1 : Nat) : Int); decide)]
  rfl
 have ht : 0 < (⟨#[c]⟩ ++ b : ByteArray).size := by rw [ByteArray.size_append, show (⟨#[c]⟩ : ByteArray).size = 1 from rfl]; omega
 have e1 : dig (c.toNat : Int) = false := by rcases hc with rfl | rfl <;> rfl
 have e2 : (c.toNat : Int) ≠ 46 := by rcases hc with rfl | rfl <;> decide
 have e3 : (c.toNat : Int) ≠ 45 := by rcases hc with rfl | rfl <;> decide
 have e4 : inTok (c.toNat : Int) = false := by rcases hc with rfl | rfl <;> decide +kernel
 have hf := item_fore s (⟨#[c]⟩ ++ b) vaF unHx octets_Lower.f inTok letB ixCol ixCol_lt ixCol_app Go.Proofs.YtkbmbancfbfddaaGreatDoor.X.un64 (c.toNat : Int) hb ht e1 e2 e3 e4 (Int.le_refl 0) (by omega) v hR
 generalize hS : s ++ (⟨#[c]⟩ ++ b) = S at *
 exact read_at S (Int.le_refl 0) (by omega) hs hf
theorem moves_j1_t (x1 x2 : ByteArray) (x8 x9 y0 y1 : Int) (y2 : ByteArray) : Ev (fun k => pergolalaw09_BareMoves.j1 k x1 x2 x8 x9 true y0 y1 y2) true :=
 Ev.step (f := fun _ => some true) (fun k => by rw [pergolalaw09_BareMoves.j1, if_pos rfl]) (Ev.now _)
theorem moves_j0 (s b : ByteArray) (hs : s.size ≤ 1048576) (hb : b.size ≤ 1048576) (A : Int × Int × ByteArray × Int × Int)
  (hA : A.2.2.2.2 = 0 → A.2.2.2.1 = (s.size : Int) → ∃ v, 0 < s.size ∧ rdItem inTok letB ixCol Go.Proofs.YtkbmbancfbfddaaGreatDoor.X.un64 vaF unHx octets_Lower.f s 0 = some (.inr v) ∧ A = flat (rdAns (.inr v))) :
  Ev (fun k => pergolalaw09_BareMoves.j0 k s b A.2.2.2.1 A.2.2.2.2 false A.1 A.2.1 A.2.2.1) true := by
 refine Ev.step (f := fun k => (pergolalaw09_num.f A.2.2.2.2).bind fun t166 => (if t166 = 0 then (pergolalaw09_BareMoves.j1 k s b A.2.2.2.1 A.2.2.2.2 (A.2.2.2.1 != (s.size : Int)) A.1 A.2.1 A.2.2.1) else (pergolalaw09_BareMoves.j1 k s b A.2.2.2.1 A.2.2.2.2 true A.1 A.2.1 A.2.2.1))) (fun k => by rw [pergolalaw09_BareMoves.j0, if_neg (by decide)]) ?_
 by_cases he : A.2.2.2.2 = 0
 ·refine Ev.congr (fun k => ?_ : ∀ k, _ = pergolalaw09_BareMoves.j1 k s b A.2.2.2.1 A.2.2.2.2 (A.2.2.2.1 != (s.size : Int)) A.1 A.2.1 A.2.2.1) ?_
  ·rw [num_f, Option.bind_some, if_pos he]
  ·by_cases hp : A.2.2.2.1 = (s.size : Int)
   ·obtain ⟨v, h0, hR, hv⟩ := hA he hp
    have z1 : ∀ c : UInt8, (s ++ ⟨#[c]⟩ ++ b : ByteArray).size = s.size + 1 + b.size := fun c => by rw [ByteArray.size_append, ByteArray.size_append]; rfl
    have z2 : ∀ c : UInt8, (s ++ ⟨#[c]⟩ : ByteArray).size = s.size + 1 := fun c => by rw [ByteArray.size_append]; rfl
    have r1 := read_behind s b 59 (.inl rfl) h0 (by rw [z1]; omega) v hR
    have r2 := read_behind s b 44 (.inr rfl) h0 (by rw [z1]; omega) v hR
    rw [← hv] at r1 r2
    have hb2 : (A.2.2.2.1 != (s.size : Int)) = false := by simp [hp]
    rw [hb2]
    refine Ev.step (f := fun _ => some true) (fun k => ?_) (Ev.now _)
    rw [pergolalaw09_BareMoves.j1, if_neg (by decide), if_pos (by omega), if_pos (by rw [z2]; omega), r1, Option.bind_some, if_pos (by rw [z2]; omega), r2, Option.bind_some]
    simp
   ·have hb2 : (A.2.2.2.1 != (s.size : Int)) = true := by simp [hp]
    rw [hb2]
    exact moves_j1_t _ _ _ _ _ _ _
 ·refine Ev.congr (fun k => ?_ : ∀ k, _ = pergolalaw09_BareMoves.j1 k s b A.2.2.2.1 A.2.2.2.2 true A.1 A.2.1 A.2.2.1) (moves_j1_t _ _ _ _ _ _ _)
  rw [num_f, Option.bind_some, if_neg he]
theorem BareMovesU : pergolalaw09_BareMoves.PureU := by
 intro p s b hp hs hb
 refine Ev.rounds ?_
 have hz := size_app p s
 have hzn : (p ++ s : ByteArray).size = p.size + s.size := ByteArray.size_append
 -- both readings
 have key : ∃ A : Int × Int × ByteArray × Int × Int, bare_Read.f s 0 = some A ∧ bare_Read.f (p ++ s) (p.size : Int) = some (A.1, A.2.1, A.2.2.1, A.2.2.2.1 + p.size, A.2.2.2.2) ∧ (-1 ≤ A.2.2.2.1 ∧ A.2.2.2.1 ≤ (s.size : Int) + 3) ∧
   (A.2.2.2.2 = 0 → A.2.2.2.1 = (s.size : Int) → ∃ v, 0 < s.size ∧ rdItem inTok letB ixCol Go.Proofs.YtkbmbancfbfddaaGreatDoor.X.un64 vaF unHx octets_Lower.f s 0 = some (.inr v) ∧ A = flat (rdAns (.inr v))) := by
  by_cases h0 : s.size = 0
  ·refine ⟨(0, 0, ⟨#[]⟩, 0, 99), ?_, ?_, ⟨by decide, by simp only; omega⟩, fun h => absurd h (by decide)⟩
   ·have := read_end s
    rwa [h0] at this
   ·have := read_end (p ++ s)
    rw [hzn, h0, Nat.add_zero] at this
    rw [this]
    simp
  ·obtain ⟨R, hR, hL⟩ := item_lies s (by omega) (Int.le_refl 0) (by omega)
   refine ⟨flat (rdAns R), read_at s (Int.le_refl 0) (by omega) (by omega) hR, ?_, ?_, ?_⟩
   ·have hm := item_right p s vaF unHx octets_Lower.f inTok letB ixCol ixCol_ge Go.Proofs.YtkbmbancfbfddaaGreatDoor.X.un64 (a := 0) (Int.le_refl 0) (by omega)
    rw [hR, Int.zero_add] at hm
    rw [read_at (p ++ s) (by omega) (by omega) (by omega) hm]
    cases R <;> rfl
   ·cases R with
    | inl f => exact ⟨hL.2.1, hL.2.2⟩
    | inr v => exact hL
   ·intro he _
    cases R with
    | inl f => exact absurd he hL.1
    | inr v => exact ⟨v, by omega, hR, rfl⟩
 obtain ⟨A, r1, r2, hl, hA⟩ := key
 have hw : wrap64 (A.2.2.2.1 + (p.size : Int)) = A.2.2.2.1 + p.size := by unfold wrap64; omega
 have hj := moves_j0 s b hs hb A hA
 unfold pergolalaw09_BareMoves.f
 refine Ev.bind alive_ev ?_
 refine Ev.congr (fun k => ?_ : ∀ k, _ = pergolalaw09_BareMoves.j0 k s b A.2.2.2.1 A.2.2.2.2 false A.1 A.2.1 A.2.2.1) hj
 rw [if_pos rfl, r1, Option.bind_some, if_pos (by omega), r2, Option.bind_some]
 simp [hw]
end Go.Proofs.YtkbmbancfbfddaaGreatDoor.Pure
