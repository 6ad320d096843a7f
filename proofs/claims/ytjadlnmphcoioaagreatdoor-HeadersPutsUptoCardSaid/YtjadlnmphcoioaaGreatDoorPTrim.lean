/- What octets.Trim computes. (Carved out of XPParts.) -/
import Derived.Test.YtjadlnmphcoioaaGreatDoorX3
import Derived.Test.YtjadlnmphcoioaaGreatDoorPBase
namespace Go.Proofs.YtjadlnmphcoioaaGreatDoor.Pure
open Go.RowKit Go.Proofs.YtjadlnmphcoioaaGreatDoor.X Go.Proofs.YtjadlnmphcoioaaGreatDoorW.PrintWords Go.Proofs.YtjadlnmphcoioaaGreatDoorW.PrintLast Go.Proofs.YtjadlnmphcoioaaGreatDoorW.PrintMore

theorem rdw_cons (p : UInt8 → Bool) (a : UInt8) (t : List UInt8) : ((a :: t).reverse.dropWhile p).reverse = if (t.reverse.dropWhile p).reverse = [] ∧ p a = true then [] else a :: (t.reverse.dropWhile p).reverse := by
 rw [List.reverse_cons, List.dropWhile_append]
 by_cases h : t.reverse.dropWhile p = []
 ·rw [h]
  cases ha : p a <;> simp [ha]
 ·have h2 : ¬ (t.reverse.dropWhile p).reverse = [] := fun x => h (by rw [← List.reverse_reverse (t.reverse.dropWhile p), x]; rfl)
  rw [if_neg (by rw [List.isEmpty_iff]; exact h), if_neg (fun x => h2 x.1)]
  simp
theorem right_cons (a : UInt8) (t cs : List UInt8) : Lib.trimRightS (a :: t) cs = if Lib.trimRightS t cs = [] ∧ cs.contains a = true then [] else a :: Lib.trimRightS t cs :=
 rdw_cons (fun x => cs.contains x) a t
theorem around_comm (l cs : List UInt8) : Lib.trimRightS (Lib.trimLeftS l cs) cs = Lib.trimLeftS (Lib.trimRightS l cs) cs := by
 induction l with
 | nil => rfl
 | cons a t ih =>
  rw [right_cons]
  cases ha : cs.contains a
  ·rw [if_neg (by simp)]
   unfold Lib.trimLeftS
   rw [List.dropWhile_cons, List.dropWhile_cons, ha]
   simp only [Bool.false_eq_true, if_false]
   rw [right_cons, ha, if_neg (by simp)]
  ·have hL : ∀ m, Lib.trimLeftS (a :: m) cs = Lib.trimLeftS m cs := fun m => by
    unfold Lib.trimLeftS
    rw [List.dropWhile_cons, ha, if_pos rfl]
   rw [hL, ih]
   by_cases h : Lib.trimRightS t cs = []
   ·rw [if_pos ⟨h, rfl⟩, h]
   ·rw [if_neg (fun x => h x.1), hL]
theorem trim_le (l cs : List UInt8) : (Lib.trimS l cs).length ≤ l.length := by
 have h1 : ∀ (p : UInt8 → Bool) (m : List UInt8), (m.dropWhile p).length ≤ m.length := fun p m => (List.dropWhile_sublist p).length_le
 unfold Lib.trimS Lib.trimLeftS Lib.trimRightS
 refine Nat.le_trans (h1 _ _) ?_
 rw [List.length_reverse]
 refine Nat.le_trans (h1 _ _) ?_
 rw [List.length_reverse]
 exact Nat.le_refl _
def around (s : ByteArray) (cs : List UInt8) : ByteArray := ⟨(Lib.trimS s.data.toList cs).toArray⟩
theorem around_size (s : ByteArray) (cs : List UInt8) : (around s cs).size ≤ s.size := by
 unfold around
 rw [Lib.size_mk, Lib.size_eq s]
 exact trim_le _ _
theorem trim_f (s : ByteArray) (hs : s.size ≤ 140737488355328) : octets_Trim.f s = some (around s [9, 32]) := by
 rw [octets_Trim.f, strings_Trim.f, if_pos ⟨by omega, by decide, by decide, by decide⟩, Option.bind_some]
 rfl
end Go.Proofs.YtjadlnmphcoioaaGreatDoor.Pure
