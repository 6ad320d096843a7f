/- Bytes, texts as lists of bytes: plain lemmas. -/
import Derived.Test.YtclkclcacnpmbaaDoorXW
import Derived.Laws.BitsAllLaws
namespace Go.Proofs.YtclkclcacnpmbaaDoor.Pure
open Go.RowKit Go.Proofs.YtclkclcacnpmbaaDoorW.PrintWords Go.Proofs.YtclkclcacnpmbaaDoorW.PrintLast Go.Proofs.YtclkclcacnpmbaaDoorW.PrintMore

def Bytes (l : List Int) : Prop := ∀ x ∈ l, 0 ≤ x ∧ x < 256
theorem Bytes.at_ {l : List Int} (h : Bytes l) (i : Nat) : 0 ≤ l.getD i 0 ∧ l.getD i 0 < 256 := by
 rw [List.getD_eq_getElem?_getD]
 cases hx : l[i]? with
 | none => simp
 | some x => exact h x (List.mem_of_getElem? hx)
theorem Bytes.nil : Bytes [] := fun x hx => by cases hx
theorem Bytes.cons {a : Int} {l : List Int} (ha : 0 ≤ a ∧ a < 256) (h : Bytes l) : Bytes (a :: l) := fun x hx => by
 rcases List.mem_cons.1 hx with rfl | h1
 ·exact ha
 ·exact h x h1
theorem Bytes.head {a : Int} {l : List Int} (h : Bytes (a :: l)) : 0 ≤ a ∧ a < 256 := h a (by simp)
theorem Bytes.tail {a : Int} {l : List Int} (h : Bytes (a :: l)) : Bytes l := fun x hx => h x (by simp [hx])
theorem Bytes.append {l m : List Int} (h : Bytes l) (k : Bytes m) : Bytes (l ++ m) := fun x hx => by
 rcases List.mem_append.1 hx with h1 | h1
 ·exact h x h1
 ·exact k x h1
theorem Bytes.left {l m : List Int} (h : Bytes (l ++ m)) : Bytes l := fun x hx => h x (by simp [hx])
theorem Bytes.right {l m : List Int} (h : Bytes (l ++ m)) : Bytes m := fun x hx => h x (by simp [hx])
theorem Bytes.drop {l : List Int} (h : Bytes l) (n : Nat) : Bytes (l.drop n) := fun x hx => h x (List.mem_of_mem_drop hx)
theorem Bytes.take {l : List Int} (h : Bytes l) (n : Nat) : Bytes (l.take n) := fun x hx => h x (List.mem_of_mem_take hx)
theorem Bytes.of (s : ByteArray) : Bytes (bytesOf s) := fun x hx => by
 obtain ⟨b, _, rfl⟩ := List.mem_map.1 hx
 have := b.toNat_lt
 omega
end Go.Proofs.YtclkclcacnpmbaaDoor.Pure
