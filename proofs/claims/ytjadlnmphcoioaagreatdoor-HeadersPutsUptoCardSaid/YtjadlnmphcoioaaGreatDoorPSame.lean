/- What headers.All, Get, Remove compute. (Carved out of XPNames.) -/
import Derived.Test.YtjadlnmphcoioaaGreatDoorPCheck
import Derived.Test.YtjadlnmphcoioaaGreatDoorPLow
import Derived.Test.YtjadlnmphcoioaaGreatDoorX11
import Derived.Test.YtjadlnmphcoioaaGreatDoorX6
import Derived.Test.YtjadlnmphcoioaaGreatDoorPRAround
namespace Go.Proofs.YtjadlnmphcoioaaGreatDoor.Pure
open Go.RowKit Go.Proofs.YtjadlnmphcoioaaGreatDoor.X Go.Proofs.YtjadlnmphcoioaaGreatDoorW.PrintWords Go.Proofs.YtjadlnmphcoioaaGreatDoorW.PrintLast Go.Proofs.YtjadlnmphcoioaaGreatDoorW.PrintMore

theorem same_f (a b : ByteArray) (ha : a.size ≤ 1048576) (hb : b.size ≤ 1048576) : octets_Same.f a b = some (eqn a b) := by
 rw [octets_Same.f, lower_f a (by omega), Option.bind_some, lower_f b (by omega), Option.bind_some, low_eq]
theorem sameB_eqn (a b : ByteArray) (ha : a.size ≤ 1048576) (hb : b.size ≤ 1048576) : sameB a b = eqn a b := by
 unfold sameB
 rw [same_f a b ha hb]
 cases eqn a b <;> rfl
def of_ (name : ByteArray) (l : List Hd) : List Hd := l.filter fun h => eqn h.f0 name
def no_ (name : ByteArray) (l : List Hd) : List Hd := l.filter fun h => !eqn h.f0 name

/-! Get -/
/-! Remove -/
theorem filter_alike {p q : Hd → Bool} (l : List Hd) (h : ∀ x ∈ l, p x = q x) : l.filter p = l.filter q := List.filter_congr h
theorem remove_f (l : List Hd) (hl : l.length ≤ 1048577) (hs : ∀ h ∈ l, h.f0.size ≤ 1048576) (name : ByteArray) (hn : name.size ≤ 1048576) : headers_Remove.f l name = some (no_ name l) := by
 rw [headers_Remove.f, if_pos ⟨by omega, List.all_eq_true.2 fun h hh => by rw [same_f _ _ (hs h hh) hn]; rfl⟩]
 congr 1
 exact filter_alike l fun h hh => by rw [sameB_eqn _ _ (hs h hh) hn]
end Go.Proofs.YtjadlnmphcoioaaGreatDoor.Pure
