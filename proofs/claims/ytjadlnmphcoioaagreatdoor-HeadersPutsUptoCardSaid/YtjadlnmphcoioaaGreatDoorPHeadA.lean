/- What headers.one, line, Normal compute, and strings.Cut at a colon; on lists of bytes. -/
import Derived.Test.YtjadlnmphcoioaaGreatDoorX12
import Derived.Test.YtjadlnmphcoioaaGreatDoorPTok
import Derived.Test.YtjadlnmphcoioaaGreatDoorPTrim
import Derived.Test.YtjadlnmphcoioaaGreatDoorPCut
namespace Go.Proofs.YtjadlnmphcoioaaGreatDoor.Pure
open Go.RowKit Go.Proofs.YtjadlnmphcoioaaGreatDoor.X Go.Proofs.YtjadlnmphcoioaaGreatDoorW.PrintWords Go.Proofs.YtjadlnmphcoioaaGreatDoorW.PrintLast Go.Proofs.YtjadlnmphcoioaaGreatDoorW.PrintMore

abbrev Hd := S72

/-! may a header be -/
def nlb (v : ByteArray) : Bool := Lib.containsAny v.data.toList crlf0.data.toList
def oneOf (n v : ByteArray) : Int := if toks n = true then (if (n.size : Int) > 64 then 5 else if nlb v = true then 112 else if around v [9, 32] = v then 0 else 112) else 111
theorem one_f (n v : ByteArray) (hn : n.size ≤ 1048576) (hv : v.size ≤ 1048576) : Ev (fun k => headers_one.f k n v) (oneOf n v) := by
 unfold oneOf
 have e : ∀ k, headers_one.f k n v = (octets_IsToken.f k n).bind fun t => if t = true then (if (n.size : Int) > 64 then some 5 else if nlb v = true then some 112 else if around v [9, 32] = v then some 0 else some 112) else some 111 := fun k => by
  rw [headers_one.f]
  congr 1
  funext t
  rw [show strings_ContainsAny.f v (⟨#[0, 10, 13]⟩ : ByteArray) = some (nlb v) from if_pos ⟨by omega, rfl⟩, Option.bind_some, trim_f v (by omega), Option.bind_some]
  simp only [toList_inj]
 refine Ev.congr e (Ev.bind (istok_l0 n hn n.size 0 (by omega)) (ev_some ?_))
 show (if toks n = true then _ else _) = _
 repeat' split
 all_goals rfl

/-! a line -/
def u8 (n : Int) : UInt8 := UInt8.ofNat n.toNat
theorem data_str (s : ByteArray) : s.data.toList = (bytesOf s).map u8 := by
 conv => lhs; rw [← str_bytesOf s]
 rfl
/-! a colon -/
/-! what surrounds a value -/
def n4 : List UInt8 := [9, 10, 13, 32]
theorem normal_f (s : ByteArray) (hs : s.size ≤ 1048576) : headers_Normal.f s = some (around s n4) := by
 rw [headers_Normal.f, strings_Trim.f, if_pos ⟨by omega, by decide, by decide, by decide⟩, Option.bind_some]
 rfl
end Go.Proofs.YtjadlnmphcoioaaGreatDoor.Pure
