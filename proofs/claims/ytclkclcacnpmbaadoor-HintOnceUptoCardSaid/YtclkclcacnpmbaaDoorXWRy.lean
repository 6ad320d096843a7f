/- Layer 9's reader: its display string, by hand, over what utf.Valid, octets.Unhex and octets.Lower do. -/
import Derived.Test.YtclkclcacnpmbaaDoorXWRb
namespace Go.Proofs.YtclkclcacnpmbaaDoorW.PrintWords
open Go.RowKit

section
variable (V : ByteArray → Option (Bool × Int)) (U : ByteArray → Option (List Int × Int × Int)) (L : ByteArray → Option ByteArray)
end
theorem cell_more {w w1 : World} (hb : Below w.heap.size w w1) {a : Addr} {v : Value} (h : w.cell? a = some v) : w1.cell? a = some v := by
 have hlt : a.block < w.heap.size := by
  rcases Nat.lt_or_ge a.block w.heap.size with h1 | h1
  ·exact h1
  ·simp [World.cell?, Array.getElem?_eq_none h1] at h
 unfold World.cell?
 rw [hb.block _ hlt]
 exact h
end Go.Proofs.YtclkclcacnpmbaaDoorW.PrintWords
