/- Layer 9's reader: its text, by hand. -/
import Derived.Test.YtclkclcacnpmbaaDoorXWRt
namespace Go.Proofs.YtclkclcacnpmbaaDoorW.PrintWords
open Go.RowKit

section
variable {s : ByteArray} {a : Int} {xs : List Int}
end
abbrev RowF (w : World) (b : Nat) (v : Value) (xs : List Int) : Prop := Kd.R (Kd.int .u8) 5 w b (fun k => b ≤ k) v xs
theorem RowF.keep {w w1 : World} {g b : Nat} {v : Value} {xs : List Int} (h : RowF w b v xs) (hk : Went w w1 g) (hg : g < b) : RowF w1 b v xs := Kd.R_keep h hk.keep (fun k hk => by omega)
end Go.Proofs.YtclkclcacnpmbaaDoorW.PrintWords
