/- Layer 9's reader: its date, by hand. -/
import Derived.Test.YtclkclcacnpmbaaDoorXWRt
namespace Go.Proofs.YtclkclcacnpmbaaDoorW.PrintWords
open Go.RowKit

def pw (k : Int) : Int := 10 ^ k.toNat
theorem pw_step {k : Int} (h : 0 ≤ k) : pw (k + 1) = 10 * pw k := by
 unfold pw
 rw [show (k + 1).toNat = k.toNat + 1 by omega, Int.pow_succ, Int.mul_comm]
theorem pw_le {k : Int} (h : k ≤ 15) : pw k ≤ 1000000000000000 := by
 unfold pw
 have h2 : k.toNat ≤ 15 := by omega
 generalize k.toNat = n at h2
 have : ∀ n, n ≤ 15 → (10 : Int) ^ n ≤ 1000000000000000 := by decide
 exact this n h2
theorem dig_iff {c : Int} : dig c = true ↔ 48 ≤ c ∧ c ≤ 57 := by unfold dig; simp

end Go.Proofs.YtclkclcacnpmbaaDoorW.PrintWords
