/- The table of powers of ten that strconv's numerals read, and strconv.FormatInt at base 10 over it. -/
import Derived.Test.YtkbmbancfbfddaaGreatDoorXW
import Derived.Test.YtkbmbancfbfddaaGreatDoorShelf
namespace Go.Proofs.YtkbmbancfbfddaaGreatDoorW.PrintWords
open Go.RowKit

def PowIs (w : World) : Prop := Lib.TabIs Tryz.prog w "internal/strconv.uint64pow10" .u64 Lib.pow10Tab
theorem pow_named : Tryz.prog.globalNamed "internal/strconv.uint64pow10" = some 0 := by kernel_rfl
theorem PowIs.below {w w1 : World} (h : PowIs w) (hb : Below w.heap.size w w1) : PowIs w1 := by
 unfold PowIs Lib.TabIs World.var? at h ⊢
 rw [pow_named] at h ⊢
 simp only [Option.bind_some] at h ⊢
 have hlt : 0 < w.heap.size := by
  rcases Nat.lt_or_ge 0 w.heap.size with h' | h'
  ·exact h'
  ·rw [Array.getElem?_eq_none h'] at h; cases h
 rw [hb.block _ hlt]
 exact h
theorem formatInt (n : Int) (h0 : -9223372036854775808 ≤ n) (h1 : n ≤ 9223372036854775807) (w : World) (h : PowIs w) :
  Calls Tryz.prog 25 #[.int .i64 n, .int .i64 10] w fun e w' => e = .returned (.string ⟨(Lib.itoa n).toArray⟩) ∧ Below w.heap.size w w' :=
 (Tryz.strconv_FormatInt_10 n h0 h1 w h).mono fun e w' ⟨he, k, os, hw⟩ => ⟨he, by
  subst hw
  exact ⟨rfl, rfl, rfl, by show w.heap.size ≤ (w.heap ++ os).size; rw [Array.size_append]; omega, fun _ hj => Sort.heap_grow_old (w.drewN k) os hj⟩⟩
end Go.Proofs.YtkbmbancfbfddaaGreatDoorW.PrintWords
