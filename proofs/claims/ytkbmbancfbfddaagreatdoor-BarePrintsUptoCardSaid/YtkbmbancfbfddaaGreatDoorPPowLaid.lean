/- From the row's list (strconv's powers of ten as their initialiser lays them) to the walks' fact. -/
import Derived.Test.YtkbmbancfbfddaaGreatDoorRows
import Derived.Test.YtkbmbancfbfddaaGreatDoorXWPow
import Derived.Lib.LaidTab
import Derived.ChangeSame
import Derived.KernelRfl
namespace Go.Proofs.YtkbmbancfbfddaaGreatDoor.Pure
open Go Go.Proofs.YtkbmbancfbfddaaGreatDoorW.PrintWords

theorem powLaid_form : (Rows.laid_internal_strconv_uint64pow10 : DataW Unit) = Lib.tabData .u64 Lib.pow10Tab := by kernel_rfl
theorem powLaid_type : (Tryz.prog.globals[0]?).map (·.type) = some 135 := by kernel_rfl
theorem powLaid_c1 : Tryz.prog.cellsOf 118 = 1 := by kernel_rfl
theorem powLaid_c2 : Tryz.prog.cellsOf 135 = 20 := by kernel_rfl
theorem powLaid_t : Tryz.prog.underlying 135 = some (.array 20 118) := by kernel_rfl
theorem powLaid_e : Tryz.prog.underlying 118 = some (.int .u64) := by kernel_rfl
theorem tok_of_laid {W : World} {a b : String × DataW Unit} {rest : List (String × DataW Unit)} (h : laidMet Tryz.prog (a :: b :: ("internal/strconv.uint64pow10", Rows.laid_internal_strconv_uint64pow10) :: rest) W) : PowIs W := by
 obtain ⟨ps, ⟨g, t, cs, fuel, p, q, hg, ht, hvar, hd, ⟨g2, t2, cs2, fuel2, p2, q2, hg2, ht2, hvar2, hd2, ⟨g3, t3, cs3, fuel3, p3, q3, hg3, ht3, hvar3, hd3, _, _⟩, _⟩, _⟩, _⟩ := h
 obtain rfl := Option.some.inj (pow_named.symm.trans hg3)
 obtain rfl := Option.some.inj (powLaid_type.symm.trans ht3)
 rw [powLaid_form] at hd3
 unfold PowIs Lib.TabIs
 rw [hvar3, ← Lib.cells_of_tab powLaid_t powLaid_e powLaid_c1 powLaid_c2 hd3]
end Go.Proofs.YtkbmbancfbfddaaGreatDoor.Pure
