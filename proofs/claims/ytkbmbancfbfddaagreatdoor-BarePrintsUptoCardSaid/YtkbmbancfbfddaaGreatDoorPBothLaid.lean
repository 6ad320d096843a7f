/- From the row's list (strconv's powers of ten, utf8's two tables) to the walks' facts. -/
import Derived.Test.YtkbmbancfbfddaaGreatDoorPPowLaid
import Derived.Test.YtkbmbancfbfddaaGreatDoorXWUtf
import Derived.Lib.LaidU8
namespace Go.Proofs.YtkbmbancfbfddaaGreatDoor.Pure
open Go Go.Lib Go.Shelf Go.Proofs.YtkbmbancfbfddaaGreatDoorW.PrintWords

theorem firstLaid_form : (Rows.laid_unicode_utf8_first : DataW Unit) = firstData := by kernel_rfl
theorem acceptLaid_form : (Rows.laid_unicode_utf8_acceptRanges : DataW Unit) = acceptData := by kernel_rfl
theorem utf8_extra : U8Extra Tryz.prog Tryz.lays197_ren :=
 ⟨by kernel_rfl, by kernel_rfl, by kernel_rfl, by kernel_rfl, by kernel_rfl, by kernel_rfl, by kernel_rfl⟩
theorem both_of_laid {W : World} {a b : String × DataW Unit} {rest : List (String × DataW Unit)} (h : laidMet Tryz.prog (a :: b :: ("internal/strconv.uint64pow10", Rows.laid_internal_strconv_uint64pow10) :: ("unicode/utf8.acceptRanges", Rows.laid_unicode_utf8_acceptRanges) :: ("unicode/utf8.first", Rows.laid_unicode_utf8_first) :: rest) W) : PowIs W ∧ Utf8Is W := by
 refine ⟨tok_of_laid h, ?_⟩
 have h3 := Go.Lib.laidMet.reads h (n := "unicode/utf8.first") (d := Rows.laid_unicode_utf8_first) (by simp)
 have h4 := Go.Lib.laidMet.reads h (n := "unicode/utf8.acceptRanges") (d := Rows.laid_unicode_utf8_acceptRanges) (by simp)
 rw [firstLaid_form] at h3
 rw [acceptLaid_form] at h4
 exact utf8Tabs_of_reads (ρ := Tryz.lays197_ren) { Tryz.lays197 with } utf8_extra h3 h4
end Go.Proofs.YtkbmbancfbfddaaGreatDoor.Pure
