/-
  DERIVED. GIVEN WITH THE SEED: THE PROGRAM's TIES (one call each: nine closed facts by the kernel) AND EACH ROW's TIE, after the 31st guide's Derived/Test/Toyas{Tie, Card}.lean. No idea stands in it: it is a product of the set-up. Laid BY PROGRAM, IN A SANDBOX (cutbox-door.mjs). By AI agents, Wed Nov 11 2026. No macro, syntax, notation, axiom, sorry.
-/
import Derived.Test.YtlaiggkgflbjhaaDoorRows
import Derived.LaidByTextLater
import Derived.SevenTiedAt
import Derived.LaidSub
import Derived.LaidOnce
namespace Go.Proofs.YtlaiggkgflbjhaaDoor
open Go
set_option maxRecDepth 100000
theorem seatTie1 : Tryd.prog.laidByTextLater [("pergola/sandbox.flags", Rows.laid_pergola_sandbox_flags), ("pergola/sandbox.tokens", Rows.laid_pergola_sandbox_tokens)] [.data, .widerDeep] true :=
  Program.laidByTextLater_by_one 33 8 29 (by kernel_rfl) (by kernel_rfl) (by kernel_rfl) (by kernel_rfl) (by kernel_rfl) (by kernel_rfl) (fun _ _ => by kernel_rfl)
theorem noOwnUnsafe : Tryd.pinned.checked.prog.headLifts.contains "ownunsafe" = false := by kernel_rfl
theorem tie : Tryd.prog.laidByTextLater [("pergola/sandbox.tokens", Rows.laid_pergola_sandbox_tokens)] [.widerDeep] true :=
  Program.laidByTextLater.sub seatTie1 ["pergola/sandbox.tokens"] (by kernel_rfl) (by kernel_rfl)
theorem sandboxBack_row_tie : Rows.sandboxBackRow.laidByTextAt .later Tryd.pinned [.widerDeep] true :=
  OpenClaim.laidByTextAt_later rfl rfl tie noOwnUnsafe
theorem sandboxSpelt_row_tie : Rows.sandboxSpeltRow.laidByTextAt .later Tryd.pinned [.widerDeep] true :=
  OpenClaim.laidByTextAt_later rfl rfl tie noOwnUnsafe
theorem sandboxLess_row_tie : Rows.sandboxLessRow.laidByTextAt .later Tryd.pinned [.widerDeep] true :=
  OpenClaim.laidByTextAt_later rfl rfl tie noOwnUnsafe
theorem sandboxParses_row_tie : Rows.sandboxParsesRow.laidByTextAt .later Tryd.pinned [.widerDeep] true :=
  OpenClaim.laidByTextAt_later rfl rfl tie noOwnUnsafe
theorem tie2 : Tryd.prog.laidByTextLater [("pergola/sandbox.flags", Rows.laid_pergola_sandbox_flags), ("pergola/sandbox.tokens", Rows.laid_pergola_sandbox_tokens)] [.data, .widerDeep] true :=
  Program.laidByTextLater.sub seatTie1 ["pergola/sandbox.flags", "pergola/sandbox.tokens"] (by kernel_rfl) (by kernel_rfl)
theorem sandboxPrints_row_tie : Rows.sandboxPrintsRow.laidByTextAt .later Tryd.pinned [.data, .widerDeep] true :=
  OpenClaim.laidByTextAt_later rfl rfl tie2 noOwnUnsafe
theorem sandboxOwn_row_tie : Rows.sandboxOwnRow.laidByTextAt .later Tryd.pinned [.data, .widerDeep] true :=
  OpenClaim.laidByTextAt_later rfl rfl tie2 noOwnUnsafe
theorem sandboxBackUpto_row_tie : Rows.sandboxBackUptoRow.laidByTextAt .later Tryd.pinned [.widerDeep] true :=
  OpenClaim.laidByTextAt_later rfl rfl tie noOwnUnsafe
theorem sandboxSpeltUpto_row_tie : Rows.sandboxSpeltUptoRow.laidByTextAt .later Tryd.pinned [.widerDeep] true :=
  OpenClaim.laidByTextAt_later rfl rfl tie noOwnUnsafe
theorem sandboxLessUpto_row_tie : Rows.sandboxLessUptoRow.laidByTextAt .later Tryd.pinned [.widerDeep] true :=
  OpenClaim.laidByTextAt_later rfl rfl tie noOwnUnsafe
theorem sandboxParsesUpto_row_tie : Rows.sandboxParsesUptoRow.laidByTextAt .later Tryd.pinned [.widerDeep] true :=
  OpenClaim.laidByTextAt_later rfl rfl tie noOwnUnsafe
theorem sandboxPrintsUpto_row_tie : Rows.sandboxPrintsUptoRow.laidByTextAt .later Tryd.pinned [.data, .widerDeep] true :=
  OpenClaim.laidByTextAt_later rfl rfl tie2 noOwnUnsafe
theorem sandboxOwnUpto_row_tie : Rows.sandboxOwnUptoRow.laidByTextAt .later Tryd.pinned [.data, .widerDeep] true :=
  OpenClaim.laidByTextAt_later rfl rfl tie2 noOwnUnsafe
end Go.Proofs.YtlaiggkgflbjhaaDoor
