/-
  DERIVED. GIVEN WITH THE SEED: THE CARDS: each row of YtjadlnmphcoioaaDoorRows.lean that lists a variable, with what it lists TIED to the program's text (the seventh form; the later family's looks); each row that meets fmt, with fmt's text TOLD by the authors' own Lean function (tested against real Go, not proved from fmt's source: count such statements apart). THE CARD IS WHAT COUNTS. Prove the row's statement (the work); the ties are given (YtjadlnmphcoioaaDoorTie.lean); close each card by the builder's one call (the guide's Derived/Test/ToyasCard.lean, 'card_holds'). Laid BY PROGRAM, IN A SANDBOX (cutbox-door.mjs). By AI agents, Wed Nov 11 2026. No macro, syntax, notation, axiom, sorry.
-/
import Derived.Test.YtjadlnmphcoioaaDoorRows
import GoSem.ClaimSeven
namespace Go.Proofs.YtjadlnmphcoioaaDoor
namespace Rows

/-- THE TIED CARD OF 'pergolalaw11.HeadersBlocks'. -/
def headersBlocksCard : Claim7 := { stood := { row := headersBlocksRow, standIns := [], harness := (true, "655458373b648b487fb9d7b7653690130d1d704c79bf9ce8aefa573dfdef7c65"), looks := false }, kinds := [], alts := [], laidByText := true, laidKinds := [.data, .pinned], laidTests := true, laidLooks := .later }
def HeadersBlocksCardSaid : Prop := Claim7.holds Tryd.pinned (.plain (OpenSpec.ofChange headersBlocksSpec)) headersBlocksCard

/-- THE TIED CARD OF 'pergolalaw11.HeadersBack'. -/
def headersBackCard : Claim7 := { stood := { row := headersBackRow, standIns := [], harness := (true, "655458373b648b487fb9d7b7653690130d1d704c79bf9ce8aefa573dfdef7c65"), looks := false }, kinds := [], alts := [], laidByText := true, laidKinds := [.data, .pinned], laidTests := true, laidLooks := .later }
def HeadersBackCardSaid : Prop := Claim7.holds Tryd.pinned (.plain (OpenSpec.ofChange headersBackSpec)) headersBackCard

/-- THE TIED CARD OF 'pergolalaw11.HeadersNames'. -/
def headersNamesCard : Claim7 := { stood := { row := headersNamesRow, standIns := [], harness := (true, "655458373b648b487fb9d7b7653690130d1d704c79bf9ce8aefa573dfdef7c65"), looks := false }, kinds := [], alts := [], laidByText := true, laidKinds := [.data, .pinned], laidTests := true, laidLooks := .later }
def HeadersNamesCardSaid : Prop := Claim7.holds Tryd.pinned (.plain (OpenSpec.ofChange headersNamesSpec)) headersNamesCard

/-- THE SECOND FORM's CARD OF 'pergolalaw11.HeadersBlocks'. -/
def headersBlocksUptoCard : Claim7 := { stood := { row := headersBlocksUptoRow, standIns := [], harness := (true, "655458373b648b487fb9d7b7653690130d1d704c79bf9ce8aefa573dfdef7c65"), looks := false }, kinds := [], alts := [], laidByText := true, laidKinds := [.data, .pinned], laidTests := true, laidLooks := .later }
def HeadersBlocksUptoCardSaid : Prop := Claim7.holds Tryd.pinned (.plain (OpenSpec.upto headersBlocksSpec)) headersBlocksUptoCard

/-- THE SECOND FORM's CARD OF 'pergolalaw11.HeadersBack'. -/
def headersBackUptoCard : Claim7 := { stood := { row := headersBackUptoRow, standIns := [], harness := (true, "655458373b648b487fb9d7b7653690130d1d704c79bf9ce8aefa573dfdef7c65"), looks := false }, kinds := [], alts := [], laidByText := true, laidKinds := [.data, .pinned], laidTests := true, laidLooks := .later }
def HeadersBackUptoCardSaid : Prop := Claim7.holds Tryd.pinned (.plain (OpenSpec.upto headersBackSpec)) headersBackUptoCard

/-- THE SECOND FORM's CARD OF 'pergolalaw11.HeadersNames'. -/
def headersNamesUptoCard : Claim7 := { stood := { row := headersNamesUptoRow, standIns := [], harness := (true, "655458373b648b487fb9d7b7653690130d1d704c79bf9ce8aefa573dfdef7c65"), looks := false }, kinds := [], alts := [], laidByText := true, laidKinds := [.data, .pinned], laidTests := true, laidLooks := .later }
def HeadersNamesUptoCardSaid : Prop := Claim7.holds Tryd.pinned (.plain (OpenSpec.upto headersNamesSpec)) headersNamesUptoCard
end Rows
end Go.Proofs.YtjadlnmphcoioaaDoor
