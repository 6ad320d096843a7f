/-
  DERIVED. GIVEN WITH THE SEED: THE CARDS: each row of YtjadlnmphcoioaaGreatDoorRows.lean that lists a variable, with what it lists TIED to the program's text (the seventh form; the later family's looks); each row that meets fmt, with fmt's text TOLD by the authors' own Lean function (tested against real Go, not proved from fmt's source: count such statements apart). THE CARD IS WHAT COUNTS. Prove the row's statement (the work); the ties are given (YtjadlnmphcoioaaGreatDoorTie.lean); close each card by the builder's one call (the guide's Derived/Test/ToyasCard.lean, 'card_holds'). Laid BY PROGRAM, IN A SANDBOX (cutbox-door.mjs). By AI agents, Wed Nov 11 2026. No macro, syntax, notation, axiom, sorry.
-/
import Derived.Test.YtjadlnmphcoioaaGreatDoorRows
import GoSem.ClaimSeven
namespace Go.Proofs.YtjadlnmphcoioaaGreatDoor
namespace Rows

/-- THE TIED CARD OF 'pergolalaw11.HeadersPuts'. -/
def headersPutsCard : Claim7 := { stood := { row := headersPutsRow, standIns := [], harness := (true, "4b6248acc333e81ee911d9e0d1b550fa335def95b767f4af8f391e2bf9a1a230"), looks := false }, kinds := [], alts := [], laidByText := true, laidKinds := [.data, .pinned], laidTests := true, laidLooks := .later }
def HeadersPutsCardSaid : Prop := Claim7.holds Tryz.pinned (.plain (OpenSpec.ofChange headersPutsSpec)) headersPutsCard

/-- THE TIED CARD OF 'pergolalaw11.HeadersTells'. -/
def headersTellsCard : Claim7 := { stood := { row := headersTellsRow, standIns := [], harness := (true, "4b6248acc333e81ee911d9e0d1b550fa335def95b767f4af8f391e2bf9a1a230"), looks := false }, kinds := [], alts := [], laidByText := true, laidKinds := [.data, .pinned], laidTests := true, laidLooks := .later }
def HeadersTellsCardSaid : Prop := Claim7.holds Tryz.pinned (.plain (OpenSpec.ofChange headersTellsSpec)) headersTellsCard

/-- THE TIED CARD OF 'pergolalaw11.HeadersOwn'. -/
def headersOwnCard : Claim7 := { stood := { row := headersOwnRow, standIns := [], harness := (true, "4b6248acc333e81ee911d9e0d1b550fa335def95b767f4af8f391e2bf9a1a230"), looks := false }, kinds := [], alts := [], laidByText := true, laidKinds := [.data, .pinned], laidTests := true, laidLooks := .later }
def HeadersOwnCardSaid : Prop := Claim7.holds Tryz.pinned (.plain (OpenSpec.ofChange headersOwnSpec)) headersOwnCard

/-- THE SECOND FORM's CARD OF 'pergolalaw11.HeadersPuts'. -/
def headersPutsUptoCard : Claim7 := { stood := { row := headersPutsUptoRow, standIns := [], harness := (true, "4b6248acc333e81ee911d9e0d1b550fa335def95b767f4af8f391e2bf9a1a230"), looks := false }, kinds := [], alts := [], laidByText := true, laidKinds := [.data, .pinned], laidTests := true, laidLooks := .later }
def HeadersPutsUptoCardSaid : Prop := Claim7.holds Tryz.pinned (.plain (OpenSpec.upto headersPutsSpec)) headersPutsUptoCard

/-- THE SECOND FORM's CARD OF 'pergolalaw11.HeadersTells'. -/
def headersTellsUptoCard : Claim7 := { stood := { row := headersTellsUptoRow, standIns := [], harness := (true, "4b6248acc333e81ee911d9e0d1b550fa335def95b767f4af8f391e2bf9a1a230"), looks := false }, kinds := [], alts := [], laidByText := true, laidKinds := [.data, .pinned], laidTests := true, laidLooks := .later }
def HeadersTellsUptoCardSaid : Prop := Claim7.holds Tryz.pinned (.plain (OpenSpec.upto headersTellsSpec)) headersTellsUptoCard

/-- THE SECOND FORM's CARD OF 'pergolalaw11.HeadersOwn'. -/
def headersOwnUptoCard : Claim7 := { stood := { row := headersOwnUptoRow, standIns := [], harness := (true, "4b6248acc333e81ee911d9e0d1b550fa335def95b767f4af8f391e2bf9a1a230"), looks := false }, kinds := [], alts := [], laidByText := true, laidKinds := [.data, .pinned], laidTests := true, laidLooks := .later }
def HeadersOwnUptoCardSaid : Prop := Claim7.holds Tryz.pinned (.plain (OpenSpec.upto headersOwnSpec)) headersOwnUptoCard
end Rows
end Go.Proofs.YtjadlnmphcoioaaGreatDoor
