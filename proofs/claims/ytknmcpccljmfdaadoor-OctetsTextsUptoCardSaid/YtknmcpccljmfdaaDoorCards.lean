/-
  DERIVED. GIVEN WITH THE SEED: THE CARDS: each row of YtknmcpccljmfdaaDoorRows.lean that lists a variable, with what it lists TIED to the program's text (the seventh form; the later family's looks); each row that meets fmt, with fmt's text TOLD by the authors' own Lean function (tested against real Go, not proved from fmt's source: count such statements apart). THE CARD IS WHAT COUNTS. Prove the row's statement (the work); the ties are given (YtknmcpccljmfdaaDoorTie.lean); close each card by the builder's one call (the guide's Derived/Test/ToyasCard.lean, 'card_holds'). Laid BY PROGRAM, IN A SANDBOX (cutbox-door.mjs). By AI agents, Wed Nov 11 2026. No macro, syntax, notation, axiom, sorry.
-/
import Derived.Test.YtknmcpccljmfdaaDoorRows
import GoSem.ClaimSeven
namespace Go.Proofs.YtknmcpccljmfdaaDoor
namespace Rows

/-- THE TIED CARD OF 'pergolalaw01.OctetsParts'. -/
def octetsPartsCard : Claim7 := { stood := { row := octetsPartsRow, standIns := [], harness := (true, "af1a51a7bc6217f1a551860b434b5bde1e67819e98f302d1336274448821d60e"), looks := false }, kinds := [], alts := [], laidByText := true, laidKinds := [.data, .pinned], laidTests := true, laidLooks := .later }
def OctetsPartsCardSaid : Prop := Claim7.holds Tryd.pinned (.plain (OpenSpec.ofChange octetsPartsSpec)) octetsPartsCard

/-- THE TIED CARD OF 'pergolalaw01.OctetsTexts'. -/
def octetsTextsCard : Claim7 := { stood := { row := octetsTextsRow, standIns := [], harness := (true, "af1a51a7bc6217f1a551860b434b5bde1e67819e98f302d1336274448821d60e"), looks := false }, kinds := [], alts := [], laidByText := true, laidKinds := [.data, .pinned], laidTests := true, laidLooks := .later }
def OctetsTextsCardSaid : Prop := Claim7.holds Tryd.pinned (.plain (OpenSpec.ofChange octetsTextsSpec)) octetsTextsCard

/-- THE SECOND FORM's CARD OF 'pergolalaw01.OctetsParts'. -/
def octetsPartsUptoCard : Claim7 := { stood := { row := octetsPartsUptoRow, standIns := [], harness := (true, "af1a51a7bc6217f1a551860b434b5bde1e67819e98f302d1336274448821d60e"), looks := false }, kinds := [], alts := [], laidByText := true, laidKinds := [.data, .pinned], laidTests := true, laidLooks := .later }
def OctetsPartsUptoCardSaid : Prop := Claim7.holds Tryd.pinned (.plain (OpenSpec.upto octetsPartsSpec)) octetsPartsUptoCard

/-- THE SECOND FORM's CARD OF 'pergolalaw01.OctetsTexts'. -/
def octetsTextsUptoCard : Claim7 := { stood := { row := octetsTextsUptoRow, standIns := [], harness := (true, "af1a51a7bc6217f1a551860b434b5bde1e67819e98f302d1336274448821d60e"), looks := false }, kinds := [], alts := [], laidByText := true, laidKinds := [.data, .pinned], laidTests := true, laidLooks := .later }
def OctetsTextsUptoCardSaid : Prop := Claim7.holds Tryd.pinned (.plain (OpenSpec.upto octetsTextsSpec)) octetsTextsUptoCard
end Rows
end Go.Proofs.YtknmcpccljmfdaaDoor
