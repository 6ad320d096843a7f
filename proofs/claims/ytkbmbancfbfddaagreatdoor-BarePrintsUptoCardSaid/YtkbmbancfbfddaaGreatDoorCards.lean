/-
  DERIVED. GIVEN WITH THE SEED: THE CARDS: each row of YtkbmbancfbfddaaGreatDoorRows.lean that lists a variable, with what it lists TIED to the program's text (the seventh form; the later family's looks); each row that meets fmt, with fmt's text TOLD by the authors' own Lean function (tested against real Go, not proved from fmt's source: count such statements apart). THE CARD IS WHAT COUNTS. Prove the row's statement (the work); the ties are given (YtkbmbancfbfddaaGreatDoorTie.lean); close each card by the builder's one call (the guide's Derived/Test/ToyasCard.lean, 'card_holds'). Laid BY PROGRAM, IN A SANDBOX (cutbox-door.mjs). By AI agents, Wed Nov 11 2026. No macro, syntax, notation, axiom, sorry.
-/
import Derived.Test.YtkbmbancfbfddaaGreatDoorRows
import GoSem.ClaimSeven
namespace Go.Proofs.YtkbmbancfbfddaaGreatDoor
namespace Rows

/-- THE TIED CARD OF 'pergolalaw09.BareBack'. -/
def bareBackCard : Claim7 := { stood := { row := bareBackRow, standIns := [], harness := (true, "64259f32389c6e729ba48a34c8edeaeb270064f50dd29293a17faad8d64cd997"), looks := true }, kinds := [], alts := [], laidByText := true, laidKinds := [.data, .data, .data, .data, .pinned], laidTests := true, laidLooks := .later }
def BareBackCardSaid : Prop := Claim7.holds Tryz.pinned (.plain (OpenSpec.ofChange bareBackSpec)) bareBackCard

/-- THE TIED CARD OF 'pergolalaw09.BareMoves'. -/
def bareMovesCard : Claim7 := { stood := { row := bareMovesRow, standIns := [], harness := (true, "64259f32389c6e729ba48a34c8edeaeb270064f50dd29293a17faad8d64cd997"), looks := true }, kinds := [], alts := [], laidByText := true, laidKinds := [.data, .data, .data, .data, .pinned], laidTests := true, laidLooks := .later }
def BareMovesCardSaid : Prop := Claim7.holds Tryz.pinned (.plain (OpenSpec.ofChange bareMovesSpec)) bareMovesCard

/-- THE TIED CARD OF 'pergolalaw09.BareDigits'. -/
def bareDigitsCard : Claim7 := { stood := { row := bareDigitsRow, standIns := [], harness := (true, "64259f32389c6e729ba48a34c8edeaeb270064f50dd29293a17faad8d64cd997"), looks := true }, kinds := [], alts := [], laidByText := true, laidKinds := [.data, .data, .data, .data, .pinned], laidTests := true, laidLooks := .later }
def BareDigitsCardSaid : Prop := Claim7.holds Tryz.pinned (.plain (OpenSpec.ofChange bareDigitsSpec)) bareDigitsCard

/-- THE TIED CARD OF 'pergolalaw09.BareReads'. -/
def bareReadsCard : Claim7 := { stood := { row := bareReadsRow, standIns := [], harness := (true, "64259f32389c6e729ba48a34c8edeaeb270064f50dd29293a17faad8d64cd997"), looks := true }, kinds := [], alts := [], laidByText := true, laidKinds := [.data, .data, .data, .data, .pinned], laidTests := true, laidLooks := .later }
def BareReadsCardSaid : Prop := Claim7.holds Tryz.pinned (.plain (OpenSpec.ofChange bareReadsSpec)) bareReadsCard

/-- THE TIED CARD OF 'pergolalaw09.BareKeys'. -/
def bareKeysCard : Claim7 := { stood := { row := bareKeysRow, standIns := [], harness := (true, "64259f32389c6e729ba48a34c8edeaeb270064f50dd29293a17faad8d64cd997"), looks := true }, kinds := [], alts := [], laidByText := true, laidKinds := [.data, .data, .data, .data, .pinned], laidTests := true, laidLooks := .later }
def BareKeysCardSaid : Prop := Claim7.holds Tryz.pinned (.plain (OpenSpec.ofChange bareKeysSpec)) bareKeysCard

/-- THE TIED CARD OF 'pergolalaw09.BarePrints'. -/
def barePrintsCard : Claim7 := { stood := { row := barePrintsRow, standIns := [], harness := (true, "64259f32389c6e729ba48a34c8edeaeb270064f50dd29293a17faad8d64cd997"), looks := true }, kinds := [], alts := [], laidByText := true, laidKinds := [.data, .data, .data, .data, .pinned], laidTests := true, laidLooks := .later }
def BarePrintsCardSaid : Prop := Claim7.holds Tryz.pinned (.plain (OpenSpec.ofChange barePrintsSpec)) barePrintsCard

/-- THE SECOND FORM's CARD OF 'pergolalaw09.BareBack'. -/
def bareBackUptoCard : Claim7 := { stood := { row := bareBackUptoRow, standIns := [], harness := (true, "64259f32389c6e729ba48a34c8edeaeb270064f50dd29293a17faad8d64cd997"), looks := true }, kinds := [], alts := [], laidByText := true, laidKinds := [.data, .data, .data, .data, .pinned], laidTests := true, laidLooks := .later }
def BareBackUptoCardSaid : Prop := Claim7.holds Tryz.pinned (.plain (OpenSpec.upto bareBackSpec)) bareBackUptoCard

/-- THE SECOND FORM's CARD OF 'pergolalaw09.BareMoves'. -/
def bareMovesUptoCard : Claim7 := { stood := { row := bareMovesUptoRow, standIns := [], harness := (true, "64259f32389c6e729ba48a34c8edeaeb270064f50dd29293a17faad8d64cd997"), looks := true }, kinds := [], alts := [], laidByText := true, laidKinds := [.data, .data, .data, .data, .pinned], laidTests := true, laidLooks := .later }
def BareMovesUptoCardSaid : Prop := Claim7.holds Tryz.pinned (.plain (OpenSpec.upto bareMovesSpec)) bareMovesUptoCard

/-- THE SECOND FORM's CARD OF 'pergolalaw09.BareDigits'. -/
def bareDigitsUptoCard : Claim7 := { stood := { row := bareDigitsUptoRow, standIns := [], harness := (true, "64259f32389c6e729ba48a34c8edeaeb270064f50dd29293a17faad8d64cd997"), looks := true }, kinds := [], alts := [], laidByText := true, laidKinds := [.data, .data, .data, .data, .pinned], laidTests := true, laidLooks := .later }
def BareDigitsUptoCardSaid : Prop := Claim7.holds Tryz.pinned (.plain (OpenSpec.upto bareDigitsSpec)) bareDigitsUptoCard

/-- THE SECOND FORM's CARD OF 'pergolalaw09.BareReads'. -/
def bareReadsUptoCard : Claim7 := { stood := { row := bareReadsUptoRow, standIns := [], harness := (true, "64259f32389c6e729ba48a34c8edeaeb270064f50dd29293a17faad8d64cd997"), looks := true }, kinds := [], alts := [], laidByText := true, laidKinds := [.data, .data, .data, .data, .pinned], laidTests := true, laidLooks := .later }
def BareReadsUptoCardSaid : Prop := Claim7.holds Tryz.pinned (.plain (OpenSpec.upto bareReadsSpec)) bareReadsUptoCard

/-- THE SECOND FORM's CARD OF 'pergolalaw09.BareKeys'. -/
def bareKeysUptoCard : Claim7 := { stood := { row := bareKeysUptoRow, standIns := [], harness := (true, "64259f32389c6e729ba48a34c8edeaeb270064f50dd29293a17faad8d64cd997"), looks := true }, kinds := [], alts := [], laidByText := true, laidKinds := [.data, .data, .data, .data, .pinned], laidTests := true, laidLooks := .later }
def BareKeysUptoCardSaid : Prop := Claim7.holds Tryz.pinned (.plain (OpenSpec.upto bareKeysSpec)) bareKeysUptoCard

/-- THE SECOND FORM's CARD OF 'pergolalaw09.BarePrints'. -/
def barePrintsUptoCard : Claim7 := { stood := { row := barePrintsUptoRow, standIns := [], harness := (true, "64259f32389c6e729ba48a34c8edeaeb270064f50dd29293a17faad8d64cd997"), looks := true }, kinds := [], alts := [], laidByText := true, laidKinds := [.data, .data, .data, .data, .pinned], laidTests := true, laidLooks := .later }
def BarePrintsUptoCardSaid : Prop := Claim7.holds Tryz.pinned (.plain (OpenSpec.upto barePrintsSpec)) barePrintsUptoCard
end Rows
end Go.Proofs.YtkbmbancfbfddaaGreatDoor
