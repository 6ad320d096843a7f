/-
  DERIVED. GIVEN WITH THE SEED: THE CARDS: each row of YtclkclcacnpmbaaDoorRows.lean that lists a variable, with what it lists TIED to the program's text (the seventh form; the later family's looks); each row that meets fmt, with fmt's text TOLD by the authors' own Lean function (tested against real Go, not proved from fmt's source: count such statements apart). THE CARD IS WHAT COUNTS. Prove the row's statement (the work); the ties are given (YtclkclcacnpmbaaDoorTie.lean); close each card by the builder's one call (the guide's Derived/Test/ToyasCard.lean, 'card_holds'). Laid BY PROGRAM, IN A SANDBOX (cutbox-door.mjs). By AI agents, Wed Nov 11 2026. No macro, syntax, notation, axiom, sorry.
-/
import Derived.Test.YtclkclcacnpmbaaDoorRows
import GoSem.ClaimSeven
namespace Go.Proofs.YtclkclcacnpmbaaDoor
namespace Rows

/-- THE TIED CARD OF 'pergolalaw20.HintOnce'. -/
def hintOnceCard : Claim7 := { stood := { row := hintOnceRow, standIns := [], harness := (true, "cc4d4fde4c0611ba97b942f17403dd6c2a6a5ec2125ee2c2a89725ee61d5ad57"), looks := true }, kinds := [], alts := [], laidByText := true, laidKinds := [.data, .pinned], laidTests := true, laidLooks := .later }
def HintOnceCardSaid : Prop := Claim7.holds Tryd.pinned (.plain (OpenSpec.ofChange hintOnceSpec)) hintOnceCard

/-- THE TIED CARD OF 'pergolalaw20.HintBack'. -/
def hintBackCard : Claim7 := { stood := { row := hintBackRow, standIns := [], harness := (true, "cc4d4fde4c0611ba97b942f17403dd6c2a6a5ec2125ee2c2a89725ee61d5ad57"), looks := true }, kinds := [], alts := [], laidByText := true, laidKinds := [.data, .pinned], laidTests := true, laidLooks := .later }
def HintBackCardSaid : Prop := Claim7.holds Tryd.pinned (.plain (OpenSpec.ofChange hintBackSpec)) hintBackCard

/-- THE SECOND FORM's CARD OF 'pergolalaw20.HintOnce'. -/
def hintOnceUptoCard : Claim7 := { stood := { row := hintOnceUptoRow, standIns := [], harness := (true, "cc4d4fde4c0611ba97b942f17403dd6c2a6a5ec2125ee2c2a89725ee61d5ad57"), looks := true }, kinds := [], alts := [], laidByText := true, laidKinds := [.data, .pinned], laidTests := true, laidLooks := .later }
def HintOnceUptoCardSaid : Prop := Claim7.holds Tryd.pinned (.plain (OpenSpec.upto hintOnceSpec)) hintOnceUptoCard

/-- THE SECOND FORM's CARD OF 'pergolalaw20.HintBack'. -/
def hintBackUptoCard : Claim7 := { stood := { row := hintBackUptoRow, standIns := [], harness := (true, "cc4d4fde4c0611ba97b942f17403dd6c2a6a5ec2125ee2c2a89725ee61d5ad57"), looks := true }, kinds := [], alts := [], laidByText := true, laidKinds := [.data, .pinned], laidTests := true, laidLooks := .later }
def HintBackUptoCardSaid : Prop := Claim7.holds Tryd.pinned (.plain (OpenSpec.upto hintBackSpec)) hintBackUptoCard
end Rows
end Go.Proofs.YtclkclcacnpmbaaDoor
