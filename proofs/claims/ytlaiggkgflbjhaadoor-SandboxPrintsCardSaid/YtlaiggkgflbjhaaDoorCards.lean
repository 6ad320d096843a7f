/-
  DERIVED. GIVEN WITH THE SEED: THE CARDS: each row of YtlaiggkgflbjhaaDoorRows.lean that lists a variable, with what it lists TIED to the program's text (the seventh form; the later family's looks); each row that meets fmt, with fmt's text TOLD by the authors' own Lean function (tested against real Go, not proved from fmt's source: count such statements apart). THE CARD IS WHAT COUNTS. Prove the row's statement (the work); the ties are given (YtlaiggkgflbjhaaDoorTie.lean); close each card by the builder's one call (the guide's Derived/Test/ToyasCard.lean, 'card_holds'). Laid BY PROGRAM, IN A SANDBOX (cutbox-door.mjs). By AI agents, Wed Nov 11 2026. No macro, syntax, notation, axiom, sorry.
-/
import Derived.Test.YtlaiggkgflbjhaaDoorRows
import GoSem.ClaimSeven
namespace Go.Proofs.YtlaiggkgflbjhaaDoor
namespace Rows

/-- THE TIED CARD OF 'pergolalaw17.SandboxBack'. -/
def sandboxBackCard : Claim7 := { stood := { row := sandboxBackRow, standIns := [], harness := (true, "bc5baf0285d068400bae3824a64106326db82af1745c89994d5f5336cc3daaa2"), looks := false }, kinds := [], alts := [], laidByText := true, laidKinds := [.widerDeep], laidTests := true, laidLooks := .later }
def SandboxBackCardSaid : Prop := Claim7.holds Tryd.pinned (.plain (OpenSpec.ofChange sandboxBackSpec)) sandboxBackCard

/-- THE TIED CARD OF 'pergolalaw17.SandboxSpelt'. -/
def sandboxSpeltCard : Claim7 := { stood := { row := sandboxSpeltRow, standIns := [], harness := (true, "bc5baf0285d068400bae3824a64106326db82af1745c89994d5f5336cc3daaa2"), looks := false }, kinds := [], alts := [], laidByText := true, laidKinds := [.widerDeep], laidTests := true, laidLooks := .later }
def SandboxSpeltCardSaid : Prop := Claim7.holds Tryd.pinned (.plain (OpenSpec.ofChange sandboxSpeltSpec)) sandboxSpeltCard

/-- THE TIED CARD OF 'pergolalaw17.SandboxLess'. -/
def sandboxLessCard : Claim7 := { stood := { row := sandboxLessRow, standIns := [], harness := (true, "bc5baf0285d068400bae3824a64106326db82af1745c89994d5f5336cc3daaa2"), looks := false }, kinds := [], alts := [], laidByText := true, laidKinds := [.widerDeep], laidTests := true, laidLooks := .later }
def SandboxLessCardSaid : Prop := Claim7.holds Tryd.pinned (.plain (OpenSpec.ofChange sandboxLessSpec)) sandboxLessCard

/-- THE TIED CARD OF 'pergolalaw17.SandboxParses'. -/
def sandboxParsesCard : Claim7 := { stood := { row := sandboxParsesRow, standIns := [], harness := (true, "bc5baf0285d068400bae3824a64106326db82af1745c89994d5f5336cc3daaa2"), looks := false }, kinds := [], alts := [], laidByText := true, laidKinds := [.widerDeep], laidTests := true, laidLooks := .later }
def SandboxParsesCardSaid : Prop := Claim7.holds Tryd.pinned (.plain (OpenSpec.ofChange sandboxParsesSpec)) sandboxParsesCard

/-- THE TIED CARD OF 'pergolalaw17.SandboxPrints'. -/
def sandboxPrintsCard : Claim7 := { stood := { row := sandboxPrintsRow, standIns := [], harness := (true, "bc5baf0285d068400bae3824a64106326db82af1745c89994d5f5336cc3daaa2"), looks := false }, kinds := [], alts := [], laidByText := true, laidKinds := [.data, .widerDeep], laidTests := true, laidLooks := .later }
def SandboxPrintsCardSaid : Prop := Claim7.holds Tryd.pinned (.plain (OpenSpec.ofChange sandboxPrintsSpec)) sandboxPrintsCard

/-- THE TIED CARD OF 'pergolalaw17.SandboxOwn'. -/
def sandboxOwnCard : Claim7 := { stood := { row := sandboxOwnRow, standIns := [], harness := (true, "bc5baf0285d068400bae3824a64106326db82af1745c89994d5f5336cc3daaa2"), looks := false }, kinds := [], alts := [], laidByText := true, laidKinds := [.data, .widerDeep], laidTests := true, laidLooks := .later }
def SandboxOwnCardSaid : Prop := Claim7.holds Tryd.pinned (.plain (OpenSpec.ofChange sandboxOwnSpec)) sandboxOwnCard

/-- THE SECOND FORM's CARD OF 'pergolalaw17.SandboxBack'. -/
def sandboxBackUptoCard : Claim7 := { stood := { row := sandboxBackUptoRow, standIns := [], harness := (true, "bc5baf0285d068400bae3824a64106326db82af1745c89994d5f5336cc3daaa2"), looks := false }, kinds := [], alts := [], laidByText := true, laidKinds := [.widerDeep], laidTests := true, laidLooks := .later }
def SandboxBackUptoCardSaid : Prop := Claim7.holds Tryd.pinned (.plain (OpenSpec.upto sandboxBackSpec)) sandboxBackUptoCard

/-- THE SECOND FORM's CARD OF 'pergolalaw17.SandboxSpelt'. -/
def sandboxSpeltUptoCard : Claim7 := { stood := { row := sandboxSpeltUptoRow, standIns := [], harness := (true, "bc5baf0285d068400bae3824a64106326db82af1745c89994d5f5336cc3daaa2"), looks := false }, kinds := [], alts := [], laidByText := true, laidKinds := [.widerDeep], laidTests := true, laidLooks := .later }
def SandboxSpeltUptoCardSaid : Prop := Claim7.holds Tryd.pinned (.plain (OpenSpec.upto sandboxSpeltSpec)) sandboxSpeltUptoCard

/-- THE SECOND FORM's CARD OF 'pergolalaw17.SandboxLess'. -/
def sandboxLessUptoCard : Claim7 := { stood := { row := sandboxLessUptoRow, standIns := [], harness := (true, "bc5baf0285d068400bae3824a64106326db82af1745c89994d5f5336cc3daaa2"), looks := false }, kinds := [], alts := [], laidByText := true, laidKinds := [.widerDeep], laidTests := true, laidLooks := .later }
def SandboxLessUptoCardSaid : Prop := Claim7.holds Tryd.pinned (.plain (OpenSpec.upto sandboxLessSpec)) sandboxLessUptoCard

/-- THE SECOND FORM's CARD OF 'pergolalaw17.SandboxParses'. -/
def sandboxParsesUptoCard : Claim7 := { stood := { row := sandboxParsesUptoRow, standIns := [], harness := (true, "bc5baf0285d068400bae3824a64106326db82af1745c89994d5f5336cc3daaa2"), looks := false }, kinds := [], alts := [], laidByText := true, laidKinds := [.widerDeep], laidTests := true, laidLooks := .later }
def SandboxParsesUptoCardSaid : Prop := Claim7.holds Tryd.pinned (.plain (OpenSpec.upto sandboxParsesSpec)) sandboxParsesUptoCard

/-- THE SECOND FORM's CARD OF 'pergolalaw17.SandboxPrints'. -/
def sandboxPrintsUptoCard : Claim7 := { stood := { row := sandboxPrintsUptoRow, standIns := [], harness := (true, "bc5baf0285d068400bae3824a64106326db82af1745c89994d5f5336cc3daaa2"), looks := false }, kinds := [], alts := [], laidByText := true, laidKinds := [.data, .widerDeep], laidTests := true, laidLooks := .later }
def SandboxPrintsUptoCardSaid : Prop := Claim7.holds Tryd.pinned (.plain (OpenSpec.upto sandboxPrintsSpec)) sandboxPrintsUptoCard

/-- THE SECOND FORM's CARD OF 'pergolalaw17.SandboxOwn'. -/
def sandboxOwnUptoCard : Claim7 := { stood := { row := sandboxOwnUptoRow, standIns := [], harness := (true, "bc5baf0285d068400bae3824a64106326db82af1745c89994d5f5336cc3daaa2"), looks := false }, kinds := [], alts := [], laidByText := true, laidKinds := [.data, .widerDeep], laidTests := true, laidLooks := .later }
def SandboxOwnUptoCardSaid : Prop := Claim7.holds Tryd.pinned (.plain (OpenSpec.upto sandboxOwnSpec)) sandboxOwnUptoCard
end Rows
end Go.Proofs.YtlaiggkgflbjhaaDoor
