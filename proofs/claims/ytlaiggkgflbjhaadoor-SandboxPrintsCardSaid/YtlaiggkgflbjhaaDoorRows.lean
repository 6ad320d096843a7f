/-
  NARROWER THAN 'FOR EVERY INPUT', by the rows' own cells (each row's printed sentence says how): SandboxBack: laid · SandboxSpelt: laid · SandboxLess: laid · SandboxParses: laid · SandboxPrints: laid · SandboxOwn: laid.
  DERIVED. THE GIVEN ROWS OF THIS SEAT. 6 by the template 'for every input the law returns true; each argument reads behind the call as it read before'; 0 by the template 'total and deterministic' (their statements: YtlaiggkgflbjhaaDoorTotals.lean).
  GIVEN WITH THE SEED: the statements are not yours to turn. If you find one false, say at which input.
  Laid BY PROGRAM, IN A SANDBOX (cutbox-rows.mjs): the forced cells as the released guide's own fill.sh prints them over the translation f342833111abc584… (all of the seat's roots in one cut). By AI agents, Wed Nov 11 2026. No macro, syntax, notation, axiom, sorry.
-/
import Derived.Test.YtlaiggkgflbjhaaDoorChecked
import GoSem.Claim
import GoSem.ClaimJoined
import GoSem.ClaimMapViews
import Derived.JoinedTies
import Derived.KernelRfl
namespace Go.Proofs.YtlaiggkgflbjhaaDoor
/- THE CELL 'sum', in the pinned program and in every row, IS THE sha256 OF THE DUMP (.gsa) THAT YtlaiggkgflbjhaaDoorProg.lean LOADS. Nothing in Lean hashes anything: it is a label: what it is worth is what the hold of that sum in a sandbox is worth. -/
noncomputable def Tryd.pinned : Pinned := { name := "ytlaiggkgflbjhaadoor", sum := "f342833111abc5847c2070b67812bab06a1f75ab804214d0f9e23831fad355cd", checked := Tryd.checked }
namespace Rows
def none {H : Type} : Left H := { results := [], args := [] }

/- WHAT THE LISTED PACKAGE-LEVEL VARIABLES READ AS WHEN THE CALL BEGINS. Each datum BY PROGRAM (the guide's laid-datum.mjs) off the statement by which the dump's own 'gosem.cut.vars' lays the variable. In a bare row this is a premise. The card (YtlaiggkgflbjhaaDoorCards.lean) ties it to the program's text. -/
def laid_pergola_sandbox_tokens {H : Type} : DataW H := .agg [.agg [.lit (.string [97, 108, 108, 111, 119, 45, 102, 111, 114, 109, 115]), .lit (.int .u32 1)], .agg [.lit (.string [97, 108, 108, 111, 119, 45, 109, 111, 100, 97, 108, 115]), .lit (.int .u32 2)], .agg [.lit (.string [97, 108, 108, 111, 119, 45, 111, 114, 105, 101, 110, 116, 97, 116, 105, 111, 110, 45, 108, 111, 99, 107]), .lit (.int .u32 4)], .agg [.lit (.string [97, 108, 108, 111, 119, 45, 112, 111, 105, 110, 116, 101, 114, 45, 108, 111, 99, 107]), .lit (.int .u32 8)], .agg [.lit (.string [97, 108, 108, 111, 119, 45, 112, 111, 112, 117, 112, 115]), .lit (.int .u32 8208)], .agg [.lit (.string [97, 108, 108, 111, 119, 45, 112, 111, 112, 117, 112, 115, 45, 116, 111, 45, 101, 115, 99, 97, 112, 101, 45, 115, 97, 110, 100, 98, 111, 120]), .lit (.int .u32 32)], .agg [.lit (.string [97, 108, 108, 111, 119, 45, 112, 114, 101, 115, 101, 110, 116, 97, 116, 105, 111, 110]), .lit (.int .u32 64)], .agg [.lit (.string [97, 108, 108, 111, 119, 45, 115, 97, 109, 101, 45, 111, 114, 105, 103, 105, 110]), .lit (.int .u32 128)], .agg [.lit (.string [97, 108, 108, 111, 119, 45, 115, 99, 114, 105, 112, 116, 115]), .lit (.int .u32 768)], .agg [.lit (.string [97, 108, 108, 111, 119, 45, 115, 116, 111, 114, 97, 103, 101, 45, 97, 99, 99, 101, 115, 115, 45, 98, 121, 45, 117, 115, 101, 114, 45, 97, 99, 116, 105, 118, 97, 116, 105, 111, 110]), .lit (.int .u32 1024)], .agg [.lit (.string [97, 108, 108, 111, 119, 45, 116, 111, 112, 45, 110, 97, 118, 105, 103, 97, 116, 105, 111, 110]), .lit (.int .u32 14336)], .agg [.lit (.string [97, 108, 108, 111, 119, 45, 116, 111, 112, 45, 110, 97, 118, 105, 103, 97, 116, 105, 111, 110, 45, 98, 121, 45, 117, 115, 101, 114, 45, 97, 99, 116, 105, 118, 97, 116, 105, 111, 110]), .lit (.int .u32 4096)], .agg [.lit (.string [97, 108, 108, 111, 119, 45, 116, 111, 112, 45, 110, 97, 118, 105, 103, 97, 116, 105, 111, 110, 45, 116, 111, 45, 99, 117, 115, 116, 111, 109, 45, 112, 114, 111, 116, 111, 99, 111, 108, 115]), .lit (.int .u32 8192)], .agg [.lit (.string [97, 108, 108, 111, 119, 45, 100, 111, 119, 110, 108, 111, 97, 100, 115]), .lit (.int .u32 16384)]]
def laid_pergola_sandbox_flags {H : Type} : DataW H := .agg [.lit (.string [102, 111, 114, 109, 115]), .lit (.string [109, 111, 100, 97, 108, 115]), .lit (.string [111, 114, 105, 101, 110, 116, 97, 116, 105, 111, 110]), .lit (.string [112, 111, 105, 110, 116, 101, 114]), .lit (.string [112, 111, 112, 117, 112, 115]), .lit (.string [112, 114, 111, 112, 97, 103, 97, 116, 101, 115]), .lit (.string [112, 114, 101, 115, 101, 110, 116, 97, 116, 105, 111, 110]), .lit (.string [111, 114, 105, 103, 105, 110]), .lit (.string [115, 99, 114, 105, 112, 116, 115]), .lit (.string [102, 101, 97, 116, 117, 114, 101, 115]), .lit (.string [115, 116, 111, 114, 97, 103, 101]), .lit (.string [116, 111, 112]), .lit (.string [116, 111, 112, 45, 117, 115, 101, 114]), .lit (.string [112, 114, 111, 116, 111, 99, 111, 108, 115]), .lit (.string [100, 111, 119, 110, 108, 111, 97, 100, 115]), .lit (.string [110, 97, 118, 105, 103, 97, 116, 105, 111, 110])]

/-- 'pergolalaw17.SandboxBack': WHATEVER THE INPUT: true; the input reads as it did. -/
def sandboxBackSpec : ChangeSpec := { name := "sandboxBack", fn := fun _ => fun
  | [d1, d2, d3] => { results := [.lit (.bool true)], args := [d1, d2, d3] }
  | _ => none }
def sandboxBackRow : OpenClaim := { program := "ytlaiggkgflbjhaadoor", sum := "f342833111abc5847c2070b67812bab06a1f75ab804214d0f9e23831fad355cd", func := "pergola/pergolalaw17.SandboxBack", spec := "sandboxBack", inPlace := ["internal/bytealg.IndexByteString", "internal/abi.NoEscape", "internal/bytealg.MakeNoZero"], unfollowed := true, recurses := true, named := ["pergola/sandbox.tokens"], apart := false, laid := [("pergola/sandbox.tokens", laid_pergola_sandbox_tokens)] }
def SandboxBackSaid : Prop := sandboxBackRow.holds Tryd.pinned (OpenSpec.ofChange sandboxBackSpec)

/-- ITS FALSE NEIGHBOUR: 'it returns false'. Refute it at one input. -/
def sandboxBackWrong : ChangeSpec := { name := "sandboxBack", fn := fun _ => fun
  | [d1, d2, d3] => { results := [.lit (.bool false)], args := [d1, d2, d3] }
  | _ => none }
def SandboxBackWrongFalsely : Prop := sandboxBackRow.holds Tryd.pinned (OpenSpec.ofChange sandboxBackWrong)

/-- 'pergolalaw17.SandboxSpelt': WHATEVER THE INPUT: true; the input reads as it did. -/
def sandboxSpeltSpec : ChangeSpec := { name := "sandboxSpelt", fn := fun _ => fun
  | [d] => { results := [.lit (.bool true)], args := [d] }
  | _ => none }
def sandboxSpeltRow : OpenClaim := { program := "ytlaiggkgflbjhaadoor", sum := "f342833111abc5847c2070b67812bab06a1f75ab804214d0f9e23831fad355cd", func := "pergola/pergolalaw17.SandboxSpelt", spec := "sandboxSpelt", inPlace := ["internal/bytealg.IndexByteString", "internal/abi.NoEscape", "internal/bytealg.MakeNoZero"], unfollowed := true, recurses := true, named := ["pergola/sandbox.tokens"], apart := false, laid := [("pergola/sandbox.tokens", laid_pergola_sandbox_tokens)] }
def SandboxSpeltSaid : Prop := sandboxSpeltRow.holds Tryd.pinned (OpenSpec.ofChange sandboxSpeltSpec)

/-- ITS FALSE NEIGHBOUR: 'it returns false'. Refute it at one input. -/
def sandboxSpeltWrong : ChangeSpec := { name := "sandboxSpelt", fn := fun _ => fun
  | [d] => { results := [.lit (.bool false)], args := [d] }
  | _ => none }
def SandboxSpeltWrongFalsely : Prop := sandboxSpeltRow.holds Tryd.pinned (OpenSpec.ofChange sandboxSpeltWrong)

/-- 'pergolalaw17.SandboxLess': WHATEVER THE INPUT: true; the input reads as it did. -/
def sandboxLessSpec : ChangeSpec := { name := "sandboxLess", fn := fun _ => fun
  | [d1, d2] => { results := [.lit (.bool true)], args := [d1, d2] }
  | _ => none }
def sandboxLessRow : OpenClaim := { program := "ytlaiggkgflbjhaadoor", sum := "f342833111abc5847c2070b67812bab06a1f75ab804214d0f9e23831fad355cd", func := "pergola/pergolalaw17.SandboxLess", spec := "sandboxLess", inPlace := ["internal/bytealg.IndexByteString", "internal/abi.NoEscape", "internal/bytealg.MakeNoZero"], unfollowed := true, recurses := true, named := ["pergola/sandbox.tokens"], apart := false, laid := [("pergola/sandbox.tokens", laid_pergola_sandbox_tokens)] }
def SandboxLessSaid : Prop := sandboxLessRow.holds Tryd.pinned (OpenSpec.ofChange sandboxLessSpec)

/-- ITS FALSE NEIGHBOUR: 'it returns false'. Refute it at one input. -/
def sandboxLessWrong : ChangeSpec := { name := "sandboxLess", fn := fun _ => fun
  | [d1, d2] => { results := [.lit (.bool false)], args := [d1, d2] }
  | _ => none }
def SandboxLessWrongFalsely : Prop := sandboxLessRow.holds Tryd.pinned (OpenSpec.ofChange sandboxLessWrong)

/-- 'pergolalaw17.SandboxParses': WHATEVER THE INPUT: true; the input reads as it did. -/
def sandboxParsesSpec : ChangeSpec := { name := "sandboxParses", fn := fun _ => fun
  | [d] => { results := [.lit (.bool true)], args := [d] }
  | _ => none }
def sandboxParsesRow : OpenClaim := { program := "ytlaiggkgflbjhaadoor", sum := "f342833111abc5847c2070b67812bab06a1f75ab804214d0f9e23831fad355cd", func := "pergola/pergolalaw17.SandboxParses", spec := "sandboxParses", inPlace := ["internal/bytealg.IndexByteString", "internal/abi.NoEscape", "internal/bytealg.MakeNoZero"], unfollowed := true, recurses := true, named := ["pergola/sandbox.tokens"], apart := false, laid := [("pergola/sandbox.tokens", laid_pergola_sandbox_tokens)] }
def SandboxParsesSaid : Prop := sandboxParsesRow.holds Tryd.pinned (OpenSpec.ofChange sandboxParsesSpec)

/-- ITS FALSE NEIGHBOUR: 'it returns false'. Refute it at one input. -/
def sandboxParsesWrong : ChangeSpec := { name := "sandboxParses", fn := fun _ => fun
  | [d] => { results := [.lit (.bool false)], args := [d] }
  | _ => none }
def SandboxParsesWrongFalsely : Prop := sandboxParsesRow.holds Tryd.pinned (OpenSpec.ofChange sandboxParsesWrong)

/-- 'pergolalaw17.SandboxPrints': WHATEVER THE INPUT: true; the input reads as it did. -/
def sandboxPrintsSpec : ChangeSpec := { name := "sandboxPrints", fn := fun _ => fun
  | [d1, d2] => { results := [.lit (.bool true)], args := [d1, d2] }
  | _ => none }
def sandboxPrintsRow : OpenClaim := { program := "ytlaiggkgflbjhaadoor", sum := "f342833111abc5847c2070b67812bab06a1f75ab804214d0f9e23831fad355cd", func := "pergola/pergolalaw17.SandboxPrints", spec := "sandboxPrints", inPlace := ["internal/abi.NoEscape", "internal/bytealg.MakeNoZero", "internal/bytealg.IndexByteString"], unfollowed := true, recurses := true, named := ["pergola/sandbox.tokens", "pergola/sandbox.flags"], apart := false, laid := [("pergola/sandbox.flags", laid_pergola_sandbox_flags), ("pergola/sandbox.tokens", laid_pergola_sandbox_tokens)] }
def SandboxPrintsSaid : Prop := sandboxPrintsRow.holds Tryd.pinned (OpenSpec.ofChange sandboxPrintsSpec)

/-- ITS FALSE NEIGHBOUR: 'it returns false'. Refute it at one input. -/
def sandboxPrintsWrong : ChangeSpec := { name := "sandboxPrints", fn := fun _ => fun
  | [d1, d2] => { results := [.lit (.bool false)], args := [d1, d2] }
  | _ => none }
def SandboxPrintsWrongFalsely : Prop := sandboxPrintsRow.holds Tryd.pinned (OpenSpec.ofChange sandboxPrintsWrong)

/-- 'pergolalaw17.SandboxOwn': WHATEVER THE INPUT: true; the input reads as it did. -/
def sandboxOwnSpec : ChangeSpec := { name := "sandboxOwn", fn := fun _ => fun
  | [d1, d2] => { results := [.lit (.bool true)], args := [d1, d2] }
  | _ => none }
def sandboxOwnRow : OpenClaim := { program := "ytlaiggkgflbjhaadoor", sum := "f342833111abc5847c2070b67812bab06a1f75ab804214d0f9e23831fad355cd", func := "pergola/pergolalaw17.SandboxOwn", spec := "sandboxOwn", inPlace := ["internal/bytealg.IndexByteString", "internal/abi.NoEscape", "internal/bytealg.MakeNoZero"], unfollowed := true, recurses := true, named := ["pergola/sandbox.tokens", "pergola/sandbox.flags"], apart := false, laid := [("pergola/sandbox.flags", laid_pergola_sandbox_flags), ("pergola/sandbox.tokens", laid_pergola_sandbox_tokens)] }
def SandboxOwnSaid : Prop := sandboxOwnRow.holds Tryd.pinned (OpenSpec.ofChange sandboxOwnSpec)

/-- ITS FALSE NEIGHBOUR: 'it returns false'. Refute it at one input. -/
def sandboxOwnWrong : ChangeSpec := { name := "sandboxOwn", fn := fun _ => fun
  | [d1, d2] => { results := [.lit (.bool false)], args := [d1, d2] }
  | _ => none }
def SandboxOwnWrongFalsely : Prop := sandboxOwnRow.holds Tryd.pinned (OpenSpec.ofChange sandboxOwnWrong)

/- THE SECOND FORM. 'bulk': how many values and letters a reading holds, each counted each time it is reached (what is shared counts as often as it is met; a slice's spare places count too). A statement '..UptoSaid' is the law's where the arguments, and the package variables that the reading takes, are together of bulk at most 1048576: NARROWER than '..Said'. Prove '..Said' where nothing that the law and all that it calls make is longer than what came in: it says more and counts as full. Else prove '..UptoSaid'. A law counts once. -/
mutual
def uptoBulk {H : Type} : DataW H → Nat
  | .lit (.string bytes) => bytes.length + 1
  | .lit _ => 1
  | .nil => 1
  | .ptr d => uptoBulk d + 1
  | .slice elems spare => uptoBulkAll elems + uptoBulkAll spare + 1
  | .agg parts => uptoBulkAll parts + 1
  | .iface _ d => uptoBulk d + 1
  | .map entries => uptoBulkEntries entries + 1
  | .held _ => 1
def uptoBulkAll {H : Type} : List (DataW H) → Nat
  | [] => 0
  | d :: r => uptoBulk d + uptoBulkAll r
def uptoBulkEntries {H : Type} : List (Lit × DataW H) → Nat
  | [] => 0
  | x :: r => uptoBulkEntry x + uptoBulkEntries r
def uptoBulkEntry {H : Type} : Lit × DataW H → Nat
  | (.string bytes, d) => bytes.length + uptoBulk d + 1
  | (_, d) => uptoBulk d + 1
 end
def uptoSmall : (H : Type) → List (DataW H) → Bool := fun _ ds => decide (uptoBulkAll ds ≤ 1048576)
def OpenSpec.upto (s : _root_.Go.ChangeSpec) : _root_.Go.OpenSpec := { _root_.Go.OpenSpec.ofChange s with cond := some uptoSmall }

/-- 'pergolalaw17.SandboxBack', WHERE WHAT IT READS IS OF BULK AT MOST 1048576: true; the input reads as it did. -/
def sandboxBackUptoRow : OpenClaim := { program := "ytlaiggkgflbjhaadoor", sum := "f342833111abc5847c2070b67812bab06a1f75ab804214d0f9e23831fad355cd", func := "pergola/pergolalaw17.SandboxBack", spec := "sandboxBack", inPlace := ["internal/bytealg.IndexByteString", "internal/abi.NoEscape", "internal/bytealg.MakeNoZero"], unfollowed := true, recurses := true, named := ["pergola/sandbox.tokens"], apart := false, laid := [("pergola/sandbox.tokens", laid_pergola_sandbox_tokens)], narrowed := true }
def SandboxBackUptoSaid : Prop := sandboxBackUptoRow.holds Tryd.pinned (OpenSpec.upto sandboxBackSpec)

/-- 'pergolalaw17.SandboxSpelt', WHERE WHAT IT READS IS OF BULK AT MOST 1048576: true; the input reads as it did. -/
def sandboxSpeltUptoRow : OpenClaim := { program := "ytlaiggkgflbjhaadoor", sum := "f342833111abc5847c2070b67812bab06a1f75ab804214d0f9e23831fad355cd", func := "pergola/pergolalaw17.SandboxSpelt", spec := "sandboxSpelt", inPlace := ["internal/bytealg.IndexByteString", "internal/abi.NoEscape", "internal/bytealg.MakeNoZero"], unfollowed := true, recurses := true, named := ["pergola/sandbox.tokens"], apart := false, laid := [("pergola/sandbox.tokens", laid_pergola_sandbox_tokens)], narrowed := true }
def SandboxSpeltUptoSaid : Prop := sandboxSpeltUptoRow.holds Tryd.pinned (OpenSpec.upto sandboxSpeltSpec)

/-- 'pergolalaw17.SandboxLess', WHERE WHAT IT READS IS OF BULK AT MOST 1048576: true; the input reads as it did. -/
def sandboxLessUptoRow : OpenClaim := { program := "ytlaiggkgflbjhaadoor", sum := "f342833111abc5847c2070b67812bab06a1f75ab804214d0f9e23831fad355cd", func := "pergola/pergolalaw17.SandboxLess", spec := "sandboxLess", inPlace := ["internal/bytealg.IndexByteString", "internal/abi.NoEscape", "internal/bytealg.MakeNoZero"], unfollowed := true, recurses := true, named := ["pergola/sandbox.tokens"], apart := false, laid := [("pergola/sandbox.tokens", laid_pergola_sandbox_tokens)], narrowed := true }
def SandboxLessUptoSaid : Prop := sandboxLessUptoRow.holds Tryd.pinned (OpenSpec.upto sandboxLessSpec)

/-- 'pergolalaw17.SandboxParses', WHERE WHAT IT READS IS OF BULK AT MOST 1048576: true; the input reads as it did. -/
def sandboxParsesUptoRow : OpenClaim := { program := "ytlaiggkgflbjhaadoor", sum := "f342833111abc5847c2070b67812bab06a1f75ab804214d0f9e23831fad355cd", func := "pergola/pergolalaw17.SandboxParses", spec := "sandboxParses", inPlace := ["internal/bytealg.IndexByteString", "internal/abi.NoEscape", "internal/bytealg.MakeNoZero"], unfollowed := true, recurses := true, named := ["pergola/sandbox.tokens"], apart := false, laid := [("pergola/sandbox.tokens", laid_pergola_sandbox_tokens)], narrowed := true }
def SandboxParsesUptoSaid : Prop := sandboxParsesUptoRow.holds Tryd.pinned (OpenSpec.upto sandboxParsesSpec)

/-- 'pergolalaw17.SandboxPrints', WHERE WHAT IT READS IS OF BULK AT MOST 1048576: true; the input reads as it did. -/
def sandboxPrintsUptoRow : OpenClaim := { program := "ytlaiggkgflbjhaadoor", sum := "f342833111abc5847c2070b67812bab06a1f75ab804214d0f9e23831fad355cd", func := "pergola/pergolalaw17.SandboxPrints", spec := "sandboxPrints", inPlace := ["internal/abi.NoEscape", "internal/bytealg.MakeNoZero", "internal/bytealg.IndexByteString"], unfollowed := true, recurses := true, named := ["pergola/sandbox.tokens", "pergola/sandbox.flags"], apart := false, laid := [("pergola/sandbox.flags", laid_pergola_sandbox_flags), ("pergola/sandbox.tokens", laid_pergola_sandbox_tokens)], narrowed := true }
def SandboxPrintsUptoSaid : Prop := sandboxPrintsUptoRow.holds Tryd.pinned (OpenSpec.upto sandboxPrintsSpec)

/-- 'pergolalaw17.SandboxOwn', WHERE WHAT IT READS IS OF BULK AT MOST 1048576: true; the input reads as it did. -/
def sandboxOwnUptoRow : OpenClaim := { program := "ytlaiggkgflbjhaadoor", sum := "f342833111abc5847c2070b67812bab06a1f75ab804214d0f9e23831fad355cd", func := "pergola/pergolalaw17.SandboxOwn", spec := "sandboxOwn", inPlace := ["internal/bytealg.IndexByteString", "internal/abi.NoEscape", "internal/bytealg.MakeNoZero"], unfollowed := true, recurses := true, named := ["pergola/sandbox.tokens", "pergola/sandbox.flags"], apart := false, laid := [("pergola/sandbox.flags", laid_pergola_sandbox_flags), ("pergola/sandbox.tokens", laid_pergola_sandbox_tokens)], narrowed := true }
def SandboxOwnUptoSaid : Prop := sandboxOwnUptoRow.holds Tryd.pinned (OpenSpec.upto sandboxOwnSpec)

end Rows
end Go.Proofs.YtlaiggkgflbjhaaDoor
