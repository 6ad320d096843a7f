-- Written by wip/xprint.py for this seat
import Derived.Test.YtlaiggkgflbjhaaDoorRows
import Derived.Test.YtlaiggkgflbjhaaDoorX16
import Derived.Test.YtlaiggkgflbjhaaDoorPureSandboxPrints
import Derived.Test.YtlaiggkgflbjhaaDoorPFlgLaid
import Derived.Test.YtlaiggkgflbjhaaDoorCards
import Derived.Test.YtlaiggkgflbjhaaDoorTie
import Derived.Deep.DeepHandedRow
import Derived.Lib.LaidTab
import Derived.WalkKit
import Derived.ProofKit
import Derived.OpenShut
import Derived.ShutString
import Derived.ChangeOld
import Derived.Below
import Derived.SizedLaws
namespace Go.Proofs.YtlaiggkgflbjhaaDoor.sandboxPrints
open Go.ChangeShapes Go.WideShapes Go.ChangeAt Go.RowKit
open Go.ChangeMaps (open_string shut_string)
set_option linter.unusedVariables false
theorem own : ownKnob Tryd.prog.godebug = none := by kernel_rfl
set_option maxRecDepth 100000 in
theorem contract (H : Type) (enc : TypeId × Value → H) (W : World) (base : Nat) (args : Array Value) (ds gs : List (DataW H)) (before : List MemPlace)
    (hval0 : ∀ (j : Nat) t v, Tryd.f7.params[j]? = some t → args[j]? = some v → Value.okWide Tryd.prog W .any base t v)
    (hW : DataW.Whole enc Tryd.prog Tryd.f7.params.toList Rows.sandboxPrintsSpec.vars false W args.toList ds gs before) (hsz0 : (DataW.weightsEach Tryd.prog (Tryd.f7.params.toList ++ Rows.sandboxPrintsSpec.plain.varTypes Tryd.prog) (ds ++ gs)).all (· ≤ reachBytes) = true) (hL : laidMetH Tryd.prog Rows.sandboxPrintsRow.laid W) :
    Calls Tryd.prog 7 args W fun e W' => ∃ v, e = .returned v ∧ Rows.sandboxPrintsSpec.post enc Tryd.prog Tryd.f7 false true false false W args v W' := by
  have hsz : (DataW.weightsEach Tryd.prog (Tryd.f7.params.toList ++ Rows.sandboxPrintsSpec.plain.varTypes Tryd.prog) (ds ++ gs)).all (· ≤ reachBytes) = true := hsz0
  have hval : ∀ (j : Nat) t v, Tryd.f7.params[j]? = some t → args[j]? = some v → Value.okWide Tryd.prog W .any base t v := hval0
  have hW' := hW
  obtain ⟨p, q, hA0, hV, rfl, hfz, hnd⟩ := hW
  have hA : DataW.TrodAll enc Tryd.prog W 0 (fun _ => true) true Tryd.f7.params.toList args.toList ds p := hA0
  rw [Tryd.params7] at hA hval hsz
  obtain ⟨v0, vs0, d0, ds0, p0, q0, hargs, rfl, rfl, h0, r0⟩ := trodAll_cons hA
  obtain ⟨v1, vs1, d1, ds1, p1, q1, rfl, rfl, rfl, h1, r1⟩ := trodAll_cons r0
  obtain ⟨rfl, rfl, rfl⟩ := trodAll_nil r1
  obtain rfl : args = #[v0, v1] := by cases args; simp_all
  obtain ⟨rfl, rfl⟩ := trodVars_none hV
  obtain ⟨a0, rfl, rfl, rfl, w0⟩ := open_int Tryd.underlying23 (hval 0 23 v0 rfl rfl) h0
  obtain ⟨a1, rfl, rfl, rfl, w1⟩ := open_int Tryd.underlying23 (hval 1 23 v1 rfl rfl) h1
  clear hA0 hval0 hsz0 hsz
  refine (X.pergolalaw17_SandboxPrints.walk Pure.SandboxPrints a0 a1 W w0 w1 (Pure.both_of_laid hL).1 (Pure.both_of_laid hL).2).mono fun e W' ⟨he, bel⟩ => ?_
  subst he
  exact ⟨_, rfl, _, _, _, [], _, [], hW', trodAll_mk1 (shut_bool Tryd.underlying4 _), (trodAll_cons_mk (shut_int Tryd.underlying23 w0) (trodAll_cons_mk (shut_int Tryd.underlying23 w1) trodAll_mk0)), rfl, bel.frame _, fun h => by cases h⟩
def layIn (cs : Array Value) : Obj → Obj
  | .cells _ t frozen => .cells cs t frozen
  | o => o
/-- What its initialiser lays in the listed variable. -/
def cells1 : Array Value := #[.string ⟨#[102, 111, 114, 109, 115]⟩, .string ⟨#[109, 111, 100, 97, 108, 115]⟩, .string ⟨#[111, 114, 105, 101, 110, 116, 97, 116, 105, 111, 110]⟩, .string ⟨#[112, 111, 105, 110, 116, 101, 114]⟩, .string ⟨#[112, 111, 112, 117, 112, 115]⟩, .string ⟨#[112, 114, 111, 112, 97, 103, 97, 116, 101, 115]⟩, .string ⟨#[112, 114, 101, 115, 101, 110, 116, 97, 116, 105, 111, 110]⟩, .string ⟨#[111, 114, 105, 103, 105, 110]⟩, .string ⟨#[115, 99, 114, 105, 112, 116, 115]⟩, .string ⟨#[102, 101, 97, 116, 117, 114, 101, 115]⟩, .string ⟨#[115, 116, 111, 114, 97, 103, 101]⟩, .string ⟨#[116, 111, 112]⟩, .string ⟨#[116, 111, 112, 45, 117, 115, 101, 114]⟩, .string ⟨#[112, 114, 111, 116, 111, 99, 111, 108, 115]⟩, .string ⟨#[100, 111, 119, 110, 108, 111, 97, 100, 115]⟩, .string ⟨#[110, 97, 118, 105, 103, 97, 116, 105, 111, 110]⟩]
/-- What its initialiser lays in the listed variable. -/
def cells0 : Array Value := #[.string ⟨#[97, 108, 108, 111, 119, 45, 102, 111, 114, 109, 115]⟩, .int .u32 1, .string ⟨#[97, 108, 108, 111, 119, 45, 109, 111, 100, 97, 108, 115]⟩, .int .u32 2, .string ⟨#[97, 108, 108, 111, 119, 45, 111, 114, 105, 101, 110, 116, 97, 116, 105, 111, 110, 45, 108, 111, 99, 107]⟩, .int .u32 4, .string ⟨#[97, 108, 108, 111, 119, 45, 112, 111, 105, 110, 116, 101, 114, 45, 108, 111, 99, 107]⟩, .int .u32 8, .string ⟨#[97, 108, 108, 111, 119, 45, 112, 111, 112, 117, 112, 115]⟩, .int .u32 8208, .string ⟨#[97, 108, 108, 111, 119, 45, 112, 111, 112, 117, 112, 115, 45, 116, 111, 45, 101, 115, 99, 97, 112, 101, 45, 115, 97, 110, 100, 98, 111, 120]⟩, .int .u32 32, .string ⟨#[97, 108, 108, 111, 119, 45, 112, 114, 101, 115, 101, 110, 116, 97, 116, 105, 111, 110]⟩, .int .u32 64, .string ⟨#[97, 108, 108, 111, 119, 45, 115, 97, 109, 101, 45, 111, 114, 105, 103, 105, 110]⟩, .int .u32 128, .string ⟨#[97, 108, 108, 111, 119, 45, 115, 99, 114, 105, 112, 116, 115]⟩, .int .u32 768, .string ⟨#[97, 108, 108, 111, 119, 45, 115, 116, 111, 114, 97, 103, 101, 45, 97, 99, 99, 101, 115, 115, 45, 98, 121, 45, 117, 115, 101, 114, 45, 97, 99, 116, 105, 118, 97, 116, 105, 111, 110]⟩, .int .u32 1024, .string ⟨#[97, 108, 108, 111, 119, 45, 116, 111, 112, 45, 110, 97, 118, 105, 103, 97, 116, 105, 111, 110]⟩, .int .u32 14336, .string ⟨#[97, 108, 108, 111, 119, 45, 116, 111, 112, 45, 110, 97, 118, 105, 103, 97, 116, 105, 111, 110, 45, 98, 121, 45, 117, 115, 101, 114, 45, 97, 99, 116, 105, 118, 97, 116, 105, 111, 110]⟩, .int .u32 4096, .string ⟨#[97, 108, 108, 111, 119, 45, 116, 111, 112, 45, 110, 97, 118, 105, 103, 97, 116, 105, 111, 110, 45, 116, 111, 45, 99, 117, 115, 116, 111, 109, 45, 112, 114, 111, 116, 111, 99, 111, 108, 115]⟩, .int .u32 8192, .string ⟨#[97, 108, 108, 111, 119, 45, 100, 111, 119, 110, 108, 111, 97, 100, 115]⟩, .int .u32 16384]
/-- A WORLD FOR THE WITNESS: the settled one, the listed variables holding what their initialisers lay. -/
noncomputable def laidWorld (os : Os) : World :=
  { World.holding Tryd.prog os ⟨#[], #[], []⟩ with heap := (((World.holding Tryd.prog os ⟨#[], #[], []⟩).heap).modify 1 (layIn cells1)).modify 0 (layIn cells0) }
theorem laid_met (os : Os) : laidMet Tryd.prog Rows.sandboxPrintsRow.laid ((laidWorld os).forCall (fun _ _ => 0) ⟨#[], #[.int .u32 0, .int .u32 0], []⟩).memory :=
  laidMet_of_run' 8 (by kernel_rfl) (by kernel_rfl)
theorem reads (os : Os) {H : Type} (enc : TypeId × Value → H) : ∃ places, DataW.whole enc Tryd.prog ((laidWorld os).forCall (fun _ _ => 0) ⟨#[], #[.int .u32 0, .int .u32 0], []⟩).memory Tryd.f7.params.toList Rows.sandboxPrintsSpec.vars false (#[.int .u32 0, .int .u32 0] : Array Value).toList 8 = some ([.lit (.int .u32 0), .lit (.int .u32 0)], [], places) :=
  ⟨[], by kernel_rfl⟩
set_option maxRecDepth 100000 in
theorem lifted (os : Os) (started : os.Started) (H : Type) (enc : TypeId × Value → H) (F : Stop.Interp) :
    ReturnsInHanded {} Tryd.checked os 7 .any ((OpenSpec.ofChange Rows.sandboxPrintsSpec).preRow enc Tryd.prog Tryd.f7 Rows.sandboxPrintsRow.domain false Rows.sandboxPrintsRow.laid) (((OpenSpec.ofChange Rows.sandboxPrintsSpec).at F).post enc Tryd.prog Tryd.f7 false true false false) := by
  obtain ⟨places, hx⟩ := reads os enc
  refine returnsInHanded_of_row (C := Tryd.checked) (s := OpenSpec.ofChange Rows.sandboxPrintsSpec) own started (by kernel_rfl) Tryd.func7
    (witness_row_at (enc := enc) (C := Tryd.checked) false (laidWorld os) #[.int .u32 0, .int .u32 0] rfl (by kernel_rfl) (by kernel_rfl) (by kernel_rfl)
      (OpenSpec.preRow_of_cond 8 hx (by kernel_rfl) (fun k hk => by cases hk) (by kernel_rfl) (laid_met os))) ?_
  intro W base args ds gs before hval hW _ hcond hsz hL _ _
  exact contract H enc W base args ds gs before hval hW hsz hL
theorem said : Rows.SandboxPrintsSaid :=
  OpenClaim.holds_of_cond 7 Tryd.f7 rfl rfl rfl rfl rfl rfl rfl ⟨rfl, rfl, rfl, rfl, rfl⟩ rfl rfl rfl rfl rfl (by kernel_rfl) Tryd.func7 (by kernel_rfl)
    (of_decide_eq_true (by kernel_rfl)) (by unfold Func.isWrapper; first | (rw [if_pos (by decide +kernel)]; kernel_rfl) | (rw [if_neg (by decide +kernel)]; exact ⟨rfl, rfl⟩))
    (fun os started H enc _ F => by rw [OpenClaim.pre_eq_preRow]; exact lifted os started H enc F)
theorem plain (f : FuncId) (fn : Func) (hf : Tryd.pinned.checked.prog.funcNamed "pergola/pergolalaw17.SandboxPrints" = some f) (hfn : Tryd.pinned.checked.prog.funcs[f]? = some fn) :
    false = Tryd.pinned.checked.prog.looks [] ∧ ∀ (j : Nat) t, fn.params[j]? = some t → Tryd.pinned.checked.prog.wantsStandIn t = false := by
  obtain rfl : f = 7 := Option.some.inj ((show Tryd.prog.funcNamed "pergola/pergolalaw17.SandboxPrints" = some 7 by kernel_rfl).symm.trans hf) |>.symm
  obtain rfl : fn = Tryd.f7 := (Option.some.inj (Tryd.func7.symm.trans hfn)).symm
  refine ⟨by kernel_rfl, fun j t ht => ?_⟩
  rw [Tryd.params7] at ht
  have hm := Array.mem_of_getElem? ht
  simp only [List.mem_toArray, List.mem_cons, List.not_mem_nil, or_false] at hm
  rcases hm with rfl | rfl
  · exact (show Tryd.prog.wantsStandIn 23 = false by kernel_rfl)
  · exact (show Tryd.prog.wantsStandIn 23 = false by kernel_rfl)
theorem card : Rows.SandboxPrintsCardSaid :=
  Claim7.holds_tied_plain_at .later [] _ _ _ _ said (fun _ h => by cases h) (by kernel_rfl) (fun _ h => by cases h) sandboxPrints_row_tie rfl ⟨rfl, rfl⟩ (by kernel_rfl) rfl plain (by kernel_rfl)
#print axioms card
end Go.Proofs.YtlaiggkgflbjhaaDoor.sandboxPrints
namespace Go.Proofs.YtlaiggkgflbjhaaDoor
/-- The card, under a short name, for the claim. -/
theorem sandboxPrintsCard_holds : Rows.SandboxPrintsCardSaid := sandboxPrints.card
end Go.Proofs.YtlaiggkgflbjhaaDoor
