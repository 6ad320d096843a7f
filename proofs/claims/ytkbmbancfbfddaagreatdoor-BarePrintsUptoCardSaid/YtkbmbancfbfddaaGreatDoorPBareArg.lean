/- An api.Bare that is an argument, opened and shut. -/
import Derived.Test.YtkbmbancfbfddaaGreatDoorProg
import Derived.Test.YtkbmbancfbfddaaGreatDoorBulk
import Derived.Lib.SmallJoins
import Derived.ChangeArms
import Derived.RowKit
import Derived.ShutString
import Derived.KernelRfl
namespace Go.Proofs.YtkbmbancfbfddaaGreatDoor.Pure
open Go Go.RowKit Go.ChangeShapes Go.WideShapes

set_option maxRecDepth 100000 in
theorem bare_open {H : Type} {enc : TypeId × Value → H} {W : World} {r : Reach} {b0 base : Nat} {sp : Nat → Bool} {hd : Bool} {v : Value} {d : DataW H} {p : List MemPlace}
  (hv : Value.okWide Tryz.prog W r b0 24 v) (h : DataW.Trod enc Tryz.prog W base sp hd 24 v d p) :
  ∃ (a b : Int) (s : ByteArray), v = .agg #[.int .i64 a, .int .i64 b, .string s] ∧ p = [] ∧ d = .agg [.lit (.int .i64 a), .lit (.int .i64 b), .lit (.string s.data.toList)] ∧ (Lit.int .i64 a).wf = true ∧ (Lit.int .i64 b).wf = true ∧ s.size ≤ maxLen ∧ s.size ≤ Rows.uptoBulk d := by
 obtain ⟨v0, v1, v2, y0, y1, y2, n, rfl, rfl, rfl, t0, t1, t2⟩ := Go.Joins.open_agg3 Tryz.underlying24 (by kernel_rfl) (by kernel_rfl) hv h
 obtain ⟨a, e0, x0, w0⟩ := DataW.trod_int Tryz.underlying22 t0
 obtain ⟨b, e1, x1, w1⟩ := DataW.trod_int Tryz.underlying2 t1
 obtain ⟨s, e2, x2, w2⟩ := DataW.trod_string Tryz.underlying9 t2
 simp only [List.cons.injEq, and_true] at e0 e1 e2
 subst e0 e1 e2 x0 x1 x2
 refine ⟨a, b, s, rfl, rfl, rfl, w0, w1, w2, ?_⟩
 have z := bulks.string_eq (H := H) s.data.toList
 rw [Array.length_toList] at z
 have hz : s.data.size = s.size := rfl
 show _ ≤ Rows.uptoBulk (DataW.agg (H := H) [.lit (.int .i64 a), .lit (.int .i64 b), .lit (.string s.data.toList)])
 simp only [Rows.uptoBulk, Rows.uptoBulkAll] at z ⊢
 omega
set_option maxRecDepth 100000 in
theorem bare_shut {H : Type} {enc : TypeId × Value → H} {W : World} {base : Nat} {sp : Nat → Bool} {hd : Bool} {a b : Int} {s : ByteArray} (w0 : (Lit.int .i64 a).wf = true) (w1 : (Lit.int .i64 b).wf = true) (w2 : s.size ≤ maxLen) :
  DataW.Trod enc Tryz.prog W base sp hd 24 (.agg #[.int .i64 a, .int .i64 b, .string s]) (.agg [.lit (.int .i64 a), .lit (.int .i64 b), .lit (.string s.data.toList)]) [] := by
 obtain ⟨n0, h0⟩ := shut_int (enc := enc) (P := Tryz.prog) (w := W) (base := base) (spare := sp) (held := hd) Tryz.underlying22 w0
 obtain ⟨n1, h1⟩ := shut_int (enc := enc) (P := Tryz.prog) (w := W) (base := base) (spare := sp) (held := hd) Tryz.underlying2 w1
 obtain ⟨n2, h2⟩ := ChangeMaps.shut_string (enc := enc) (P := Tryz.prog) (w := W) (base := base) (sp := sp) (held := hd) Tryz.underlying9 w2
 exact Go.Joins.shut_agg3 (y0 := (.lit (.int .i64 a), [])) (y1 := (.lit (.int .i64 b), [])) (y2 := (.lit (.string s.data.toList), [])) Tryz.underlying24 (by kernel_rfl) (by kernel_rfl) ⟨n0, h0⟩ ⟨n1, h1⟩ ⟨n2, h2⟩
end Go.Proofs.YtkbmbancfbfddaaGreatDoor.Pure
