/- Layer 10's reader (fields): what value comes to. -/
import Derived.Test.YtclkclcacnpmbaaDoorXWFn
namespace Go.Proofs.YtclkclcacnpmbaaDoorW.PrintWords
open Go.RowKit

abbrev MemT := ByteArray × Bool × BareT × List ItemT × List ParT
def fdValue (BR : ByteArray → Int → Option (BareT × Int × Int)) (KR : ByteArray → Int → Option (ByteArray × Int × Int)) (IX : ByteArray → Int → Int) (s : ByteArray) (m n : Nat) (a : Int) : Option (FR MemT) :=
 if isB s a 40 = true then (fdInner BR KR IX s m n (a + 1) []).bind fun X => match X with
  | .inl f => some (.inl f)
  | .inr (xs, c) => (fdParams BR KR IX s m c []).bind fun P => match P with
   | .inl f => some (.inl f)
   | .inr (ps, d) => some (.inr ((⟨#[]⟩, true, (0, 0, ⟨#[]⟩), xs, ps), d))
 else (fdItem BR KR IX s m a).bind fun I => match I with
  | .inl f => some (.inl f)
  | .inr ((b, ps), c) => some (.inr ((⟨#[]⟩, false, b, [], ps), c))
def memV (x : MemT) (vi vp : Value) : Value := .agg #[.string x.1, .bool x.2.1, .int .i64 x.2.2.1.1, .int .i64 x.2.2.1.2.1, .string x.2.2.1.2.2, vi, vp]
def GivesV (x : Ending) (w w' : World) (g : Nat) (s : ByteArray) : FR MemT → Prop
 | .inl f => x = .panicked (wrongF f.1 f.2) ∧ Went w w' g
 | .inr (y, a) => ∃ vi vp, x = .returned (memV y vi vp) ∧ Items w' w.heap.size vi y.2.2.2.1 ∧ Pars w' w.heap.size vp y.2.2.2.2 ∧ FdAt w' g s a ∧ Went w w' g
def kMemT : Kd MemT := Kd.pair Kd.string (Kd.pair Kd.bool (Kd.pair kBareT (Kd.pair (Kd.slice 103 kItemT) (Kd.slice 119 kParT))))
theorem kMemT_mk {w : World} {base : Nat} {vi vp : Value} (x : MemT) (hi : Items w base vi x.2.2.2.1) (hp : Pars w base vp x.2.2.2.2) (ok : Nat → Prop) (hok : ∀ k, base ≤ k → ok k) :
  kMemT.M w base ok x [.string x.1, .bool x.2.1, .int .i64 x.2.2.1.1, .int .i64 x.2.2.1.2.1, .string x.2.2.1.2.2, vi, vp] :=
 ⟨[_], [_, _, _, _, _, _], rfl, rfl, [_], [_, _, _, _, _], rfl, rfl, [_, _, _], [_, _], rfl, ⟨[_], [_, _], rfl, rfl, [_], [_], rfl, rfl, rfl⟩, [_], [_], rfl, Kd.M_row (Kd.R_mono (Kd.R_bound hi) (fun k hk => hok k hk.2.1)), Kd.M_row (hp.row ok (fun k hk => hok k (own_base hp k hk)))⟩
end Go.Proofs.YtclkclcacnpmbaaDoorW.PrintWords
