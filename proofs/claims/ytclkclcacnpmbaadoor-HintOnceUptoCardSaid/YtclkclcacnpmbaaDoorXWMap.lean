/- Maps from texts to whole numbers that the call makes: told by the row of what was put, the last first. -/
import Derived.Test.YtclkclcacnpmbaaDoorXW
import Derived.Test.YtclkclcacnpmbaaDoorShelf
import Derived.StringKeys
import Derived.WalkArith
import Derived.Maps.OwnOps
import Derived.Maps.OwnSet
namespace Go.Proofs.YtclkclcacnpmbaaDoorW.PrintWords
open Go.RowKit Go.Maps Go.WideMaps

def keyL (s : ByteArray) : Lit := .string s.data.toList
theorem keyL_inj {s t : ByteArray} (h : keyL s = keyL t) : s = t := by
 unfold keyL at h
 injection h with h
 obtain ⟨⟨a⟩⟩ := s
 obtain ⟨⟨b⟩⟩ := t
 exact congrArg (fun l => ByteArray.mk (Array.mk l)) h
abbrev Puts := List (ByteArray × Int)
def dOf : Puts → DataW Unit
 | [] => .map []
 | (k, v) :: r => (dOf r).put (keyL k) (.lit (.int .i64 v))
def lookP : Puts → ByteArray → Option Int
 | [], _ => none
 | (k, v) :: r, x => if k = x then some v else lookP r x
theorem dOf_map : ∀ l : Puts, Maps.IsMap (dOf l)
 | [] => Maps.isMap_empty
 | (_, _) :: r => (dOf_map r).put _ _
theorem keyL_is (s : ByteArray) : WideAt.IsKeyLit (keyL s) := by first | trivial | exact .inr (.inr ⟨_, rfl⟩) | (unfold keyL WideAt.IsKeyLit; simp)
theorem has_dOf (x : ByteArray) : ∀ l : Puts, Maps.has (dOf l) (keyL x) = (lookP l x).isSome
 | [] => rfl
 | (k, v) :: r => by
  unfold dOf lookP
  by_cases h : k = x
  ·subst h
   rw [if_pos rfl, Maps.has_put_same (dOf_map r) (keyL_is k)]
   rfl
  ·rw [if_neg h, Maps.has_put_other (fun e => h (keyL_inj e).symm), has_dOf x r]
theorem at_dOf (x : ByteArray) : ∀ l : Puts, (dOf l).atKey (keyL x) (.lit (.int .i64 0)) = .lit (.int .i64 ((lookP l x).getD 0))
 | [] => rfl
 | (k, v) :: r => by
  unfold dOf lookP
  by_cases h : k = x
  ·subst h
   rw [if_pos rfl, Maps.atKey_put_same (dOf_map r) (keyL_is k)]
   rfl
  ·rw [if_neg h, Maps.atKey_put_other (fun e => h (keyL_inj e).symm), at_dOf x r]
theorem mapKeyed : Keyed Tryd.prog 9 := string_keyed Tryd.underlying9
theorem zeroInt (w : World) : (zeroValue 3).run Tryd.prog w = .ok (.int .i64 0) w := by kernel_rfl
def IMap (w : World) (b : Nat) (l : Puts) : Prop := w.ownsMap Tryd.prog 9 (plainElem Tryd.prog 3) b l.length (dOf l)
theorem IMap.made (w : World) : IMap (w.alloc (.map #[] 0)) w.heap.size [] := World.ownsMap_made _ _ _ _
section
variable {w w1 : World} {b : Nat} {l : Puts}
theorem IMap.lt (h : IMap w b l) : b < w.heap.size := World.ownsMap.lt h
theorem IMap.blk (h : IMap w b l) : ∃ es c, w.heap[b]? = some (.map es c) := by
 obtain ⟨es, clock, hb, _⟩ := h
 exact ⟨es, clock, hb⟩
theorem IMap.moved (h : IMap w b l) (hb : w1.heap[b]? = w.heap[b]?) : IMap w1 b l := by
 obtain ⟨es, clock, h1, F, hs, hD⟩ := h
 exact ⟨es, clock, hb.trans h1, F, hs, hD⟩
theorem IMap.below (h : IMap w b l) (hb : Below w.heap.size w w1) : IMap w1 b l := h.moved (hb.block b h.lt)
theorem IMap.grown (h : IMap w b l) {row : Option Nat} (hg : w.grownBy w1 row) (hne : some b ≠ row) : IMap w1 b l := World.ownsMap.kept h hg hne
theorem IMap.setCell (h : IMap w b l) {p : Addr} (hp : b ≠ p.block) (u : Value) : IMap (w.setCell p u) b l := World.ownsMap.setCell h hp u
theorem IMap.look_ok (h : IMap w b l) (k : ByteArray) (hk : k.size ≤ maxLen) : (Instr.lookup 80 (.map (some b)) (.string k) true).run Tryd.prog w = .ok (.tuple #[.int .i64 ((lookP l k).getD 0), .bool (lookP l k).isSome]) w := by
 obtain ⟨v, ps, hrun, hv⟩ := World.ownsMap.look_ok h mapKeyed Tryd.underlying80 (zeroInt w) (plainElem_int Tryd.underlying3 (by decide)) (keyOf_string_mk Tryd.underlying9 hk)
 obtain ⟨c, rfl, hc, _⟩ := plainElem_int_inv Tryd.underlying3 hv
 have hc := congrArg Prod.fst hc
 have ha := at_dOf k l
 have hh := has_dOf k l
 unfold keyL at ha hh
 have hc2 : (lookP l k).getD 0 = c := by
  have h2 := ha.symm.trans hc
  simpa using h2
 rw [hrun, hh, hc2]
theorem IMap.put (h : IMap w b l) (hl : l.length < maxLen) (k : ByteArray) (hk : k.size ≤ maxLen) (v : Int) (h0 : -9223372036854775808 ≤ v) (h1 : v ≤ 9223372036854775807) :
  ∃ w', (Instr.mapUpdate 80 (.map (some b)) (.string k) (.int .i64 v)).run Tryd.prog w = .ok () w' ∧ IMap w' b ((k, v) :: l) ∧ w.grownBy w' (some b) :=
 World.ownsMap.update h mapKeyed Tryd.underlying80 hl (keyOf_string_mk Tryd.underlying9 hk) (plainElem_int Tryd.underlying3 (WalkArith.wf_i64 (by omega)))
end
section
variable {ops : Array Oper} {rest : List Oper} {o : Oper} {a : Act} {Q : Exit → Act → World → Prop} {w : World}
theorem put_map (hg : o.guard = none) (m x v : Operand) (hop : o.op = Op.mapUpdate 80 m x v) (b : Nat) (l : Puts) (k : ByteArray) (n : Int) (hm : a.eval m = .map (some b)) (hx : a.eval x = .string k) (hv : a.eval v = .int .i64 n)
  (h : IMap w b l) (hl : l.length < maxLen) (hk : k.size ≤ maxLen) (h0 : -9223372036854775808 ≤ n) (h1 : n ≤ 9223372036854775807)
  (hK : ∀ w', IMap w' b ((k, n) :: l) → w.grownBy w' (some b) → wpList Tryd.prog ops Q rest (a.put o.dst undef) w') : wpList Tryd.prog ops Q (o :: rest) a w :=
 wpList_mapUpdate_own w hg m x v 80 hop 9 3 mapKeyed Tryd.underlying80 (plainElem Tryd.prog 3) b l.length (dOf l) hm h hl _ _ (keyL k) hx hv (keyOf_string_mk Tryd.underlying9 hk) (.lit (.int .i64 n)) [] (plainElem_int Tryd.underlying3 (WalkArith.wf_i64 (by omega))) (fun w' h' hg' => hK w' h' hg')
end
end Go.Proofs.YtclkclcacnpmbaaDoorW.PrintWords
