/- Layer 10's reader (fields): rows of items; the kinds. -/
import Derived.Test.YtclkclcacnpmbaaDoorXWFk
namespace Go.Proofs.YtclkclcacnpmbaaDoorW.PrintWords
open Go.RowKit

def kBareT : Kd BareT := Kd.pair (Kd.int .i64) (Kd.pair (Kd.int .i64) Kd.string)
def kParT : Kd ParT := Kd.pair Kd.string kBareT
def kItemT : Kd ItemT := Kd.pair kBareT (Kd.slice 119 kParT)
theorem kParT_mk (w : World) (base : Nat) (ok : Nat → Prop) (p : ParT) : kParT.M w base ok p (parCells p) := ⟨[.string p.1], [.int .i64 p.2.1, .int .i64 p.2.2.1, .string p.2.2.2], rfl, rfl, [.int .i64 p.2.1], [.int .i64 p.2.2.1, .string p.2.2.2], rfl, rfl, [.int .i64 p.2.2.1], [.string p.2.2.2], rfl, rfl, rfl⟩
theorem pars_reps (w : World) (base : Nat) (ok : Nat → Prop) (ps : List ParT) : Reps (kParT.M w base ok) 4 ps (parsCells ps) := by
 refine ⟨parsCells_length ps, fun j p hj => ?_⟩
 obtain ⟨hl, hp⟩ := List.getElem?_eq_some_iff.1 hj
 have h1 : (parsCells (ps.take j)).length = j * 4 := by rw [parsCells_length, List.length_take, Nat.min_eq_left (Nat.le_of_lt hl)]
 rw [pars_split ps j hl, ← h1, List.drop_left]
 have h2 : (parCells ps[j] ++ parsCells (ps.drop (j + 1))).take 4 = parCells ps[j] := List.take_left (l₁ := parCells ps[j])
 rw [h2, hp]
 exact kParT_mk w base ok p
theorem Pars.row {w : World} {base : Nat} {v : Value} {ps : List ParT} (h : Pars w base v ps) (ok : Nat → Prop) (hok : ∀ k, v.ownBlock = some k → ok k) : kParT.R 119 w base ok v ps := ⟨hok, parsCells ps, h, pars_reps _ _ _ ps⟩
theorem kItemT_mk {w : World} {base : Nat} {v : Value} {ps : List ParT} (b : BareT) (h : Pars w base v ps) (ok : Nat → Prop) (hok : ∀ k, v.ownBlock = some k → ok k) : kItemT.M w base ok (b, ps) [.int .i64 b.1, .int .i64 b.2.1, .string b.2.2, v] :=
 ⟨[.int .i64 b.1, .int .i64 b.2.1, .string b.2.2], [v], rfl, ⟨[.int .i64 b.1], [.int .i64 b.2.1, .string b.2.2], rfl, rfl, [.int .i64 b.2.1], [.string b.2.2], rfl, rfl, rfl⟩, Kd.M_row (h.row ok hok)⟩
def Items (w : World) (base : Nat) (v : Value) (xs : List ItemT) : Prop := kItemT.R 103 w base (fun _ => True) v xs
theorem Items.nil (w : World) (base : Nat) : Items w base (.slice none 0 0) [] := Kd.R_nil _ _ _ _ _
theorem Items.below {w w1 : World} {base : Nat} {v : Value} {xs : List ItemT} (h : Items w base v xs) (hb : Below w.heap.size w w1) : Items w1 base v xs := Kd.R_below h hb
theorem Items.went {w w1 : World} {base g : Nat} {v : Value} {xs : List ItemT} (h : Items w base v xs) (hw : Went w w1 g) (hg : g < base) : Items w1 base v xs :=
 Kd.R_mono (Kd.R_move (Kd.R_bound h) (fun k hk => hw.keep.2 k hk.2.2.1 (by have := hk.2.1; omega) (by simp))) (fun _ _ => trivial)
theorem Items.far {w : World} {base : Nat} {v : Value} {xs : List ItemT} (h : Items w base v xs) {p : Addr} (hp : p.block < base) (u : Value) : Items (w.setCell p u) base v xs :=
 Kd.R_mono (Kd.R_move (Kd.R_bound h) (fun k hk => Below.heap_setCell w p u k (by have := hk.2.1; omega))) (fun _ _ => trivial)
theorem Items.len {w : World} {base : Nat} {v : Value} {xs : List ItemT} (h : Items w base v xs) : ∃ A c, v = .slice A xs.length c := by
 obtain ⟨_, inner, ho, _⟩ := h
 exact own_slice ho
theorem infoElem : (Tryd.prog.info? 103).map (fun i => (i.zero, i.size, i.bytes)) = some (some (.agg #[.int .i64 0, .int .i64 0, .string ⟨#[]⟩, .slice none 0 0]), 4, 56) := by kernel_rfl
section
variable {ops : Array Oper} {rest : List Oper} {o : Oper} {a : Act} {Q : Exit → Act → World → Prop} {W : World} {B : Nat}
theorem push_item (hgd : o.guard = none) (sl x : Operand) (ho : o.op = .call { callee := .builtin .append, args := #[sl, x], argTypes := #[51, 51] }) (v : Value) (xs : List ItemT) (b : BareT) (vp : Value) (ps : List ParT) (hs : a.eval sl = v) (hx : a.eval x = .slice (some ⟨W.heap.size, 0, none⟩) 1 1)
  (HI : Items W B v xs) (HP : Pars W B vp ps) (hne : ∀ k, vp.ownBlock = some k → some k ≠ v.ownBlock) (hb : B ≤ W.heap.size) (hl : xs.length ≤ 1024)
  (h : ∀ v1 w1, Items w1 B v1 (xs ++ [(b, ps)]) → W.grownBy w1 v.ownBlock → wpList Tryd.prog ops Q rest (a.put o.dst v1) w1) : wpList Tryd.prog ops Q (o :: rest) a (W.alloc (.cells #[.int .i64 b.1, .int .i64 b.2.1, .string b.2.2, vp] 103)) := by
 refine Kd.R_append kItemT (w0 := W) B hgd sl x 51 103 _ 56 ho Tryd.underlying51 infoElem rfl (by decide) (by decide) v xs (b, ps) [.int .i64 b.1, .int .i64 b.2.1, .string b.2.2, vp] (fun _ => True) (fun k => some k ≠ v.ownBlock) hs hx (kItemT_mk b HP _ hne) (fun k hk => ⟨trivial, hk⟩) (fun _ _ => trivial) HI (Below.refl _ _) hb (by omega) ?_
 intro v1 w1 ho1 _ hg1 _
 exact h v1 w1 ho1 hg1
end
end Go.Proofs.YtclkclcacnpmbaaDoorW.PrintWords
