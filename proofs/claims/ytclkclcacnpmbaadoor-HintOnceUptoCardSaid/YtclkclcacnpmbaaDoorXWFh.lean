/- Layer 10's reader (fields): rows of parameters, told by their cells; yes; what params comes to. -/
import Derived.Test.YtclkclcacnpmbaaDoorXWFg
namespace Go.Proofs.YtclkclcacnpmbaaDoorW.PrintWords
open Go.RowKit

theorem yes_calls (w : World) :
  Calls Tryd.prog 68 #[] w fun x w' => x = .returned (.agg #[.int .i64 6, .int .i64 1, .string ⟨#[]⟩]) ∧ Below w.heap.size w w' := by
 go_enter Tryd.func68, Tryd.ntmps68
 go_upto_region 1 with (fail)
 obtain ⟨hx1, hb1⟩ := alloc1 w (.cells #[.int .i64 0, .int .i64 0, .string ⟨#[]⟩] 50)
 have hg : w.heap.size ≤ w.heap.size := Nat.le_refl _
 have HX := Aside0.mk hx1
 have HB := Aside0.mk hb1
 clear hx1 hb1
 generalize w.alloc (Obj.cells #[.int .i64 0, .int .i64 0, .string ⟨#[]⟩] 50) = w1 at *
 have x0 : w1.cell? ⟨w.heap.size, 0, none⟩ = some (.int .i64 0) := (blk_cell HX.out 0).trans rfl
 have x1 : w1.cell? ⟨w.heap.size, 1, none⟩ = some (.int .i64 0) := (blk_cell HX.out 1).trans rfl
 have x2 : w1.cell? ⟨w.heap.size, 2, none⟩ = some (.string ⟨#[]⟩) := (blk_cell HX.out 2).trans rfl
 have xf0 := blk_frozen HX.out 0
 have xf1 := blk_frozen HX.out 1
 have xf2 := blk_frozen HX.out 2
 go_wp2
 (try simp only [Exit.inBlock, Exit.then])
 refine bodyPost_ret (v := bareV (6, 1, ⟨#[]⟩)) (by simp [results, Tryd.results68, go_sem, bareV, x0, x1, x2]; try rfl) rfl ?_
 exact ⟨rfl, ((HB.out.setCell hg _).setCell hg _).setCell hg _⟩

abbrev ParT := ByteArray × BareT
def parCells (p : ParT) : List Value := [.string p.1, .int .i64 p.2.1, .int .i64 p.2.2.1, .string p.2.2.2]
def parsCells (ps : List ParT) : List Value := ps.flatMap parCells
theorem parsCells_length (ps : List ParT) : (parsCells ps).length = ps.length * 4 := by
 induction ps with
 | nil => rfl
 | cons p ps ih =>
  unfold parsCells at *
  rw [List.flatMap_cons, List.length_append, ih, List.length_cons]
  show 4 + _ = _
  omega
theorem parsCells_append (ps qs : List ParT) : parsCells (ps ++ qs) = parsCells ps ++ parsCells qs := List.flatMap_append
theorem pars_split (ps : List ParT) (i : Nat) (h : i < ps.length) : parsCells ps = parsCells (ps.take i) ++ (parCells ps[i] ++ parsCells (ps.drop (i + 1))) := by
 conv => lhs; rw [← List.take_append_drop i ps, List.drop_eq_getElem_cons h]
 rw [parsCells_append]
 rfl
theorem pars_get (ps : List ParT) (i j : Nat) (h : i < ps.length) (hj : j < 4) : (parsCells ps)[i * 4 + j]? = (parCells ps[i])[j]? := by
 rw [pars_split ps i h]
 have hl : (parsCells (ps.take i)).length = i * 4 := by rw [parsCells_length, List.length_take, Nat.min_eq_left (Nat.le_of_lt h)]
 rw [List.getElem?_append_right (by omega), List.getElem?_append_left (by show _ < 4; omega), hl]
 congr 1
 omega
theorem pars_put (ps : List ParT) (i : Nat) (h : i < ps.length) (b : BareT) :
  (((parsCells ps).set (i * 4 + 1) (.int .i64 b.1)).set (i * 4 + 2) (.int .i64 b.2.1)).set (i * 4 + 3) (.string b.2.2) = parsCells (ps.set i (ps[i].1, b)) := by
 have hl : (parsCells (ps.take i)).length = i * 4 := by rw [parsCells_length, List.length_take, Nat.min_eq_left (Nat.le_of_lt h)]
 rw [pars_split ps i h, pars_split (ps.set i (ps[i].1, b)) i (by rw [List.length_set]; exact h)]
 rw [List.take_set_of_le (Nat.le_refl _), List.drop_set_of_lt (Nat.lt_succ_self _), List.getElem_set_self]
 rw [List.set_append_right _ _ (by omega), List.set_append_right _ _ (by omega), List.set_append_right _ _ (by omega), hl]
 congr 1
 rw [show i * 4 + 1 - i * 4 = 1 by omega, show i * 4 + 2 - i * 4 = 2 by omega, show i * 4 + 3 - i * 4 = 3 by omega]
 rfl
def Pars (w : World) (base : Nat) (v : Value) (ps : List ParT) : Prop := w.ownsRow base 119 4 v ps.length (parsCells ps)
theorem Pars.nil (w : World) (base : Nat) : Pars w base (.slice none 0 0) [] := own_nil _ _ _ _
theorem Pars.below {w w1 : World} {base : Nat} {v : Value} {ps : List ParT} (h : Pars w base v ps) (hb : Below w.heap.size w w1) : Pars w1 base v ps := pw_own_below h hb
theorem Pars.went {w w1 : World} {base g : Nat} {v : Value} {ps : List ParT} (h : Pars w base v ps) (hw : Went w w1 g) (hg : g < base) : Pars w1 base v ps :=
 own_move h (fun k hk => hw.keep.2 k (own_lt h k hk) (by have := own_base h k hk; omega) (by simp))
theorem Pars.far {w : World} {base : Nat} {v : Value} {ps : List ParT} (h : Pars w base v ps) {p : Addr} (hp : v.ownBlock ≠ some p.block) (u : Value) : Pars (w.setCell p u) base v ps := own_setCell h (fun e => hp e.symm) u
theorem Pars.len {w : World} {base : Nat} {v : Value} {ps : List ParT} (h : Pars w base v ps) : ∃ A c, v = .slice A ps.length c ∧ ps.length ≤ c := by
 obtain ⟨A, c, rfl⟩ := own_slice h
 exact ⟨A, c, rfl, own_cap h⟩
theorem Pars.at_ {w : World} {base g c : Nat} {ps : List ParT} (h : Pars w base (.slice (some ⟨g, 0, none⟩) ps.length c) ps) (i : Nat) (hi : i < ps.length) (j : Nat) (hj : j < 4) : w.cell? ⟨g, i * 4 + j, none⟩ = (parCells ps[i])[j]? ∧ w.frozen? ⟨g, i * 4 + j, none⟩ = false := by
 have hu := pars_get ps i j hi hj
 obtain ⟨u, hu2⟩ : ∃ u, (parCells ps[i])[j]? = some u := ⟨(parCells ps[i])[j]'(show j < 4 from hj), List.getElem?_eq_getElem _⟩
 rw [hu2] at hu ⊢
 constructor
 ·have hc := World.ownsRow.cells h (g := g) rfl (i * 4 + j) u hu
  rwa [add_plain] at hc
 ·rcases h.2 with ⟨h', _⟩ | ⟨g', cap', cur, h', _, hh, _⟩
  ·cases h'
  ·have : g = g' := by injection h' with h'; injection h' with h'; injection h' with h'
   subst this
   simp [World.frozen?, hh]
theorem Pars.put {w : World} {base g c : Nat} {ps : List ParT} (h : Pars w base (.slice (some ⟨g, 0, none⟩) ps.length c) ps) (i : Nat) (hi : i < ps.length) (b : BareT) :
  Pars (((w.setCell ⟨g, i * 4 + 1, none⟩ (.int .i64 b.1)).setCell ⟨g, i * 4 + 2, none⟩ (.int .i64 b.2.1)).setCell ⟨g, i * 4 + 3, none⟩ (.string b.2.2)) base (.slice (some ⟨g, 0, none⟩) ps.length c) (ps.set i (ps[i].1, b)) := by
 have h3 := ((h.stored (i * 4 + 1) (.int .i64 b.1)).1.stored (i * 4 + 2) (.int .i64 b.2.1)).1.stored (i * 4 + 3) (.string b.2.2)
 have h4 := h3.1
 rw [pars_put ps i hi b] at h4
 unfold Pars
 rw [List.length_set]
 exact h4
end Go.Proofs.YtclkclcacnpmbaaDoorW.PrintWords
