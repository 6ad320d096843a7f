/- Layer 17's table of the flags' names, as a value: loaded whole, indexed. -/
import Derived.Test.YtlaiggkgflbjhaaDoorXW
import Derived.Test.YtlaiggkgflbjhaaDoorShelf
namespace Go.Proofs.YtlaiggkgflbjhaaDoorW.PrintWords
open Go.RowKit Go.Lib Go.Sort

def flgTab : List ByteArray := [⟨#[102, 111, 114, 109, 115]⟩, ⟨#[109, 111, 100, 97, 108, 115]⟩, ⟨#[111, 114, 105, 101, 110, 116, 97, 116, 105, 111, 110]⟩, ⟨#[112, 111, 105, 110, 116, 101, 114]⟩, ⟨#[112, 111, 112, 117, 112, 115]⟩, ⟨#[112, 114, 111, 112, 97, 103, 97, 116, 101, 115]⟩, ⟨#[112, 114, 101, 115, 101, 110, 116, 97, 116, 105, 111, 110]⟩, ⟨#[111, 114, 105, 103, 105, 110]⟩, ⟨#[115, 99, 114, 105, 112, 116, 115]⟩, ⟨#[102, 101, 97, 116, 117, 114, 101, 115]⟩, ⟨#[115, 116, 111, 114, 97, 103, 101]⟩, ⟨#[116, 111, 112]⟩, ⟨#[116, 111, 112, 45, 117, 115, 101, 114]⟩, ⟨#[112, 114, 111, 116, 111, 99, 111, 108, 115]⟩, ⟨#[100, 111, 119, 110, 108, 111, 97, 100, 115]⟩, ⟨#[110, 97, 118, 105, 103, 97, 116, 105, 111, 110]⟩]
def flgName (i : Nat) : ByteArray := flgTab.getD i ByteArray.empty
/-- The table's cells, as its initialiser lays them. -/
def FlgIs (w : World) : Prop := ∀ i, i < 16 → w.cell? ⟨1, i, none⟩ = some (.string (flgName i))
theorem FlgIs.below {w w1 : World} (h : FlgIs w) (hb : Below w.heap.size w w1) : FlgIs w1 := fun i hi => pw_cell_below hb (h i hi)
def flgCells : List Value := flgTab.map Value.string
theorem flg_cell {W : World} (hT : FlgIs W) (j : Nat) (v : Value) (hj : flgCells[j]? = some v) : W.cell? ((⟨1, 0, none⟩ : Addr).add j) = some v := by
  have hlt : j < 16 := (List.getElem?_eq_some_iff.1 hj).1
  rw [add_plain]
  have h := hT j hlt
  have h3 : flgCells[j]? = some (Value.string (flgName j)) := by
    have hj : j = 0 ∨ j = 1 ∨ j = 2 ∨ j = 3 ∨ j = 4 ∨ j = 5 ∨ j = 6 ∨ j = 7 ∨ j = 8 ∨ j = 9 ∨ j = 10 ∨ j = 11 ∨ j = 12 ∨ j = 13 ∨ j = 14 ∨ j = 15 := by omega
    rcases hj with rfl | rfl | rfl | rfl | rfl | rfl | rfl | rfl | rfl | rfl | rfl | rfl | rfl | rfl | rfl | rfl <;> rfl
  rw [hj] at h3
  simp only [Option.some.injEq] at h3
  rw [h3, ← h]
theorem flg_load {W : World} (hT : FlgIs W) : (Instr.loadAt 98 (.pointer (some ⟨1, 0, none⟩))).run Tryd.prog W = .ok (.agg flgCells.toArray) W := by
  have h := run_loadCells_list (P := Tryd.prog) W ⟨1, 0, none⟩ flgCells (flg_cell hT)
  rw [show flgCells.length = 16 by decide +kernel] at h
  generalize flgCells.toArray = cs at h ⊢
  have h1 := Tryd.isAgg98 W
  simp [Instr.loadAt, loadVar, Instr.sureAddr, h, h1]
theorem flg_at (i : Nat) (hi : i < 16) : flgCells.toArray[i]? = some (.string (flgName i)) := by
  have hi2 : i = 0 ∨ i = 1 ∨ i = 2 ∨ i = 3 ∨ i = 4 ∨ i = 5 ∨ i = 6 ∨ i = 7 ∨ i = 8 ∨ i = 9 ∨ i = 10 ∨ i = 11 ∨ i = 12 ∨ i = 13 ∨ i = 14 ∨ i = 15 := by omega
  rcases hi2 with rfl | rfl | rfl | rfl | rfl | rfl | rfl | rfl | rfl | rfl | rfl | rfl | rfl | rfl | rfl | rfl <;> rfl
theorem flg_index (W : World) (i : Int) (h0 : 0 ≤ i) (h1 : i < 16) : (Instr.index 98 (.agg flgCells.toArray) (.int .i64 i)).run Tryd.prog W = .ok (.string (flgName i.toNat)) W := by
  have hg := flg_at i.toNat (by omega)
  generalize flgCells.toArray = cs at hg ⊢
  have a2 := Tryd.sizeOf9 W
  simp [Instr.index, asIntOf, part, a2, h0, h1, hg]
theorem flg_load_event {ops : Array Oper} {o : Oper} {a : Act} {Q : Exit → Act → World → Prop} {rest : List Oper} {W : World} (hgd : o.guard = none) (x : Operand) (ho : o.op = .load 98 x) (hx : a.eval x = .pointer (some ⟨1, 0, none⟩)) (hT : FlgIs W)
    (h : wpList Tryd.prog ops Q rest (a.put o.dst (.agg flgCells.toArray)) W) : wpList Tryd.prog ops Q (o :: rest) a W :=
  Kd.event_run hgd (by simp [execOp, ho, hx, flg_load hT]) h
theorem flg_idx_event {ops : Array Oper} {o : Oper} {a : Act} {Q : Exit → Act → World → Prop} {rest : List Oper} {W : World} (hgd : o.guard = none) (x ix : Operand) (ho : o.op = .index 98 x ix) (hx : a.eval x = .agg flgCells.toArray) (i : Int) (hi : a.eval ix = .int .i64 i) (h0 : 0 ≤ i) (h1 : i < 16)
    (h : wpList Tryd.prog ops Q rest (a.put o.dst (.string (rdOf ByteArray.empty flgTab i))) W) : wpList Tryd.prog ops Q (o :: rest) a W :=
  Kd.event_run hgd (by simp [execOp, ho, hx, hi, flg_index W i h0 h1]; rfl) h
end Go.Proofs.YtlaiggkgflbjhaaDoorW.PrintWords
