/- Words of this session's own, beside the printed ones: a make with a capacity of its own. -/
import Derived.Lib.SlBytesConst
import Derived.Lib.AppendStr
import Derived.Laws.CopyOwn
import Derived.Laws.BitsAllLaws
import Derived.Lib.OthersKept
import Derived.Laws.Cover4
import Derived.Lib.SlTrimSet
import Derived.Deep.WholeRow
import Derived.Lib.AsciiSet
import Derived.Lib.IndexBytes
import Derived.Test.YtkbmbancfbfddaaGreatDoorWMore
import Derived.Test.YtkbmbancfbfddaaGreatDoorWWords
import Derived.Test.YtkbmbancfbfddaaGreatDoorWLast
namespace Go.Proofs.YtkbmbancfbfddaaGreatDoorW.PrintWords
open Go.RowKit
namespace Kd
section
variable {P : Program} {ops : Array Oper} {rest : List Oper} {o : Oper} {a : Act} {Q : Exit → Act → World → Prop}
variable {α : Type}
/-- make([]T, 0, n): an empty row of one's own, with room. -/
theorem R_make0 (d : Kd α) {w0 W : World} (base e : Nat) (hgd : o.guard = none) {N : Tmp} (_hd : o.dst = some N) (t : TypeId) (x y : Operand) (ho : o.op = .makeSlice t x y) (n : Int) (hx : a.eval x = .int .i64 0) (hy : a.eval y = .int .i64 n)
    (ht : P.underlying t = some (.slice e)) (z : Value) (bytes : Nat) (hinfo : (P.info? e).map (fun i => (i.zero, i.size, i.bytes)) = some (some z, d.sz, bytes)) (_hz : z.cells.size = d.sz) (_hs0 : 0 < d.sz) (hb0 : 0 < bytes)
    (z0 : α) {ok okp : Nat → Prop} (_hzero : d.M W base okp z0 z.cells.toList) (_hok : ∀ k, okp k → ok k) (hfresh : ok W.heap.size) (h0 : 0 ≤ n) (hl : n.toNat * bytes ≤ 281474976710656) (HB : Below base w0 W) (hbase : base ≤ W.heap.size)
    (h : ∀ v1 w1, d.R e w1 base ok v1 [] → Below base w0 w1 → W.grownBy w1 none → (∃ b, v1.ownBlock = some b ∧ W.heap.size ≤ b) → wpList P ops Q rest (a.put o.dst v1) w1) : wpList P ops Q (o :: rest) a W := by
  obtain ⟨m, rfl⟩ := Int.eq_ofNat_of_zero_le h0
  simp only [Int.toNat_natCast] at hl
  obtain ⟨i0, hi, hzz⟩ := Option.map_eq_some_iff.1 hinfo
  simp only [Prod.mk.injEq] at hzz
  obtain ⟨hz0, hz1, hz2⟩ := hzz
  have hm : m ≤ 281474976710656 := Nat.le_trans (Nat.le_mul_of_pos_right _ hb0) hl
  have hr := run_make (P := P) W t e i0 z ht hi hz0 .i64 .i64 0 (m : Int) (by omega) (by omega)
    (by
      have h3 : ((i0.bytes * m : Nat) : Int) ≤ 281474976710656 := by rw [hz2, Nat.mul_comm]; omega
      rwa [Int.natCast_mul] at h3) (by omega)
  simp only [Int.toNat_natCast, Int.toNat_zero] at hr
  rw [hz1] at hr
  refine event_run hgd (v := .slice (some ⟨W.heap.size, 0, none⟩) 0 m) (w1 := W.alloc (.cells (madeCells z.cells (m * d.sz)) e)) (by simp [execOp, ho, hx, hy, hr]) (h _ _ ⟨fun k hk => ?_, [], ?_, Reps.none _ _⟩ (HB.alloc hbase _) (World.grownBy_alloc W _ none) ⟨W.heap.size, by simp [Value.ownBlock], Nat.le_refl _⟩)
  · have : W.heap.size = k := by simpa [Value.ownBlock] using hk
    subst this
    exact hfresh
  · simpa using World.ownsRow_made (base := base) (e := e) (size := d.sz) W (madeCells z.cells (m * d.sz)) m hbase (by simp only [maxLen]; omega) (size_madeCells _ _)
end
end Kd
end Go.Proofs.YtkbmbancfbfddaaGreatDoorW.PrintWords

/-! []byte(s), of a text and of a constant: a row that is only read (its block bears a conversion's mark) -/
namespace Go.Proofs.YtkbmbancfbfddaaGreatDoorW.PrintWords
open Go.RowKit
namespace Kd
section
variable {P : Program} {ops : Array Oper} {rest : List Oper} {o : Oper} {a : Act} {Q : Exit → Act → World → Prop}
theorem F_block {w1 : World} {xs : List Int} {g : Nat} {ok : Nat → Prop} (hok : ok g) (hg : g < w1.heap.size) (hm : xs.length ≤ 9223372036854775807) (hc : ∀ j, j < xs.length → w1.cell? ⟨g, j, none⟩ = some (.int .u8 (xs.getD j 0))) :
    F (Kd.int .u8) w1 ok (some ⟨g, 0, none⟩) xs.length xs := by
  intro W' hW
  refine C_of_reads (enc := Value.int .u8) (d := (0 : Int)) ⟨rfl, hm, fun _ => ⟨_, rfl, fun j hj => ?_⟩⟩
  rw [add_plain, ← hc j hj]
  exact World.cell?_of_block (hW g hok hg)
/-- []byte(s) of a text. -/
theorem V_bytes {w0 W : World} (base e : Nat) (hgd : o.guard = none) {N : Tmp} (_hd : o.dst = some N) (src dst : TypeId) (x : Operand) (ho : o.op = .convert src dst x) (s : ByteArray) (hx : a.eval x = .string s)
    {u : TypeDesc} (hs : P.underlying src = some u) (hdst : P.underlying dst = some (.slice e)) (he : P.underlying e = some (.int .u8)) {ok : Nat → Prop} (hfresh : ok W.heap.size) (hm : s.size ≤ 9223372036854775807) (HB : Below base w0 W) (hbase : base ≤ W.heap.size)
    (h : ∀ v1 w1, V (Kd.int .u8) e w1 base ok v1 (bytesOf s) → Below base w0 w1 → W.grownBy w1 none → (∃ b, v1.ownBlock = some b ∧ W.heap.size ≤ b) → wpList P ops Q rest (a.put o.dst v1) w1) : wpList P ops Q (o :: rest) a W := by
  have hr := print_bytes (P := P) src dst e hs hdst he s W
  have hcap : s.size ≤ grownCap W s.size 0 e := by
    unfold grownCap Question.cut
    dsimp only
    omega
  refine event_run hgd (v := .slice (some ⟨W.heap.size, 0, none⟩) s.size (grownCap W s.size 0 e)) (w1 := Lib.bytesWorld W e s) (by simp [execOp, ho, hx, hr]) (h _ _ ?_ (bytes_below HB hbase e s) ?_ ⟨W.heap.size, by simp [Value.ownBlock], Nat.le_refl _⟩)
  · have hl := bytesOf_length s
    rw [← hl]
    rw [← hl] at hcap
    refine V_mk hcap (F_block hfresh (by rw [Lib.bytesWorld_size]; omega) (by rw [hl]; exact hm) fun j hj => ?_)
    rw [hl] at hj
    rw [Lib.bytesWorld_cell W e s j hj]
    have h' : j < s.data.toList.length := by rw [data_length]; exact hj
    simp [bytesOf, List.getD_eq_getElem?_getD, List.getElem?_eq_getElem h']
  · exact ⟨rfl, rfl, rfl, by rw [Lib.bytesWorld_size]; omega, fun i hi _ => Lib.bytesWorld_at_old W e s i hi⟩
/-- []byte("constant"): the literal's row, marked. -/
theorem V_const {w0 W : World} (base e : Nat) (hgd : o.guard = none) {N : Tmp} (_hd : o.dst = some N) (t : TypeId) (x : Operand) (ho : o.op = .convert t t x) (xs : List Int) (n c : Nat) (hx : a.eval x = .slice (some ⟨W.heap.size, 0, none⟩) n c)
    (hn : n = xs.length) (hcn : n ≤ c) (ht : P.underlying t = some (.slice e)) (he : P.underlying e = some (.int .u8)) {ok : Nat → Prop} (hfresh : ok W.heap.size) (hm : xs.length ≤ 9223372036854775807) (HB : Below base w0 W) (hbase : base ≤ W.heap.size)
    (h : ∀ v1 w1, V (Kd.int .u8) e w1 base ok v1 xs → Below base w0 w1 → W.grownBy w1 none → (∃ b, v1.ownBlock = some b ∧ W.heap.size ≤ b) → wpList P ops Q rest (a.put o.dst v1) w1) : wpList P ops Q (o :: rest) a (W.alloc (.cells (nums .u8 xs).toArray e)) := by
  subst hn
  have hr := Lib.run_convert_bytes_const (P := P) W t e (nums .u8 xs).toArray xs.length c ht he
  refine event_run hgd (v := .slice (some ⟨W.heap.size, 0, none⟩) xs.length c) (w1 := W.alloc (.cells (nums .u8 xs).toArray e ((nums .u8 xs).toArray.size, (nums .u8 xs).toArray.size + 1))) (by simp [execOp, ho, hx, hr]) (h _ _ ?_ (HB.alloc hbase _) (World.grownBy_alloc W _ none) ⟨W.heap.size, by simp [Value.ownBlock], Nat.le_refl _⟩)
  refine V_mk hcn (F_block hfresh (by simp) hm fun j hj => ?_)
  have h1 : (W.alloc (.cells (nums .u8 xs).toArray e ((nums .u8 xs).toArray.size, (nums .u8 xs).toArray.size + 1))).heap[W.heap.size]? = some (.cells (nums .u8 xs).toArray e ((nums .u8 xs).toArray.size, (nums .u8 xs).toArray.size + 1)) := heap_alloc_new W _
  rw [cell_of_row _ _ _ _ _ _ h1]
  simp [nums, List.getD_eq_getElem?_getD, List.getElem?_eq_getElem hj]
end
end Kd
end Go.Proofs.YtkbmbancfbfddaaGreatDoorW.PrintWords

/-! []byte(s), written into: the row with its mark -/
namespace Go.Proofs.YtkbmbancfbfddaaGreatDoorW.PrintWords
open Go.RowKit
def Marked (W : World) (e g : Nat) (xs : List Int) : Prop := ∃ (cur : Array Value) (m : Nat), W.heap[g]? = some (.cells cur e (m, m + 1)) ∧ xs.length ≤ m ∧ cur.size = m ∧ cur.toList.take xs.length = nums .u8 xs
namespace Marked
variable {W : World} {e g : Nat} {xs : List Int}
theorem new (W : World) (e : Nat) (s : ByteArray) : Marked (Lib.bytesWorld W e s) e W.heap.size (bytesOf s) := by
  refine ⟨_, _, Lib.bytesWorld_at_new W e s, ?_, rfl, ?_⟩
  · rw [bytesOf_length]
    simp [Lib.bytesCells]
  · rw [bytesOf_length]
    apply List.ext_getElem
    · simp [Lib.bytesCells, nums, bytesOf]
    · intro i h1 h2
      simp [Lib.bytesCells, nums, bytesOf]
theorem get (h : Marked W e g xs) (i : Nat) (hi : i < xs.length) : W.cell? ⟨g, i, none⟩ = some (.int .u8 (xs.getD i 0)) ∧ W.frozen? ⟨g, i, none⟩ = false := by
  obtain ⟨cur, m, hh, hm, hc, ht⟩ := h
  constructor
  · rw [cell_of_row W g i cur e (m, m + 1) hh]
    have h1 := congrArg (fun l => l[i]?) ht
    simp only [List.getElem?_take, hi, if_true] at h1
    rw [Array.getElem?_toList] at h1
    rw [h1]
    simp [nums, List.getElem?_eq_getElem hi, List.getD_eq_getElem?_getD]
  · simp [World.frozen?, hh]
    omega
theorem set (h : Marked W e g xs) (i : Nat) (v : Int) : Marked (W.setCell ⟨g, i, none⟩ (.int .u8 v)) e g (xs.set i v) := by
  obtain ⟨cur, m, hh, hm, hc, ht⟩ := h
  have hlt := blk_lt hh
  refine ⟨cur.setIfInBounds i (.int .u8 v), m, ?_, by rw [List.length_set]; exact hm, by rw [Array.size_setIfInBounds]; exact hc, ?_⟩
  · have h2 := (Array.getElem?_eq_some_iff.1 hh).2
    simp only [World.setCell, Array.getElem?_modify, if_true, hh, Option.map_some]
    rfl
  · rw [List.length_set, Array.toList_setIfInBounds, List.take_set, ht]
    simp [nums, List.map_set]
theorem move {W1 : World} (h : Marked W e g xs) (hm : W1.heap[g]? = W.heap[g]?) : Marked W1 e g xs := by
  obtain ⟨cur, m, hh, r⟩ := h
  exact ⟨cur, m, hm.trans hh, r⟩
theorem string {P : Program} {src dst : TypeId} (h : Marked W e g xs) (hs : P.underlying src = some (.slice e)) (he : P.underlying e = some (.int .u8)) (hd : P.underlying dst = some .string) (n cap : Nat) (hn : xs.length = n) :
    (convert src dst (.slice (some ⟨g, 0, none⟩) n cap)).run P W = .ok (.string (strOfNums xs)) W := by
  refine run_convert_bytes_arg W src e hs he g 0 n cap xs hn (fun i hi => ?_) dst hd
  rw [Nat.zero_add]
  exact (h.get i (by omega)).1
theorem write {w : World} (hb : Below w.heap.size w W) (hg : w.heap.size ≤ g) (i : Nat) (v : Value) : Below w.heap.size w (W.setCell ⟨g, i, none⟩ v) := hb.setCell hg v
end Marked
end Go.Proofs.YtkbmbancfbfddaaGreatDoorW.PrintWords

/-! string(runes) of a row of one's own -/
namespace Go.Proofs.YtkbmbancfbfddaaGreatDoorW.PrintWords
open Go.RowKit
theorem own_runes {P : Program} {w : World} {base n : Nat} {e' src dst e : TypeId} {v : Value} {xs : List Int} (hs : P.underlying src = some (.slice e)) (he : P.underlying e = some (.int .i32)) (hd : P.underlying dst = some .string)
    (h : w.ownsRow base e' 1 v n (nums .i32 xs)) : (convert src dst v).run P w = .ok (.string (runesBytes xs)) w := by
  have hl : xs.length = n := by have := h.1; simp [nums] at this; exact this
  rcases h.2 with ⟨rfl, rfl⟩ | ⟨g, cap, cur, rfl, _⟩
  · obtain rfl : xs = [] := List.eq_nil_of_length_eq_zero hl
    exact run_convert_runes_nil w src dst e 0 0 hs he hd
  · have := run_convert_runes (P := P) w src dst e ⟨g, 0, none⟩ n cap xs (by omega) hs he hd (fun i hi => h.cells (g := g) rfl i (.int .i32 (xs.getD i 0)) (by simp [nums, List.getElem?_eq_getElem hi, List.getD_eq_getElem?_getD]))
    rwa [List.take_of_length_le (by omega)] at this
end Go.Proofs.YtkbmbancfbfddaaGreatDoorW.PrintWords

/-! pergolaplain.Given (one pair of []byte lists; the other lists nil): what was handed in, and what it was -/
namespace Go.Proofs.YtkbmbancfbfddaaGreatDoorW.PrintWords
open Go.RowKit
def rdLL (xs : List (List Int)) (i : Int) : List Int := xs.getD i.toNat []
theorem at_LL {e : Nat} {k : IntKind} {w : World} {A : Option Addr} {n : Nat} {xs : List (List Int)} (h : Kd.C (Kd.slice e (Kd.int k)) w A n xs) (i : Int) (h0 : 0 ≤ i) (h1 : i < n) :
    ∃ ad A0 c0, A = some ad ∧ w.cell? (ad.add i.toNat) = some (.slice A0 (rdLL xs i).length c0) ∧ (rdLL xs i).length ≤ c0 ∧ (Kd.int k).C w A0 (rdLL xs i).length (rdLL xs i) := by
  obtain ⟨ad, c, e, _, hK, hc0⟩ := Kd.C_get h ([] : List Int) i h0 h1
  have hc : ∀ j u, c[j]? = some u → w.cell? (ad.add (i.toNat * 1 + j)) = some u := hc0
  obtain ⟨A0, c0, rfl, l0, g0⟩ := hK
  exact ⟨ad, A0, c0, e, by have hq := hc 0 _ rfl; rwa [Nat.mul_one, Nat.add_zero] at hq, l0, g0⟩
def GivIs (w : World) (g : Nat) : Prop :=
  ∃ (A1 A2 : Option Addr) (c1 c2 : Nat) (xss : List (List Int)), w.cell? ⟨g, 0, none⟩ = some (.slice A1 xss.length c1) ∧ w.cell? ⟨g, 1, none⟩ = some (.slice A2 xss.length c2) ∧
    Kd.C (Kd.slice 5 (Kd.int .u8)) w A1 xss.length xss ∧ Kd.C (Kd.slice 5 (Kd.int .u8)) w A2 xss.length xss ∧
    (∀ xs ∈ xss, xs.length ≤ 140737488355328) ∧ xss.length ≤ 140737488355328 ∧ ∀ j, 2 ≤ j → j < 32 → w.cell? ⟨g, j, none⟩ = some (.slice none 0 0)
theorem GivIs.below {w w1 : World} {g : Nat} (h : GivIs w g) (hb : Below w.heap.size w w1) : GivIs w1 g := by
  obtain ⟨A1, A2, c1, c2, xss, h1, h2, h3, h4, h5, h6, h7⟩ := h
  exact ⟨A1, A2, c1, c2, xss, pw_cell_below hb h1, pw_cell_below hb h2, Kd.C_below h3 hb, Kd.C_below h4 hb, h5, h6, fun j hj hk => pw_cell_below hb (h7 j hj hk)⟩
theorem GivIs.alloc {w : World} {g : Nat} (h : GivIs w g) (o : Obj) : GivIs (w.alloc o) g := h.below (below_alloc (Below.refl _ _) _)
theorem GivIs.drewN {w : World} {g : Nat} (h : GivIs w g) (n : Nat) : GivIs (w.drewN n) g := h.below (pw_below_drewN (Below.refl _ _) _)
theorem GivIs.drew {w : World} {g : Nat} (h : GivIs w g) : GivIs w.drew g := h.below (below_drew1 (Below.refl _ _))
section
open Go.RowKit Go.Lib
/-- print_append_str as one step of a region that draws. -/
theorem print_append_str_step {P : Program} {ops : Array Oper} {o : Oper} {a : Act} {Q : Exit → Act → World → Prop} {Kc : Act → World → Prop} {w0 W : World} (base : Nat) (hw : Region.wanted o (yielded ops a.tmps) = true) (s x : Operand) (t u e : TypeId)
    (ho : o.op = .call { callee := .builtin .append, args := #[s, x], argTypes := #[t, u] })
    (ht : P.underlying t = some (.slice e)) (hu : P.underlying u = some .string) (hinfo : (P.info? e).map (fun i => (i.zero, i.size, i.bytes)) = some (some (.int .u8 0), 1, 1))
    (v : Value) (xs : List Int) (y : ByteArray) (hs : a.eval s = v) (hx : a.eval x = .string y)
    (HO : W.ownsRow base e 1 v xs.length (nums .u8 xs)) (HB : Below base w0 W) (hbase : base ≤ W.heap.size) (hl : xs.length + y.size ≤ 140737488355328)
    (h : ∀ v1 w1, w1.ownsRow base e 1 v1 (xs ++ bytesOf y).length (nums .u8 (xs ++ bytesOf y)) → Below base w0 w1 → W.grownBy w1 v.ownBlock → Kc (a.put o.dst v1) w1) :
    if Region.wanted o (yielded ops a.tmps) = true then Oper.wp P o a W Kc Q else Kc (a.put o.dst undef) W := by
  rw [if_pos hw]
  obtain ⟨i0, hi, hzz⟩ := Option.map_eq_some_iff.1 hinfo
  simp only [Prod.mk.injEq] at hzz
  obtain ⟨hz0, hz1, hz2⟩ := hzz
  obtain ⟨v1, w1, hr, hown, hg, _⟩ := Lib.run_append_own_string (P := P) W base t u o.type e i0 ht hu hi hz0 hz1 hz2 v xs.length (nums .u8 xs) HO y (by simp only [maxLen]; omega) hl hbase
  have hl2 : (xs ++ bytesOf y).length = xs.length + y.size := by rw [List.length_append, bytesOf_length]
  have hc : nums .u8 (xs ++ bytesOf y) = nums .u8 xs ++ Lib.strCells y := by
    rw [nums_append]
    congr 1
    simp [nums, bytesOf, Lib.strCells]
  unfold Oper.wp execOp
  simp only [ho, resolve, invoke, builtin, Sem.run_bind, Sem.run_pure, Result.andThen_ok, List.map_toArray, List.map_cons, List.map_nil, hs, hx, hr]
  exact h v1 w1 (by rw [hl2, hc]; exact hown) (HB.grown hg hbase (own_base HO)) hg
end
end Go.Proofs.YtkbmbancfbfddaaGreatDoorW.PrintWords
