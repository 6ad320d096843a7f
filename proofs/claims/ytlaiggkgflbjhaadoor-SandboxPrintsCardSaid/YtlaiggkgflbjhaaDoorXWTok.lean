/- Layer 17's table of tokens, and the place of a word in it (slices.IndexFunc with sandbox.Parse's closure). -/
import Derived.Test.YtlaiggkgflbjhaaDoorXW
import Derived.Test.YtlaiggkgflbjhaaDoorShelf
import Derived.Sort.OwnSorted
namespace Go.Proofs.YtlaiggkgflbjhaaDoorW.PrintWords
open Go.RowKit Go.Lib Go.Sort

def tokTab : List (ByteArray × Int) := [(⟨#[97, 108, 108, 111, 119, 45, 102, 111, 114, 109, 115]⟩, 1), (⟨#[97, 108, 108, 111, 119, 45, 109, 111, 100, 97, 108, 115]⟩, 2), (⟨#[97, 108, 108, 111, 119, 45, 111, 114, 105, 101, 110, 116, 97, 116, 105, 111, 110, 45, 108, 111, 99, 107]⟩, 4), (⟨#[97, 108, 108, 111, 119, 45, 112, 111, 105, 110, 116, 101, 114, 45, 108, 111, 99, 107]⟩, 8), (⟨#[97, 108, 108, 111, 119, 45, 112, 111, 112, 117, 112, 115]⟩, 8208), (⟨#[97, 108, 108, 111, 119, 45, 112, 111, 112, 117, 112, 115, 45, 116, 111, 45, 101, 115, 99, 97, 112, 101, 45, 115, 97, 110, 100, 98, 111, 120]⟩, 32), (⟨#[97, 108, 108, 111, 119, 45, 112, 114, 101, 115, 101, 110, 116, 97, 116, 105, 111, 110]⟩, 64), (⟨#[97, 108, 108, 111, 119, 45, 115, 97, 109, 101, 45, 111, 114, 105, 103, 105, 110]⟩, 128), (⟨#[97, 108, 108, 111, 119, 45, 115, 99, 114, 105, 112, 116, 115]⟩, 768), (⟨#[97, 108, 108, 111, 119, 45, 115, 116, 111, 114, 97, 103, 101, 45, 97, 99, 99, 101, 115, 115, 45, 98, 121, 45, 117, 115, 101, 114, 45, 97, 99, 116, 105, 118, 97, 116, 105, 111, 110]⟩, 1024), (⟨#[97, 108, 108, 111, 119, 45, 116, 111, 112, 45, 110, 97, 118, 105, 103, 97, 116, 105, 111, 110]⟩, 14336), (⟨#[97, 108, 108, 111, 119, 45, 116, 111, 112, 45, 110, 97, 118, 105, 103, 97, 116, 105, 111, 110, 45, 98, 121, 45, 117, 115, 101, 114, 45, 97, 99, 116, 105, 118, 97, 116, 105, 111, 110]⟩, 4096), (⟨#[97, 108, 108, 111, 119, 45, 116, 111, 112, 45, 110, 97, 118, 105, 103, 97, 116, 105, 111, 110, 45, 116, 111, 45, 99, 117, 115, 116, 111, 109, 45, 112, 114, 111, 116, 111, 99, 111, 108, 115]⟩, 8192), (⟨#[97, 108, 108, 111, 119, 45, 100, 111, 119, 110, 108, 111, 97, 100, 115]⟩, 16384)]
def tokName (i : Nat) : ByteArray := (tokTab.getD i (ByteArray.empty, 0)).1
def tokOff (i : Nat) : Int := (tokTab.getD i (ByteArray.empty, 0)).2
/-- The table's cells, as the program's start lays them. -/
def TokIs (w : World) : Prop := ∀ i, i < 14 → w.cell? ⟨0, i * 2, none⟩ = some (.string (tokName i)) ∧ w.cell? ⟨0, i * 2 + 1, none⟩ = some (.int .u32 (tokOff i))
theorem TokIs.below {w w1 : World} (h : TokIs w) (hb : Below w.heap.size w w1) : TokIs w1 := fun i hi => ⟨pw_cell_below hb (h i hi).1, pw_cell_below hb (h i hi).2⟩
theorem tok_data (s : ByteArray) : s.toList = s.data.toList := by
  have h : ∀ (d i : Nat) (r : List UInt8), i + d = s.size → ByteArray.toList.loop s i r = r.reverse ++ s.data.toList.drop i := by
    intro d
    induction d with
    | zero =>
      intro i r hi
      unfold ByteArray.toList.loop
      rw [if_neg (by omega), List.drop_of_length_le (by rw [Array.length_toList]; show s.size ≤ i; omega)]
      simp
    | succ d ih =>
      intro i r hi
      unfold ByteArray.toList.loop
      rw [if_pos (by omega), ih (i + 1) _ (by omega)]
      have hl : i < s.data.toList.length := by rw [Array.length_toList]; show i < s.size; omega
      rw [List.drop_eq_getElem_cons hl]
      have hg : s.get! i = s.data.toList[i] := by
        have hi2 : i < s.data.size := by show i < s.size; omega
        show s.data[i]! = _
        rw [getElem!_pos s.data i hi2]
        simp
      rw [hg]
      simp
  have := h s.size 0 [] (by omega)
  unfold ByteArray.toList
  simpa using this
theorem tok_inj {s t : ByteArray} : s.toList = t.toList ↔ s = t := by
  rw [tok_data, tok_data]
  exact ⟨fun h => ByteArray.ext (Array.ext' h), fun h => by rw [h]⟩
/-- The place of a word in the table; -1: it is none. -/
def tokFrom (s : ByteArray) : Nat → Nat → Int
  | 0, _ => -1
  | n + 1, i => if tokName i = s then (i : Int) else tokFrom s n (i + 1)
def tokIdx (s : ByteArray) : Int := tokFrom s 14 0
set_option maxHeartbeats 4000000 in
set_option maxRecDepth 100000 in
theorem find_token (W : World) (p : Addr) (s : ByteArray) (hT : TokIs W) (hp : W.cell? p = some (.string s)) (cl : Value) (hcl : cl = .func (.func 34) #[] #[.pointer (some p)]) :
    Calls Tryd.prog 33 #[.slice (some ⟨0, 0, none⟩) 14 14, cl] W fun e W' => e = .returned (.int .i64 (tokIdx s)) ∧ Below W.heap.size W W' := by
  subst hcl
  have HT := Aside0.mk hT
  clear hT
  go_enter Tryd.func33, Tryd.ntmps33
  go_wp2
  go_loopw [8] (fun v8 wr => ∃ i : Int, v8 = .int .i64 i ∧ 0 ≤ i ∧ i ≤ 14 ∧ Aside0 (tokIdx s = tokFrom s (14 - i.toNat) i.toNat) ∧ Aside0 (Below W.heap.size W wr)) (fun v8 _ => 14 - (intOf v8).toNat)
  case atStart => exact ⟨0, rfl, Int.le_refl _, by omega, ⟨rfl⟩, ⟨Below.refl _ _⟩⟩
  case round =>
    obtain ⟨i, rfl, hi0, hi, HI, HB⟩ := hrel
    by_cases hlt : i < 14
    · have hT := TokIs.below HT.out HB.out i.toNat (by omega)
      have hx0 : wr.cell? (⟨0, i.toNat * 2, none⟩) = some (.string (tokName i.toNat)) := hT.1
      have hx1 : wr.cell? (⟨0, i.toNat * 2 + 1, none⟩) = some (.int .u32 (tokOff i.toNat)) := hT.2
      clear hT
      have hpw : wr.cell? p = some (.string s) := pw_cell_below HB.out hp
      have hst : tokFrom s (14 - i.toNat) i.toNat = if tokName i.toNat = s then (i.toNat : Int) else tokFrom s (14 - (i.toNat + 1)) (i.toNat + 1) := by
        rw [show 14 - i.toNat = (14 - (i.toNat + 1)) + 1 by omega]
        rfl
      have HS := Aside0.mk hst
      clear hst
      have hlt2 := eq_true hlt
      have hi02 := eq_true hi0
      have hpa : ∀ o, (wr.alloc o).cell? p = some (.string s) := fun o => pw_cell_below (below_alloc (Below.refl _ _) o) hpw
      by_cases hs : tokName i.toNat = s
      · have hb0 : ((tokName i.toNat).toList == s.toList) = true := by rw [hs]; exact beq_self_eq_true _
        go_wp2_with (first | go_in)
        go_ret
        have e : tokIdx s = i := by rw [HI.out, HS.out, if_pos hs]; omega
        exact ⟨by rw [e]; first | rfl | (simp; done), below_alloc HB.out _⟩
      · have hb0 : ((tokName i.toNat).toList == s.toList) = false := beq_eq_false_iff_ne.2 (fun e => hs (tok_inj.1 e))
        go_wp2_with (first | go_in)
        exact ⟨⟨i + 1, by first | rfl | (simp; done) | (simp [*]; done), by omega, by omega, ⟨by rw [HI.out, HS.out, if_neg hs, show (i + 1).toNat = i.toNat + 1 by omega]⟩, ⟨below_alloc HB.out _⟩⟩, by simp only [intOf]; omega⟩
    · have hlt2 := eq_false hlt
      go_wp2
      go_ret
      have e : tokIdx s = -1 := by rw [HI.out, show 14 - i.toNat = 0 by omega]; rfl
      exact ⟨by rw [e]; first | rfl | (simp; done), HB.out⟩
theorem tokFrom_lt (s : ByteArray) : ∀ n i, i + n = 14 → tokFrom s n i < 14 := by
  intro n
  induction n with
  | zero => intro i _; show (-1 : Int) < 14; decide
  | succ n ih =>
    intro i hi
    unfold tokFrom
    split
    · omega
    · exact ih (i + 1) (by omega)
theorem tokIdx_lt (s : ByteArray) : tokIdx s < 14 := tokFrom_lt s 14 0 rfl

/-! A row of texts of one's own, sorted, its doubles dropped -/
def strsL (xs : List ByteArray) : List (List UInt8) := xs.map fun x => x.data.toList
def strsB (l : List (List UInt8)) : List ByteArray := l.map fun x => ⟨x.toArray⟩
theorem strsB_strsL (xs : List ByteArray) : strsB (strsL xs) = xs := by
  unfold strsB strsL
  rw [List.map_map]
  conv => rhs; rw [← List.map_id xs]
  apply List.map_congr_left
  intro x _
  cases x
  simp
theorem strsL_strsB (l : List (List UInt8)) : strsL (strsB l) = l := by
  unfold strsB strsL
  rw [List.map_map]
  conv => rhs; rw [← List.map_id l]
  apply List.map_congr_left
  intro x _
  simp
theorem encs_strs (xs : List ByteArray) : encs Value.string xs = (strsL xs).map encStr := by
  conv => lhs; rw [← strsB_strsL xs]
  unfold encs strsB
  rw [List.map_map]
  rfl
def sortS (xs : List ByteArray) : List ByteArray := strsB ((strsL xs).mergeSort fun x y => decide (x ≤ y))
def compS (xs : List ByteArray) : List ByteArray := strsB (Lib.compact (strsL xs))
theorem sortS_length (xs : List ByteArray) : (sortS xs).length = xs.length := by simp [sortS, strsB, strsL]
theorem sort_own {w W : World} {base : Nat} {ok : Nat → Prop} {v : Value} {xs : List ByteArray} (hR : Kd.R Kd.string 9 W base ok v xs) (hB : Below w.heap.size w W) (hbase : w.heap.size ≤ base) (hn : xs.length < 4611686018427387904) :
    Calls Tryd.prog 35 #[v] W fun e W' => e = .returned (.tuple #[]) ∧ Kd.R Kd.string 9 W' base ok v (sortS xs) ∧ Below w.heap.size w W' := by
  have ho := Kd.own_of_R (enc := Value.string) (h1 := fun _ => rfl) hR
  rcases ho.2 with ⟨rfl, h0⟩ | ⟨g, cap, cur, rfl, hg, hb, h1, h2, h3, h4⟩
  · obtain rfl := List.eq_nil_of_length_eq_zero h0
    refine (Tryd.slices_Sort_string_none none 0 W).mono ?_
    rintro e W' ⟨rfl, rfl⟩
    exact ⟨rfl, by simpa [sortS, strsB, strsL] using hR, hB⟩
  · rw [encs_strs, Nat.mul_one] at h4
    have hl : (strsL xs).length = xs.length := List.length_map _
    have hH := holds_of_block (ss := strsL xs) hb (by rw [hl]; exact h4)
    have hc := Tryd.slices_Sort_string g 0 cap (strsL xs) W hH (Array.getElem?_eq_some_iff.1 hb).1 (by omega)
    rw [hl] at hc
    refine hc.mono ?_
    rintro e W' ⟨rfl, n, os, rfl⟩
    have hk : ∀ k, (Value.slice (some ⟨g, 0, none⟩) xs.length cap).ownBlock = some k → ok k := hR.1
    refine ⟨rfl, Kd.R_of_own (enc := Value.string) (h1 := fun _ => rfl) ?_ hk, hB.grown (grownBy_sorted _) hB.size (by simpa using Nat.le_trans hbase hg)⟩
    have := ownsRow_sorted (n := n) (os := os) (ss := strsL xs) (ts := (strsL xs).mergeSort fun x y => decide (x ≤ y)) (by simp) hg hb (by rw [hl]; exact h1) h2 h3
    rw [hl] at this
    rw [sortS_length, encs_strs, sortS, strsL_strsB]
    exact this
theorem compact_len (l : List (List UInt8)) : (Lib.compact l).length ≤ l.length := by
  unfold Lib.compact compactUpTo
  rw [List.length_map]
  exact Nat.le_trans (List.length_filter_le _ _) (by simp)
theorem compact_own {w W : World} {base : Nat} {ok : Nat → Prop} {v : Value} {xs : List ByteArray} (hR : Kd.R Kd.string 9 W base ok v xs) (hB : Below w.heap.size w W) (hbase : w.heap.size ≤ base) (hn : xs.length < 4611686018427387904) :
    Calls Tryd.prog 36 #[v] W fun e W' => ∃ v' : Value, e = .returned v' ∧ Kd.R Kd.string 9 W' base ok v' (compS xs) ∧ Below w.heap.size w W' := by
  have ho := Kd.own_of_R (enc := Value.string) (h1 := fun _ => rfl) hR
  rcases ho.2 with ⟨rfl, h0⟩ | ⟨g, cap, cur, rfl, hg, hb, h1, h2, h3, h4⟩
  · obtain rfl := List.eq_nil_of_length_eq_zero h0
    refine (Tryd.slices_Compact_string_empty none 0 W).mono ?_
    rintro e W' ⟨rfl, rfl⟩
    exact ⟨_, rfl, by rw [show compS [] = [] from rfl]; exact hR, hB⟩
  · rw [encs_strs, Nat.mul_one] at h4
    have hl : (strsL xs).length = xs.length := List.length_map _
    have hH := holds_of_block (ss := strsL xs) hb (by rw [hl]; exact h4)
    have hc := Tryd.slices_Compact_string g 0 cap (strsL xs) W hH (by omega) (by omega)
    rw [hl] at hc
    refine hc.mono ?_
    rintro e W' ⟨rfl, q, rfl⟩
    have hk : ∀ k, (Value.slice (some ⟨g, 0, none⟩) xs.length cap).ownBlock = some k → ok k := hR.1
    have hcl := compact_len (strsL xs)
    obtain ⟨ts, hts⟩ : ∃ ts, ts = Lib.compact (strsL xs) ++ List.replicate (xs.length - (Lib.compact (strsL xs)).length) [] := ⟨_, rfl⟩
    rw [← hts]
    have htl : ts.length = xs.length := by rw [hts, List.length_append, List.length_replicate]; omega
    have ho2 := ownsRow_sorted (n := q) (os := #[]) (ss := strsL xs) (ts := ts) (by rw [htl, hl]) hg hb (by rw [hl]; exact h1) h2 h3
    rw [hl, grow_empty] at ho2
    have hR2 : Kd.R Kd.string 9 (putRow encStr (Sort.ahead W q) g 0 ts.toArray) base ok (.slice (some ⟨g, 0, none⟩) xs.length cap) (strsB ts) := by
      refine Kd.R_of_own (enc := Value.string) (h1 := fun _ => rfl) ?_ hk
      rw [encs_strs, strsL_strsB]
      have : (strsB ts).length = xs.length := by rw [strsB, List.length_map, htl]
      rw [this]
      exact ho2
    have hlen : (compS xs).length = (Lib.compact (strsL xs)).length := by rw [compS, strsB, List.length_map]
    have hT := Kd.R_take (m := (Lib.compact (strsL xs)).length) hR2 (by rw [strsB, List.length_map, htl]; omega)
    have htk : (strsB ts).take (Lib.compact (strsL xs)).length = compS xs := by
      rw [strsB, ← List.map_take, hts, List.take_left]
      rfl
    rw [htk] at hT
    have hgr := grownBy_sorted (w := W) (g := g) (n := q) (os := #[]) ts.toArray
    rw [grow_empty] at hgr
    exact ⟨_, rfl, hT, hB.grown hgr hB.size (by simpa using Nat.le_trans hbase hg)⟩

/-! The table as a value: loaded whole, indexed -/
def tokCells : List Value := tokTab.flatMap fun x => [Value.string x.1, Value.int .u32 x.2]
theorem tok_cell {W : World} (hT : TokIs W) (j : Nat) (v : Value) (hj : tokCells[j]? = some v) : W.cell? ((⟨0, 0, none⟩ : Addr).add j) = some v := by
  have hlt : j < 28 := (List.getElem?_eq_some_iff.1 hj).1
  rw [add_plain]
  have h := hT (j / 2) (by omega)
  have h3 : tokCells[j]? = some (if j % 2 = 0 then Value.string (tokName (j / 2)) else Value.int .u32 (tokOff (j / 2))) := by
    have hj : j = 0 ∨ j = 1 ∨ j = 2 ∨ j = 3 ∨ j = 4 ∨ j = 5 ∨ j = 6 ∨ j = 7 ∨ j = 8 ∨ j = 9 ∨ j = 10 ∨ j = 11 ∨ j = 12 ∨ j = 13 ∨ j = 14 ∨ j = 15 ∨ j = 16 ∨ j = 17 ∨ j = 18 ∨ j = 19 ∨ j = 20 ∨ j = 21 ∨ j = 22 ∨ j = 23 ∨ j = 24 ∨ j = 25 ∨ j = 26 ∨ j = 27 := by omega
    rcases hj with rfl | rfl | rfl | rfl | rfl | rfl | rfl | rfl | rfl | rfl | rfl | rfl | rfl | rfl | rfl | rfl | rfl | rfl | rfl | rfl | rfl | rfl | rfl | rfl | rfl | rfl | rfl | rfl <;> rfl
  rw [hj] at h3
  simp only [Option.some.injEq] at h3
  by_cases hm : j % 2 = 0
  · rw [if_pos hm] at h3
    rw [h3, ← h.1]
    congr 2
    omega
  · rw [if_neg hm] at h3
    rw [h3, ← h.2]
    congr 2
    omega
theorem tok_load {W : World} (hT : TokIs W) : (Instr.loadAt 80 (.pointer (some ⟨0, 0, none⟩))).run Tryd.prog W = .ok (.agg tokCells.toArray) W := by
  have h := run_loadCells_list (P := Tryd.prog) W ⟨0, 0, none⟩ tokCells (tok_cell hT)
  rw [show tokCells.length = 28 by decide +kernel] at h
  generalize tokCells.toArray = cs at h ⊢
  have h1 := Tryd.isAgg80 W
  simp [Instr.loadAt, loadVar, Instr.sureAddr, h, h1]
theorem tok_extract (i : Nat) (hi : i < 14) : tokCells.toArray.extract (i * 2) (i * 2 + 2) = #[.string (tokName i), .int .u32 (tokOff i)] := by
  have hj : i = 0 ∨ i = 1 ∨ i = 2 ∨ i = 3 ∨ i = 4 ∨ i = 5 ∨ i = 6 ∨ i = 7 ∨ i = 8 ∨ i = 9 ∨ i = 10 ∨ i = 11 ∨ i = 12 ∨ i = 13 := by omega
  rcases hj with rfl | rfl | rfl | rfl | rfl | rfl | rfl | rfl | rfl | rfl | rfl | rfl | rfl | rfl <;> rfl
theorem tok_index (W : World) (i : Int) (h0 : 0 ≤ i) (h1 : i < 14) : (Instr.index 80 (.agg tokCells.toArray) (.int .i64 i)).run Tryd.prog W = .ok (.agg #[.string (tokName i.toNat), .int .u32 (tokOff i.toNat)]) W := by
  have he := tok_extract i.toNat (by omega)
  generalize tokCells.toArray = cs at he ⊢
  have a2 := Tryd.sizeOf79 W
  have a3 := Tryd.isAgg79 W
  simp [Instr.index, asIntOf, part, a2, h0, h1, he]
end Go.Proofs.YtlaiggkgflbjhaaDoorW.PrintWords
