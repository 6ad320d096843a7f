/- Rows of texts of one's own: sorted (slices.Sort), their doubles dropped (slices.Compact). (Carved out of XXWTok.) -/
import Derived.Test.YtjadlnmphcoioaaGreatDoorXW
import Derived.Test.YtjadlnmphcoioaaGreatDoorShelf
import Derived.Sort.OwnSorted
namespace Go.Proofs.YtjadlnmphcoioaaGreatDoorW.PrintWords
open Go.RowKit Go.Lib Go.Sort

/-! 'x > y' of texts, as the walk spells it -/
theorem less_asym {x y : List UInt8} (h : Op.bytesLess y x = true) : Op.bytesLess x y = false := by
  rw [Proofs.bytesLess_eq] at h ⊢
  have := of_decide_eq_true h
  exact decide_eq_false (fun h2 => absurd (List.lt_trans this h2) (List.lt_irrefl _))
theorem less_ne {x y : List UInt8} (h : Op.bytesLess y x = true) : (x == y) = false := by
  rw [Proofs.bytesLess_eq] at h
  have := of_decide_eq_true h
  rw [beq_eq_false_iff_ne]
  rintro rfl
  exact List.lt_irrefl _ this
theorem less_tot {x y : List UInt8} (h : Op.bytesLess y x = false) : (!Op.bytesLess x y && !(x == y)) = false := by
  rw [Proofs.bytesLess_eq] at h ⊢
  have h1 := of_decide_eq_false h
  by_cases h2 : x < y
  · simp [h2]
  · have : x = y := List.le_antisymm (List.not_lt.1 h1) (List.not_lt.1 h2)
    simp [this]

/-! A row of texts of one's own, sorted, its doubles dropped -/
def strsL (xs : List ByteArray) : List (List UInt8) := xs.map fun x => x.data.toList
def strsB (l : List (List UInt8)) : List ByteArray := l.map fun x => ⟨x.toArray⟩
theorem strsB_strsL (xs : List ByteArray) : strsB (strsL xs) = xs := by
  unfold strsB strsL
  rw [List.map_map]
  conv => rhs; rw [← List.map_id xs]
  apply List.map_congr_left
  intro x _
  cases x
  simp
theorem strsL_strsB (l : List (List UInt8)) : strsL (strsB l) = l := by
  unfold strsB strsL
  rw [List.map_map]
  conv => rhs; rw [← List.map_id l]
  apply List.map_congr_left
  intro x _
  simp
theorem encs_strs (xs : List ByteArray) : encs Value.string xs = (strsL xs).map encStr := by
  conv => lhs; rw [← strsB_strsL xs]
  unfold encs strsB
  rw [List.map_map]
  rfl
def sortS (xs : List ByteArray) : List ByteArray := strsB ((strsL xs).mergeSort fun x y => decide (x ≤ y))
def compS (xs : List ByteArray) : List ByteArray := strsB (Lib.compact (strsL xs))
theorem sortS_length (xs : List ByteArray) : (sortS xs).length = xs.length := by simp [sortS, strsB, strsL]
theorem sort_own {w W : World} {base : Nat} {ok : Nat → Prop} {v : Value} {xs : List ByteArray} (hR : Kd.R Kd.string 9 W base ok v xs) (hB : Below w.heap.size w W) (hbase : w.heap.size ≤ base) (hn : xs.length < 4611686018427387904) :
    Calls Tryz.prog 64 #[v] W fun e W' => e = .returned (.tuple #[]) ∧ Kd.R Kd.string 9 W' base ok v (sortS xs) ∧ Below w.heap.size w W' := by
  have ho := Kd.own_of_R (enc := Value.string) (h1 := fun _ => rfl) hR
  rcases ho.2 with ⟨rfl, h0⟩ | ⟨g, cap, cur, rfl, hg, hb, h1, h2, h3, h4⟩
  · obtain rfl := List.eq_nil_of_length_eq_zero h0
    refine (Tryz.slices_Sort_string_none none 0 W).mono ?_
    rintro e W' ⟨rfl, rfl⟩
    exact ⟨rfl, by simpa [sortS, strsB, strsL] using hR, hB⟩
  · rw [encs_strs, Nat.mul_one] at h4
    have hl : (strsL xs).length = xs.length := List.length_map _
    have hH := holds_of_block (ss := strsL xs) hb (by rw [hl]; exact h4)
    have hc := Tryz.slices_Sort_string g 0 cap (strsL xs) W hH (Array.getElem?_eq_some_iff.1 hb).1 (by omega)
    rw [hl] at hc
    refine hc.mono ?_
    rintro e W' ⟨rfl, n, os, rfl⟩
    have hk : ∀ k, (Value.slice (some ⟨g, 0, none⟩) xs.length cap).ownBlock = some k → ok k := hR.1
    refine ⟨rfl, Kd.R_of_own (enc := Value.string) (h1 := fun _ => rfl) ?_ hk, hB.grown (grownBy_sorted _) hB.size (by simpa using Nat.le_trans hbase hg)⟩
    have := ownsRow_sorted (n := n) (os := os) (ss := strsL xs) (ts := (strsL xs).mergeSort fun x y => decide (x ≤ y)) (by simp) hg hb (by rw [hl]; exact h1) h2 h3
    rw [hl] at this
    rw [sortS_length, encs_strs, sortS, strsL_strsB]
    exact this
theorem compact_len (l : List (List UInt8)) : (Lib.compact l).length ≤ l.length := by
  unfold Lib.compact compactUpTo
  rw [List.length_map]
  exact Nat.le_trans (List.length_filter_le _ _) (by simp)
theorem compact_own {w W : World} {base : Nat} {ok : Nat → Prop} {v : Value} {xs : List ByteArray} (hR : Kd.R Kd.string 9 W base ok v xs) (hB : Below w.heap.size w W) (hbase : w.heap.size ≤ base) (hn : xs.length < 4611686018427387904) :
    Calls Tryz.prog 65 #[v] W fun e W' => ∃ v' : Value, e = .returned v' ∧ Kd.R Kd.string 9 W' base ok v' (compS xs) ∧ Below w.heap.size w W' := by
  have ho := Kd.own_of_R (enc := Value.string) (h1 := fun _ => rfl) hR
  rcases ho.2 with ⟨rfl, h0⟩ | ⟨g, cap, cur, rfl, hg, hb, h1, h2, h3, h4⟩
  · obtain rfl := List.eq_nil_of_length_eq_zero h0
    refine (Tryz.slices_Compact_string_empty none 0 W).mono ?_
    rintro e W' ⟨rfl, rfl⟩
    exact ⟨_, rfl, by rw [show compS [] = [] from rfl]; exact hR, hB⟩
  · rw [encs_strs, Nat.mul_one] at h4
    have hl : (strsL xs).length = xs.length := List.length_map _
    have hH := holds_of_block (ss := strsL xs) hb (by rw [hl]; exact h4)
    have hc := Tryz.slices_Compact_string g 0 cap (strsL xs) W hH (by omega) (by omega)
    rw [hl] at hc
    refine hc.mono ?_
    rintro e W' ⟨rfl, q, rfl⟩
    have hk : ∀ k, (Value.slice (some ⟨g, 0, none⟩) xs.length cap).ownBlock = some k → ok k := hR.1
    have hcl := compact_len (strsL xs)
    obtain ⟨ts, hts⟩ : ∃ ts, ts = Lib.compact (strsL xs) ++ List.replicate (xs.length - (Lib.compact (strsL xs)).length) [] := ⟨_, rfl⟩
    rw [← hts]
    have htl : ts.length = xs.length := by rw [hts, List.length_append, List.length_replicate]; omega
    have ho2 := ownsRow_sorted (n := q) (os := #[]) (ss := strsL xs) (ts := ts) (by rw [htl, hl]) hg hb (by rw [hl]; exact h1) h2 h3
    rw [hl, grow_empty] at ho2
    have hR2 : Kd.R Kd.string 9 (putRow encStr (Sort.ahead W q) g 0 ts.toArray) base ok (.slice (some ⟨g, 0, none⟩) xs.length cap) (strsB ts) := by
      refine Kd.R_of_own (enc := Value.string) (h1 := fun _ => rfl) ?_ hk
      rw [encs_strs, strsL_strsB]
      have : (strsB ts).length = xs.length := by rw [strsB, List.length_map, htl]
      rw [this]
      exact ho2
    have hlen : (compS xs).length = (Lib.compact (strsL xs)).length := by rw [compS, strsB, List.length_map]
    have hT := Kd.R_take (m := (Lib.compact (strsL xs)).length) hR2 (by rw [strsB, List.length_map, htl]; omega)
    have htk : (strsB ts).take (Lib.compact (strsL xs)).length = compS xs := by
      rw [strsB, ← List.map_take, hts, List.take_left]
      rfl
    rw [htk] at hT
    have hgr := grownBy_sorted (w := W) (g := g) (n := q) (os := #[]) ts.toArray
    rw [grow_empty] at hgr
    exact ⟨_, rfl, hT, hB.grown hgr hB.size (by simpa using Nat.le_trans hbase hg)⟩

end Go.Proofs.YtjadlnmphcoioaaGreatDoorW.PrintWords
