/- Rows of whole numbers of one's own: sorted (slices.Sort), their doubles dropped (slices.Compact). -/
import Derived.Test.YtclkclcacnpmbaaDoorXW
import Derived.Test.YtclkclcacnpmbaaDoorShelf
import Derived.Sort.OwnSortedInts
namespace Go.Proofs.YtclkclcacnpmbaaDoorW.PrintWords
open Go.RowKit Go.Lib Go.Sort

def sortI (xs : List Int) : List Int := xs.mergeSort fun x y => decide (x ≤ y)
def compI (xs : List Int) : List Int := Lib.compact xs
theorem sortI_length (xs : List Int) : (sortI xs).length = xs.length := by simp [sortI]
theorem sortI_own {w W : World} {base : Nat} {ok : Nat → Prop} {v : Value} {xs : List Int} (hR : Kd.R (Kd.int .i64) 3 W base ok v xs) (hB : Below w.heap.size w W) (hbase : w.heap.size ≤ base) (hn : xs.length < 4611686018427387904) :
  Calls Tryd.prog 16 #[v] W fun e W' => e = .returned (.tuple #[]) ∧ Kd.R (Kd.int .i64) 3 W' base ok v (sortI xs) ∧ Below w.heap.size w W' := by
 have ho := Kd.own_of_R (enc := Value.int .i64) (h1 := fun _ => rfl) hR
 rcases ho.2 with ⟨rfl, h0⟩ | ⟨g, cap, cur, rfl, hg, hb, h1, h2, h3, h4⟩
 ·obtain rfl := List.eq_nil_of_length_eq_zero h0
  refine (Tryd.slices_Sort_int_none none 0 W).mono ?_
  rintro e W' ⟨rfl, rfl⟩
  exact ⟨rfl, by simpa [sortI] using hR, hB⟩
 ·rw [Nat.mul_one] at h4
  have hH := holds_of_blockI (ss := xs) hb h4
  have hc := Tryd.slices_Sort_int g 0 cap xs W hH (Array.getElem?_eq_some_iff.1 hb).1 (by omega)
  refine hc.mono ?_
  rintro e W' ⟨rfl, n, os, rfl⟩
  have hk : ∀ k, (Value.slice (some ⟨g, 0, none⟩) xs.length cap).ownBlock = some k → ok k := hR.1
  refine ⟨rfl, Kd.R_of_own (enc := Value.int .i64) (h1 := fun _ => rfl) ?_ hk, hB.grown (grownBy_sortedI _) hB.size (by simpa using Nat.le_trans hbase hg)⟩
  have := ownsRow_sortedI (n := n) (os := os) (ss := xs) (ts := sortI xs) (sortI_length xs) hg hb h1 h2 h3
  rw [sortI_length]
  exact this
theorem compactI_len (l : List Int) : (Lib.compact l).length ≤ l.length := by
 unfold Lib.compact compactUpTo
 rw [List.length_map]
 exact Nat.le_trans (List.length_filter_le _ _) (by simp)
theorem compactI_own {w W : World} {base : Nat} {ok : Nat → Prop} {v : Value} {xs : List Int} (hR : Kd.R (Kd.int .i64) 3 W base ok v xs) (hB : Below w.heap.size w W) (hbase : w.heap.size ≤ base) (hn : xs.length < 4611686018427387904) :
  Calls Tryd.prog 17 #[v] W fun e W' => ∃ v' : Value, e = .returned v' ∧ Kd.R (Kd.int .i64) 3 W' base ok v' (compI xs) ∧ Below w.heap.size w W' := by
 have ho := Kd.own_of_R (enc := Value.int .i64) (h1 := fun _ => rfl) hR
 rcases ho.2 with ⟨rfl, h0⟩ | ⟨g, cap, cur, rfl, hg, hb, h1, h2, h3, h4⟩
 ·obtain rfl := List.eq_nil_of_length_eq_zero h0
  refine (Tryd.slices_Compact_int_empty none 0 W).mono ?_
  rintro e W' ⟨rfl, rfl⟩
  exact ⟨_, rfl, by rw [show compI [] = [] from rfl]; exact hR, hB⟩
 ·rw [Nat.mul_one] at h4
  have hH := holds_of_blockI (ss := xs) hb h4
  have hc := Tryd.slices_Compact_int g 0 cap xs W hH (by omega) (by omega)
  refine hc.mono ?_
  rintro e W' ⟨rfl, q, rfl⟩
  have hk : ∀ k, (Value.slice (some ⟨g, 0, none⟩) xs.length cap).ownBlock = some k → ok k := hR.1
  have hcl := compactI_len xs
  obtain ⟨ts, hts⟩ : ∃ ts, ts = Lib.compact xs ++ List.replicate (xs.length - (Lib.compact xs).length) 0 := ⟨_, rfl⟩
  rw [← hts]
  have htl : ts.length = xs.length := by rw [hts, List.length_append, List.length_replicate]; omega
  have ho2 := ownsRow_sortedI (n := q) (os := #[]) (ss := xs) (ts := ts) htl hg hb h1 h2 h3
  rw [grow_empty] at ho2
  have hR2 : Kd.R (Kd.int .i64) 3 (putRow (Value.int .i64) (Sort.ahead W q) g 0 ts.toArray) base ok (.slice (some ⟨g, 0, none⟩) xs.length cap) ts := by
   refine Kd.R_of_own (enc := Value.int .i64) (h1 := fun _ => rfl) ?_ hk
   rw [htl]
   exact ho2
  have hT := Kd.R_take (m := (Lib.compact xs).length) hR2 (by rw [htl]; omega)
  have htk : ts.take (Lib.compact xs).length = compI xs := by rw [hts, List.take_left]; rfl
  rw [htk] at hT
  have hgr := grownBy_sortedI (w := W) (g := g) (n := q) (os := #[]) ts.toArray
  rw [grow_empty] at hgr
  exact ⟨_, rfl, hT, hB.grown hgr hB.size (by simpa using Nat.le_trans hbase hg)⟩
end Go.Proofs.YtclkclcacnpmbaaDoorW.PrintWords
