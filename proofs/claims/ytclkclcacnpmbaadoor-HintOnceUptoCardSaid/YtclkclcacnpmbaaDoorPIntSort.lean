/- Whole numbers, sorted and without doubles: a list that is told by its members. -/
import Derived.Test.YtclkclcacnpmbaaDoorPBase
import Derived.Test.YtclkclcacnpmbaaDoorXWSortI
namespace Go.Proofs.YtclkclcacnpmbaaDoor.Pure
open Go.RowKit Go.Proofs.YtclkclcacnpmbaaDoorW.PrintWords Go.Proofs.YtclkclcacnpmbaaDoorW.PrintWords Go.Proofs.YtclkclcacnpmbaaDoorW.PrintLast Go.Proofs.YtclkclcacnpmbaaDoorW.PrintMore

theorem compI_lt (zs : List Int) (h : zs.Pairwise fun x y => x ≤ y) : (Lib.compact zs).Pairwise fun x y => x < y := by
 unfold Lib.compact Lib.compactUpTo
 rw [List.pairwise_map, List.pairwise_filter]
 refine List.Pairwise.imp_of_mem (fun {i j} hi hj hij ki kj => ?_) List.pairwise_lt_range
 have hi' := List.mem_range.1 hi
 have hj' := List.mem_range.1 hj
 have hk := of_decide_eq_true kj
 have hpw := List.pairwise_iff_getElem.1 h
 rcases hk with hk | hk
 ·omega
 have ej : zs.toArray[j]! = zs[j] := by simp [hj']
 have ej1 : zs.toArray[j - 1]! = zs[j - 1]'(by omega) := by simp [show j - 1 < zs.length by omega]
 have ei : zs.toArray[i]! = zs[i] := by simp [hi']
 rw [ej, ej1] at hk
 have h2 := hpw (j - 1) j (by omega) hj' (by omega)
 have h1 : zs[j - 1]'(by omega) < zs[j] := by omega
 show zs.toArray[i]! < zs.toArray[j]!
 rw [ei, ej]
 by_cases hij2 : i = j - 1
 ·subst hij2
  exact h1
 ·have := hpw i (j - 1) hi' (by omega) (by omega)
  omega
theorem compI_first (zs : List Int) (x : Int) : ∀ n : Nat, n < zs.length → zs.toArray[n]! = x → ∃ j : Nat, j < zs.length ∧ Lib.keeps zs.toArray j = true ∧ zs.toArray[j]! = x
 | 0, h, e => ⟨0, h, by simp [Lib.keeps], e⟩
 | n + 1, h, e => by
  by_cases hx : zs.toArray[n]! = x
  ·exact compI_first zs x n (by omega) hx
  ·refine ⟨n + 1, h, ?_, e⟩
   refine decide_eq_true (.inr ?_)
   rw [e, Nat.add_sub_cancel]
   exact fun k => hx k.symm
theorem compI_mem (zs : List Int) (x : Int) : x ∈ Lib.compact zs ↔ x ∈ zs := by
 unfold Lib.compact Lib.compactUpTo
 rw [List.mem_map]
 constructor
 ·rintro ⟨j, hj, rfl⟩
  have := List.mem_range.1 (List.mem_filter.1 hj).1
  have ej : zs.toArray[j]! = zs[j] := by simp [this]
  rw [ej]
  exact List.getElem_mem this
 ·intro hx
  obtain ⟨n, hn, e⟩ := List.getElem_of_mem hx
  obtain ⟨j, hj, hk, e2⟩ := compI_first zs x n hn (by simp [hn, e])
  exact ⟨j, List.mem_filter.2 ⟨List.mem_range.2 hj, hk⟩, e2⟩
/-- The list of all, rising, without doubles. -/
def canonI (l : List Int) : List Int := compI (sortI l)
theorem canonI_rise (l : List Int) : (canonI l).Pairwise fun x y => x < y := by
 unfold canonI compI sortI
 refine compI_lt _ ?_
 refine (List.pairwise_mergeSort (fun a b c h k => ?_) (fun a b => ?_) _).imp fun {a b} h => of_decide_eq_true h
 ·have := of_decide_eq_true h
  have := of_decide_eq_true k
  exact decide_eq_true (by omega)
 ·rw [Bool.or_eq_true, decide_eq_true_eq, decide_eq_true_eq]
  omega
theorem mem_canonI (l : List Int) (x : Int) : x ∈ canonI l ↔ x ∈ l := by
 unfold canonI compI sortI
 rw [compI_mem, List.mem_mergeSort]
theorem riseI_ext : ∀ {l m : List Int}, (l.Pairwise fun x y => x < y) → (m.Pairwise fun x y => x < y) → (∀ x, x ∈ l ↔ x ∈ m) → l = m
 | [], [], _, _, _ => rfl
 | [], b :: m, _, _, h => absurd ((h b).2 (by simp)) (by simp)
 | a :: l, [], _, _, h => absurd ((h a).1 (by simp)) (by simp)
 | a :: l, b :: m, hl, hm, h => by
  rw [List.pairwise_cons] at hl hm
  have e : a = b := by
   have h1 := (h a).1 (by simp)
   have h2 := (h b).2 (by simp)
   rw [List.mem_cons] at h1 h2
   rcases h1 with h1 | h1
   ·exact h1
   ·rcases h2 with h2 | h2
    ·exact h2.symm
    ·have := hm.1 a h1
     have := hl.1 b h2
     omega
  subst e
  rw [riseI_ext hl.2 hm.2 fun x => ?_]
  constructor
  ·intro hx
   rcases List.mem_cons.1 ((h x).1 (List.mem_cons_of_mem a hx)) with e | e
   ·have := hl.1 x hx
    omega
   ·exact e
  ·intro hx
   rcases List.mem_cons.1 ((h x).2 (List.mem_cons_of_mem a hx)) with e | e
   ·have := hm.1 x hx
    omega
   ·exact e
end Go.Proofs.YtclkclcacnpmbaaDoor.Pure
