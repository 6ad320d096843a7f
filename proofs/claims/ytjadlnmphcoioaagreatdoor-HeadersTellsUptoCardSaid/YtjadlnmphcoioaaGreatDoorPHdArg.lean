/- A list of headers that is an argument, opened: its row of pairs of texts, and what its bulk bounds. -/
import Derived.Test.YtjadlnmphcoioaaGreatDoorX0
import Derived.Test.YtjadlnmphcoioaaGreatDoorBulk
import Derived.Deep.SlicePairs
import Derived.ChangeArms
namespace Go.Proofs.YtjadlnmphcoioaaGreatDoor.Pure
open Go Go.RowKit Go.ChangeShapes Go.WideShapes Go.Proofs.YtjadlnmphcoioaaGreatDoor.X Go.Proofs.YtjadlnmphcoioaaGreatDoorW.PrintWords

theorem headers_open {H : Type} {enc : TypeId × Value → H} {W : World} {base : Nat} {sp : Nat → Bool} {hd : Bool} {fuel : Nat} {a : Option Addr} {len cap : Nat} {x : DataW H × List MemPlace}
    (h : DataW.trod enc Tryz.prog W base sp hd fuel 22 [.slice a len cap] = some x) :
    ∃ xs : List S72, Kd.C k72 W a xs.length xs ∧ xs.length = len ∧ len ≤ cap ∧ len ≤ Rows.uptoBulk x.1 ∧ ∀ h ∈ xs, h.f0.size ≤ Rows.uptoBulk x.1 ∧ h.f1.size ≤ Rows.uptoBulk x.1 := by
  rcases Deep.open_slice_pairs Tryz.underlying22 Tryz.underlying72 (by kernel_rfl) rfl rfl (by kernel_rfl) (by kernel_rfl) h with ⟨hcs, hx⟩ | ⟨a', len', cap', m, n, V0, V1, D0, D1, P0, P1, hcs, hb, hl, hm, hmm, hx, hall⟩
  · simp only [List.cons.injEq, Value.slice.injEq, and_true] at hcs
    obtain ⟨rfl, rfl, rfl⟩ := hcs
    exact ⟨[], Kd.C_nil _ _, rfl, Nat.le_refl _, Nat.zero_le _, fun h hh => by cases hh⟩
  · simp only [List.cons.injEq, Value.slice.injEq, and_true] at hcs
    obtain ⟨rfl, rfl, rfl⟩ := hcs
    have hlm : len ≤ m := by rw [hmm]; split <;> omega
    haveI : Inhabited S72 := ⟨z72⟩
    obtain ⟨f, hf⟩ := Deep.choose_lt (α := S72) (n := len) (p := fun i q => V0 i = .string q.f0 ∧ V1 i = .string q.f1 ∧ D0 i = .lit (.string q.f0.data.toList) ∧ D1 i = .lit (.string q.f1.data.toList)) (fun i hi => by
      obtain ⟨_, _, h0, h1⟩ := hall i (by omega)
      obtain ⟨s0, e0, d0, _⟩ := DataW.trod_string Tryz.underlying9 h0
      obtain ⟨s1, e1, d1, _⟩ := DataW.trod_string Tryz.underlying9 h1
      simp only [List.cons.injEq, and_true] at e0 e1
      simp only [Prod.mk.injEq] at d0 d1
      exact ⟨⟨s0, s1⟩, e0, e1, d0.1, d1.1⟩)
    have hlen : ((List.range len).map f).length = len := by simp
    have hget : ∀ (j : Nat) p, ((List.range len).map f)[j]? = some p → j < len ∧ p = f j := fun j p hj => by
      obtain ⟨hj1, hj2⟩ := List.getElem?_eq_some_iff.1 hj
      rw [List.length_map, List.length_range] at hj1
      exact ⟨hj1, by rw [← hj2]; simp⟩
    refine ⟨(List.range len).map f, ?_, hlen, hl, ?_, ?_⟩
    · rw [hlen]
      refine ⟨hlen, by have : maxLen ≤ 9223372036854775807 := by decide
                       omega, fun _ => ⟨a', rfl, fun j p hj => ?_⟩⟩
      obtain ⟨hj1, rfl⟩ := hget j p hj
      obtain ⟨c0, c1, _, _⟩ := hall j (by omega)
      obtain ⟨v0, v1, _, _⟩ := hf j hj1
      refine ⟨[.string (f j).f0, .string (f j).f1], rfl, k72_mk W (f j), fun i u hu => ?_⟩
      have hsz : (k72).sz = 2 := rfl
      rw [hsz]
      match i, hu with
      | 0, hu =>
        obtain rfl : Value.string (f j).f0 = u := by simpa using hu
        rw [← v0]
        exact c0
      | 1, hu =>
        obtain rfl : Value.string (f j).f1 = u := by simpa using hu
        rw [← v1]
        exact c1
    · rw [hx]
      refine Nat.le_trans ?_ (bulks.slice_le _ _)
      simp
      omega
    · intro q hq
      obtain ⟨j, hj, rfl⟩ := List.mem_map.1 hq
      have hj' := List.mem_range.1 hj
      obtain ⟨_, _, e0, e1⟩ := hf j hj'
      have h1 : Rows.uptoBulk (DataW.agg [D0 j, D1 j]) ≤ Rows.uptoBulkAll ((List.range len).map fun i => DataW.agg [D0 i, D1 i]) := bulks.part_le (List.mem_map.2 ⟨j, hj, rfl⟩)
      have h2 : Rows.uptoBulkAll ((List.range len).map fun i => DataW.agg [D0 i, D1 i]) + 1 ≤ Rows.uptoBulk x.1 := by rw [hx]; exact bulks.slice_elems _ _
      have h3 : Rows.uptoBulk (DataW.agg [D0 j, D1 j]) = Rows.uptoBulk (D0 j) + (Rows.uptoBulk (D1 j) + 0) + 1 := by simp [Rows.uptoBulk, Rows.uptoBulkAll]
      have b0 : Rows.uptoBulk (D0 j) = (f j).f0.data.size + 1 := by rw [e0, bulks.string_eq, Array.length_toList]
      have b1 : Rows.uptoBulk (D1 j) = (f j).f1.data.size + 1 := by rw [e1, bulks.string_eq, Array.length_toList]
      have s0 : (f j).f0.size = (f j).f0.data.size := rfl
      have s1 : (f j).f1.size = (f j).f1.data.size := rfl
      omega
end Go.Proofs.YtjadlnmphcoioaaGreatDoor.Pure
