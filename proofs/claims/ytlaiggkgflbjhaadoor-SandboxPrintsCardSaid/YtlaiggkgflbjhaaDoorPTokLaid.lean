/- From the row's list (sandbox.tokens as its initialiser lays it) to the walks' fact: the table's cells. -/
import Derived.Test.YtlaiggkgflbjhaaDoorRows
import Derived.Test.YtlaiggkgflbjhaaDoorXWTok
import Derived.Lib.LaidTab
import Derived.ChangeSame
import Derived.KernelRfl
namespace Go.Proofs.YtlaiggkgflbjhaaDoor.Pure
open Go Go.Proofs.YtlaiggkgflbjhaaDoorW.PrintWords

theorem tokLaid_form : (Rows.laid_pergola_sandbox_tokens : DataW Unit) = .agg (tokTab.map fun p => .agg [.lit (.string p.1.data.toList), .lit (.int .u32 p.2)]) := by kernel_rfl
theorem tokLaid_global : Tryd.prog.globalNamed "pergola/sandbox.tokens" = some 0 := by kernel_rfl
theorem tokLaid_type : (Tryd.prog.globals[0]?).map (·.type) = some 80 := by kernel_rfl
theorem tokLaid_cells : Tryd.prog.cellsOf 79 = 2 := by kernel_rfl
theorem tokLaid_all : Tryd.prog.cellsOf 80 = 28 := by kernel_rfl
theorem tokLaid_str : Tryd.prog.cellsOf 9 = 1 := by kernel_rfl
theorem tokLaid_u32 : Tryd.prog.cellsOf 23 = 1 := by kernel_rfl
theorem tokLaid_len : tokTab.length = 14 := by decide +kernel
theorem tok_cells {W : World} {fuel : Nat} {cs : List Value} {p : List MemPlace}
    (h : DataW.trod (fun _ => ()) Tryd.prog W 0 (fun _ => true) false fuel 80 cs = some (Rows.laid_pergola_sandbox_tokens, p)) (i : Nat) (hi : i < 14) :
    cs[i * 2]? = some (.string (tokName i)) ∧ cs[i * 2 + 1]? = some (.int .u32 (tokOff i)) := by
  rw [tokLaid_form] at h
  have ht := Tryd.underlying80
  cases fuel with
  | zero => simp [DataW.trod] at h
  | succ fuel =>
    simp only [DataW.trod, ht, tokLaid_cells, tokLaid_all] at h
    split at h
    · rename_i hl
      obtain ⟨xs, hm, hx⟩ := Option.map_eq_some_iff.1 h
      have hxs : xs.map (·.1) = tokTab.map fun p => (DataW.agg [.lit (.string p.1.data.toList), .lit (.int .u32 p.2)] : DataW Unit) := by
        have := congrArg Prod.fst hx
        simpa using this
      obtain ⟨b, hb, hf⟩ := Lib.mapM_at hm i i (by simp [hi])
      obtain ⟨y0, y1, n, rfl, hcl, h0, h1⟩ := ChangeShapes.trod_struct2 Tryd.underlying79 hf
      obtain ⟨s, hs, rfl, _⟩ := DataW.trod_string Tryd.underlying9 h0
      obtain ⟨z, hz, rfl, _⟩ := DataW.trod_int Tryd.underlying23 h1
      have h2 : (xs.map (·.1))[i]? = some (DataW.agg [.lit (.string s.data.toList), .lit (.int .u32 z)] : DataW Unit) := by simp [hb]
      rw [hxs, List.getElem?_map] at h2
      obtain ⟨q, hq, he⟩ := Option.map_eq_some_iff.1 h2
      simp only [DataW.agg.injEq, List.cons.injEq, DataW.lit.injEq, Lit.string.injEq, Lit.int.injEq, true_and, and_true] at he
      have hn : tokName i = s := by
        unfold tokName
        rw [List.getD_eq_getElem?_getD, hq]
        show q.1 = s
        have := he.1
        cases hq1 : q.1 with | mk d => cases s with | mk d2 => rw [hq1] at this; simpa using this
      have ho : tokOff i = z := by
        unfold tokOff
        rw [List.getD_eq_getElem?_getD, hq]
        exact he.2
      rw [hn, ho]
      constructor
      · have := congrArg (·[0]?) hs
        simpa [List.getElem?_take, List.getElem?_drop, tokLaid_str, Nat.mul_comm] using this
      · have := congrArg (·[0]?) hz
        simpa [List.getElem?_take, List.getElem?_drop, tokLaid_u32, Nat.mul_comm] using this
    · cases h
theorem tok_of_laid {W : World} {rest : List (String × DataW Unit)} (h : laidMet Tryd.prog (("pergola/sandbox.tokens", Rows.laid_pergola_sandbox_tokens) :: rest) W) : TokIs W := by
  obtain ⟨ps, ⟨g, t, cs, fuel, p, q, hg, ht, hvar, hd, _, _⟩, _⟩ := h
  obtain rfl := Option.some.inj (tokLaid_global.symm.trans hg)
  obtain rfl := Option.some.inj (tokLaid_type.symm.trans ht)
  intro i hi
  obtain ⟨h1, h2⟩ := tok_cells hd i hi
  rw [Array.getElem?_toList] at h1 h2
  exact ⟨(World.var?_cell tokLaid_global hvar (i * 2)).trans h1, (World.var?_cell tokLaid_global hvar (i * 2 + 1)).trans h2⟩
end Go.Proofs.YtlaiggkgflbjhaaDoor.Pure
