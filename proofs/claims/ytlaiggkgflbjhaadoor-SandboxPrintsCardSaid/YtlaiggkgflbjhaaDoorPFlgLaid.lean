/- From a row's list of two (sandbox.flags, sandbox.tokens as their initialisers lay them) to the walks' two facts. -/
import Derived.Test.YtlaiggkgflbjhaaDoorPTokLaid
import Derived.Test.YtlaiggkgflbjhaaDoorXWFlg
namespace Go.Proofs.YtlaiggkgflbjhaaDoor.Pure
open Go Go.Proofs.YtlaiggkgflbjhaaDoorW.PrintWords

theorem flgLaid_form : (Rows.laid_pergola_sandbox_flags : DataW Unit) = .agg (flgTab.map fun p => .lit (.string p.data.toList)) := by kernel_rfl
theorem flgLaid_global : Tryd.prog.globalNamed "pergola/sandbox.flags" = some 1 := by kernel_rfl
theorem flgLaid_type : (Tryd.prog.globals[1]?).map (·.type) = some 98 := by kernel_rfl
theorem flgLaid_all : Tryd.prog.cellsOf 98 = 16 := by kernel_rfl
theorem flg_cells {W : World} {fuel : Nat} {cs : List Value} {p : List MemPlace}
    (h : DataW.trod (fun _ => ()) Tryd.prog W 0 (fun _ => true) false fuel 98 cs = some (Rows.laid_pergola_sandbox_flags, p)) (i : Nat) (hi : i < 16) :
    cs[i]? = some (.string (flgName i)) := by
  rw [flgLaid_form] at h
  have ht := Tryd.underlying98
  cases fuel with
  | zero => simp [DataW.trod] at h
  | succ fuel =>
    simp only [DataW.trod, ht, tokLaid_str, flgLaid_all] at h
    split at h
    · rename_i hl
      obtain ⟨xs, hm, hx⟩ := Option.map_eq_some_iff.1 h
      have hxs : xs.map (·.1) = flgTab.map fun p => (DataW.lit (.string p.data.toList) : DataW Unit) := by
        have := congrArg Prod.fst hx
        simpa using this
      obtain ⟨b, hb, hf⟩ := Lib.mapM_at hm i i (by simp [hi])
      obtain ⟨s, hs, rfl, _⟩ := DataW.trod_string Tryd.underlying9 hf
      have h2 : (xs.map (·.1))[i]? = some (DataW.lit (.string s.data.toList) : DataW Unit) := by simp [hb]
      rw [hxs, List.getElem?_map] at h2
      obtain ⟨q, hq, he⟩ := Option.map_eq_some_iff.1 h2
      simp only [DataW.lit.injEq, Lit.string.injEq] at he
      have hn : flgName i = s := by
        unfold flgName
        rw [List.getD_eq_getElem?_getD, hq]
        show q = s
        cases q with | mk d => cases s with | mk d2 => simpa using he
      rw [hn]
      have := congrArg (·[0]?) hs
      simpa [List.getElem?_take, List.getElem?_drop, tokLaid_str, Nat.mul_comm] using this
    · cases h
theorem both_of_laid {W : World} {rest : List (String × DataW Unit)} (h : laidMet Tryd.prog (("pergola/sandbox.flags", Rows.laid_pergola_sandbox_flags) :: ("pergola/sandbox.tokens", Rows.laid_pergola_sandbox_tokens) :: rest) W) : TokIs W ∧ FlgIs W := by
  obtain ⟨ps, ⟨g, t, cs, fuel, p, q, hg, ht, hvar, hd, ⟨g2, t2, cs2, fuel2, p2, q2, hg2, ht2, hvar2, hd2, _, _⟩, _⟩, _⟩ := h
  obtain rfl := Option.some.inj (flgLaid_global.symm.trans hg)
  obtain rfl := Option.some.inj (flgLaid_type.symm.trans ht)
  obtain rfl := Option.some.inj (tokLaid_global.symm.trans hg2)
  obtain rfl := Option.some.inj (tokLaid_type.symm.trans ht2)
  constructor
  · intro i hi
    obtain ⟨h1, h2⟩ := tok_cells hd2 i hi
    rw [Array.getElem?_toList] at h1 h2
    exact ⟨(World.var?_cell tokLaid_global hvar2 (i * 2)).trans h1, (World.var?_cell tokLaid_global hvar2 (i * 2 + 1)).trans h2⟩
  · intro i hi
    have h1 := flg_cells hd i hi
    rw [Array.getElem?_toList] at h1
    exact (World.var?_cell flgLaid_global hvar i).trans h1
end Go.Proofs.YtlaiggkgflbjhaaDoor.Pure
