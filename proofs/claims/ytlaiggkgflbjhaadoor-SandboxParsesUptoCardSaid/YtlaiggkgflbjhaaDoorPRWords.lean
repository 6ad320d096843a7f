/- What the page's Words and Lower compute: as octets'. (Carved out of XPureOctetsTextsU.) -/
import Derived.Test.YtlaiggkgflbjhaaDoorPWords
import Derived.Test.YtlaiggkgflbjhaaDoorX10
import Derived.Test.YtlaiggkgflbjhaaDoorX10
namespace Go.Proofs.YtlaiggkgflbjhaaDoor.Pure
open Go.RowKit Go.Proofs.YtlaiggkgflbjhaaDoor.X Go.Proofs.YtlaiggkgflbjhaaDoorW.PrintWords Go.Proofs.YtlaiggkgflbjhaaDoorW.PrintLast Go.Proofs.YtlaiggkgflbjhaaDoorW.PrintMore

theorem take_map (f : Int → Int) (l : List Int) (i : Nat) (h : i < l.length) : (l.take i).map f ++ [f (l.getD i 0)] = (l.take (i + 1)).map f := by
  rw [List.take_succ_eq_append_getElem h, List.map_append, List.getD_eq_getElem?_getD, List.getElem?_eq_getElem h]
  rfl
theorem low_in {c : Int} (h : 0 ≤ c ∧ c < 256) : c ≥ 65 → c ≤ 90 → (c + 32) % 256 = low c := byte_all (p := fun c => c ≥ 65 → c ≤ 90 → (c + 32) % 256 = low c) (by decide +kernel) h
theorem rlower_l0 (s : ByteArray) (hs : s.size ≤ 1048576) (d : Nat) : ∀ (i : Nat), i + d = s.size → Ev (fun k => pergolaref01_Lower.l0 k s (((bytesOf s).take i).map low) (i : Int)) (strOfNums ((bytesOf s).map low)) := by
  have hl := bytesOf_length s
  induction d with
  | zero =>
    intro i hi
    refine Ev.step (f := fun _ => some (strOfNums ((bytesOf s).map low))) (fun k => ?_) (Ev.now _)
    rw [pergolaref01_Lower.l0, if_neg (by omega), List.take_of_length_le (by omega)]
  | succ d ih =>
    intro i hi
    have hw : wrap64 ((i : Int) + 1) = ((i + 1 : Nat) : Int) := by unfold wrap64; omega
    have hcb := (Bytes.of s).at_ i
    have hlen : (((bytesOf s).take i).map low).length < 140737488355328 := by rw [List.length_map, List.length_take]; omega
    have htk := take_map low (bytesOf s) i (by omega)
    have h := ih (i + 1) (by omega)
    rw [← htk] at h
    refine Ev.step (fun k => ?_) h
    rw [pergolaref01_Lower.l0, if_pos (by omega), if_pos (by omega), bt_at', hw, if_pos hlen, if_pos hlen]
    have hin := low_in hcb
    generalize (bytesOf s).getD i 0 = c at *
    by_cases h1 : c ≥ 65
    · by_cases h2 : c ≤ 90
      · rw [if_pos h1, if_pos h2, hin h1 h2]
      · rw [if_pos h1, if_neg h2, show low c = c from by unfold low turn1; rw [if_pos h1, if_neg h2]]
    · rw [if_neg h1, show low c = c from by unfold low turn1; rw [if_neg h1]]
theorem rlower_f (s : ByteArray) (hs : s.size ≤ 1048576) : Ev (fun k => pergolaref01_Lower.f k s) (strOfNums ((bytesOf s).map low)) := rlower_l0 s hs s.size 0 (by omega)
theorem has_bl {c : Int} (h : 0 ≤ c ∧ c < 256) : Ev (fun k => pergolaref01_Has.f k ⟨#[9, 10, 12, 13, 32]⟩ c) (bl c) :=
  Ev.of (pergolaref01_Has.mono _ c) (k := 40) (byte_all (p := fun c => pergolaref01_Has.f 40 ⟨#[9, 10, 12, 13, 32]⟩ c = some (bl c)) (by decide +kernel) h)
theorem rwords_in (s : ByteArray) (hs : s.size ≤ 1048576) (i : Nat) (hi : i ≤ s.size) (acc : List ByteArray) (ha : acc.length ≤ i) (f : Int) (cur : List Int) (hf : Since s f i cur) (R : List ByteArray)
    (h : Ev (fun k => pergolaref01_Words.l0 k s (if cur = [] then acc else acc ++ [strOfNums cur]) (-1) ((i + 1 : Nat) : Int)) R) :
    Ev (fun k => pergolaref01_Words.j1 k s acc f (i : Int) false) R := by
  have hw : wrap64 ((i : Int) + 1) = ((i + 1 : Nat) : Int) := by unfold wrap64; omega
  by_cases hc : cur = []
  · have e := hf.nil hc
    subst e
    rw [if_pos hc] at h
    refine Ev.step (fun k => ?_) h
    rw [pergolaref01_Words.j1, if_neg (by decide), if_neg (by decide), hw]
  · obtain ⟨n, rfl, hn, hcc⟩ := hf.ne hc
    rw [if_neg hc] at h
    refine Ev.step (fun k => ?_) h
    rw [pergolaref01_Words.j1, if_neg (by decide), if_pos (by omega), if_pos (by omega), if_pos (by omega), if_pos (by omega), if_pos (by omega), hw, Int.toNat_natCast, Int.toNat_natCast, extract_cut, hcc]
theorem rwords_out (s : ByteArray) (hs : s.size ≤ 1048576) (i : Nat) (hi : i < s.size) (acc : List ByteArray) (f : Int) (cur : List Int) (hf : Since s f i cur) (R : List ByteArray)
    (h : ∀ f', Since s f' (i + 1) (cur ++ [(bytesOf s).getD i 0]) → Ev (fun k => pergolaref01_Words.l0 k s acc f' ((i + 1 : Nat) : Int)) R) :
    Ev (fun k => pergolaref01_Words.j1 k s acc f (i : Int) true) R := by
  have hw : wrap64 ((i : Int) + 1) = ((i + 1 : Nat) : Int) := by unfold wrap64; omega
  rcases hf with ⟨rfl, rfl⟩ | ⟨n, rfl, hn, hi2, rfl⟩
  · refine Ev.step (fun k => ?_) (h (i : Int) (.inr ⟨i, rfl, by omega, by omega, by rw [cut_succ s i i (Nat.le_refl _) hi, cut_self]⟩))
    rw [pergolaref01_Words.j1, if_pos rfl, if_pos (by omega), hw]
  · refine Ev.step (fun k => ?_) (h (n : Int) (.inr ⟨n, rfl, by omega, by omega, by rw [cut_succ s n i (by omega) hi]⟩))
    rw [pergolaref01_Words.j1, if_pos rfl, if_neg (by omega), hw]
theorem rwords_l0 (s : ByteArray) (hs : s.size ≤ 1048576) (d : Nat) : ∀ (i : Nat) (f : Int) (acc : List ByteArray) (cur : List Int), i + d = s.size → Since s f i cur → acc.length ≤ i →
    Ev (fun k => pergolaref01_Words.l0 k s acc f (i : Int)) (acc ++ (wd ((bytesOf s).drop i) cur).map strOfNums) := by
  have hl := bytesOf_length s
  induction d with
  | zero =>
    intro i f acc cur hi hf ha
    obtain rfl : i = s.size := by omega
    rw [List.drop_of_length_le (by omega)]
    refine Ev.step (f := fun k => pergolaref01_Words.j1 k s acc f (s.size : Int) false) (fun k => ?_) (rwords_in s hs s.size (Nat.le_refl _) acc ha f cur hf _ ?_)
    · rw [pergolaref01_Words.l0, if_pos (by omega), if_neg (by omega)]
    · refine Ev.step (f := fun _ => some (acc ++ (wd [] cur).map strOfNums)) (fun k => ?_) (Ev.now _)
      rw [pergolaref01_Words.l0, if_neg (by omega), wd]
      by_cases hc : cur = []
      · rw [if_pos hc, if_pos hc, List.map_nil, List.append_nil]
      · rw [if_neg hc, if_neg hc, List.map_cons, List.map_nil]
  | succ d ih =>
    intro i f acc cur hi hf ha
    have hcb := (Bytes.of s).at_ i
    rw [getD_drop (show i < (bytesOf s).length by omega), wd]
    refine Ev.step (f := fun k => (pergolaref01_Has.f k ⟨#[9, 10, 12, 13, 32]⟩ ((bytesOf s).getD i 0)).bind fun t => pergolaref01_Words.j1 k s acc f (i : Int) (!t)) (fun k => ?_) (Ev.bind (has_bl hcb) ?_)
    · rw [pergolaref01_Words.l0, if_pos (by omega), if_pos (by omega), if_pos (by omega), bt_at']
    · cases hbl : bl ((bytesOf s).getD i 0)
      · rw [if_neg (by decide)]
        exact rwords_out s hs i (by omega) acc f cur hf _ fun f' hf' => ih (i + 1) f' acc _ (by omega) hf' (by omega)
      · rw [if_pos rfl]
        refine rwords_in s hs i (by omega) acc ha f cur hf _ ?_
        have := ih (i + 1) (-1) (if cur = [] then acc else acc ++ [strOfNums cur]) [] (by omega) (.inl ⟨rfl, rfl⟩) (by split <;> (try rw [List.length_append, List.length_singleton]) <;> omega)
        by_cases hc : cur = []
        · rw [if_pos hc] at this ⊢
          rw [if_pos hc]
          exact this
        · rw [if_neg hc] at this ⊢
          rw [if_neg hc]
          rw [List.append_assoc] at this
          exact this
theorem rwords_f (s : ByteArray) (hs : s.size ≤ 1048576) : Ev (fun k => pergolaref01_Words.f k s) ((wd (bytesOf s) []).map strOfNums) := by
  have := rwords_l0 s hs s.size 0 (-1) [] [] (by omega) (.inl ⟨rfl, rfl⟩) (Nat.le_refl _)
  rw [List.drop_zero, List.nil_append] at this
  exact this
end Go.Proofs.YtlaiggkgflbjhaaDoor.Pure
