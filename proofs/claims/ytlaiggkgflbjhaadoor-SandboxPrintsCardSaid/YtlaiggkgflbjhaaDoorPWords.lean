/- What octets.Words, Lower, Upper compute, on lists of bytes; same texts. (Carved out of XPParts, for seats without Split, Strip and Trim.) -/
import Derived.Test.YtlaiggkgflbjhaaDoorPBase
import Derived.Test.YtlaiggkgflbjhaaDoorX4
import Derived.Test.YtlaiggkgflbjhaaDoorX6
import Derived.Test.YtlaiggkgflbjhaaDoorX4
import Derived.Test.YtlaiggkgflbjhaaDoorX6
namespace Go.Proofs.YtlaiggkgflbjhaaDoor.Pure
open Go.RowKit Go.Proofs.YtlaiggkgflbjhaaDoor.X Go.Proofs.YtlaiggkgflbjhaaDoorW.PrintWords Go.Proofs.YtlaiggkgflbjhaaDoorW.PrintLast Go.Proofs.YtlaiggkgflbjhaaDoorW.PrintMore

/-! Same texts -/
theorem sames_l0 (l : List ByteArray) (hn : l.length ≤ 140737488355328) (d : Nat) : ∀ (i : Nat), i + d = l.length → Ev (fun k => pergolaplain_SameStrings.l0 k l l (i : Int)) true := by
  induction d with
  | zero =>
    intro i hi
    refine Ev.step (f := fun _ => some true) (fun k => ?_) (Ev.now _)
    rw [pergolaplain_SameStrings.l0, if_neg (by omega)]
  | succ d ih =>
    intro i hi
    have hw : wrap64 ((i : Int) + 1) = ((i + 1 : Nat) : Int) := by unfold wrap64; omega
    refine Ev.step (f := fun k => pergolaplain_SameStrings.l0 k l l ((i + 1 : Nat) : Int)) (fun k => ?_) (ih (i + 1) (by omega))
    rw [pergolaplain_SameStrings.l0, if_pos (by omega), if_pos (by omega), if_pos (by omega), if_pos rfl, hw]
theorem sames_f (l : List ByteArray) (hn : l.length ≤ 140737488355328) : Ev (fun k => pergolaplain_SameStrings.f k l l) true := by
  refine Ev.congr (fun k => ?_) (sames_l0 l hn l.length 0 (by omega))
  rw [pergolaplain_SameStrings.f, if_pos rfl]
  rfl

/-! Small and capital letters -/
def low (c : Int) : Int := turn1 65 90 c
def upp (c : Int) : Int := turn1 97 122 c
theorem low_byte {c : Int} (h : 0 ≤ c ∧ c < 256) : 0 ≤ low c ∧ low c < 256 := byte_all (p := fun c => 0 ≤ low c ∧ low c < 256) (by decide +kernel) h
theorem upp_byte {c : Int} (h : 0 ≤ c ∧ c < 256) : 0 ≤ upp c ∧ upp c < 256 := byte_all (p := fun c => 0 ≤ upp c ∧ upp c < 256) (by decide +kernel) h
theorem low_upp {c : Int} (h : 0 ≤ c ∧ c < 256) : low (upp c) = low c := byte_all (p := fun c => low (upp c) = low c) (by decide +kernel) h
theorem upp_low {c : Int} (h : 0 ≤ c ∧ c < 256) : upp (low c) = upp c := byte_all (p := fun c => upp (low c) = upp c) (by decide +kernel) h
theorem map_bytes {f : Int → Int} (hf : ∀ c, 0 ≤ c ∧ c < 256 → 0 ≤ f c ∧ f c < 256) (s : ByteArray) : Bytes ((bytesOf s).map f) := fun x hx => by
  obtain ⟨c, hc, rfl⟩ := List.mem_map.1 hx
  exact hf c (Bytes.of s c hc)
theorem lower_f (s : ByteArray) (hs : s.size ≤ 140737488355328) : octets_Lower.f s = some (strOfNums ((bytesOf s).map low)) := by
  rw [octets_Lower.f, octets_turned.f, if_pos (by omega)]
  rfl
theorem upper_f (s : ByteArray) (hs : s.size ≤ 140737488355328) : octets_Upper.f s = some (strOfNums ((bytesOf s).map upp)) := by
  rw [octets_Upper.f, octets_turned.f, if_pos (by omega)]
  rfl
theorem size_map (f : Int → Int) (s : ByteArray) : (strOfNums ((bytesOf s).map f)).size = s.size := by rw [size_str, List.length_map, bytesOf_length]

/-! Parts -/
theorem row_cut (t : ByteArray) (a b : Nat) : (t.extract a b).data.toList = (t.data.toList.drop a).take (b - a) := by
  have := congrArg (fun x : ByteArray => x.data.toList) (Lib.extract_mk t.data.toList a b)
  rw [Lib.mk_data] at this
  simp only [] at this
  exact this
def cut (s : ByteArray) (a b : Nat) : List Int := ((bytesOf s).drop a).take (b - a)
theorem bytesOf_extract (s : ByteArray) (a b : Nat) : bytesOf (s.extract a b) = cut s a b := by
  unfold cut bytesOf
  rw [row_cut, List.map_take, List.map_drop]
theorem extract_cut (s : ByteArray) (a b : Nat) : s.extract a b = strOfNums (cut s a b) := by rw [← bytesOf_extract, str_bytesOf]
theorem cut_succ (s : ByteArray) (a b : Nat) (h : a ≤ b) (hb : b < s.size) : cut s a (b + 1) = cut s a b ++ [(bytesOf s).getD b 0] := by
  have hl := bytesOf_length s
  unfold cut
  rw [show b + 1 - a = (b - a) + 1 by omega, List.take_succ_eq_append_getElem (by rw [List.length_drop]; omega), List.getElem_drop, List.getD_eq_getElem?_getD, List.getElem?_eq_getElem (by omega)]
  congr 2
  simp only [Option.getD_some]
  congr 1
  omega
theorem cut_self (s : ByteArray) (a : Nat) : cut s a a = [] := by unfold cut; rw [Nat.sub_self, List.take_zero]
theorem cut_length (s : ByteArray) (a b : Nat) (h : a ≤ b) (hb : b ≤ s.size) : (cut s a b).length = b - a := by
  have hl := bytesOf_length s
  unfold cut
  rw [List.length_take, List.length_drop]
  omega
theorem cut_bytes (s : ByteArray) (a b : Nat) : Bytes (cut s a b) := ((Bytes.of s).drop a).take (b - a)
/-! Words -/
def bl (c : Int) : Bool := decide (c = 9 ∨ c = 10 ∨ c = 12 ∨ c = 13 ∨ c = 32)
def wd : List Int → List Int → List (List Int)
  | [], cur => if cur = [] then [] else [cur]
  | c :: t, cur => if bl c = true then (if cur = [] then wd t [] else cur :: wd t []) else wd t (cur ++ [c])
theorem ix_bl {c : Int} (h : 0 ≤ c ∧ c < 256) : (strings_IndexByte.f (⟨#[9, 10, 12, 13, 32]⟩ : ByteArray) c).map (fun t => decide (t ≥ 0)) = some (bl c) :=
  byte_all (p := fun c => (strings_IndexByte.f (⟨#[9, 10, 12, 13, 32]⟩ : ByteArray) c).map (fun t => decide (t ≥ 0)) = some (bl c)) (by decide +kernel) h
/-- Where the word under way began. -/
def Since (s : ByteArray) (f : Int) (i : Nat) (cur : List Int) : Prop := (f = -1 ∧ cur = []) ∨ ∃ n : Nat, f = n ∧ n < i ∧ i ≤ s.size ∧ cur = cut s n i
theorem Since.ne {s : ByteArray} {f : Int} {i : Nat} {cur : List Int} (h : Since s f i cur) (hc : cur ≠ []) : ∃ n : Nat, f = n ∧ n < i ∧ cur = cut s n i := by
  rcases h with ⟨_, h⟩ | ⟨n, h1, h2, _, h3⟩
  · exact absurd h hc
  · exact ⟨n, h1, h2, h3⟩
theorem Since.nil {s : ByteArray} {f : Int} {i : Nat} {cur : List Int} (h : Since s f i cur) (hc : cur = []) : f = -1 := by
  rcases h with ⟨h, _⟩ | ⟨n, h1, h2, h4, h3⟩
  · exact h
  · have := cut_length s n i (by omega) h4
    rw [← h3, hc] at this
    simp at this
    omega
/-- One place of Words' loop, behind the test. -/
theorem words_in (s : ByteArray) (hs : s.size ≤ 4194304) (i : Nat) (hi : i ≤ s.size) (acc : List ByteArray) (ha : acc.length ≤ i) (f : Int) (cur : List Int) (hf : Since s f i cur) (R : List ByteArray)
    (h : Ev (fun k => octets_Words.l0 k s (if cur = [] then acc else acc ++ [strOfNums cur]) (-1) (wrap64 ((s.size : Int) + 1)) ((i + 1 : Nat) : Int)) R) :
    Ev (fun k => octets_Words.j1 k s acc f (i : Int) true (wrap64 ((s.size : Int) + 1)) (i : Int)) R := by
  have hw : wrap64 ((i : Int) + 1) = ((i + 1 : Nat) : Int) := by unfold wrap64; omega
  by_cases hc : cur = []
  · have e := hf.nil hc
    subst e
    rw [if_pos hc] at h
    refine Ev.step (f := fun k => octets_Words.j2 k s acc (-1) (i : Int) true (wrap64 ((s.size : Int) + 1)) (i : Int) false) (fun k => ?_) (Ev.step (fun k => ?_) h)
    · rw [octets_Words.j1, if_pos rfl]
      rfl
    · rw [octets_Words.j2, if_neg (by decide), if_pos rfl, hw]
  · obtain ⟨n, rfl, hn, hcc⟩ := hf.ne hc
    rw [if_neg hc] at h
    refine Ev.step (f := fun k => octets_Words.j2 k s acc (n : Int) (i : Int) true (wrap64 ((s.size : Int) + 1)) (i : Int) true) (fun k => ?_) (Ev.step (fun k => ?_) h)
    · rw [octets_Words.j1, if_pos rfl, show decide ((n : Int) ≥ 0) = true from decide_eq_true (by omega)]
    · rw [octets_Words.j2, if_pos rfl, if_pos (by omega), if_pos (by omega), if_pos (by omega), if_pos (by omega), hw, Int.toNat_natCast, Int.toNat_natCast, extract_cut, hcc]
theorem words_out (s : ByteArray) (hs : s.size ≤ 4194304) (i : Nat) (hi : i < s.size) (acc : List ByteArray) (f : Int) (cur : List Int) (hf : Since s f i cur) (R : List ByteArray)
    (h : ∀ f', Since s f' (i + 1) (cur ++ [(bytesOf s).getD i 0]) → Ev (fun k => octets_Words.l0 k s acc f' (wrap64 ((s.size : Int) + 1)) ((i + 1 : Nat) : Int)) R) :
    Ev (fun k => octets_Words.j1 k s acc f (i : Int) false (wrap64 ((s.size : Int) + 1)) (i : Int)) R := by
  have hw : wrap64 ((i : Int) + 1) = ((i + 1 : Nat) : Int) := by unfold wrap64; omega
  refine Ev.step (f := fun k => octets_Words.j2 k s acc f (i : Int) false (wrap64 ((s.size : Int) + 1)) (i : Int) false) (fun k => ?_) ?_
  · rw [octets_Words.j1, if_neg (by decide)]
  · rcases hf with ⟨rfl, rfl⟩ | ⟨n, rfl, hn, hi2, rfl⟩
    · refine Ev.step (fun k => ?_) (h (i : Int) (.inr ⟨i, rfl, by omega, by omega, by rw [cut_succ s i i (Nat.le_refl _) hi, cut_self]⟩))
      rw [octets_Words.j2, if_neg (by decide), if_neg (by decide), if_pos (by omega), hw]
    · refine Ev.step (fun k => ?_) (h (n : Int) (.inr ⟨n, rfl, by omega, by omega, by rw [cut_succ s n i (by omega) hi]⟩))
      rw [octets_Words.j2, if_neg (by decide), if_neg (by decide), if_neg (by omega), hw]
theorem words_l0 (s : ByteArray) (hs : s.size ≤ 4194304) (d : Nat) : ∀ (i : Nat) (f : Int) (acc : List ByteArray) (cur : List Int), i + d = s.size → Since s f i cur → acc.length ≤ i →
    Ev (fun k => octets_Words.l0 k s acc f (wrap64 ((s.size : Int) + 1)) (i : Int)) (acc ++ (wd ((bytesOf s).drop i) cur).map strOfNums) := by
  have hl := bytesOf_length s
  have hz : wrap64 ((s.size : Int) + 1) = ((s.size + 1 : Nat) : Int) := by unfold wrap64; omega
  induction d with
  | zero =>
    intro i f acc cur hi hf ha
    obtain rfl : i = s.size := by omega
    rw [List.drop_of_length_le (by omega)]
    refine Ev.step (f := fun k => octets_Words.j1 k s acc f (s.size : Int) true (wrap64 ((s.size : Int) + 1)) (s.size : Int)) (fun k => ?_) (words_in s hs s.size (Nat.le_refl _) acc ha f cur hf _ ?_)
    · rw [octets_Words.l0, if_pos (by rw [hz]; omega), if_pos rfl]
    · refine Ev.step (f := fun _ => some (acc ++ (wd [] cur).map strOfNums)) (fun k => ?_) (Ev.now _)
      rw [octets_Words.l0, if_neg (by rw [hz]; omega), wd]
      by_cases hc : cur = []
      · rw [if_pos hc, if_pos hc, List.map_nil, List.append_nil]
      · rw [if_neg hc, if_neg hc, List.map_cons, List.map_nil]
  | succ d ih =>
    intro i f acc cur hi hf ha
    have hcb := (Bytes.of s).at_ i
    obtain ⟨t, ht, hb⟩ := Option.map_eq_some_iff.1 (ix_bl hcb)
    rw [getD_drop (show i < (bytesOf s).length by omega), wd]
    refine Ev.step (f := fun k => octets_Words.j1 k s acc f (i : Int) (bl ((bytesOf s).getD i 0)) (wrap64 ((s.size : Int) + 1)) (i : Int)) (fun k => ?_) ?_
    · rw [octets_Words.l0, if_pos (by rw [hz]; omega), if_neg (by omega), if_pos (by omega), if_pos (by omega), bt_at', ht, Option.bind_some, hb]
    · cases hbl : bl ((bytesOf s).getD i 0)
      · rw [if_neg (by decide)]
        exact words_out s hs i (by omega) acc f cur hf _ fun f' hf' => ih (i + 1) f' acc _ (by omega) hf' (by omega)
      · rw [if_pos rfl]
        refine words_in s hs i (by omega) acc ha f cur hf _ ?_
        have := ih (i + 1) (-1) (if cur = [] then acc else acc ++ [strOfNums cur]) [] (by omega) (.inl ⟨rfl, rfl⟩) (by split <;> (try rw [List.length_append, List.length_singleton]) <;> omega)
        by_cases hc : cur = []
        · rw [if_pos hc] at this ⊢
          rw [if_pos hc]
          exact this
        · rw [if_neg hc] at this ⊢
          rw [if_neg hc]
          rw [List.append_assoc] at this
          exact this
theorem words_f (s : ByteArray) (hs : s.size ≤ 4194304) : Ev (fun k => octets_Words.f k s) ((wd (bytesOf s) []).map strOfNums) := by
  have := words_l0 s hs s.size 0 (-1) [] [] (by omega) (.inl ⟨rfl, rfl⟩) (Nat.le_refl _)
  rw [List.drop_zero, List.nil_append] at this
  exact this

theorem wd_len' : ∀ (l cur : List Int), (wd l cur).length ≤ l.length + 1 := by
  intro l
  induction l with
  | nil => intro cur; rw [wd]; split <;> simp
  | cons a t ih =>
    intro cur
    rw [wd]
    have h1 := ih []
    have h2 := ih (cur ++ [a])
    split
    · split
      · rw [List.length_cons]; omega
      · rw [List.length_cons, List.length_cons]; omega
    · rw [List.length_cons]; omega
end Go.Proofs.YtlaiggkgflbjhaaDoor.Pure
