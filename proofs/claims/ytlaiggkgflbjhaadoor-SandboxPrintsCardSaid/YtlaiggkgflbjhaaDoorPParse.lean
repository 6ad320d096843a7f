/- What sandbox.Parse computes: the flags that no word takes off, and the words that are no tokens, rising. -/
import Derived.Test.YtlaiggkgflbjhaaDoorPWords
import Derived.Test.YtlaiggkgflbjhaaDoorPStrSort
import Derived.Test.YtlaiggkgflbjhaaDoorPSand
namespace Go.Proofs.YtlaiggkgflbjhaaDoor.Pure
open Go.RowKit Go.Proofs.YtlaiggkgflbjhaaDoor.X Go.Proofs.YtlaiggkgflbjhaaDoorW.PrintWords Go.Proofs.YtlaiggkgflbjhaaDoorW.PrintLast Go.Proofs.YtlaiggkgflbjhaaDoorW.PrintMore

theorem drop_at {α : Type} (z : α) {l : List α} {i : Nat} (h : i < l.length) : l.drop i = l.getD i z :: l.drop (i + 1) := by
  rw [List.drop_eq_getElem_cons h, List.getD_eq_getElem?_getD, List.getElem?_eq_getElem h]
  rfl
/-! Words' sizes -/
theorem wd_size : ∀ (l cur : List Int), ((wd l cur).map fun w => w.length + 1).sum ≤ l.length + cur.length + 1 := by
  intro l
  induction l with
  | nil =>
    intro cur
    rw [wd]
    split
    · simp
    · simp
  | cons a t ih =>
    intro cur
    rw [wd, List.length_cons]
    split
    · split
      · have := ih []
        rw [List.length_nil] at this
        omega
      · have := ih []
        rw [List.length_nil] at this
        rw [List.map_cons, List.sum_cons]
        omega
    · have := ih (cur ++ [a])
      rw [List.length_append, List.length_singleton] at this
      omega
theorem sum_mem (l : List (List Int)) (w : List Int) (h : w ∈ l) : w.length + 1 ≤ (l.map fun w => w.length + 1).sum := by
  induction l with
  | nil => cases h
  | cons a t ih =>
    rw [List.map_cons, List.sum_cons]
    rcases List.mem_cons.1 h with rfl | h
    · omega
    · have := ih h
      omega
theorem sum_len (l : List (List Int)) : l.length ≤ (l.map fun w => w.length + 1).sum := by
  induction l with
  | nil => simp
  | cons a t ih =>
    rw [List.map_cons, List.sum_cons, List.length_cons]
    omega
/-- A word's own: not empty, no white space in it. -/
theorem wd_ok : ∀ (l cur : List Int), (∀ c ∈ cur, bl c = false) → ∀ w ∈ wd l cur, w ≠ [] ∧ (∀ c ∈ w, bl c = false) ∧ (∀ c ∈ w, c ∈ cur ∨ c ∈ l) := by
  intro l
  induction l with
  | nil =>
    intro cur hc w hw
    rw [wd] at hw
    split at hw
    · cases hw
    · rename_i hne
      obtain rfl := List.mem_singleton.1 hw
      exact ⟨hne, hc, fun c h => .inl h⟩
  | cons a t ih =>
    intro cur hc w hw
    rw [wd] at hw
    have nilok := ih [] (fun c h => by cases h)
    have up : ∀ w ∈ wd t [], w ≠ [] ∧ (∀ c ∈ w, bl c = false) ∧ (∀ c ∈ w, c ∈ cur ∨ c ∈ a :: t) := fun w hw => by
      obtain ⟨h1, h2, h3⟩ := nilok w hw
      refine ⟨h1, h2, fun c h => .inr ?_⟩
      rcases h3 c h with e | e
      · cases e
      · exact List.mem_cons_of_mem a e
    split at hw
    · split at hw
      · exact up w hw
      · rename_i hne
        rcases List.mem_cons.1 hw with rfl | hw
        · exact ⟨hne, hc, fun c h => .inl h⟩
        · exact up w hw
    · rename_i hbl
      obtain ⟨h1, h2, h3⟩ := ih (cur ++ [a]) (fun c h => by
        rcases List.mem_append.1 h with h | h
        · exact hc c h
        · obtain rfl := List.mem_singleton.1 h
          exact Bool.eq_false_iff.2 hbl) w hw
      refine ⟨h1, h2, fun c h => ?_⟩
      rcases h3 c h with e | e
      · rcases List.mem_append.1 e with e | e
        · exact .inl e
        · obtain rfl := List.mem_singleton.1 e
          exact .inr (by simp)
      · exact .inr (List.mem_cons_of_mem a e)

/-! Tokens' flags -/
def offN (v : ByteArray) : Nat := (tokOff (tokIdx v).toNat).toNat
theorem tokOff_ok (i : Nat) : 0 ≤ tokOff i ∧ tokOff i < 32768 := by
  by_cases h : i < 14
  · have : ∀ j : Fin 14, 0 ≤ tokOff j.val ∧ tokOff j.val < 32768 := by decide +kernel
    exact this ⟨i, h⟩
  · have : tokOff i = 0 := by
      unfold tokOff
      rw [List.getD_eq_getElem?_getD, List.getElem?_eq_none (by simp only [tokTab, List.length_cons, List.length_nil]; omega)]
      rfl
    omega
theorem offN_eq (v : ByteArray) : tokOff (tokIdx v).toNat = (offN v : Int) := by
  have := (tokOff_ok (tokIdx v).toNat).1
  unfold offN
  omega
theorem offN_lt (v : ByteArray) : offN v < 32768 := by
  have := tokOff_ok (tokIdx v).toNat
  unfold offN
  omega
def stepF (f : Nat) (v : ByteArray) : Nat := if tokIdx v < 0 then f else an f (offN v)
def flF (L : List ByteArray) (f : Nat) : Nat := L.foldl stepF f
def unk (L : List ByteArray) : List ByteArray := L.filter fun v => decide (tokIdx v < 0)
theorem an_le (a b : Nat) : an a b ≤ a := Nat.and_le_left
theorem stepF_le (f : Nat) (v : ByteArray) : stepF f v ≤ f := by
  unfold stepF
  split
  · exact Nat.le_refl _
  · exact an_le _ _
theorem flF_le (L : List ByteArray) : ∀ f : Nat, flF L f ≤ f := by
  induction L with
  | nil => exact fun f => Nat.le_refl _
  | cons v t ih => exact fun f => Nat.le_trans (ih (stepF f v)) (stepF_le f v)
theorem stepF_bit (f : Nat) (v : ByteArray) (hf : f < 4294967296) (i : Nat) : (stepF f v).testBit i = (f.testBit i && (decide (tokIdx v < 0) || !(offN v).testBit i)) := by
  unfold stepF
  have := offN_lt v
  by_cases h : tokIdx v < 0
  · rw [if_pos h, decide_eq_true h, Bool.true_or, Bool.and_true]
  · rw [if_neg h, decide_eq_false h, Bool.false_or, an_bit f _ i hf (by omega)]
theorem flF_bit (L : List ByteArray) (i : Nat) : ∀ f : Nat, f < 4294967296 → (flF L f).testBit i = (f.testBit i && L.all fun v => decide (tokIdx v < 0) || !(offN v).testBit i) := by
  induction L with
  | nil => intro f _; rw [List.all_nil, Bool.and_true]; rfl
  | cons v t ih =>
    intro f hf
    have h := stepF_le f v
    have := ih (stepF f v) (by omega)
    rw [List.all_cons, ← Bool.and_assoc, ← stepF_bit f v hf i, ← this]
    rfl
theorem all_ext {L M : List ByteArray} (h : ∀ v, v ∈ L ↔ v ∈ M) (p : ByteArray → Bool) : L.all p = M.all p := by
  rw [Bool.eq_iff_iff, List.all_eq_true, List.all_eq_true]
  exact ⟨fun k v hv => k v ((h v).2 hv), fun k v hv => k v ((h v).1 hv)⟩
theorem flF_ext {L M : List ByteArray} (h : ∀ v, v ∈ L ↔ v ∈ M) (f : Nat) (hf : f < 4294967296) : flF L f = flF M f :=
  Nat.eq_of_testBit_eq fun i => by rw [flF_bit L i f hf, flF_bit M i f hf, all_ext h]
theorem unk_ext {L M : List ByteArray} (h : ∀ v, v ∈ L ↔ v ∈ M) : canon (unk L) = canon (unk M) :=
  canon_ext fun x => by
    unfold unk
    rw [List.mem_filter, List.mem_filter, h]

/-! Parse -/
def lw (x : ByteArray) : ByteArray := strOfNums ((bytesOf x).map low)
def ws (s : ByteArray) : List ByteArray := (wd (bytesOf s) []).map strOfNums
def wl (s : ByteArray) : List ByteArray := (ws s).map lw
theorem ws_small (s : ByteArray) : ∀ x ∈ ws s, x.size ≤ s.size := by
  intro x hx
  obtain ⟨w, hw, rfl⟩ := List.mem_map.1 hx
  have h1 := sum_mem _ w hw
  have h2 := wd_size (bytesOf s) []
  rw [bytesOf_length, List.length_nil] at h2
  rw [size_str]
  omega
theorem ws_len (s : ByteArray) : (ws s).length ≤ s.size + 1 := by
  have h1 := sum_len (wd (bytesOf s) [])
  have h2 := wd_size (bytesOf s) []
  rw [bytesOf_length, List.length_nil] at h2
  unfold ws
  rw [List.length_map]
  omega
theorem parse_l0 (W : List ByteArray) (hn : W.length ≤ 8388608) (hs : ∀ x ∈ W, x.size ≤ 8388608) (d : Nat) : ∀ (i f : Nat) (un : List ByteArray), i + d = W.length → f < 4294967296 → un.length ≤ i →
    Ev (fun k => sandbox_Parse.l0 k (f : Int) un W (W.length : Int) (i : Int)) (((flF ((W.drop i).map lw) f : Nat) : Int), canon (un ++ unk ((W.drop i).map lw))) := by
  induction d with
  | zero =>
    intro i f un hi hf hu
    obtain rfl : i = W.length := by omega
    rw [List.drop_of_length_le (Nat.le_refl _)]
    refine Ev.step (f := fun _ => some ((f : Int), compS (sortS un))) (fun k => ?_) ?_
    · rw [sandbox_Parse.l0, if_neg (by omega), if_pos (by omega)]
    · rw [List.map_nil, show unk [] = [] from rfl, List.append_nil]
      exact Ev.now _
  | succ d ih =>
    intro i f un hi hf hu
    have hw : wrap64 ((i : Int) + 1) = ((i + 1 : Nat) : Int) := by unfold wrap64; omega
    have hiW : i < W.length := by omega
    have hx : rdOf ByteArray.empty W (i : Int) = W.getD i ByteArray.empty := by unfold rdOf; rw [Int.toNat_natCast]
    have hm : W.getD i ByteArray.empty ∈ W := by
      rw [List.getD_eq_getElem?_getD, List.getElem?_eq_getElem hiW]
      exact List.getElem_mem hiW
    have hsz := hs _ hm
    have hl : octets_Lower.f (rdOf ByteArray.empty W (i : Int)) = some (lw (W.getD i ByteArray.empty)) := by rw [hx]; exact lower_f _ (by omega)
    rw [drop_at ByteArray.empty hiW, List.map_cons]
    generalize hv : lw (W.getD i ByteArray.empty) = v at *
    by_cases hk : tokIdx v < 0
    · have h := ih (i + 1) f (un ++ [v]) (by omega) hf (by rw [List.length_append, List.length_singleton]; omega)
      rw [show flF (v :: (W.drop (i + 1)).map lw) f = flF ((W.drop (i + 1)).map lw) f from by show flF _ (stepF f v) = _; unfold stepF; rw [if_pos hk]]
      rw [show unk (v :: (W.drop (i + 1)).map lw) = v :: unk ((W.drop (i + 1)).map lw) from List.filter_cons_of_pos (decide_eq_true hk)]
      rw [List.append_assoc] at h
      refine Ev.step (fun k => ?_) h
      rw [sandbox_Parse.l0, if_pos (by omega), if_pos (by omega), if_pos (by omega), hl, Option.bind_some, sandbox_Parse.idx, Option.bind_some, if_pos hk, if_pos (by omega), hw]
    · have ho := offN_lt v
      have hle := an_le f (offN v)
      have h := ih (i + 1) (an f (offN v)) un (by omega) (by omega) (by omega)
      rw [show flF (v :: (W.drop (i + 1)).map lw) f = flF ((W.drop (i + 1)).map lw) (an f (offN v)) from by show flF _ (stepF f v) = _; unfold stepF; rw [if_neg hk]]
      rw [show unk (v :: (W.drop (i + 1)).map lw) = unk ((W.drop (i + 1)).map lw) from List.filter_cons_of_neg (by rw [decide_eq_true_eq]; exact hk)]
      refine Ev.step (fun k => ?_) h
      rw [sandbox_Parse.l0, if_pos (by omega), if_pos (by omega), if_pos (by omega), hl, Option.bind_some, sandbox_Parse.idx, Option.bind_some, if_neg hk, sandbox_Parse.off, Option.bind_some, offN_eq, an_u32 f _ hf (by omega), hw]
theorem parse_f (s : ByteArray) (hs : s.size ≤ 4194304) : Ev (fun k => sandbox_Parse.f k s) (((flF (wl s) 65535 : Nat) : Int), canon (unk (wl s))) := by
  have hl := ws_len s
  have h := parse_l0 (ws s) (by omega) (fun x hx => by have := ws_small s x hx; omega) (ws s).length 0 65535 [] (by omega) (by omega) (Nat.le_refl _)
  rw [List.drop_zero, List.nil_append] at h
  exact Ev.bind (words_f s hs) h
end Go.Proofs.YtlaiggkgflbjhaaDoor.Pure
