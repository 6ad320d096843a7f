/- Sorted and without doubles: a list of texts is told by its members; a word put into a rising list, once. -/
import Derived.Test.YtlaiggkgflbjhaaDoorPBase
import Derived.Test.YtlaiggkgflbjhaaDoorXWTok
namespace Go.Proofs.YtlaiggkgflbjhaaDoor.Pure
open Go.RowKit Go.Proofs.YtlaiggkgflbjhaaDoorW.PrintWords Go.Proofs.YtlaiggkgflbjhaaDoorW.PrintWords Go.Proofs.YtlaiggkgflbjhaaDoorW.PrintLast Go.Proofs.YtlaiggkgflbjhaaDoorW.PrintMore

theorem bless (x y : List UInt8) : Op.bytesLess x y = decide (x < y) := by
  induction x generalizing y with
  | nil =>
    cases y with
    | nil => exact (decide_eq_false (List.lt_irrefl _)).symm
    | cons b y => exact (decide_eq_true (List.nil_lt_cons b y)).symm
  | cons a x ih =>
    cases y with
    | nil => exact (decide_eq_false (List.not_lt_nil _)).symm
    | cons b y =>
      rw [Op.bytesLess, ih, Bool.eq_iff_iff]
      simp only [Bool.or_eq_true, Bool.and_eq_true, decide_eq_true_eq, beq_iff_eq]
      exact List.cons_lt_cons_iff.symm

/-! Rising lists -/
abbrev rise (a b : ByteArray) : Prop := a.data.toList < b.data.toList
theorem data_inj {a b : ByteArray} (h : a.data.toList = b.data.toList) : a = b := toList_inj.1 (by rw [toList_data, toList_data, h])
theorem rise_irrefl (a : ByteArray) : ¬ rise a a := List.lt_irrefl _
theorem rise_trans {a b c : ByteArray} (h : rise a b) (k : rise b c) : rise a c := List.lt_trans h k
theorem rise_tri {a b : ByteArray} (h : ¬ rise a b) (k : a ≠ b) : rise b a := Std.lt_of_le_of_ne (show b.data.toList ≤ a.data.toList from h) fun e => k (data_inj e.symm)
theorem rise_ext : ∀ {l m : List ByteArray}, l.Pairwise rise → m.Pairwise rise → (∀ x, x ∈ l ↔ x ∈ m) → l = m
  | [], [], _, _, _ => rfl
  | [], b :: m, _, _, h => absurd ((h b).2 (by simp)) (by simp)
  | a :: l, [], _, _, h => absurd ((h a).1 (by simp)) (by simp)
  | a :: l, b :: m, hl, hm, h => by
    rw [List.pairwise_cons] at hl hm
    have e : a = b := by
      have h1 := (h a).1 (by simp)
      have h2 := (h b).2 (by simp)
      rw [List.mem_cons] at h1 h2
      rcases h1 with h1 | h1
      · exact h1
      · rcases h2 with h2 | h2
        · exact h2.symm
        · exact absurd (rise_trans (hm.1 a h1) (hl.1 b h2)) (rise_irrefl b)
    subst e
    rw [rise_ext hl.2 hm.2 fun x => ?_]
    constructor
    · intro hx
      rcases List.mem_cons.1 ((h x).1 (List.mem_cons_of_mem a hx)) with e | e
      · exact absurd (e ▸ hl.1 x hx) (rise_irrefl _)
      · exact e
    · intro hx
      rcases List.mem_cons.1 ((h x).2 (List.mem_cons_of_mem a hx)) with e | e
      · exact absurd (e ▸ hm.1 x hx) (rise_irrefl _)
      · exact e

/-! Compact of what is sorted -/
theorem comp_lt (zs : List (List UInt8)) (h : zs.Pairwise fun x y => x ≤ y) : (Lib.compact zs).Pairwise fun x y => x < y := by
  unfold Lib.compact Lib.compactUpTo
  rw [List.pairwise_map, List.pairwise_filter]
  refine List.Pairwise.imp_of_mem (fun {i j} hi hj hij ki kj => ?_) List.pairwise_lt_range
  have hi' := List.mem_range.1 hi
  have hj' := List.mem_range.1 hj
  have hk := of_decide_eq_true kj
  have hpw := List.pairwise_iff_getElem.1 h
  rcases hk with hk | hk
  · omega
  have ej : zs.toArray[j]! = zs[j] := by simp [hj']
  have ej1 : zs.toArray[j - 1]! = zs[j - 1]'(by omega) := by simp [show j - 1 < zs.length by omega]
  have ei : zs.toArray[i]! = zs[i] := by simp [hi']
  rw [ej, ej1] at hk
  have h1 : zs[j - 1]'(by omega) < zs[j] := Std.lt_of_le_of_ne (hpw (j - 1) j (by omega) hj' (by omega)) (Ne.symm hk)
  show zs.toArray[i]! < zs.toArray[j]!
  rw [ei, ej]
  by_cases hij2 : i = j - 1
  · subst hij2
    exact h1
  · exact List.lt_of_le_of_lt (hpw i (j - 1) hi' (by omega) (by omega)) h1
theorem comp_first (zs : List (List UInt8)) (x : List UInt8) : ∀ n : Nat, n < zs.length → zs.toArray[n]! = x → ∃ j : Nat, j < zs.length ∧ Lib.keeps zs.toArray j = true ∧ zs.toArray[j]! = x
  | 0, h, e => ⟨0, h, by simp [Lib.keeps], e⟩
  | n + 1, h, e => by
    by_cases hx : zs.toArray[n]! = x
    · exact comp_first zs x n (by omega) hx
    · refine ⟨n + 1, h, ?_, e⟩
      refine decide_eq_true (.inr ?_)
      rw [e, Nat.add_sub_cancel]
      exact fun k => hx k.symm
theorem comp_mem (zs : List (List UInt8)) (x : List UInt8) : x ∈ Lib.compact zs ↔ x ∈ zs := by
  unfold Lib.compact Lib.compactUpTo
  rw [List.mem_map]
  constructor
  · rintro ⟨j, hj, rfl⟩
    have := List.mem_range.1 (List.mem_filter.1 hj).1
    have ej : zs.toArray[j]! = zs[j] := by simp [this]
    rw [ej]
    exact List.getElem_mem this
  · intro hx
    obtain ⟨n, hn, e⟩ := List.getElem_of_mem hx
    obtain ⟨j, hj, hk, e2⟩ := comp_first zs x n hn (by simp [hn, e])
    exact ⟨j, List.mem_filter.2 ⟨List.mem_range.2 hj, hk⟩, e2⟩

/-! The list of all, rising, without doubles -/
def canon (l : List ByteArray) : List ByteArray := compS (sortS l)
theorem canon_eq (l : List ByteArray) : canon l = strsB (Lib.compact ((strsL l).mergeSort fun x y => decide (x ≤ y))) := by
  unfold canon compS sortS
  rw [strsL_strsB]
theorem mem_strsB (l : List (List UInt8)) (x : ByteArray) : x ∈ strsB l ↔ x.data.toList ∈ l := by
  unfold strsB
  rw [List.mem_map]
  constructor
  · rintro ⟨y, hy, rfl⟩
    exact hy
  · intro h
    exact ⟨_, h, by cases x; rfl⟩
theorem canon_rise (l : List ByteArray) : (canon l).Pairwise rise := by
  rw [canon_eq]
  unfold strsB
  rw [List.pairwise_map]
  refine comp_lt _ ?_
  refine (List.pairwise_mergeSort (fun a b c h k => ?_) (fun a b => ?_) _).imp fun {a b} h => of_decide_eq_true h
  · exact decide_eq_true (List.le_trans (of_decide_eq_true h) (of_decide_eq_true k))
  · rw [Bool.or_eq_true, decide_eq_true_eq, decide_eq_true_eq]
    exact List.le_total a b
theorem canon_mem (l : List ByteArray) (x : ByteArray) : x ∈ canon l ↔ x ∈ l := by
  rw [canon_eq, mem_strsB, comp_mem, List.Perm.mem_iff (List.mergeSort_perm _ _)]
  unfold strsL
  rw [List.mem_map]
  constructor
  · rintro ⟨y, hy, e⟩
    exact data_inj e ▸ hy
  · intro h
    exact ⟨x, h, rfl⟩
theorem canon_ext {l m : List ByteArray} (h : ∀ x, x ∈ l ↔ x ∈ m) : canon l = canon m :=
  rise_ext (canon_rise l) (canon_rise m) fun x => by rw [canon_mem, canon_mem, h]
theorem canon_len (l : List ByteArray) : (canon l).length ≤ l.length := by
  unfold canon compS strsB
  rw [List.length_map]
  have := compact_len (strsL (sortS l))
  unfold strsL at this ⊢
  rw [List.length_map, sortS_length] at this
  exact this

/-! A word into a rising list, once -/
def ins (s : ByteArray) : List ByteArray → List ByteArray
  | [] => [s]
  | a :: t => if rise a s then a :: ins s t else if a = s then a :: t else s :: a :: t
theorem ins_mem (s x : ByteArray) (l : List ByteArray) : x ∈ ins s l ↔ x = s ∨ x ∈ l := by
  induction l with
  | nil => simp [ins]
  | cons a t ih =>
    rw [ins]
    split
    · rw [List.mem_cons, ih, List.mem_cons]
      constructor
      · rintro (h | h | h) <;> simp [h]
      · rintro (h | h | h) <;> simp [h]
    · split
      · rename_i e
        subst e
        simp
      · simp
theorem ins_rise (s : ByteArray) (l : List ByteArray) (h : l.Pairwise rise) : (ins s l).Pairwise rise := by
  induction l with
  | nil => exact List.pairwise_singleton _ _
  | cons a t ih =>
    rw [List.pairwise_cons] at h
    rw [ins]
    split
    · rename_i hr
      rw [List.pairwise_cons]
      refine ⟨fun x hx => ?_, ih h.2⟩
      rcases (ins_mem s x t).1 hx with e | e
      · rw [e]; exact hr
      · exact h.1 x e
    · rename_i hr
      split
      · exact List.pairwise_cons.2 h
      · rename_i hne
        have hs := rise_tri hr hne
        rw [List.pairwise_cons, List.pairwise_cons]
        refine ⟨fun x hx => ?_, h⟩
        rcases List.mem_cons.1 hx with e | e
        · rw [e]; exact hs
        · exact rise_trans hs (h.1 x e)
theorem ins_len (s : ByteArray) (l : List ByteArray) : (ins s l).length ≤ l.length + 1 := by
  induction l with
  | nil => exact Nat.le_refl _
  | cons a t ih =>
    rw [ins]
    split
    · rw [List.length_cons, List.length_cons]; omega
    · split <;> simp only [List.length_cons] <;> omega
theorem ins_all (l : List ByteArray) : ∀ acc : List ByteArray, acc.Pairwise rise → (l.foldl (fun m s => ins s m) acc).Pairwise rise ∧ ∀ x, x ∈ l.foldl (fun m s => ins s m) acc ↔ x ∈ acc ∨ x ∈ l := by
  induction l with
  | nil => intro acc h; exact ⟨h, fun x => by simp⟩
  | cons a t ih =>
    intro acc h
    have := ih (ins a acc) (ins_rise a acc h)
    refine ⟨this.1, fun x => ?_⟩
    rw [List.foldl_cons, this.2 x, ins_mem, List.mem_cons]
    constructor
    · rintro ((h | h) | h) <;> simp [h]
    · rintro (h | h | h) <;> simp [h]
theorem ins_canon (l : List ByteArray) : l.foldl (fun m s => ins s m) [] = canon l := by
  have := ins_all l [] List.Pairwise.nil
  exact rise_ext this.1 (canon_rise l) fun x => by rw [this.2 x, canon_mem]; simp
end Go.Proofs.YtlaiggkgflbjhaaDoor.Pure
