/- What headers.Check, Print, Parse compute; Parse of Print is the list. -/
import Derived.Test.YtjadlnmphcoioaaDoorPHead
import Derived.Test.YtjadlnmphcoioaaDoorX8
import Derived.Test.YtjadlnmphcoioaaDoorX8
namespace Go.Proofs.YtjadlnmphcoioaaDoor.Pure
open Go.RowKit Go.Proofs.YtjadlnmphcoioaaDoor.X Go.Proofs.YtjadlnmphcoioaaDoorW.PrintWords Go.Proofs.YtjadlnmphcoioaaDoorW.PrintLast Go.Proofs.YtjadlnmphcoioaaDoorW.PrintMore

def Small (h : Hd) : Prop := h.f0.size ≤ 1048576 ∧ h.f1.size ≤ 1048576
def ok1 (h : Hd) : Prop := oneOf h.f0 h.f1 = 0
theorem rd_at (l : List Hd) (i : Nat) (hi : i < l.length) : rd_T63 l (i : Int) = l[i]'hi := by
  unfold rd_T63
  rw [Int.toNat_natCast, List.getD_eq_getElem?_getD, List.getElem?_eq_getElem hi]
  rfl

/-! Check -/
theorem check_l0 (l : List Hd) (hl : l.length ≤ 1048576) (hs : ∀ h ∈ l, Small h) (d : Nat) : ∀ (i : Nat), i + d = l.length →
    ∃ e at_ : Int, Ev (fun k => headers_Check.l0 k l (l.length : Int) (i : Int)) (e, at_) ∧ (e = 0 ↔ ∀ h ∈ l.drop i, ok1 h) := by
  induction d with
  | zero =>
    intro i hi
    refine ⟨0, 0, Ev.step (f := fun _ => some (0, 0)) (fun k => ?_) (Ev.now _), ?_⟩
    · rw [headers_Check.l0, if_neg (by omega)]
    · rw [List.drop_of_length_le (by omega)]
      simp
  | succ d ih =>
    intro i hi
    have hi' : i < l.length := by omega
    obtain ⟨h0, h1⟩ := hs _ (List.getElem_mem hi')
    have hw : wrap64 ((i : Int) + 1) = ((i + 1 : Nat) : Int) := by unfold wrap64; omega
    have e1 : ∀ k, headers_Check.l0 (k + 1) l (l.length : Int) (i : Int) = (headers_one.f k (l[i]'hi').f0 (l[i]'hi').f1).bind fun t => if t = 0 then headers_Check.l0 k l (l.length : Int) ((i + 1 : Nat) : Int) else some (t, (i : Int)) := fun k => by
      rw [headers_Check.l0, if_pos (by omega), if_pos (by omega), if_pos (by omega), rd_at l i hi', hw]
    have ho := one_f _ _ h0 h1
    rw [List.drop_eq_getElem_cons hi']
    by_cases h : oneOf (l[i]'hi').f0 (l[i]'hi').f1 = 0
    · obtain ⟨e, a, he, hiff⟩ := ih (i + 1) (by omega)
      refine ⟨e, a, Ev.step e1 (Ev.bind ho (ev_pos h he)), ?_⟩
      rw [hiff]
      refine ⟨fun H x hx => ?_, fun H x hx => H x (List.mem_cons_of_mem _ hx)⟩
      rcases List.mem_cons.1 hx with rfl | h2
      · exact h
      · exact H x h2
    · refine ⟨_, (i : Int), Ev.step e1 (Ev.bind ho (Ev.congr (fun _ => if_neg h) (Ev.now _))), ?_⟩
      exact ⟨fun H => absurd H h, fun H => absurd (H _ (List.mem_cons_self ..)) h⟩
theorem check_f (l : List Hd) (hl : l.length ≤ 1048576) (hs : ∀ h ∈ l, Small h) :
    ∃ e at_ : Int, Ev (fun k => headers_Check.f k l) (e, at_) ∧ (e = 0 ↔ l.length ≤ 256 ∧ ∀ h ∈ l, ok1 h) := by
  by_cases h : (l.length : Int) > 256
  · refine ⟨3, 0, Ev.congr (fun k => ?_) (Ev.now _), ?_⟩
    · rw [headers_Check.f, if_pos h]
    · exact ⟨fun H => by omega, fun H => by omega⟩
  · obtain ⟨e, a, he, hiff⟩ := check_l0 l hl hs l.length 0 (by omega)
    refine ⟨e, a, Ev.congr (fun k => ?_) he, ?_⟩
    · rw [headers_Check.f, if_neg h]
      rfl
    · rw [hiff, List.drop_zero]
      exact ⟨fun H => ⟨by omega, H⟩, fun H => H.2⟩

/-! Print -/
def prH (h : Hd) : List Int := bytesOf h.f0 ++ (58 :: 32 :: bytesOf h.f1 ++ [13, 10])
def prL (l : List Hd) : List Int := l.flatMap prH
theorem bytesOf_app (a b : ByteArray) : bytesOf (a ++ b) = bytesOf a ++ bytesOf b := by
  unfold bytesOf
  rw [ByteArray.data_append, Array.toList_append, List.map_append]
theorem prH_bytes (h : Hd) : Bytes (prH h) := by
  unfold prH
  refine (Bytes.of _).append ?_
  refine Bytes.append (Bytes.cons (by omega) (Bytes.cons (by omega) (Bytes.of _))) ?_
  exact Bytes.cons (by omega) (Bytes.cons (by omega) Bytes.nil)
theorem prL_bytes (l : List Hd) : Bytes (prL l) := fun x hx => by
  obtain ⟨h, _, h2⟩ := List.mem_flatMap.1 hx
  exact prH_bytes h x h2
theorem prH_len (h : Hd) : (prH h).length = h.f0.size + h.f1.size + 4 := by
  unfold prH
  simp only [List.length_append, List.length_cons, List.length_nil, bytesOf_length]
  omega
theorem prL_len (l : List Hd) (hs : ∀ h ∈ l, Small h) : (prL l).length ≤ l.length * 2097156 := by
  induction l with
  | nil => simp [prL]
  | cons a l ih =>
    have h1 := hs a (List.mem_cons_self ..)
    have h2 := ih (fun h hh => hs h (List.mem_cons_of_mem _ hh))
    have e : prL (a :: l) = prH a ++ prL l := rfl
    rw [e, List.length_append, prH_len, List.length_cons]
    unfold Small at h1
    omega
theorem print_l0 (l : List Hd) (hl : l.length ≤ 1048576) (hs : ∀ h ∈ l, Small h) (d : Nat) : ∀ (i : Nat) (acc : List Int), i + d = l.length → acc.length ≤ i * 2097156 →
    Ev (fun k => headers_Print.l0 k acc l (l.length : Int) (i : Int)) (acc ++ prL (l.drop i), 0) := by
  induction d with
  | zero =>
    intro i acc hi ha
    rw [List.drop_of_length_le (by omega)]
    refine Ev.step (f := fun _ => some (acc, 0)) (fun k => ?_) (ev_some (by simp [prL]))
    rw [headers_Print.l0, if_neg (by omega)]
  | succ d ih =>
    intro i acc hi ha
    have hi' : i < l.length := by omega
    have hm := hs _ (List.getElem_mem hi')
    have hw : wrap64 ((i : Int) + 1) = ((i + 1 : Nat) : Int) := by unfold wrap64; omega
    have hp := prH_len (l[i]'hi')
    have hrd := rd_at l i hi'
    rw [List.drop_eq_getElem_cons hi']
    generalize l[i]'hi' = h at *
    obtain ⟨h0, h1⟩ := hm
    have hb : bytesOf (((h.f0 ++ (⟨#[58, 32]⟩ : ByteArray)) ++ h.f1) ++ (⟨#[13, 10]⟩ : ByteArray)) = prH h := by
      rw [bytesOf_app, bytesOf_app, bytesOf_app]
      unfold prH
      rw [show bytesOf (⟨#[58, 32]⟩ : ByteArray) = [58, 32] by rfl, show bytesOf (⟨#[13, 10]⟩ : ByteArray) = [13, 10] by rfl]
      simp
    have s1 : (h.f0 ++ (⟨#[58, 32]⟩ : ByteArray)).size = h.f0.size + 2 := by rw [ByteArray.size_append]; rfl
    have s2 : ((h.f0 ++ (⟨#[58, 32]⟩ : ByteArray)) ++ h.f1).size = h.f0.size + 2 + h.f1.size := by rw [ByteArray.size_append, s1]
    have s3 : (((h.f0 ++ (⟨#[58, 32]⟩ : ByteArray)) ++ h.f1) ++ (⟨#[13, 10]⟩ : ByteArray)).size = h.f0.size + 2 + h.f1.size + 2 := by rw [ByteArray.size_append, s2]; rfl
    have hstep : ∀ k, headers_Print.l0 (k + 1) acc l (l.length : Int) (i : Int) = headers_Print.l0 k (acc ++ prH h) l (l.length : Int) ((i + 1 : Nat) : Int) := fun k => by
      rw [headers_Print.l0, if_pos (by omega), if_pos (by omega), if_pos (by omega), hrd, if_pos (by omega), if_pos (by omega), if_pos (by omega), if_pos (by omega), hb, hw]
    have := ih (i + 1) (acc ++ prH h) (by omega) (by rw [List.length_append, hp]; omega)
    rw [List.append_assoc] at this
    exact Ev.step hstep this
/-- Print: the lines where the list may be, else an error. -/
theorem print_good (l : List Hd) (hl : l.length ≤ 256) (hs : ∀ h ∈ l, Small h) (hg : ∀ h ∈ l, ok1 h) : Ev (fun k => headers_Print.f k l) (prL l, 0) := by
  obtain ⟨e, a, he, hiff⟩ := check_f l (by omega) hs
  obtain rfl : e = 0 := hiff.2 ⟨hl, hg⟩
  have := print_l0 l (by omega) hs l.length 0 [] (by omega) (by simp)
  rw [List.drop_zero, List.nil_append] at this
  exact Ev.bind he (ev_pos rfl this)
theorem print_bad (l : List Hd) (hl : l.length ≤ 1048576) (hs : ∀ h ∈ l, Small h) (hb : ¬ (l.length ≤ 256 ∧ ∀ h ∈ l, ok1 h)) : ∃ e : Int, e ≠ 0 ∧ Ev (fun k => headers_Print.f k l) ([], e) := by
  obtain ⟨e, a, he, hiff⟩ := check_f l hl hs
  have h0 : e ≠ 0 := fun h => hb (hiff.1 h)
  exact ⟨e, h0, Ev.bind he (Ev.congr (fun _ => if_neg h0) (Ev.now _))⟩

/-! the same list -/
theorem sameh_l0 (l : List Hd) (hn : l.length ≤ 1048576) (d : Nat) : ∀ (i : Nat), i + d = l.length → Ev (fun k => pergolaplain_SameHeaders.l0 k l l (i : Int)) true := by
  induction d with
  | zero =>
    intro i hi
    refine Ev.step (f := fun _ => some true) (fun k => ?_) (Ev.now _)
    rw [pergolaplain_SameHeaders.l0, if_neg (by omega)]
  | succ d ih =>
    intro i hi
    have hw : wrap64 ((i : Int) + 1) = ((i + 1 : Nat) : Int) := by unfold wrap64; omega
    refine Ev.step (fun k => ?_) (ih (i + 1) (by omega))
    rw [pergolaplain_SameHeaders.l0, if_pos (by omega), if_pos (by omega), if_pos (by omega), if_neg (by simp), hw]
theorem sameh_f (l : List Hd) (hn : l.length ≤ 1048576) : Ev (fun k => pergolaplain_SameHeaders.f k l l) true :=
  Ev.congr (fun k => by rw [pergolaplain_SameHeaders.f, if_pos rfl]; rfl) (sameh_l0 l hn l.length 0 (by omega))

/-! Parse -/
theorem str_nil (s : List Int) : (strOfNums s).toList = ([] : List UInt8) ↔ s = [] := by
  rw [toList_data, str_data]
  exact ⟨fun h => List.map_eq_nil_iff.1 h, fun h => by rw [h]; rfl⟩
theorem len256 (n : Nat) : ((n : Int) == 256) = decide (n = 256) := by
  rw [Bool.eq_iff_iff]
  simp
  omega
theorem parse_any (l : List Int) (hl : Bytes l) (hn : l.length ≤ 1048576) : ∀ (d i : Nat) (out : List Hd), i + d = l.length → out.length ≤ 256 → (∀ h ∈ out, Small h ∧ ok1 h) →
    ∃ (m : List Hd) (e at_ : Int), Ev (fun k => headers_Parse.l0 k l out (i : Int)) (m, e, at_) ∧ 0 ≤ at_ ∧ at_ ≤ (l.length : Int) ∧ (e = 0 → m.length ≤ 256 ∧ ∀ h ∈ m, Small h ∧ ok1 h) ∧ (e ≠ 0 → m = []) := by
  intro d
  induction d using Nat.strongRecOn with
  | ind d ih =>
    intro i out hi ho hg
    by_cases hil : i < l.length
    · obtain ⟨s, nxt, hline, hsb, hsl, hin, hnl⟩ := line_any l hl hn i hil
      have e1 : ∀ k, headers_Parse.l0 (k + 1) l out (i : Int) = if (strOfNums s).toList = ([] : List UInt8) then some (out, 0, (nxt : Int)) else ((headers_one.f k (cutAt (strOfNums s) 58).1 (around (cutAt (strOfNums s) 58).2.1 n4)).bind fun t => (if (cutAt (strOfNums s) 58).2.2 = true then (if t = 0 then headers_Parse.j1 k l out i nxt t ((out.length : Int) == 256) (cutAt (strOfNums s) 58).1 (around (cutAt (strOfNums s) 58).2.1 n4) else headers_Parse.j1 k l out i nxt t false (cutAt (strOfNums s) 58).1 (around (cutAt (strOfNums s) 58).2.1 n4)) else some (([] : List Hd), 111, (i : Int)))) := fun k => by
        rw [headers_Parse.l0, if_pos (by omega), hline, Option.bind_some]
        have hcs := (cut_size (strOfNums s) 58).2
        rw [size_str] at hcs
        simp only [cut_f (strOfNums s) (by rw [size_str]; omega), Option.bind_some, normal_f (cutAt (strOfNums s) 58).2.1 (by omega)]
        rfl
      by_cases hs0 : s = []
      · refine ⟨out, 0, nxt, Ev.step e1 (ev_pos ((str_nil s).2 hs0) (Ev.now _)), by omega, by omega, fun _ => ⟨ho, hg⟩, fun h => absurd rfl h⟩
      · have hcs := cut_size (strOfNums s) 58
        rw [size_str] at hcs
        generalize cutAt (strOfNums s) 58 = c at *
        obtain ⟨a, b, okc⟩ := c
        simp only at hcs e1
        have hvs := around_size b n4
        generalize around b n4 = v at *
        have h1 := one_f a v (by omega) (by omega)
        have hs0' : ¬ (strOfNums s).toList = ([] : List UInt8) := fun h => hs0 ((str_nil s).1 h)
        cases okc with
        | false => exact ⟨[], 111, i, Ev.step e1 (Ev.congr (fun _ => if_neg hs0') (Ev.bind h1 (Ev.now _))), by omega, by omega, fun h => absurd h (by decide), fun _ => rfl⟩
        | true =>
          by_cases h0 : oneOf a v = 0
          · by_cases hf : out.length = 256
            · refine ⟨[], 3, i, Ev.step e1 (Ev.congr (fun _ => if_neg hs0') (Ev.bind h1 (Ev.congr (fun _ => if_pos rfl) (ev_pos h0 ?_)))), by omega, by omega, fun h => absurd h (by decide), fun _ => rfl⟩
              refine Ev.step (f := fun _ => some (([] : List Hd), 3, (i : Int))) (fun k => ?_) (Ev.now _)
              rw [headers_Parse.j1, if_pos (by rw [len256]; exact decide_eq_true hf)]
              rfl
            · obtain ⟨m, e, at_, hev, r⟩ := ih (l.length - nxt) (by omega) nxt (out ++ [⟨a, v⟩]) (by omega) (by rw [List.length_append]; simp; omega) (fun h hh => by
                rcases List.mem_append.1 hh with h2 | h2
                · exact hg h h2
                · obtain rfl := List.mem_singleton.1 h2
                  exact ⟨⟨by show a.size ≤ _; omega, by show v.size ≤ _; omega⟩, h0⟩)
              refine ⟨m, e, at_, Ev.step e1 (Ev.congr (fun _ => if_neg hs0') (Ev.bind h1 (Ev.congr (fun _ => if_pos rfl) (ev_pos h0 ?_)))), r⟩
              refine Ev.step (fun k => ?_) hev
              rw [headers_Parse.j1, if_neg (by rw [len256]; simpa using hf), if_pos h0, if_pos (by omega)]
          · refine ⟨[], oneOf a v, i, Ev.step e1 (Ev.congr (fun _ => if_neg hs0') (Ev.bind h1 (Ev.congr (fun _ => if_pos rfl) (Ev.congr (fun _ => if_neg h0) ?_)))), by omega, by omega, fun h => absurd h h0, fun _ => rfl⟩
            refine Ev.step (f := fun _ => some (([] : List Hd), oneOf a v, (i : Int))) (fun k => ?_) (Ev.now _)
            rw [headers_Parse.j1, if_neg (by decide), if_neg h0]
    · refine ⟨out, 0, l.length, Ev.step (f := fun _ => some (out, 0, (l.length : Int))) (fun k => ?_) (Ev.now _), by omega, by omega, fun _ => ⟨ho, hg⟩, fun h => absurd rfl h⟩
      rw [headers_Parse.l0, if_neg (by omega)]

theorem ok1_parts {h : Hd} (hk : ok1 h) : toks h.f0 = true ∧ nlb h.f1 = false ∧ around h.f1 [9, 32] = h.f1 := by
  unfold ok1 oneOf at hk
  split at hk
  · rename_i h1
    split at hk
    · omega
    · split at hk
      · omega
      · rename_i h2
        split at hk
        · rename_i h3
          exact ⟨h1, by simpa using h2, h3⟩
        · omega
  · omega
theorem nl_no {v : ByteArray} (hn : nlb v = false) {c : Int} (hc : c = 0 ∨ c = 10 ∨ c = 13) : c ∉ bytesOf v := fun hm => by
  obtain ⟨b, hb, e⟩ := List.mem_map.1 hm
  have := nlb_no hn b hb
  rcases hc with rfl | rfl | rfl
  · obtain rfl : b = 0 := UInt8.toNat_inj.1 (by have : ((b.toNat : Nat) : Int) = 0 := e; show b.toNat = 0; omega)
    revert this; decide
  · obtain rfl : b = 10 := UInt8.toNat_inj.1 (by have : ((b.toNat : Nat) : Int) = 10 := e; show b.toNat = 10; omega)
    revert this; decide
  · obtain rfl : b = 13 := UInt8.toNat_inj.1 (by have : ((b.toNat : Nat) : Int) = 13 := e; show b.toNat = 13; omega)
    revert this; decide
theorem tok_no {n : ByteArray} (hn : toks n = true) {c : Int} (hc : tok c = false) : c ∉ bytesOf n := fun hm => by
  unfold toks at hn
  rw [Bool.and_eq_true] at hn
  have := List.all_eq_true.1 hn.1 c hm
  rw [hc] at this
  cases this
/-- Parse of Print. -/
theorem parse_pr : ∀ (hs : List Hd) (pre : List Int) (out : List Hd) (l : List Int), l = pre ++ prL hs → l.length ≤ 1048576 → out.length + hs.length ≤ 256 → (∀ h ∈ hs, Small h ∧ ok1 h) →
    Ev (fun k => headers_Parse.l0 k l out (pre.length : Int)) (out ++ hs, 0, (l.length : Int)) := by
  intro hs
  induction hs with
  | nil =>
    intro pre out l e hn ho _
    have hp : pre.length = l.length := by rw [e]; simp [prL]
    rw [List.append_nil]
    refine Ev.step (f := fun _ => some (out, 0, (l.length : Int))) (fun k => ?_) (Ev.now _)
    rw [headers_Parse.l0, if_neg (by omega)]
  | cons h hs ih =>
    intro pre out l e hn ho hg
    obtain ⟨hsm, hk⟩ := hg h (List.mem_cons_self ..)
    obtain ⟨ht, hnl, har⟩ := ok1_parts hk
    obtain ⟨hs0, hs1⟩ := hsm
    have e0 : prL (h :: hs) = prH h ++ prL hs := rfl
    have hL : l.length = pre.length + (prH h).length + (prL hs).length := by rw [e, e0, List.length_append, List.length_append]; omega
    have hpl := prH_len h
    -- the line
    have hB : Bytes (bytesOf h.f0 ++ 58 :: 32 :: bytesOf h.f1) := (Bytes.of _).append (Bytes.cons (by omega) (Bytes.cons (by omega) (Bytes.of _)))
    have hline : headers_line.f l (pre.length : Int) = some (strOfNums (bytesOf h.f0 ++ 58 :: 32 :: bytesOf h.f1), ((pre.length + (prH h).length : Nat) : Int)) := by
      have := line_hit pre ((bytesOf h.f0 ++ 58 :: 32 :: bytesOf h.f1) ++ [13]) (prL hs) (hB.append (Bytes.cons (by omega) Bytes.nil)) (fun hm => by
        simp only [List.mem_append, List.mem_cons, List.not_mem_nil, or_false] at hm
        rcases hm with (h1 | h1 | h1 | h1) | h1
        · exact tok_no ht (by decide) h1
        · omega
        · omega
        · exact nl_no hnl (by omega) h1
        · omega) (by simp [bytesOf_length]; omega) (prL_bytes hs)
      rw [chop_cr] at this
      have e2 : pre ++ ((bytesOf h.f0 ++ 58 :: 32 :: bytesOf h.f1) ++ [13]) ++ 10 :: prL hs = l := by
        rw [e, e0]
        unfold prH
        simp
      rw [e2] at this
      rw [this]
      congr 2
      rw [hpl]
      simp [bytesOf_length]
      omega
    have hcut : cutAt (strOfNums (bytesOf h.f0 ++ 58 :: 32 :: bytesOf h.f1)) 58 = (h.f0, strOfNums (32 :: bytesOf h.f1), true) := by
      rw [cut_in _ _ (Bytes.of _) (Bytes.cons (by omega) (Bytes.of _)) (tok_no ht (by decide)), str_bytesOf]
    have hstep : ∀ k, headers_Parse.l0 (k + 1) l out (pre.length : Int) = (headers_one.f k h.f0 h.f1).bind fun t => if t = 0 then headers_Parse.j1 k l out (pre.length : Int) ((pre.length + (prH h).length : Nat) : Int) t ((out.length : Int) == 256) h.f0 h.f1 else headers_Parse.j1 k l out (pre.length : Int) ((pre.length + (prH h).length : Nat) : Int) t false h.f0 h.f1 := fun k => by
      rw [headers_Parse.l0, if_pos (by omega), hline, Option.bind_some, if_neg (by rw [str_nil]; simp), cut_f _ (by rw [size_str]; simp [bytesOf_length]; omega), Option.bind_some]
      simp only [hcut]
      rw [normal_f _ (by rw [size_str]; simp [bytesOf_length]; omega), Option.bind_some, normal_blank h.f1 hnl har]
      rfl
    have hcons := ih (pre ++ prH h) (out ++ [h]) l (by rw [e, e0, List.append_assoc]) hn (by rw [List.length_append]; simp at ho ⊢; omega) (fun x hx => hg x (List.mem_cons_of_mem _ hx))
    rw [List.length_append, List.append_assoc] at hcons
    refine Ev.step hstep (Ev.bind (one_f _ _ hs0 hs1) (ev_pos (show oneOf h.f0 h.f1 = 0 from hk) ?_))
    refine Ev.step (fun k => ?_) hcons
    rw [headers_Parse.j1, if_neg (by rw [len256]; simp at ho ⊢; omega), if_pos (show oneOf h.f0 h.f1 = 0 from hk), if_pos (by simp at ho; omega)]
end Go.Proofs.YtjadlnmphcoioaaDoor.Pure
