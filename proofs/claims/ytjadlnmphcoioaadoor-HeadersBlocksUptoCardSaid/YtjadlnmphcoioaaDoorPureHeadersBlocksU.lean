/- Of any block of at most 1048576 bytes and any list of at most 1048576 headers with names and values of at most 1048576 bytes: headers.Parse and Print answer what the page's do: the law HeadersBlocks answers true. -/
import Derived.Test.YtjadlnmphcoioaaDoorPBlockA
import Derived.Test.YtjadlnmphcoioaaDoorPRHead
import Derived.Test.YtjadlnmphcoioaaDoorX11
import Derived.Test.YtjadlnmphcoioaaDoorX12
namespace Go.Proofs.YtjadlnmphcoioaaDoor.Pure
open Go.RowKit Go.Proofs.YtjadlnmphcoioaaDoor.X Go.Proofs.YtjadlnmphcoioaaDoorW.PrintWords Go.Proofs.YtjadlnmphcoioaaDoorW.PrintLast Go.Proofs.YtjadlnmphcoioaaDoorW.PrintMore

theorem blocks_alive : Ev (fun k => pergolalaw11_alive.f k) true := Ev.of pergolalaw11_alive.mono (k := 200) (by decide +kernel)
/-! Check, by both -/
theorem check_both_l0 (l : List Hd) (hl : l.length ≤ 1048576) (hs : ∀ h ∈ l, Small h) (d : Nat) : ∀ (i : Nat), i + d = l.length →
  ∃ e at_ : Int, Ev (fun k => headers_Check.l0 k l (l.length : Int) (i : Int)) (e, at_) ∧ Ev (fun k => pergolaref11_Check.l0 k l (i : Int)) (e, at_) ∧ (e = 0 ↔ ∀ h ∈ l.drop i, ok1 h) := by
 induction d with
 | zero =>
  intro i hi
  refine ⟨0, 0, Ev.step (f := fun _ => some (0, 0)) (fun k => ?_) (Ev.now _), Ev.step (f := fun _ => some (0, 0)) (fun k => ?_) (Ev.now _), ?_⟩
  ·rw [headers_Check.l0, if_neg (by omega)]
  ·rw [pergolaref11_Check.l0, if_neg (by omega)]
  ·rw [List.drop_of_length_le (by omega)]
   simp
 | succ d ih =>
  intro i hi
  have hi' : i < l.length := by omega
  obtain ⟨h0, h1⟩ := hs _ (List.getElem_mem hi')
  have hw : wrap64 ((i : Int) + 1) = ((i + 1 : Nat) : Int) := by unfold wrap64; omega
  have e1 : ∀ k, headers_Check.l0 (k + 1) l (l.length : Int) (i : Int) = (headers_one.f k (l[i]'hi').f0 (l[i]'hi').f1).bind fun t => if t = 0 then headers_Check.l0 k l (l.length : Int) ((i + 1 : Nat) : Int) else some (t, (i : Int)) := fun k => by
   rw [headers_Check.l0, if_pos (by omega), if_pos (by omega), if_pos (by omega), rd_at l i hi', hw]
  have e2 : ∀ k, pergolaref11_Check.l0 (k + 1) l (i : Int) = (pergolaref11_one.f k (l[i]'hi').f0 (l[i]'hi').f1).bind fun t => if t = 0 then pergolaref11_Check.l0 k l ((i + 1 : Nat) : Int) else some (t, (i : Int)) := fun k => by
   rw [pergolaref11_Check.l0, if_pos (by omega), if_pos (by omega), rd_at l i hi', hw]
  have ho := one_f _ _ h0 h1
  have ho2 := rone_f _ _ h0 h1
  rw [List.drop_eq_getElem_cons hi']
  by_cases h : oneOf (l[i]'hi').f0 (l[i]'hi').f1 = 0
  ·obtain ⟨e, a, he, he2, hiff⟩ := ih (i + 1) (by omega)
   refine ⟨e, a, Ev.step e1 (Ev.bind ho (ev_pos h he)), Ev.step e2 (Ev.bind ho2 (ev_pos h he2)), ?_⟩
   rw [hiff]
   refine ⟨fun H x hx => ?_, fun H x hx => H x (List.mem_cons_of_mem _ hx)⟩
   rcases List.mem_cons.1 hx with rfl | h2
   ·exact h
   ·exact H x h2
  ·refine ⟨_, (i : Int), Ev.step e1 (Ev.bind ho (ev_not h (Ev.now _))), Ev.step e2 (Ev.bind ho2 (ev_not h (Ev.now _))), ?_⟩
   exact ⟨fun H => absurd H h, fun H => absurd (H _ (List.mem_cons_self ..)) h⟩
theorem check_both (l : List Hd) (hl : l.length ≤ 1048576) (hs : ∀ h ∈ l, Small h) :
  ∃ e at_ : Int, Ev (fun k => headers_Check.f k l) (e, at_) ∧ Ev (fun k => pergolaref11_Check.f k l) (e, at_) ∧ (e = 0 ↔ l.length ≤ 256 ∧ ∀ h ∈ l, ok1 h) := by
 by_cases h : (l.length : Int) > 256
 ·refine ⟨3, 0, Ev.congr (fun k => by rw [headers_Check.f, if_pos h]) (Ev.now _), Ev.congr (fun k => by rw [pergolaref11_Check.f, if_pos h]) (Ev.now _), ?_⟩
  exact ⟨fun H => by omega, fun H => by omega⟩
 ·obtain ⟨e, a, he, he2, hiff⟩ := check_both_l0 l hl hs l.length 0 (by omega)
  refine ⟨e, a, Ev.congr (fun k => by rw [headers_Check.f, if_neg h]; rfl) he, Ev.congr (fun k => by rw [pergolaref11_Check.f, if_neg h]; rfl) he2, ?_⟩
  rw [hiff, List.drop_zero]
  exact ⟨fun H => ⟨by omega, H⟩, fun H => H.2⟩
/-! Print, by both -/
theorem rprint_l0 (l : List Hd) (hl : l.length ≤ 1048576) (hs : ∀ h ∈ l, Small h) (d : Nat) : ∀ (i : Nat) (acc : List Int), i + d = l.length → acc.length ≤ i * 2097156 →
  Ev (fun k => pergolaref11_Print.l0 k l acc (i : Int)) (acc ++ prL (l.drop i), 0) := by
 induction d with
 | zero =>
  intro i acc hi ha
  rw [List.drop_of_length_le (by omega)]
  refine Ev.step (f := fun _ => some (acc, 0)) (fun k => ?_) (ev_some (by simp [prL]))
  rw [pergolaref11_Print.l0, if_neg (by omega)]
 | succ d ih =>
  intro i acc hi ha
  have hi' : i < l.length := by omega
  have hm := hs _ (List.getElem_mem hi')
  have hw : wrap64 ((i : Int) + 1) = ((i + 1 : Nat) : Int) := by unfold wrap64; omega
  have hp := prH_len (l[i]'hi')
  have hrd := rd_at l i hi'
  rw [List.drop_eq_getElem_cons hi']
  generalize l[i]'hi' = h at *
  obtain ⟨h0, h1⟩ := hm
  have hb : bytesOf (((h.f0 ++ (⟨#[58, 32]⟩ : ByteArray)) ++ h.f1) ++ (⟨#[13, 10]⟩ : ByteArray)) = prH h := by
   rw [bytesOf_app, bytesOf_app, bytesOf_app]
   unfold prH
   rw [show bytesOf (⟨#[58, 32]⟩ : ByteArray) = [58, 32] by rfl, show bytesOf (⟨#[13, 10]⟩ : ByteArray) = [13, 10] by rfl]
   simp
  have s1 : (h.f0 ++ (⟨#[58, 32]⟩ : ByteArray)).size = h.f0.size + 2 := by rw [ByteArray.size_append]; rfl
  have s2 : ((h.f0 ++ (⟨#[58, 32]⟩ : ByteArray)) ++ h.f1).size = h.f0.size + 2 + h.f1.size := by rw [ByteArray.size_append, s1]
  have s3 : (((h.f0 ++ (⟨#[58, 32]⟩ : ByteArray)) ++ h.f1) ++ (⟨#[13, 10]⟩ : ByteArray)).size = h.f0.size + 2 + h.f1.size + 2 := by rw [ByteArray.size_append, s2]; rfl
  have hstep : ∀ k, pergolaref11_Print.l0 (k + 1) l acc (i : Int) = pergolaref11_Print.l0 k l (acc ++ prH h) ((i + 1 : Nat) : Int) := fun k => by
   rw [pergolaref11_Print.l0, if_pos (by omega), if_pos (by omega), hrd, if_pos (by omega), if_pos (by omega), if_pos (by omega), if_pos (by omega), hb, hw]
  have := ih (i + 1) (acc ++ prH h) (by omega) (by rw [List.length_append, hp]; omega)
  rw [List.append_assoc] at this
  exact Ev.step hstep this
theorem print_both (l : List Hd) (hl : l.length ≤ 1048576) (hs : ∀ h ∈ l, Small h) : ∃ (m : List Int) (e : Int), Ev (fun k => headers_Print.f k l) (m, e) ∧ Ev (fun k => pergolaref11_Print.f k l) (m, e) ∧ m.length ≤ 140737488355328 := by
 obtain ⟨e, a, he, he2, hiff⟩ := check_both l hl hs
 by_cases h0 : e = 0
 ·have hg := hiff.1 h0
  have hlen := prL_len l hs
  have h1 := print_l0 l hl hs l.length 0 [] (by omega) (by simp)
  have h2 := rprint_l0 l hl hs l.length 0 [] (by omega) (by simp)
  rw [List.drop_zero, List.nil_append] at h1 h2
  exact ⟨prL l, 0, Ev.bind he (ev_pos h0 h1), Ev.bind he2 (ev_pos h0 h2), by have := hg.1; omega⟩
 ·exact ⟨[], e, Ev.bind he (ev_not h0 (Ev.now _)), Ev.bind he2 (ev_not h0 (Ev.now _)), by simp⟩
/-! Parse, by both -/
theorem parse_both (l : List Int) (hl : Bytes l) (hn : l.length ≤ 1048576) : ∀ (d i : Nat) (out : List Hd), i + d = l.length → out.length ≤ 256 →
  ∃ (m : List Hd) (e at_ : Int), Ev (fun k => headers_Parse.l0 k l out (i : Int)) (m, e, at_) ∧ Ev (fun k => pergolaref11_Parse.l0 k l out (i : Int)) (m, e, at_) ∧ m.length ≤ 256 := by
 intro d
 induction d using Nat.strongRecOn with
 | ind d ih =>
  intro i out hi ho
  by_cases hil : i < l.length
  ·obtain ⟨ed, nxt, hline, hrl, hie, hel, hin, hnl⟩ := line_both l hl hn i hil
   have hsb : Bytes ((l.take ed).drop i) := (hl.take ed).drop i
   have hsl : ((l.take ed).drop i).length = ed - i := by rw [List.length_drop, List.length_take]; omega
   have hrr := rread_f ((l.take ed).drop i) hsb (by omega)
   have e2 : ∀ k, pergolaref11_Parse.l0 (k + 1) l out (i : Int) = (pergolaref11_line.f k l (i : Int)).bind fun bt154 => if bt154.1 = (i : Int) then some (out, 0, bt154.2) else (if 0 ≤ (i : Int) then (if (i : Int) ≤ bt154.1 then (if bt154.1 ≤ (l.length : Int) then ((pergolaref11_read.f k (strOfNums ((l.take (bt154.1 : Int).toNat).drop (i : Int).toNat))).bind fun bt157 => (if bt157.2.2 = 0 then (if (out.length : Int) = 256 then (some (([] : List Hd), 3, (i : Int))) else (if out.length < 4398046511104 then (pergolaref11_Parse.l0 k l (out ++ [(⟨bt157.1, bt157.2.1⟩ : Hd)]) bt154.2) else (none))) else (some (([] : List Hd), bt157.2.2, (i : Int))))) else (none)) else (none)) else (none)) := fun k => by
    rw [pergolaref11_Parse.l0, if_pos (by omega)]
   generalize hS : (l.take ed).drop i = s at *
   have e1 : ∀ k, headers_Parse.l0 (k + 1) l out (i : Int) = if (strOfNums s).toList = ([] : List UInt8) then some (out, 0, (nxt : Int)) else ((headers_one.f k (cutAt (strOfNums s) 58).1 (around (cutAt (strOfNums s) 58).2.1 n4)).bind fun t => (if (cutAt (strOfNums s) 58).2.2 = true then (if t = 0 then headers_Parse.j1 k l out i nxt t ((out.length : Int) == 256) (cutAt (strOfNums s) 58).1 (around (cutAt (strOfNums s) 58).2.1 n4) else headers_Parse.j1 k l out i nxt t false (cutAt (strOfNums s) 58).1 (around (cutAt (strOfNums s) 58).2.1 n4)) else some (([] : List Hd), 111, (i : Int)))) := fun k => by
    rw [headers_Parse.l0, if_pos (by omega), hline, Option.bind_some]
    have hcs := (cut_size (strOfNums s) 58).2
    rw [size_str] at hcs
    simp only [cut_f (strOfNums s) (by rw [size_str]; omega), Option.bind_some, normal_f (cutAt (strOfNums s) 58).2.1 (by omega)]
    rfl
   by_cases hs0 : s = []
   ·have he : ed = i := by rw [hs0] at hsl; simp at hsl; omega
    exact ⟨out, 0, nxt, Ev.step e1 (ev_pos ((str_nil s).2 hs0) (Ev.now _)), Ev.step e2 (Ev.bind hrl (ev_pos (by rw [he]) (Ev.now _))), ho⟩
   ·have hne : ¬ ((ed : Nat) : Int) = (i : Int) := fun h => hs0 (List.eq_nil_of_length_eq_zero (by omega))
    have hrest : ∀ (m : List Hd) (e at_ : Int), Ev (fun k => if (readOf (strOfNums s)).2.2 = 0 then (if (out.length : Int) = 256 then (some (([] : List Hd), 3, (i : Int))) else (pergolaref11_Parse.l0 k l (out ++ [(⟨(readOf (strOfNums s)).1, (readOf (strOfNums s)).2.1⟩ : Hd)]) (nxt : Int))) else (some (([] : List Hd), (readOf (strOfNums s)).2.2, (i : Int)))) (m, e, at_) → Ev (fun k => pergolaref11_Parse.l0 k l out (i : Int)) (m, e, at_) := fun m e at_ h => by
     refine Ev.step e2 (Ev.bind hrl (ev_not hne (ev_pos (by omega) (ev_pos (by omega) (ev_pos (by omega) ?_)))))
     rw [Int.toNat_natCast, Int.toNat_natCast, hS]
     refine Ev.bind hrr (Ev.congr (fun k => ?_) h)
     rw [if_pos (show out.length < 4398046511104 by omega)]
    have hcs := cut_size (strOfNums s) 58
    rw [size_str] at hcs
    unfold readOf at hrest
    generalize cutAt (strOfNums s) 58 = c at *
    obtain ⟨a, b, okc⟩ := c
    simp only at hcs e1 hrest
    have hvs := around_size b n4
    generalize around b n4 = v at *
    have h1 := one_f a v (by omega) (by omega)
    have hs0' : ¬ (strOfNums s).toList = ([] : List UInt8) := fun h => hs0 ((str_nil s).1 h)
    cases okc with
    | false => exact ⟨[], 111, i, Ev.step e1 (ev_not hs0' (Ev.bind h1 (Ev.now _))), hrest _ _ _ (ev_not (show ¬ (111 : Int) = 0 by decide) (Ev.now _)), by simp⟩
    | true =>
     simp only [if_true] at hrest
     by_cases h0 : oneOf a v = 0
     ·by_cases hf : out.length = 256
      ·refine ⟨[], 3, i, Ev.step e1 (ev_not hs0' (Ev.bind h1 (ev_pos rfl (ev_pos h0 ?_)))), hrest _ _ _ (ev_pos h0 (ev_pos (by omega) (Ev.now _))), by simp⟩
       refine Ev.step (f := fun _ => some (([] : List Hd), 3, (i : Int))) (fun k => ?_) (Ev.now _)
       rw [headers_Parse.j1, if_pos (by rw [len256]; exact decide_eq_true hf)]
       rfl
      ·obtain ⟨m, e, at_, hev, hev2, r⟩ := ih (l.length - nxt) (by omega) nxt (out ++ [⟨a, v⟩]) (by omega) (by rw [List.length_append]; simp; omega)
       refine ⟨m, e, at_, Ev.step e1 (ev_not hs0' (Ev.bind h1 (ev_pos rfl (ev_pos h0 ?_)))), hrest _ _ _ (ev_pos h0 (ev_not (by omega) hev2)), r⟩
       refine Ev.step (fun k => ?_) hev
       rw [headers_Parse.j1, if_neg (by rw [len256]; simpa using hf), if_pos h0, if_pos (by omega)]
     ·refine ⟨[], oneOf a v, i, Ev.step e1 (ev_not hs0' (Ev.bind h1 (ev_pos rfl (ev_not h0 ?_)))), hrest _ _ _ (ev_not h0 (Ev.now _)), by simp⟩
      refine Ev.step (f := fun _ => some (([] : List Hd), oneOf a v, (i : Int))) (fun k => ?_) (Ev.now _)
      rw [headers_Parse.j1, if_neg (by decide), if_neg h0]
  ·refine ⟨out, 0, l.length, Ev.step (f := fun _ => some (out, 0, (l.length : Int))) (fun k => ?_) (Ev.now _), Ev.step (f := fun _ => some (out, 0, (l.length : Int))) (fun k => ?_) (Ev.now _), ho⟩
   ·rw [headers_Parse.l0, if_neg (by omega)]
   ·rw [pergolaref11_Parse.l0, if_neg (by omega)]
theorem sameb_f (l : List Int) (hl : l.length ≤ 140737488355328) : Ev (fun k => pergolaplain_SameBytes.f k l l) true :=
 Ev.of (pergolaplain_SameBytes.mono l l) (pergolaplain_Given_Intact.sameB l hl)
theorem HeadersBlocks (l0 : List Int) (l1 : List Hd) (h0 : l0.length ≤ 1048576) (hb : Bytes l0) (h1 : l1.length ≤ 1048576) (hs : ∀ h ∈ l1, Small h) : ∃ k, pergolalaw11_HeadersBlocks.f k l0 l1 = some true := by
 obtain ⟨m, e, a, hp, hp2, hm⟩ := parse_both l0 hb h0 l0.length 0 [] (by omega) (by simp)
 have hP : Ev (fun k => headers_Parse.f k l0) (m, e, a) := Ev.congr (fun k => by rw [headers_Parse.f, if_neg (by omega)]; rfl) hp
 have hP2 : Ev (fun k => pergolaref11_Parse.f k l0) (m, e, a) := Ev.congr (fun k => by rw [pergolaref11_Parse.f, if_neg (by omega)]; rfl) hp2
 obtain ⟨q, f, hq, hq2, hql⟩ := print_both l1 h1 hs
 have key : Ev (fun k => pergolalaw11_HeadersBlocks.f k l0 l1) true := by
  refine Ev.congr (fun k => by rw [pergolalaw11_HeadersBlocks.f, if_pos (show l0.length ≤ 140737488351232 by omega)]) ?_
  refine Ev.bind hP (Ev.bind hP2 (ev_pos (show l1.length ≤ 4398046511000 by omega) (Ev.bind hq (Ev.bind hq2 (Ev.bind (sameh_f m (by omega)) (ev_pos rfl ?_))))))
  refine Ev.congr (fun k => by rw [pergolalaw11_num.f, Option.bind_some]) (ev_pos rfl (ev_pos rfl (Ev.bind (sameb_f q hql) (ev_pos rfl ?_))))
  exact Ev.congr (fun k => by rw [pergolalaw11_num.f, Option.bind_some]) (ev_pos rfl (Ev.bind blocks_alive (Ev.now _)))
 exact key.rounds
end Go.Proofs.YtjadlnmphcoioaaDoor.Pure
