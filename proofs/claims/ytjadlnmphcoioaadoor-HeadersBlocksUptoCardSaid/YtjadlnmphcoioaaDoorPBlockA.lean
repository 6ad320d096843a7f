/- What headers.Print computes. -/
import Derived.Test.YtjadlnmphcoioaaDoorPCheck
import Derived.Test.YtjadlnmphcoioaaDoorX8
namespace Go.Proofs.YtjadlnmphcoioaaDoor.Pure
open Go.RowKit Go.Proofs.YtjadlnmphcoioaaDoor.X Go.Proofs.YtjadlnmphcoioaaDoorW.PrintWords Go.Proofs.YtjadlnmphcoioaaDoorW.PrintLast Go.Proofs.YtjadlnmphcoioaaDoorW.PrintMore

/-! Print -/
def prH (h : Hd) : List Int := bytesOf h.f0 ++ (58 :: 32 :: bytesOf h.f1 ++ [13, 10])
def prL (l : List Hd) : List Int := l.flatMap prH
theorem bytesOf_app (a b : ByteArray) : bytesOf (a ++ b) = bytesOf a ++ bytesOf b := by
 unfold bytesOf
 rw [ByteArray.data_append, Array.toList_append, List.map_append]
theorem prH_len (h : Hd) : (prH h).length = h.f0.size + h.f1.size + 4 := by
 unfold prH
 simp only [List.length_append, List.length_cons, List.length_nil, bytesOf_length]
 omega
theorem prL_len (l : List Hd) (hs : ∀ h ∈ l, Small h) : (prL l).length ≤ l.length * 2097156 := by
 induction l with
 | nil => simp [prL]
 | cons a l ih =>
  have h1 := hs a (List.mem_cons_self ..)
  have h2 := ih (fun h hh => hs h (List.mem_cons_of_mem _ hh))
  have e : prL (a :: l) = prH a ++ prL l := rfl
  rw [e, List.length_append, prH_len, List.length_cons]
  unfold Small at h1
  omega
theorem print_l0 (l : List Hd) (hl : l.length ≤ 1048576) (hs : ∀ h ∈ l, Small h) (d : Nat) : ∀ (i : Nat) (acc : List Int), i + d = l.length → acc.length ≤ i * 2097156 →
  Ev (fun k => headers_Print.l0 k acc l (l.length : Int) (i : Int)) (acc ++ prL (l.drop i), 0) := by
 induction d with
 | zero =>
  intro i acc hi ha
  rw [List.drop_of_length_le (by omega)]
  refine Ev.step (f := fun _ => some (acc, 0)) (fun k => ?_) (ev_some (by simp [prL]))
  rw [headers_Print.l0, if_neg (by omega)]
 | succ d ih =>
  intro i acc hi ha
  have hi' : i < l.length := by omega
  have hm := hs _ (List.getElem_mem hi')
  have hw : wrap64 ((i : Int) + 1) = ((i + 1 : Nat) : Int) := by unfold wrap64; omega
  have hp := prH_len (l[i]'hi')
  have hrd := rd_at l i hi'
  rw [List.drop_eq_getElem_cons hi']
  generalize l[i]'hi' = h at *
  obtain ⟨h0, h1⟩ := hm
  have hb : bytesOf (((h.f0 ++ (⟨#[58, 32]⟩ : ByteArray)) ++ h.f1) ++ (⟨#[13, 10]⟩ : ByteArray)) = prH h := by
   rw [bytesOf_app, bytesOf_app, bytesOf_app]
   unfold prH
   rw [show bytesOf (⟨#[58, 32]⟩ : ByteArray) = [58, 32] by rfl, show bytesOf (⟨#[13, 10]⟩ : ByteArray) = [13, 10] by rfl]
   simp
  have s1 : (h.f0 ++ (⟨#[58, 32]⟩ : ByteArray)).size = h.f0.size + 2 := by rw [ByteArray.size_append]; rfl
  have s2 : ((h.f0 ++ (⟨#[58, 32]⟩ : ByteArray)) ++ h.f1).size = h.f0.size + 2 + h.f1.size := by rw [ByteArray.size_append, s1]
  have s3 : (((h.f0 ++ (⟨#[58, 32]⟩ : ByteArray)) ++ h.f1) ++ (⟨#[13, 10]⟩ : ByteArray)).size = h.f0.size + 2 + h.f1.size + 2 := by rw [ByteArray.size_append, s2]; rfl
  have hstep : ∀ k, headers_Print.l0 (k + 1) acc l (l.length : Int) (i : Int) = headers_Print.l0 k (acc ++ prH h) l (l.length : Int) ((i + 1 : Nat) : Int) := fun k => by
   rw [headers_Print.l0, if_pos (by omega), if_pos (by omega), if_pos (by omega), hrd, if_pos (by omega), if_pos (by omega), if_pos (by omega), if_pos (by omega), hb, hw]
  have := ih (i + 1) (acc ++ prH h) (by omega) (by rw [List.length_append, hp]; omega)
  rw [List.append_assoc] at this
  exact Ev.step hstep this
theorem str_nil (s : List Int) : (strOfNums s).toList = ([] : List UInt8) ↔ s = [] := by
 rw [toList_data, str_data]
 exact ⟨fun h => List.map_eq_nil_iff.1 h, fun h => by rw [h]; rfl⟩
theorem len256 (n : Nat) : ((n : Int) == 256) = decide (n = 256) := by
 rw [Bool.eq_iff_iff]
 simp
 omega
end Go.Proofs.YtjadlnmphcoioaaDoor.Pure
