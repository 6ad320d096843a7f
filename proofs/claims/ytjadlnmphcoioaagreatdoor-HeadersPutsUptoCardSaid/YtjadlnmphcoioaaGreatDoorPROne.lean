/- What the page's one, Normal compute: as headers'. -/
import Derived.Test.YtjadlnmphcoioaaGreatDoorPHeadA
import Derived.Test.YtjadlnmphcoioaaGreatDoorPRAround
import Derived.Test.YtjadlnmphcoioaaGreatDoorX9
import Derived.Test.YtjadlnmphcoioaaGreatDoorX8
namespace Go.Proofs.YtjadlnmphcoioaaGreatDoor.Pure
open Go.RowKit Go.Proofs.YtjadlnmphcoioaaGreatDoor.X Go.Proofs.YtjadlnmphcoioaaGreatDoorW.PrintWords Go.Proofs.YtjadlnmphcoioaaGreatDoorW.PrintLast Go.Proofs.YtjadlnmphcoioaaGreatDoorW.PrintMore

/-! may a header be -/
def bad3 (c : Int) : Bool := decide (c = 0 ∨ c = 10 ∨ c = 13)
theorem indexAny_any (cs : List UInt8) : ∀ l : List UInt8, decide (0 ≤ Lib.indexAny l cs) = l.any fun b => cs.contains b
 | [] => rfl
 | a :: l => by
  have ih := indexAny_any cs l
  have hge := Lib.indexAny_ge cs l
  rw [Lib.indexAny, List.any_cons, ← ih]
  cases hc : cs.contains a
  ·rw [if_neg (by simp), Bool.false_or]
   by_cases h : Lib.indexAny l cs = -1
   ·rw [h]; rfl
   ·rw [if_neg (by simpa using h), decide_eq_decide]
    omega
  ·rw [if_pos rfl]; rfl
theorem bad3_u8 {c : Int} (h : 0 ≤ c ∧ c < 256) : crlf0.data.toList.contains (u8 c) = bad3 c := byte_all (p := fun c => crlf0.data.toList.contains (u8 c) = bad3 c) (by decide +kernel) h
theorem any_u8 : ∀ l : List Int, Bytes l → ((l.map u8).any fun b => crlf0.data.toList.contains b) = l.any bad3
 | [], _ => rfl
 | a :: l, h => by rw [List.map_cons, List.any_cons, List.any_cons, bad3_u8 h.head, any_u8 l h.tail]
theorem nlb_any (v : ByteArray) : nlb v = (bytesOf v).any bad3 := by
 unfold nlb Lib.containsAny
 rw [indexAny_any, data_str, any_u8 _ (Bytes.of v)]
theorem rone_l0 (n v : ByteArray) (hv : v.size ≤ 1048576) (d : Nat) : ∀ (i : Nat), i + d = v.size → Ev (fun k => pergolaref11_one.l0 k (i : Int) n v) (if ((bytesOf v).drop i).any bad3 = true then 112 else 0) := by
 have hl := bytesOf_length v
 induction d with
 | zero =>
  intro i hi
  rw [List.drop_of_length_le (by omega)]
  refine Ev.step (f := fun _ => some 0) (fun k => ?_) (Ev.now _)
  rw [pergolaref11_one.l0, if_neg (by omega)]
 | succ d ih =>
  intro i hi
  have hw : wrap64 ((i : Int) + 1) = ((i + 1 : Nat) : Int) := by unfold wrap64; omega
  rw [getD_drop (show i < (bytesOf v).length by omega), List.any_cons]
  generalize hc : (bytesOf v).getD i 0 = c
  refine Ev.step (f := fun k => if bad3 c = true then some 112 else pergolaref11_one.l0 k ((i + 1 : Nat) : Int) n v) (fun k => ?_) ?_
  ·rw [pergolaref11_one.l0, if_pos (by omega), if_pos (by omega), bt_at', hw, hc]
   unfold bad3
   by_cases h0 : c = 0
   ·rw [if_pos h0, if_pos (by simp [h0])]
   ·by_cases h1 : c = 10
    ·rw [if_neg h0, if_pos h1, if_pos (by simp [h1])]
    ·by_cases h2 : c = 13
     ·rw [if_neg h0, if_neg h1, if_pos h2, if_pos (by simp [h2])]
     ·rw [if_neg h0, if_neg h1, if_neg h2, if_neg (by simp [h0, h1, h2])]
  ·cases h : bad3 c
   ·rw [Bool.false_or]
    exact ev_not (by decide) (ih (i + 1) (by omega))
   ·exact ev_pos rfl (Ev.now _)
theorem rone_f (n v : ByteArray) (hn : n.size ≤ 1048576) (hv : v.size ≤ 1048576) : Ev (fun k => pergolaref11_one.f k n v) (oneOf n v) := by
 unfold oneOf
 have h1 := rtok_l0 n hn n.size 0 (by omega)
 refine Ev.bind h1 ?_
 show Ev _ (if toks n = true then _ else _)
 rw [List.drop_zero]
 show Ev (fun k => if toks n = true then _ else _) _
 by_cases ht : toks n = true
 ·rw [if_pos ht]
  refine ev_pos ht ?_
  by_cases h64 : (n.size : Int) > 64
  ·rw [if_pos h64]
   exact ev_pos h64 (Ev.now _)
  ·rw [if_neg h64]
   refine ev_not h64 ?_
   have ht2 : Ev (fun k => pergolaref01_Trim.f k v) (around v [9, 32]) := Ev.bind (around_f _ _ has_tab v hv) (Ev.now _)
   refine Ev.bind ht2 ?_
   by_cases ha : around v [9, 32] = v
   ·have hr := rone_l0 n v hv v.size 0 (by omega)
    rw [List.drop_zero, ← nlb_any] at hr
    rw [if_pos ha]
    exact ev_pos (by rw [ha]) hr
   ·rw [if_neg ha, ite_self]
    exact ev_not (fun h => ha (toList_inj.1 h).symm) (Ev.now _)
 ·rw [if_neg ht]
  exact ev_not ht (Ev.now _)
theorem rnormal_f (s : ByteArray) (hs : s.size ≤ 1048576) : Ev (fun k => pergolaref11_Normal.f k s) (around s n4) := by
 have h : Ev (fun k => pergolaref01_Around.f k s (⟨#[9, 10, 13, 32]⟩ : ByteArray)) (around s n4) := Ev.bind (around_f _ _ has_four s hs) (Ev.now _)
 exact Ev.bind h (Ev.now _)
end Go.Proofs.YtjadlnmphcoioaaGreatDoor.Pure
