/- The page's Read (pergolaref09.Read) tells what the program's tells. -/
import Derived.Test.YtkbmbancfbfddaaGreatDoorPReadEv
import Derived.Test.YtkbmbancfbfddaaGreatDoorPRefNum
import Derived.Test.YtkbmbancfbfddaaGreatDoorPRefUtf
import Derived.Test.YtkbmbancfbfddaaGreatDoorPRefUn64
import Derived.Test.YtkbmbancfbfddaaGreatDoorX13
namespace Go.Proofs.YtkbmbancfbfddaaGreatDoor.Pure
open Go.RowKit Go.Proofs.YtkbmbancfbfddaaGreatDoor.X Go.Proofs.YtkbmbancfbfddaaGreatDoorW.PrintWords Go.Proofs.YtkbmbancfbfddaaGreatDoorW.PrintLast Go.Proofs.YtkbmbancfbfddaaGreatDoorW.PrintMore

theorem row_cut (t : ByteArray) (a b : Nat) : (t.extract a b).data.toList = (t.data.toList.drop a).take (b - a) := by
 have := congrArg (fun x : ByteArray => x.data.toList) (Lib.extract_mk t.data.toList a b)
 rw [Lib.mk_data] at this
 simp only [] at this
 exact this
theorem bytesOf_cut (s : ByteArray) (a b : Nat) : bytesOf (s.extract a b) = ((bytesOf s).drop a).take (b - a) := by
 unfold bytesOf
 rw [row_cut, List.map_take, List.map_drop]
theorem bt_drop (s : ByteArray) (a : Nat) (h : a < s.size) : (bytesOf s).drop a = bt s (a : Int) :: (bytesOf s).drop (a + 1) := by
 have hl := bytesOf_length s
 rw [getD_drop (by omega), bt_at']

/-! display -/
theorem rnib_f {c : Int} (h : 0 ≤ c ∧ c < 256) : Ev (fun k => pergolaref01_Nibble.f k c) (nib c) :=
 Ev.of (fun k => pergolaref01_Nibble.mono c k) (k := 4) (byte_all (p := fun c => pergolaref01_Nibble.f 4 c = some (nib c)) (by decide +kernel) h)
def lowC (c : Int) : Int := if 65 ≤ c ∧ c ≤ 70 then -1 else nib c
def lowV (s : ByteArray) (q : Int) : Int := if q < (s.size : Int) then lowC (bt s q) else -1
theorem rlow_f (s : ByteArray) (q : Int) (h0 : 0 ≤ q) : Ev (fun k => pergolaref09_low.f k s q) (lowV s q) := by
 unfold lowV lowC
 by_cases h : q < (s.size : Int)
 ·rw [if_pos h]
  have hn := rnib_f (byte_in s q)
  have hn' : Ev (fun k => (pergolaref01_Nibble.f k (bt s q)).bind fun t => some t) (nib (bt s q)) := Ev.bind hn (Ev.now _)
  by_cases h1 : 65 ≤ bt s q ∧ bt s q ≤ 70
  ·rw [if_pos h1]
   refine Ev.congr (fun k => ?_) (Ev.now _)
   unfold pergolaref09_low.f
   rw [if_neg (by omega), if_pos h0, if_pos h, if_pos h1.1, if_pos h1.2]
  ·rw [if_neg h1]
   refine Ev.congr (fun k => ?_) hn'
   unfold pergolaref09_low.f
   rw [if_neg (by omega), if_pos h0, if_pos h]
   by_cases h2 : bt s q ≥ 65
   ·rw [if_pos h2, if_neg (fun h => h1 ⟨h2, h⟩)]
   ·rw [if_neg h2]
 ·rw [if_neg h]
  refine Ev.congr (fun k => ?_) (Ev.now _)
  unfold pergolaref09_low.f
  rw [if_pos (by omega)]
def LowFacts (c : Int) : Prop := (lowC c < 0 ↔ (nib c < 0 ∨ turn1 65 90 c ≠ c)) ∧ (0 ≤ lowC c → lowC c = nib c ∧ nib c < 16) ∧ 0 ≤ turn1 65 90 c ∧ turn1 65 90 c < 256
instance (c : Int) : Decidable (LowFacts c) := by unfold LowFacts; infer_instance
theorem low_facts {c : Int} (h : 0 ≤ c ∧ c < 256) : LowFacts c := byte_all (p := LowFacts) (by decide +kernel) h
theorem or_nibs {x y : Int} (hx : 0 ≤ x ∧ x < 16) (hy : 0 ≤ y ∧ y < 16) : Go.bits .or .u8 (x * 16) y = 16 * x + y := by
 have h : ∀ (i j : Fin 16), Go.bits .or .u8 ((i.val : Int) * 16) (j.val : Int) = 16 * (i.val : Int) + (j.val : Int) := by decide +kernel
 obtain ⟨n, rfl⟩ := Int.eq_ofNat_of_zero_le hx.1
 obtain ⟨m, rfl⟩ := Int.eq_ofNat_of_zero_le hy.1
 exact h ⟨n, by omega⟩ ⟨m, by omega⟩
theorem lower_f (s : ByteArray) (hs : s.size ≤ 140737488355328) : octets_Lower.f s = some (strOfNums ((bytesOf s).map (turn1 65 90))) := by
 rw [octets_Lower.f, octets_turned.f, if_pos (by omega)]
 rfl
/-- The two digits behind a %, on both sides. -/
def pct (s : ByteArray) (a : Int) : Option Int := if lowV s (a + 1) < 0 ∨ lowV s (a + 2) < 0 then none else some (16 * lowV s (a + 1) + lowV s (a + 2))
theorem pct_in (s : ByteArray) (hs : s.size ≤ 1000000000000) (a : Int) (h0 : 0 ≤ a) (h : a < (s.size : Int)) (F : Int → Option RR) (G : Option RR) :
  ((unHx (hexAt s a)).bind fun r => if r.2.1 = 0 ∧ r.1.length = 1 then (octets_Lower.f (hexAt s a)).bind fun l => if l = hexAt s a then (if a + 1 + 2 ≤ (s.size : Int) then F (r.1.getD 0 0) else none) else G else G)
   = (match pct s a with | none => G | some v => F v) ∧ (∀ v, pct s a = some v → a + 1 + 2 ≤ (s.size : Int) ∧ 0 ≤ v ∧ v < 256) := by
 have hz : ((hexAt s a).size : Int) = (if a + 1 + 2 < (s.size : Int) then a + 1 + 2 else (s.size : Int)) - (a + 1) := by
  unfold hexAt
  simp
  split <;> omega
 have hle : (hexAt s a).size ≤ 140737488355328 := by split at hz <;> omega
 rw [unHx_f _ hle, Option.bind_some, lower_f _ hle]
 have hb : bytesOf (hexAt s a) = ((bytesOf s).drop (a + 1).toNat).take ((if a + 1 + 2 < (s.size : Int) then a + 1 + 2 else (s.size : Int)).toNat - (a + 1).toNat) := by
  unfold hexAt
  exact bytesOf_cut _ _ _
 have hl := bytesOf_length s
 obtain ⟨n, rfl⟩ := Int.eq_ofNat_of_zero_le h0
 rw [show ((n : Int) + 1).toNat = n + 1 by omega] at hb
 unfold pct
 by_cases h2 : (n : Int) + 1 + 2 ≤ (s.size : Int)
 ·have hb2 : bytesOf (hexAt s (n : Int)) = [bt s ((n : Int) + 1), bt s ((n : Int) + 2)] := by
   have hq : (if (n : Int) + 1 + 2 < (s.size : Int) then (n : Int) + 1 + 2 else (s.size : Int)).toNat - (n + 1) = 2 := by split <;> omega
   rw [hb, hq, bt_drop s (n + 1) (by omega), bt_drop s (n + 1 + 1) (by omega)]
   rfl
  have f1 := low_facts (byte_in s ((n : Int) + 1))
  have f2 := low_facts (byte_in s ((n : Int) + 2))
  have hbs := byte_in s ((n : Int) + 1)
  have hbs2 := byte_in s ((n : Int) + 2)
  have hS : hexAt s (n : Int) = strOfNums [bt s ((n : Int) + 1), bt s ((n : Int) + 2)] := by rw [← hb2, str_bytesOf]
  have hl1 : lowV s ((n : Int) + 1) = lowC (bt s ((n : Int) + 1)) := if_pos (by omega)
  have hl2 : lowV s ((n : Int) + 2) = lowC (bt s ((n : Int) + 2)) := if_pos (by omega)
  rw [hl1, hl2, hb2, hS]
  clear hl1 hl2
  generalize bt s ((n : Int) + 1) = c1 at *
  generalize bt s ((n : Int) + 2) = c2 at *
  obtain ⟨i1, j1, k1, l1⟩ := f1
  obtain ⟨i2, j2, k2, l2⟩ := f2
  have hinj : strOfNums ([c1, c2].map (turn1 65 90)) = strOfNums [c1, c2] ↔ (turn1 65 90 c1 = c1 ∧ turn1 65 90 c2 = c2) := by
   constructor
   ·intro h
    have := str_inj (Bytes.cons ⟨k1, l1⟩ (Bytes.cons ⟨k2, l2⟩ Bytes.nil)) (Bytes.cons hbs (Bytes.cons hbs2 Bytes.nil)) h
    simp only [List.cons.injEq, and_true] at this
    exact this
   ·intro h
    simp only [List.map_cons, List.map_nil, h.1, h.2]
  rw [Option.bind_some]
  by_cases n1 : nib c1 < 0
  ·have e : unGo [c1, c2] 0 [] = ([], 11, ((0 : Nat) : Int)) := by unfold unGo; rw [if_pos n1]
   rw [e, if_neg (fun h => absurd h.1 (by decide)), if_pos (.inl (i1.mpr (.inl n1)))]
   exact ⟨rfl, fun v h => by cases h⟩
  by_cases n2 : nib c2 < 0
  ·have e : unGo [c1, c2] 0 [] = ([], 11, ((1 : Nat) : Int)) := by unfold unGo; rw [if_neg n1, if_pos rfl]; unfold unGo; rw [if_pos n2]
   rw [e, if_neg (fun h => absurd h.1 (by decide)), if_pos (.inr (i2.mpr (.inl n2)))]
   exact ⟨rfl, fun v h => by cases h⟩
  have e : unGo [c1, c2] 0 [] = ([Go.bits .or .u8 (nib c1 * 16) (nib c2)], 0, 0) := by
   unfold unGo
   rw [if_neg n1, if_pos rfl]
   unfold unGo
   rw [if_neg n2, if_neg (by decide)]
   rfl
  rw [e, if_pos ⟨rfl, rfl⟩]
  by_cases ht : turn1 65 90 c1 = c1 ∧ turn1 65 90 c2 = c2
  ·rw [if_pos (hinj.mpr ht), if_pos h2]
   have p1 : 0 ≤ lowC c1 := by
    by_cases hh : lowC c1 < 0
    ·exact absurd (i1.mp hh) (fun h => h.elim n1 (fun h => h ht.1))
    ·omega
   have p2 : 0 ≤ lowC c2 := by
    by_cases hh : lowC c2 < 0
    ·exact absurd (i2.mp hh) (fun h => h.elim n2 (fun h => h ht.2))
    ·omega
   obtain ⟨q1, r1⟩ := j1 p1
   obtain ⟨q2, r2⟩ := j2 p2
   rw [if_neg (by omega), q1, q2, or_nibs ⟨by omega, r1⟩ ⟨by omega, r2⟩]
   refine ⟨rfl, fun v hv => ?_⟩
   obtain rfl := Option.some.inj hv
   omega
  ·rw [if_neg (fun h => ht (hinj.mp h))]
   have : lowC c1 < 0 ∨ lowC c2 < 0 := by
    by_cases h1 : turn1 65 90 c1 = c1
    ·exact .inr (i2.mpr (.inr fun h => ht ⟨h1, h⟩))
    ·exact .inl (i1.mpr (.inr h1))
   rw [if_pos this]
   exact ⟨rfl, fun v h => by cases h⟩
 ·have hl2 : lowV s ((n : Int) + 2) = -1 := by unfold lowV; rw [if_neg (by omega)]
  have hno : ¬ ((unGo (bytesOf (hexAt s (n : Int))) 0 []).2.1 = 0 ∧ (unGo (bytesOf (hexAt s (n : Int))) 0 []).1.length = 1) := by
   intro h4
   obtain ⟨e1, e2⟩ := unGo_len _ _ _ h4.1
   rw [h4.2, bytesOf_length] at e2
   rw [bytesOf_length] at e1
   simp only [List.length_nil] at e2
   split at hz <;> omega
  rw [Option.bind_some, if_neg hno, hl2, if_pos (.inr (by decide))]
  exact ⟨rfl, fun v h => by cases h⟩
theorem rdisp_l0 (s : ByteArray) (hs : s.size ≤ 1000000000000) (f : Int) : ∀ (d : Nat) (a : Int) (xs : List Int), 0 ≤ a → (s.size : Int) ≤ a + d → (xs.length : Int) ≤ a → a ≤ (s.size : Int) → ∃ R, dispE vaF unHx octets_Lower.f s f a xs = some R ∧ Ev (fun k => pergolaref09_display.l0 k s f xs a) (ansR R) := by
 intro d
 induction d using Nat.strongRecOn with
 | _ d ih =>
  intro a xs h0 hd hx hle
  by_cases hlt : a < (s.size : Int)
  rotate_left
  ·rw [dispE_end _ _ _ hlt]
   refine ⟨_, rfl, Ev.step (f := fun _ => some (ansR (.inl ((s.size : Int), 99)))) (fun k => ?_) (Ev.now _)⟩
   rw [pergolaref09_display.l0, if_neg hlt]
   rfl
  have hwa : wrap64 (a + 1) = a + 1 := w64 (by omega) (by omega)
  have hwb : wrap64 (a + 2) = a + 2 := w64 (by omega) (by omega)
  have hwc : wrap64 (a + 2 + 1) = a + 1 + 2 := by rw [w64 (by omega) (by omega)]; omega
  have hlen : xs.length < 140737488355328 := by omega
  rw [dispE_step _ _ _ hlt]
  by_cases h34 : bt s a = 34
  ·rw [if_pos h34]
   obtain ⟨r, hr, hE⟩ := rvalid_f (strOfNums xs) (by rw [size_str]; omega)
   rw [hr, Option.bind_some]
   refine ⟨_, rfl, Ev.step (f := fun k => (pergolaref02_Valid.f k (strOfNums xs)).bind fun bt236 => (if bt236.1 = true then (some (8, 0, strOfNums xs, wrap64 (a + 1), 0)) else (some (0, 0, (⟨#[]⟩ : ByteArray), f, 21)))) (fun k => ?_) (Ev.bind hE ?_)⟩
   ·rw [pergolaref09_display.l0, if_pos hlt, if_pos h0, if_pos h34]
   ·rw [hwa]
    by_cases hv : r.1 = true
    ·rw [if_pos hv]
     exact Ev.congr (fun k => by first | rfl | (rw [if_pos hv]; rfl) | rw [if_pos hv]) (Ev.now _)
    ·rw [if_neg hv]
     exact Ev.congr (fun k => by first | rfl | (rw [if_neg hv]; rfl) | rw [if_neg hv]) (Ev.now _)
  rw [if_neg h34]
  by_cases h37 : bt s a = 37
  ·rw [if_neg (by omega), if_pos h37]
   obtain ⟨hp, hv⟩ := pct_in s hs a h0 hlt (fun v => dispE vaF unHx octets_Lower.f s f (a + 1 + 2) (xs ++ [v])) (some (.inl (a, 97)))
   rw [hp]
   have l1 := rlow_f s (a + 1) (by omega)
   have l2 := rlow_f s (a + 2) (by omega)
   have hJ : ∀ (b : Bool) r, Ev (fun k => pergolaref09_display.j2 k s f xs a b) r → b = decide (lowV s (a + 1) < 0 ∨ lowV s (a + 2) < 0) → Ev (fun k => pergolaref09_display.l0 k s f xs a) r := by
    intro b r hr hb
    refine Ev.step (f := fun k => (pergolaref09_low.f k s (a + 1)).bind fun t238 => (if t238 < 0 then (pergolaref09_display.j2 k s f xs a true) else ((pergolaref09_low.f k s (a + 2)).bind fun t239 => (pergolaref09_display.j2 k s f xs a (decide (t239 < 0)))))) (fun k => ?_) (Ev.bind l1 ?_)
    ·rw [pergolaref09_display.l0, if_pos hlt, if_pos h0, if_neg h34, if_pos h37, hwa, hwb]
    ·by_cases g1 : lowV s (a + 1) < 0
     ·rw [decide_eq_true (.inl g1)] at hb
      subst hb
      exact Ev.congr (fun k => if_pos g1) hr
     ·refine Ev.congr (fun k => if_neg g1) (Ev.bind l2 ?_)
      by_cases g2 : lowV s (a + 2) < 0
      ·rw [decide_eq_true (.inr g2)] at hb
       subst hb
       rw [decide_eq_true g2]
       exact hr
      ·rw [decide_eq_false (fun h => h.elim g1 g2)] at hb
       subst hb
       rw [decide_eq_false g2]
       exact hr
   cases hpc : pct s a with
   | none =>
    have hlo : lowV s (a + 1) < 0 ∨ lowV s (a + 2) < 0 := by
     unfold pct at hpc
     split at hpc
     ·assumption
     ·cases hpc
    refine ⟨_, rfl, hJ true _ (Ev.step (f := fun _ => some (ansR (.inl (a, 97)))) (fun k => ?_) (Ev.now _)) (decide_eq_true hlo).symm⟩
    rw [pergolaref09_display.j2, if_pos rfl]
    rfl
   | some v =>
    have hlo : ¬ (lowV s (a + 1) < 0 ∨ lowV s (a + 2) < 0) ∧ v = 16 * lowV s (a + 1) + lowV s (a + 2) := by
     unfold pct at hpc
     split at hpc
     ·cases hpc
     ·rename_i hn
      exact ⟨hn, (Option.some.inj hpc).symm⟩
    obtain ⟨hsz, v0, v1⟩ := hv v hpc
    obtain ⟨R, hR, hE⟩ := ih (d - 3) (by omega) (a + 1 + 2) (xs ++ [v]) (by omega) (by omega) (by rw [List.length_append]; simp only [List.length_cons, List.length_nil]; omega) hsz
    refine ⟨R, hR, hJ false _ ?_ (decide_eq_false hlo.1).symm⟩
    refine Ev.step (f := fun k => (pergolaref09_low.f k s (a + 1)).bind fun t240 => ((pergolaref09_low.f k s (a + 2)).bind fun t241 => (if xs.length < 140737488355328 then (pergolaref09_display.l0 k s f (xs ++ [(wrap64 ((wrap64 (16 * t240)) + t241)) % 256]) (wrap64 ((wrap64 (a + 2)) + 1))) else (none)))) (fun k => ?_) (Ev.bind l1 (Ev.bind l2 ?_))
    ·rw [pergolaref09_display.j2, if_neg (by decide), hwa, hwb]
    ·have hw1 : wrap64 (wrap64 (16 * lowV s (a + 1)) + lowV s (a + 2)) % 256 = v := by
      rw [w64 (x := 16 * lowV s (a + 1)) (by omega) (by omega), w64 (by omega) (by omega)]
      omega
     refine Ev.congr (fun k => ?_) hE
     rw [if_pos hlen, hw1, hwb, hwc]
  ·by_cases hr : bt s a < 32 ∨ bt s a > 126
   ·rw [if_pos hr]
    refine ⟨_, rfl, Ev.step (f := fun _ => some (ansR (.inl (a, 97)))) (fun k => ?_) (Ev.now _)⟩
    rw [pergolaref09_display.l0, if_pos hlt, if_pos h0, if_neg h34, if_neg h37]
    by_cases h32 : bt s a < 32
    ·rw [if_pos h32]
     rfl
    ·rw [if_neg h32, if_pos (by omega)]
     rfl
   ·rw [if_neg hr, if_neg h37]
    obtain ⟨R, hR, hE⟩ := ih (d - 1) (by omega) (a + 1) (xs ++ [bt s a]) (by omega) (by omega) (by rw [List.length_append]; simp only [List.length_cons, List.length_nil]; omega) (by omega)
    refine ⟨R, hR, Ev.step (fun k => ?_) hE⟩
    rw [pergolaref09_display.l0, if_pos hlt, if_pos h0, if_neg h34, if_neg h37, if_neg (by omega), if_neg (by omega), if_pos hlen, hwa]
theorem rdisplay_f (s : ByteArray) (hs : s.size ≤ 1000000000000) (a : Int) (h0 : 0 ≤ a) (h : a < (s.size : Int)) : ∃ R, rdDisplay vaF unHx octets_Lower.f s a = some R ∧ Ev (fun k => pergolaref09_display.f k s a) (ansR R) := by
 have hwa : wrap64 (a + 1) = a + 1 := w64 (by omega) (by omega)
 have hwb : wrap64 (a + 2) = a + 1 + 1 := by rw [w64 (by omega) (by omega)]; omega
 have hbad : Ev (fun k => pergolaref09_display.j0 k s a true) (ansR (.inl (a + 1, 97))) := by
  refine Ev.step (f := fun _ => some (ansR (.inl (a + 1, 97)))) (fun k => ?_) (Ev.now _)
  rw [pergolaref09_display.j0, if_pos rfl, hwa]
  rfl
 unfold rdDisplay
 by_cases h1 : a + 1 < (s.size : Int)
 ·by_cases h34 : bt s (a + 1) = 34
  ·rw [if_pos ⟨h1, h34⟩]
   obtain ⟨R, hR, hE⟩ := rdisp_l0 s hs a s.size (a + 1 + 1) [] (by omega) (by omega) (by simp only [List.length_nil]; omega) (by omega)
   refine ⟨R, hR, Ev.congr (f := fun k => pergolaref09_display.j0 k s a false) (fun k => ?_) (Ev.step (fun k => ?_) hE)⟩
   ·rw [pergolaref09_display.f, hwa, if_neg (by omega), if_pos (by omega), if_pos h1, h34]
    rfl
   ·rw [pergolaref09_display.j0, if_neg (by decide), hwb]
  ·rw [if_neg (fun h => h34 h.2)]
   refine ⟨_, rfl, Ev.congr (fun k => ?_) hbad⟩
   rw [pergolaref09_display.f, hwa, if_neg (by omega), if_pos (by omega), if_pos h1, bne_iff_ne.mpr h34]
 ·rw [if_neg (fun h => h1 h.1)]
  refine ⟨_, rfl, Ev.congr (fun k => ?_) hbad⟩
  rw [pergolaref09_display.f, hwa, if_pos (by omega)]

/-! bytes -/
theorem roct_l0 (s : ByteArray) (hs : s.size ≤ 1000000000000) (a : Int) (h0 : 0 ≤ a) : ∀ (d i : Nat), a + 1 ≤ (i : Int) → i + d = s.size →
  (Lib.indexByte (s.data.toList.drop i) 58 < 0 → Ev (fun k => pergolaref09_octets.l0 k s a (i : Int)) (0, 0, ⟨#[]⟩, (s.size : Int), 99)) ∧
  (∀ j : Nat, Lib.indexByte (s.data.toList.drop i) 58 = (j : Int) → ∀ r, Ev (fun k => pergolaref01_Unbase64.f k (s.extract (a + 1).toNat (i + j))) r → (-1 ≤ r.2.2 ∧ r.2.2 ≤ 1000000000000) → Ev (fun k => pergolaref09_octets.l0 k s a (i : Int)) (if r.2.1 = 0 then (5, 0, strOfNums r.1, ((i + j : Nat) : Int) + 1, 0) else (0, 0, ⟨#[]⟩, a + 1 + r.2.2, 94))) := by
 intro d
 induction d with
 | zero =>
  intro i hi hd
  have hnil : s.data.toList.drop i = [] := List.drop_of_length_le (by rw [Array.length_toList]; show s.size ≤ i; omega)
  rw [hnil]
  refine ⟨fun _ => ?_, fun j hj => by simp only [Lib.indexByte] at hj; omega⟩
  refine Ev.step (f := fun _ => some (0, 0, ⟨#[]⟩, (s.size : Int), 99)) (fun k => ?_) (Ev.now _)
  rw [pergolaref09_octets.l0, if_neg (by omega)]
 | succ d ih =>
  intro i hi hd
  have hlt : i < s.size := by omega
  have hl : i < s.data.toList.length := by rw [Array.length_toList]; exact hlt
  rw [List.drop_eq_getElem_cons hl]
  have hwa : wrap64 (a + 1) = a + 1 := w64 (by omega) (by omega)
  have hwi : wrap64 ((i : Int) + 1) = ((i + 1 : Nat) : Int) := by rw [w64 (by omega) (by omega)]; omega
  have hb : bt s (i : Int) = ((s.data.toList[i]).toNat : Int) := by
   unfold bt
   rw [dif_pos (by rw [Int.toNat_natCast]; exact hlt)]
   simp only [Int.toNat_natCast]
   rfl
  obtain ⟨i1, i2⟩ := ih (i + 1) (by omega) (by omega)
  have hge := Lib.indexByte_ge (s.data.toList.drop (i + 1)) 58
  simp only [Lib.indexByte]
  generalize s.data.toList[i] = c at *
  by_cases hc : c = 58
  ·rw [if_pos (by rw [hc]; rfl)]
   have hb58 : bt s (i : Int) = 58 := by rw [hb, hc]; rfl
   refine ⟨fun h => absurd h (by omega), fun j hj r hr hrr => ?_⟩
   have hj0 : j = 0 := by omega
   subst hj0
   refine Ev.step (f := fun k => (pergolaref01_Unbase64.f k (s.extract ((wrap64 (a + 1)) : Int).toNat ((i : Int) : Int).toNat)).bind fun bt178 => (if bt178.2.1 = 0 then (some (5, 0, strOfNums bt178.1, wrap64 ((i : Int) + 1), 0)) else (some (0, 0, (⟨#[]⟩ : ByteArray), wrap64 ((wrap64 (a + 1)) + bt178.2.2), 94)))) (fun k => ?_) ?_
   ·rw [pergolaref09_octets.l0, if_pos (by omega), if_pos (by omega), if_pos hb58, if_pos (by rw [hwa]; omega), if_pos (by rw [hwa]; omega), if_pos (by omega)]
   ·rw [hwa]
    refine Ev.bind (Ev.congr (fun k => ?_) hr) ?_
    ·rw [Int.toNat_natCast, Nat.add_zero]
    ·rw [hwi, w64 (x := a + 1 + r.2.2) (by omega) (by omega)]
     rw [show ((i + 1 : Nat) : Int) = ((i + 0 : Nat) : Int) + 1 by omega]
     by_cases h : r.2.1 = 0
     ·rw [if_pos h]
      exact Ev.congr (fun k => by first | rfl | (rw [if_pos h]; rfl) | rw [if_pos h]) (Ev.now _)
     ·rw [if_neg h]
      exact Ev.congr (fun k => by first | rfl | (rw [if_neg h]; rfl) | rw [if_neg h]) (Ev.now _)
  ·rw [if_neg (fun h => hc (by simpa using h))]
   have hb58 : bt s (i : Int) ≠ 58 := by
    rw [hb]
    intro h
    exact hc (UInt8.toNat_inj.mp (by show c.toNat = 58; omega))
   have hst : ∀ r, Ev (fun k => pergolaref09_octets.l0 k s a ((i + 1 : Nat) : Int)) r → Ev (fun k => pergolaref09_octets.l0 k s a (i : Int)) r := fun r hr =>
    Ev.step (fun k => by rw [pergolaref09_octets.l0, if_pos (by omega), if_pos (by omega), if_neg hb58, hwi]) hr
   by_cases hm : Lib.indexByte (s.data.toList.drop (i + 1)) 58 = -1
   ·rw [if_pos (by rw [hm]; rfl)]
    exact ⟨fun _ => hst _ (i1 (by omega)), fun j hj => by omega⟩
   ·rw [if_neg (fun h => hm (by simpa using h))]
    refine ⟨fun h => absurd h (by omega), fun j hj r hr hrr => ?_⟩
    have h2 := i2 (j - 1) (by omega) r
    rw [show i + 1 + (j - 1) = i + j by omega] at h2
    exact hst _ (h2 hr hrr)
theorem roctets_f (s : ByteArray) (hs : s.size ≤ 1000000000000) (a : Int) (h0 : 0 ≤ a) (h : a < (s.size : Int)) : ∃ R, rdBytes ixCol Go.Proofs.YtkbmbancfbfddaaGreatDoor.X.un64 s a = some R ∧ Ev (fun k => pergolaref09_octets.f k s a) (ansR R) := by
 obtain ⟨n, rfl⟩ := Int.eq_ofNat_of_zero_le h0
 obtain ⟨i1, i2⟩ := roct_l0 s hs (n : Int) h0 (s.size - (n + 1)) (n + 1) (by omega) (by omega)
 have hf : ∀ r, Ev (fun k => pergolaref09_octets.l0 k s (n : Int) ((n + 1 : Nat) : Int)) r → Ev (fun k => pergolaref09_octets.f k s (n : Int)) r := fun r hr => by
  refine Ev.congr (fun k => ?_) hr
  unfold pergolaref09_octets.f
  rw [w64 (x := (n : Int) + 1) (by omega) (by omega)]
  rfl
 have hx : ixCol (s.extract ((n : Int) + 1).toNat s.size) = Lib.indexByte (s.data.toList.drop (n + 1)) 58 := by
  unfold ixCol
  rw [row_cut, show ((n : Int) + 1).toNat = n + 1 by omega, List.take_of_length_le (by rw [List.length_drop, Array.length_toList]; exact Nat.le_refl _)]
  rfl
 have hlt := ixCol_lt (s.extract ((n : Int) + 1).toNat s.size)
 rw [show ((s.extract ((n : Int) + 1).toNat s.size).size : Int) = s.size - ((n : Int) + 1) by simp; omega] at hlt
 unfold rdBytes
 rw [hx] at hlt ⊢
 by_cases hm : Lib.indexByte (s.data.toList.drop (n + 1)) 58 < 0
 ·rw [if_pos hm]
  exact ⟨_, rfl, hf _ (i1 hm)⟩
 ·rw [if_neg hm]
  obtain ⟨j, hj⟩ := Int.eq_ofNat_of_zero_le (show 0 ≤ Lib.indexByte (s.data.toList.drop (n + 1)) 58 by omega)
  rw [hj] at hlt ⊢
  have he : s.extract ((n : Int) + 1).toNat ((n : Int) + 1 + (j : Int)).toNat = s.extract ((n : Int) + 1).toNat (n + 1 + j) := by
   rw [show ((n : Int) + 1 + (j : Int)).toNat = n + 1 + j by omega]
  rw [he]
  generalize hA : s.extract ((n : Int) + 1).toNat (n + 1 + j) = A at *
  have hz : (A.size : Int) ≤ s.size := by rw [← hA]; simp; omega
  have hr := runb_f A (by omega)
  have hrng := ub_rng (bytesOf A)
  rw [bytesOf_length] at hrng
  have hu : Go.Proofs.YtkbmbancfbfddaaGreatDoor.X.un64 A = some (ub (bytesOf A)) := by
   unfold Go.Proofs.YtkbmbancfbfddaaGreatDoor.X.un64
   rw [everO_ev (fun k => octets_Unbase64.mono A k) (unbase64_f A (by omega)), Option.bind_some, if_pos hrng]
  rw [hu, Option.bind_some]
  refine ⟨_, rfl, hf _ ?_⟩
  have h2 := i2 j hj (ub (bytesOf A)) (by rw [hA]; exact hr) ⟨hrng.1, by omega⟩
  by_cases h0 : (ub (bytesOf A)).2.1 = 0
  ·rw [if_pos h0] at h2 ⊢
   rw [show (n : Int) + 1 + ((j : Int) + 1) = ((n + 1 + j : Nat) : Int) + 1 by omega]
   exact h2
  ·rw [if_neg h0] at h2 ⊢
   exact h2

/-! a token, and the rest -/
theorem rtok_f {c : Int} (h : 0 ≤ c ∧ c < 256) : Ev (fun k => pergolaref09_inToken.f k c) (inTok c) :=
 Ev.of (fun k => pergolaref09_inToken.mono c k) (k := 20) (byte_all (p := fun c => pergolaref09_inToken.f 20 c = some (inTok c)) (by decide +kernel) h)
theorem rtoken_l0 (s : ByteArray) (hs : s.size ≤ 1000000000000) (a : Int) (h0 : 0 ≤ a) : ∀ (d : Nat) (i : Int), a ≤ i → i + d = (s.size : Int) → Ev (fun k => pergolaref09_Read.l0 k s a i) (4, 0, s.extract a.toNat (tokE inTok s i).toNat, tokE inTok s i, 0) := by
 intro d
 induction d with
 | zero =>
  intro i hi hd
  rw [tokE_stop (fun h => by omega)]
  refine Ev.step (f := fun _ => some (4, 0, s.extract a.toNat i.toNat, i, 0)) (fun k => ?_) (Ev.now _)
  rw [pergolaref09_Read.l0, if_neg (by omega), if_pos h0, if_pos hi, if_pos (by omega)]
 | succ d ih =>
  intro i hi hd
  have hlt : i < (s.size : Int) := by omega
  refine Ev.step (f := fun k => (pergolaref09_inToken.f k (bt s i)).bind fun t261 => (if t261 = true then (pergolaref09_Read.l0 k s a (wrap64 (i + 1))) else (if 0 ≤ a then (if a ≤ i then (if i ≤ (s.size : Int) then (some (4, 0, s.extract (a : Int).toNat (i : Int).toNat, i, 0)) else (none)) else (none)) else (none)))) (fun k => ?_) (Ev.bind (rtok_f (byte_in s i)) ?_)
  ·rw [pergolaref09_Read.l0, if_pos hlt, if_pos (by omega)]
  ·by_cases hT : inTok (bt s i) = true
   ·rw [tokE_step hlt hT]
    refine Ev.congr (fun k => ?_) (ih (i + 1) (by omega) (by omega))
    rw [if_pos hT, w64 (x := i + 1) (by omega) (by omega)]
   ·rw [tokE_stop (fun h => hT h.2)]
    refine Ev.congr (fun k => ?_) (Ev.now _)
    rw [if_neg hT, if_pos h0, if_pos hi, if_pos (by omega)]
theorem rlet {c : Int} (h : 0 ≤ c ∧ c < 256) : ∃ b, pergolaref09_letter.f c = some b ∧ (b || c == 42) = letB c := by
 have h1 : ((pergolaref09_letter.f c).isSome = true) ∧ ((pergolaref09_letter.f c).getD false || c == 42) = letB c := byte_all (p := fun c => ((pergolaref09_letter.f c).isSome = true) ∧ ((pergolaref09_letter.f c).getD false || c == 42) = letB c) (by decide +kernel) h
 obtain ⟨b, hb⟩ := Option.isSome_iff_exists.mp h1.1
 have h2 := h1.2
 rw [hb] at h2
 exact ⟨b, hb, h2⟩
theorem ev_id {g : Nat → Option (Int × Int × ByteArray × Int × Int)} {r : Int × Int × ByteArray × Int × Int} (h : Ev g r) : Ev (fun k => (g k).bind fun b => (some (b.1, b.2.1, b.2.2.1, b.2.2.2.1, b.2.2.2.2))) r := Ev.bind h (Ev.now _)
theorem rread_at (s : ByteArray) (hs : s.size ≤ 1000000000000) (a : Int) (h0 : 0 ≤ a) (h : a < (s.size : Int)) : ∃ R, rdItem inTok letB ixCol Go.Proofs.YtkbmbancfbfddaaGreatDoor.X.un64 vaF unHx octets_Lower.f s a = some R ∧ Ev (fun k => pergolaref09_Read.f k s a) (ansR R) := by
 have hb := byte_in s a
 have hwa : wrap64 (a + 1) = a + 1 := w64 (by omega) (by omega)
 have hwb : wrap64 (a + 2) = a + 1 + 1 := by rw [w64 (by omega) (by omega)]; omega
 have hF : ∀ (b : Bool) r, b = decide (dig (bt s a) = true ∨ bt s a = 45) → Ev (fun k => pergolaref09_Read.j1 k s a (bt s a) b) r → Ev (fun k => pergolaref09_Read.f k s a) r := by
  intro b r he hr
  refine Ev.congr (f := fun k => pergolaref09_Read.j0 k s a false) (fun k => ?_) (Ev.step (fun k => ?_) hr)
  ·unfold pergolaref09_Read.f
   rw [if_neg (by omega), decide_eq_false (by omega)]
  ·rw [pergolaref09_Read.j0, if_neg (by decide), if_neg (by omega), if_pos h0, if_pos h, rdig, Option.bind_some]
   by_cases hd : dig (bt s a) = true
   ·rw [if_pos hd, he, decide_eq_true (.inl hd)]
   ·rw [if_neg hd, he]
    by_cases h45 : bt s a = 45
    ·rw [decide_eq_true (.inr h45), beq_iff_eq.mpr h45]
    ·rw [decide_eq_false (fun h => h.elim hd h45), beq_eq_false_iff_ne.mpr h45]
 unfold rdItem
 by_cases hn : dig (bt s a) = true ∨ bt s a = 45
 ·rw [if_pos hn]
  refine ⟨_, rfl, hF true _ (decide_eq_true hn).symm (Ev.step (fun k => ?_) (ev_id (rnumber_f s (by omega) a h0 h)))⟩
  rw [pergolaref09_Read.j1, if_pos rfl]
 rw [if_neg hn]
 have hF := fun r => hF false r (decide_eq_false hn).symm
 by_cases h34 : bt s a = 34
 ·rw [if_pos h34]
  refine ⟨_, rfl, hF _ (Ev.step (fun k => ?_) (ev_id (rtext_f s (by omega) a h0 h)))⟩
  rw [pergolaref09_Read.j1, if_neg (by decide), if_pos h34]
 rw [if_neg h34]
 obtain ⟨bl, hbl, hlet⟩ := rlet hb
 have hF2 : ∀ r, Ev (fun k => pergolaref09_Read.j2 k s a (bt s a) (letB (bt s a))) r → Ev (fun k => pergolaref09_Read.f k s a) r := by
  intro r hr
  refine hF _ (Ev.step (fun k => ?_) hr)
  rw [pergolaref09_Read.j1, if_neg (by decide), if_neg h34, hbl, Option.bind_some, ← hlet]
  cases bl <;> rfl
 by_cases hl : letB (bt s a) = true
 ·rw [if_pos hl]
  rw [hl] at hF2
  refine ⟨_, rfl, hF2 _ (Ev.step (fun k => ?_) (rtoken_l0 s hs a h0 ((s.size : Int) - a).toNat a (Int.le_refl _) (by omega)))⟩
  rw [pergolaref09_Read.j2, if_pos rfl]
 rw [if_neg hl]
 rw [Bool.eq_false_iff.mpr hl] at hF2
 by_cases h58 : bt s a = 58
 ·rw [if_pos h58]
  obtain ⟨R, hR, hE⟩ := roctets_f s hs a h0 h
  refine ⟨R, hR, hF2 _ (Ev.step (fun k => ?_) (ev_id hE))⟩
  rw [pergolaref09_Read.j2, if_neg (by decide), if_pos h58]
 rw [if_neg h58]
 by_cases h63 : bt s a = 63
 ·rw [if_pos h63]
  refine ⟨_, rfl, ?_⟩
  unfold rdBool
  by_cases h1 : a + 1 < (s.size : Int)
  ·rw [if_pos h1]
   by_cases hz : bt s (a + 1) = 48
   ·rw [if_pos (.inl hz)]
    refine hF2 _ (Ev.step (f := fun _ => some (ansR (.inr ((6, bt s (a + 1) - 48, ⟨#[]⟩), a + 1 + 1)))) (fun k => ?_) (Ev.now _))
    rw [pergolaref09_Read.j2, if_neg (by decide), if_neg h58, if_pos h63, hwa, if_neg (by omega), if_pos (by omega), if_pos h1, if_pos hz, hwb, hz]
    rfl
   ·by_cases ho : bt s (a + 1) = 49
    ·rw [if_pos (.inr ho)]
     refine hF2 _ (Ev.step (f := fun _ => some (ansR (.inr ((6, bt s (a + 1) - 48, ⟨#[]⟩), a + 1 + 1)))) (fun k => ?_) (Ev.now _))
     rw [pergolaref09_Read.j2, if_neg (by decide), if_neg h58, if_pos h63, hwa, if_neg (by omega), if_pos (by omega), if_pos h1, if_neg hz, if_pos ho, hwb, ho]
     rfl
    ·rw [if_neg (fun h => h.elim hz ho)]
     refine hF2 _ (Ev.step (f := fun _ => some (ansR (.inl (a + 1, 95)))) (fun k => ?_) (Ev.now _))
     rw [pergolaref09_Read.j2, if_neg (by decide), if_neg h58, if_pos h63, hwa, if_neg (by omega), if_pos (by omega), if_pos h1, if_neg hz, if_neg ho]
     rfl
  ·rw [if_neg h1]
   refine hF2 _ (Ev.step (f := fun _ => some (ansR (.inl ((s.size : Int), 99)))) (fun k => ?_) (Ev.now _))
   rw [pergolaref09_Read.j2, if_neg (by decide), if_neg h58, if_pos h63, hwa, if_pos (by omega)]
   rfl
 rw [if_neg h63]
 by_cases h64 : bt s a = 64
 ·rw [if_pos h64]
  refine ⟨_, rfl, hF2 _ (Ev.step (fun k => ?_) (ev_id (rdate_f s (by omega) a h0 h)))⟩
  rw [pergolaref09_Read.j2, if_neg (by decide), if_neg h58, if_neg h63, if_pos h64]
 rw [if_neg h64]
 by_cases h37 : bt s a = 37
 ·rw [if_pos h37]
  obtain ⟨R, hR, hE⟩ := rdisplay_f s hs a h0 h
  refine ⟨R, hR, hF2 _ (Ev.step (fun k => ?_) (ev_id hE))⟩
  rw [pergolaref09_Read.j2, if_neg (by decide), if_neg h58, if_neg h63, if_neg h64, if_pos h37]
 rw [if_neg h37]
 refine ⟨_, rfl, hF2 _ (Ev.step (f := fun _ => some (ansR (.inl (a, 91)))) (fun k => ?_) (Ev.now _))⟩
 rw [pergolaref09_Read.j2, if_neg (by decide), if_neg h58, if_neg h63, if_neg h64, if_neg h37]
 rfl
/-- Both Reads tell the same of any text, at any place. -/
theorem reads_same (s : ByteArray) (hs : s.size ≤ 1000000000000) (a : Int) : ∃ r, bare_Read.f s a = some r ∧ Ev (fun k => pergolaref09_Read.f k s a) r := by
 unfold bare_Read.f readF rdRead
 by_cases h1 : a < 0 ∨ a > (s.size : Int)
 ·rw [if_pos h1]
  refine ⟨_, rfl, Ev.congr (f := fun k => pergolaref09_Read.j0 k s a true) (fun k => ?_) (Ev.step (f := fun _ => some (0, 0, ⟨#[]⟩, a, 1)) (fun k => ?_) (Ev.now _))⟩
  ·unfold pergolaref09_Read.f
   by_cases h0 : a < 0
   ·rw [if_pos h0]
   ·rw [if_neg h0, decide_eq_true (by omega)]
  ·rw [pergolaref09_Read.j0, if_pos rfl]
 rw [if_neg h1]
 by_cases h2 : a = (s.size : Int)
 ·rw [if_pos h2]
  refine ⟨_, rfl, Ev.congr (f := fun k => pergolaref09_Read.j0 k s a false) (fun k => ?_) (Ev.step (f := fun _ => some (0, 0, ⟨#[]⟩, a, 99)) (fun k => ?_) (Ev.now _))⟩
  ·unfold pergolaref09_Read.f
   rw [if_neg (by omega), decide_eq_false (by omega)]
  ·rw [pergolaref09_Read.j0, if_neg (by decide), if_pos h2]
 rw [if_neg h2, if_pos (show s.size ≤ 140737488355327 by omega)]
 obtain ⟨R, hR, hE⟩ := rread_at s hs a (by omega) (by omega)
 rw [hR]
 refine ⟨_, rfl, ?_⟩
 cases R with
 | inl f => exact hE
 | inr v => exact hE
end Go.Proofs.YtkbmbancfbfddaaGreatDoor.Pure
