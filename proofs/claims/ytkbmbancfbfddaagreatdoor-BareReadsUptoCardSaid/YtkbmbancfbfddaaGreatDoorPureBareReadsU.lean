/- BareReads: Read and ReadKey tell what the page's tell. -/
import Derived.Test.YtkbmbancfbfddaaGreatDoorX16
import Derived.Test.YtkbmbancfbfddaaGreatDoorPAlive
import Derived.Test.YtkbmbancfbfddaaGreatDoorPRefRead
namespace Go.Proofs.YtkbmbancfbfddaaGreatDoor.Pure
open Go.RowKit Go.Proofs.YtkbmbancfbfddaaGreatDoor.X Go.Proofs.YtkbmbancfbfddaaGreatDoorW.PrintWords Go.Proofs.YtkbmbancfbfddaaGreatDoorW.PrintLast Go.Proofs.YtkbmbancfbfddaaGreatDoorW.PrintMore

theorem alive_ev : Ev (fun k => pergolalaw09_alive.f k) true := Ev.of (fun k => pergolalaw09_alive.mono k) alive_20
def keyB (c : Int) : Bool := (bare_keyed.f c).getD false
theorem keyB_f {c : Int} (h : 0 ≤ c ∧ c < 256) : bare_keyed.f c = some (keyB c) ∧ pergolaref09_next.f c = some (keyB c) :=
 byte_all (p := fun c => bare_keyed.f c = some (keyB c) ∧ pergolaref09_next.f c = some (keyB c)) (by decide +kernel) h
def firstB (c : Int) : Bool := (pergolaref09_first.f c).getD false
theorem firstB_f {c : Int} (h : 0 ≤ c ∧ c < 256) : pergolaref09_first.f c = some (firstB c) ∧ bare_small.f c = some ((bare_small.f c).getD false) ∧ ((bare_small.f c).getD false || c == 42) = firstB c :=
 byte_all (p := fun c => pergolaref09_first.f c = some (firstB c) ∧ bare_small.f c = some ((bare_small.f c).getD false) ∧ ((bare_small.f c).getD false || c == 42) = firstB c) (by decide +kernel) h
def keyR (s : ByteArray) (a E : Int) : ByteArray × Int × Int := if E - a > 64 then (⟨#[]⟩, a, 5) else (s.extract a.toNat E.toNat, E, 0)
section
variable (s : ByteArray) (hs : s.size ≤ 1000000000000) (a : Int) (h0 : 0 ≤ a)
include hs h0
theorem key_fin (i : Int) (hi : a ≤ i) (hd : i ≤ (s.size : Int)) : (if (wrap64 (i - a)) > 64 then (some ((⟨#[]⟩ : ByteArray), a, (5 : Int))) else (if 0 ≤ a then (if a ≤ i then (if i ≤ (s.size : Int) then (some (s.extract (a : Int).toNat (i : Int).toNat, i, (0 : Int))) else (none)) else (none)) else (none))) = some (keyR s a i) := by
 unfold keyR
 rw [w64 (x := i - a) (by omega) (by omega), if_pos h0, if_pos hi, if_pos hd]
 split <;> rfl
theorem keys_l0 : ∀ (d : Nat) (i : Int), a ≤ i → i + d = (s.size : Int) → Ev (fun k => bare_ReadKey.l0 k s a i) (keyR s a (tokE keyB s i)) ∧ Ev (fun k => pergolaref09_ReadKey.l0 k s a i) (keyR s a (tokE keyB s i)) := by
 intro d
 induction d with
 | zero =>
  intro i hi hd
  rw [tokE_stop (fun h => by omega)]
  refine ⟨Ev.step (f := fun _ => some (keyR s a i)) (fun k => ?_) (Ev.now _), Ev.step (f := fun _ => some (keyR s a i)) (fun k => ?_) (Ev.now _)⟩
  ·rw [bare_ReadKey.l0, if_neg (by omega), key_fin s hs a h0 i hi (by omega)]
  ·rw [pergolaref09_ReadKey.l0, if_neg (by omega), key_fin s hs a h0 i hi (by omega)]
 | succ d ih =>
  intro i hi hd
  have hlt : i < (s.size : Int) := by omega
  have hw : wrap64 (i + 1) = i + 1 := w64 (by omega) (by omega)
  obtain ⟨k1, k2⟩ := keyB_f (byte_in s i)
  by_cases hT : keyB (bt s i) = true
  ·rw [tokE_step hlt hT]
   obtain ⟨e1, e2⟩ := ih (i + 1) (by omega) (by omega)
   refine ⟨Ev.step (fun k => ?_) e1, Ev.step (fun k => ?_) e2⟩
   ·rw [bare_ReadKey.l0, if_pos hlt, if_pos (by omega), k1, Option.bind_some, if_pos hT, hw]
   ·rw [pergolaref09_ReadKey.l0, if_pos hlt, if_pos (by omega), k2, Option.bind_some, if_pos hT, hw]
  ·rw [tokE_stop (fun h => hT h.2)]
   refine ⟨Ev.step (f := fun _ => some (keyR s a i)) (fun k => ?_) (Ev.now _), Ev.step (f := fun _ => some (keyR s a i)) (fun k => ?_) (Ev.now _)⟩
   ·rw [bare_ReadKey.l0, if_pos hlt, if_pos (by omega), k1, Option.bind_some, if_neg hT, key_fin s hs a h0 i hi (by omega)]
   ·rw [pergolaref09_ReadKey.l0, if_pos hlt, if_pos (by omega), k2, Option.bind_some, if_neg hT, key_fin s hs a h0 i hi (by omega)]
end
theorem keys_same (s : ByteArray) (hs : s.size ≤ 1000000000000) (a : Int) : ∃ r, Ev (fun k => bare_ReadKey.f k s a) r ∧ Ev (fun k => pergolaref09_ReadKey.f k s a) r := by
 by_cases h1 : a < 0 ∨ a > (s.size : Int)
 ·refine ⟨(⟨#[]⟩, a, 1), Ev.congr (f := fun k => bare_ReadKey.j0 k s a true) (fun k => ?_) (Ev.step (f := fun _ => some (⟨#[]⟩, a, 1)) (fun k => ?_) (Ev.now _)), Ev.congr (f := fun k => pergolaref09_ReadKey.j0 k s a true) (fun k => ?_) (Ev.step (f := fun _ => some (⟨#[]⟩, a, 1)) (fun k => ?_) (Ev.now _))⟩
  ·unfold bare_ReadKey.f
   by_cases h0 : a < 0
   ·rw [if_pos h0]
   ·rw [if_neg h0, decide_eq_true (by omega)]
  ·rw [bare_ReadKey.j0, if_pos rfl]
  ·unfold pergolaref09_ReadKey.f
   by_cases h0 : a < 0
   ·rw [if_pos h0]
   ·rw [if_neg h0, decide_eq_true (by omega)]
  ·rw [pergolaref09_ReadKey.j0, if_pos rfl]
 have hA : ∀ r, Ev (fun k => bare_ReadKey.j0 k s a false) r → Ev (fun k => bare_ReadKey.f k s a) r := fun r hr => by
  refine Ev.congr (fun k => ?_) hr
  unfold bare_ReadKey.f
  rw [if_neg (by omega), decide_eq_false (by omega)]
 have hB : ∀ r, Ev (fun k => pergolaref09_ReadKey.j0 k s a false) r → Ev (fun k => pergolaref09_ReadKey.f k s a) r := fun r hr => by
  refine Ev.congr (fun k => ?_) hr
  unfold pergolaref09_ReadKey.f
  rw [if_neg (by omega), decide_eq_false (by omega)]
 by_cases h2 : a = (s.size : Int)
 ·refine ⟨(⟨#[]⟩, a, 99), hA _ (Ev.step (f := fun _ => some (⟨#[]⟩, a, 99)) (fun k => ?_) (Ev.now _)), hB _ (Ev.step (f := fun _ => some (⟨#[]⟩, a, 99)) (fun k => ?_) (Ev.now _))⟩
  ·rw [bare_ReadKey.j0, if_neg (by decide), if_pos h2]
  ·rw [pergolaref09_ReadKey.j0, if_neg (by decide), if_pos h2]
 have h0 : 0 ≤ a := by omega
 have hlt : a < (s.size : Int) := by omega
 obtain ⟨f1, f2, f3⟩ := firstB_f (byte_in s a)
 obtain ⟨e1, e2⟩ := keys_l0 s hs a h0 ((s.size : Int) - a).toNat a (Int.le_refl _) (by omega)
 have e1' : Ev (fun k => bare_ReadKey.j1 k s a) (keyR s a (tokE keyB s a)) := Ev.step (fun k => by rw [bare_ReadKey.j1]) e1
 by_cases hf : firstB (bt s a) = true
 ·refine ⟨_, hA _ (Ev.step (fun k => ?_) e1'), hB _ (Ev.step (fun k => ?_) e2)⟩
  ·rw [bare_ReadKey.j0, if_neg (by decide), if_neg h2, if_pos h0, if_pos hlt, f2, Option.bind_some]
   by_cases g : (bare_small.f (bt s a)).getD false = true
   ·rw [if_pos g]
   ·rw [if_neg g]
    rw [hf, Bool.eq_false_iff.mpr g, Bool.false_or] at f3
    rw [if_pos (beq_iff_eq.mp f3)]
  ·rw [pergolaref09_ReadKey.j0, if_neg (by decide), if_neg h2, if_pos h0, if_pos hlt, f1, Option.bind_some, if_pos hf]
 ·refine ⟨(⟨#[]⟩, a, 101), hA _ (Ev.step (f := fun _ => some (⟨#[]⟩, a, 101)) (fun k => ?_) (Ev.now _)), hB _ (Ev.step (f := fun _ => some (⟨#[]⟩, a, 101)) (fun k => ?_) (Ev.now _))⟩
  ·rw [bare_ReadKey.j0, if_neg (by decide), if_neg h2, if_pos h0, if_pos hlt, f2, Option.bind_some]
   rw [Bool.eq_false_iff.mpr hf, Bool.or_eq_false_iff] at f3
   rw [if_neg (by rw [f3.1]; decide), if_neg (beq_eq_false_iff_ne.mp f3.2)]
  ·rw [pergolaref09_ReadKey.j0, if_neg (by decide), if_neg h2, if_pos h0, if_pos hlt, f1, Option.bind_some, if_neg hf]
theorem BareReadsU : pergolalaw09_BareReads.PureU := by
 intro s a hs ha
 refine Ev.rounds ?_
 obtain ⟨r, hr, hE⟩ := reads_same s (by omega) a
 obtain ⟨q, hq1, hq2⟩ := keys_same s (by omega) a
 unfold pergolalaw09_BareReads.f
 have hr' : Ev (fun _ : Nat => bare_Read.f s a) r := Ev.congr (fun _ => hr) (Ev.now r)
 refine Ev.bind hr' (Ev.bind hE (Ev.bind hq1 (Ev.bind hq2 ?_)))
 have hn : ∀ e, pergolalaw09_num.f e = some e := fun _ => rfl
 refine Ev.congr (fun k => ?_) alive_ev
 simp [hn]
end Go.Proofs.YtkbmbancfbfddaaGreatDoor.Pure
