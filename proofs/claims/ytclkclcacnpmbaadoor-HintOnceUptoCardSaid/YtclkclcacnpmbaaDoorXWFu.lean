/- Layer 10's begin, over what the reading does. -/
import Derived.Test.YtclkclcacnpmbaaDoorXWFt
namespace Go.Proofs.YtclkclcacnpmbaaDoorW.PrintWords
open Go.RowKit

theorem begin_results (tmps : Array Value) (w : World) (b1 b2 : Nat) (n1 n2 : Int) (h4 : tmps[4]? = some (.pointer (some ⟨b1, 0, none⟩))) (h5 : tmps[5]? = some (.pointer (some ⟨b2, 0, none⟩)))
  (E1 : w.heap[b1]? = some (.cells #[.int .i64 n1] 29 (0, 0))) (E2 : w.heap[b2]? = some (.cells #[.int .i64 n2] 3 (0, 0))) :
  (results Tryd.f28 tmps).run Tryd.prog w = .ok (.tuple #[.int .i64 n1, .int .i64 n2]) w := by
 have c1 : w.cell? ⟨b1, 0, none⟩ = some (.int .i64 n1) := (blk_cell E1 0).trans rfl
 have c2 : w.cell? ⟨b2, 0, none⟩ = some (.int .i64 n2) := (blk_cell E2 0).trans rfl
 simp [results, Tryd.results28, go_sem, h4, h5, c1, c2]
theorem fcatch_idle (p0 p1 : Value) (w : World) :
  CallsD Tryd.prog 49 #[p0, p1] .returning w fun e u' w' => e = .returned (.tuple #[]) ∧ u' = .returning ∧ w' = w := by
 refine callsD_of_wpS Tryd.func49 rfl fun c₀ cs hu => ?_
 simp only [Tryd.ntmps49, List.size_toArray, List.length_cons, List.length_nil, Nat.reduceAdd, Nat.reduceSub, Array.replicate_succ, Array.replicate_zero, List.push_toArray, List.append_toArray, List.nil_append, List.cons_append]
 apply wpS_seq
 apply wpS_region
 simp [wpOpsS, go_sem, recoverD, hu, Exit.thenS]
 refine wpS_of_wp ?_
 go_wp2
 cases c₀
 simp_all [bodyPostS, results, Tryd.results49]
set_option maxHeartbeats 8000000 in
set_option maxRecDepth 100000 in
theorem begin_long (s : ByteArray) (rd : Value) (w : World) (h : 65536 < (s.size : Int)) :
  Calls Tryd.prog 28 #[.string s, rd] w fun x w' => x = .returned (.tuple #[.int .i64 5, .int .i64 0]) ∧ Below w.heap.size w w' := by
 have hbe : decide ((s.size : Int) > 65536) = true := decide_eq_true h
 have hbe2 : decide (65536 < (s.size : Int)) = true := decide_eq_true h
 obtain ⟨b1, hb1⟩ : ∃ b, b = w.heap.size := ⟨_, rfl⟩
 go_enter_defers Tryd.func28, Tryd.ntmps28
 go_upto_region 1 with (fail)
 obtain ⟨hx1, hx2, hb⟩ := alloc2 w (.cells #[.int .i64 0] 29) (.cells #[.int .i64 0] 3)
 rw [← hb1] at hx1 hx2
 rw [← hb1]
 obtain ⟨b2, hb2⟩ : ∃ b, b = b1 + 1 := ⟨_, rfl⟩
 rw [← hb2] at hx2
 rw [← hb2]
 have n12 : b1 ≠ b2 := by omega
 have n21 := n12.symm
 have X1 := Aside0.mk hx1
 have X2 := Aside0.mk hx2
 have HB := Aside0.mk hb
 have L1 := Aside0.mk (show w.heap.size ≤ b1 by omega)
 have L2 := Aside0.mk (show w.heap.size ≤ b2 by omega)
 clear hx1 hx2 hb hb1 hb2
 generalize (w.alloc (Obj.cells #[Value.int IntKind.i64 0] 29)).alloc (Obj.cells #[Value.int IntKind.i64 0] 3) = wc at *
 have c1 : wc.cell? ⟨b1, 0, none⟩ = some (.int .i64 0) := (blk_cell X1.out 0).trans rfl
 have c2 : wc.cell? ⟨b2, 0, none⟩ = some (.int .i64 0) := (blk_cell X2.out 0).trans rfl
 have z1 := blk_frozen X1.out 0
 have z2 := blk_frozen X2.out 0
 go_wp2
 exact ⟨_, begin_results _ _ b1 b2 5 0 rfl rfl (blk_far (p := ⟨b2, 0, none⟩) (blk_set X1.out 0 (.int .i64 5)) n12 (.int .i64 0)) (blk_set (blk_far (p := ⟨b1, 0, none⟩) X2.out n21 (.int .i64 5)) 0 (.int .i64 0)), rfl, below_setF (below_setF HB.out L1.out 0 _) L2.out 0 _⟩
def GivesG {σ : Type} (J : World → σ → Prop) (w0 : World) (x : Ending) (w' : World) (s : ByteArray) : FR σ → Prop
 | .inl f => x = .returned (.tuple #[.int .i64 f.1, .int .i64 f.2]) ∧ Below w0.heap.size w0 w'
 | .inr (y, _) => x = .returned (.tuple #[.int .i64 0, .int .i64 s.size]) ∧ J w' y ∧ Below w0.heap.size w0 w'
set_option linter.unusedVariables false
set_option maxHeartbeats 8000000 in
set_option maxRecDepth 100000 in
theorem begin_calls {σ : Type} {w0 : World} (k : Nat) (cap : Array Value) (eg : ∀ args w, (callFunc k args).run Tryd.prog w = .ok (.enter k args) w) (s : ByteArray) (hs : s.size ≤ 65536) (J : World → σ → Prop) (w : World) (hw : Below w0.heap.size w0 w) (R : FR σ)
  (hJ : ∀ w' p u y, J w' y → w.heap.size ≤ p.block → p.block < w.heap.size + 2 → J (w'.setCell p u) y)
  (hrd : ∀ w1, w1.heap.size = w.heap.size + 3 → Below w.heap.size w w1 → FrAt w0 w.heap.size (w.heap.size + 1) w1 → FdAt w1 (w.heap.size + 2) s 0 → Calls Tryd.prog k (#[.pointer (some ⟨w.heap.size + 2, 0, none⟩)] ++ cap) w1 fun e w' => GivesM J (FrAt w0 w.heap.size (w.heap.size + 1)) e w' (w.heap.size + 2) s R) :
  Calls Tryd.prog 28 #[.string s, .func (.func k) #[] cap] w fun x w' => GivesG J w0 x w' s R := by
 have hbe : decide ((s.size : Int) > 65536) = false := decide_eq_false (by omega)
 have hbe2 : decide (65536 < (s.size : Int)) = false := decide_eq_false (by omega)
 have hmf : ∀ (fn : Fn) (first cap : Array Value) (w : World), (Instr.makeFunc fn first cap).run Tryd.prog w = .ok (.func fn first cap) w := fun _ _ _ _ => rfl
 have HRD := Aside0.mk hrd
 have HJ := Aside0.mk hJ
 have HW0 := Aside0.mk hw
 clear hrd hJ hw
 go_enter_defers Tryd.func28, Tryd.ntmps28
 go_upto_region 1 with (fail)
 obtain ⟨hx1, hx2, hb⟩ := alloc2 w (.cells #[.int .i64 0] 29) (.cells #[.int .i64 0] 3)
 have hsz : ((w.alloc (.cells #[.int .i64 0] 29)).alloc (.cells #[.int .i64 0] 3)).heap.size = w.heap.size + 2 := by show ((w.heap.push _).push _).size = _; rw [Array.size_push, Array.size_push]
 have X1 := Aside0.mk hx1
 have X2 := Aside0.mk hx2
 have HB := Aside0.mk hb
 have HZ := Aside0.mk hsz
 clear hx1 hx2 hb hsz
 generalize (w.alloc (Obj.cells #[Value.int IntKind.i64 0] 29)).alloc (Obj.cells #[Value.int IntKind.i64 0] 3) = wc at *
 obtain ⟨g, hg⟩ : ∃ g, g = wc.heap.size := ⟨_, rfl⟩
 rw [← HZ.out, ← hg] at HRD
 obtain ⟨b2, hb2⟩ : ∃ b, b = w.heap.size + 1 := ⟨_, rfl⟩
 rw [← hb2] at X2 HRD
 rw [← hb2]
 obtain ⟨b1, hb1⟩ : ∃ b, b = w.heap.size := ⟨_, rfl⟩
 have HRD2 : Aside0 (∀ w1, w1.heap.size = w.heap.size + 3 → Below w.heap.size w w1 → FrAt w0 b1 b2 w1 → FdAt w1 g s 0 → Calls Tryd.prog k (#[.pointer (some ⟨g, 0, none⟩)] ++ cap) w1 fun e w' => GivesM J (FrAt w0 b1 b2) e w' g s R) := ⟨by rw [hb1]; exact HRD.out⟩
 have HJ2 : Aside0 (∀ (w' : World) (p : Addr) (u : Value) (y : σ), J w' y → p.block = b1 ∨ p.block = b2 → J (w'.setCell p u) y) := ⟨fun w' p u y h hp => HJ.out w' p u y h (by omega) (by omega)⟩
 rw [← hb1] at X1
 rw [← hb1]
 have n12 : b1 ≠ b2 := by omega
 have n21 := n12.symm
 have NG1 : b1 ≠ g := by rw [hg, HZ.out]; omega
 have NG2 : b2 ≠ g := by rw [hg, HZ.out]; omega
 have L1 := Aside0.mk (show w0.heap.size ≤ b1 by have := HW0.out.size; omega)
 have L2 := Aside0.mk (show w0.heap.size ≤ b2 by have := HW0.out.size; omega)
 obtain ⟨hxr, hbr⟩ := alloc1 wc (.cells #[.string s, .int .i64 0] 77)
 have HRr : Aside0 (FdAt (wc.alloc (.cells #[.string s, .int .i64 0] 77)) g s 0) := ⟨by rw [hg]; exact hxr⟩
 have HBr := Aside0.mk (below_then HB.out HB.out.size hbr)
 have HZr : Aside0 ((wc.alloc (.cells #[.string s, .int .i64 0] 77)).heap.size = w.heap.size + 3) := ⟨by show (wc.heap.push _).size = _; rw [Array.size_push, HZ.out]⟩
 have HFr : Aside0 (FrAt w0 b1 b2 (wc.alloc (.cells #[.string s, .int .i64 0] 77))) := ⟨HW0.out.trans (below_thn (Below.refl _ _) (by exact HW0.out.size) HBr.out), blk_below X1.out hbr, blk_below X2.out hbr⟩
 clear hxr hbr HRD HJ hb1 hb2
 go_upto_region 4 with (fail)
 rcases R with f | ⟨y, at_⟩
 ·unfold GivesM at HRD2
  go_wp2_with (first | (go_at_fn k; rw [← hg]; refine (HRD2.out _ HZr.out HBr.out HFr.out HRr.out).mono ?_; rintro e w5 ⟨rfl, hf5⟩))
  refine leaves_cons (f := 49) (args := #[.pointer (some ⟨b1, 0, none⟩), .pointer (some ⟨b2, 0, none⟩)]) (by simp) (by simp [go_sem]) ?_
  refine (fcatch_fault b1 b2 _ _ _ _ _ hf5.c1 hf5.c2 n12).mono ?_
  rintro e u' wg ⟨rfl, rfl, E1, E2, BB⟩
  exact ⟨_, begin_results _ _ b1 b2 f.1 f.2 rfl rfl E1 E2, rfl, hf5.below.trans (BB _ L1.out L2.out)⟩
 ·unfold GivesM at HRD2
  go_upto_region 5 with (first | (go_at_fn k; rw [← hg]; refine (HRD2.out _ HZr.out HBr.out HFr.out HRr.out).mono ?_; rintro e w5 ⟨rfl, hr5, hj5, hf5⟩; have HF5 := Aside0.mk hf5; have HJ5 := Aside0.mk hj5; clear hr5 hf5 hj5))
  have c1 : w5.cell? ⟨b1, 0, none⟩ = some (.int .i64 0) := (blk_cell HF5.out.c1 0).trans rfl
  have c2 : w5.cell? ⟨b2, 0, none⟩ = some (.int .i64 0) := (blk_cell HF5.out.c2 0).trans rfl
  have z1 := blk_frozen HF5.out.c1 0
  have z2 := blk_frozen HF5.out.c2 0
  go_wp2
  refine leaves_cons (f := 49) (args := #[.pointer (some ⟨b1, 0, none⟩), .pointer (some ⟨b2, 0, none⟩)]) (by simp) (by simp [go_sem]) ?_
  refine (fcatch_idle _ _ _).mono ?_
  rintro e u' wg ⟨rfl, rfl, rfl⟩
  exact ⟨_, begin_results _ _ b1 b2 0 s.size rfl rfl (blk_far (p := ⟨b2, 0, none⟩) (blk_set HF5.out.c1 0 (.int .i64 0)) n12 (.int .i64 s.size)) (blk_set (blk_far (p := ⟨b1, 0, none⟩) HF5.out.c2 n21 (.int .i64 0)) 0 (.int .i64 s.size)), rfl, HJ2.out _ ⟨b2, 0, none⟩ _ _ (HJ2.out _ ⟨b1, 0, none⟩ _ _ HJ5.out (.inl rfl)) (.inr rfl), below_setF (below_setF HF5.out.below L1.out 0 _) L2.out 0 _⟩
def fdReadList (BR : ByteArray → Int → Option (BareT × Int × Int)) (KR : ByteArray → Int → Option (ByteArray × Int × Int)) (IX : ByteArray → Int → Int) (m n k : Nat) (s : ByteArray) : Option (List MemT × Int × Int) :=
 if 65536 < (s.size : Int) then some ([], 5, 0)
 else (fdAll IX s (fdListStep BR KR IX s m n) k []).bind fun R => match R with
  | .inl f => if f.1 = 0 then none else some ([], f.1, f.2)
  | .inr (xs, _) => some (xs, 0, s.size)
theorem LsAt.far {b rb g base : Nat} {w : World} {xs : List MemT} (h : LsAt b rb g base w xs) {p : Addr} (h1 : b ≠ p.block) (h2 : rb ≠ p.block) (h3 : p.block < base) (u : Value) : LsAt b rb g base (w.setCell p u) xs := by
 obtain ⟨⟨v, hv, hm⟩, hr, hl, hs⟩ := h
 exact ⟨⟨v, blk_far hv h1 u, hm.far h3 u⟩, blk_far hr h2 u, hl, Nat.le_trans hs (Nat.le_of_eq (by simp [World.setCell]))⟩
set_option linter.unusedVariables false
set_option maxHeartbeats 4000000 in
set_option maxRecDepth 100000 in
theorem list1_calls {w0 : World} {BR : ByteArray → Int → Option (BareT × Int × Int)} {KR : ByteArray → Int → Option (ByteArray × Int × Int)} {IX : ByteArray → Int → Int} (H : FdHyp w0 BR KR IX)
  (b g b1 b2 : Nat) (s : ByteArray) (hs : s.size ≤ 281474976710656) (m n k : Nat) (h0b : w0.heap.size ≤ b) (hg : w0.heap.size ≤ g) (hbg : b ≠ g) (h1g : b1 ≠ g) (h2g : b2 ≠ g) (h1n : b1 ≠ b) (h2n : b2 ≠ b)
  (w : World) (R : FR (List MemT)) (hw : FrAt w0 b1 b2 w) (hr : FdAt w g s 0) (hb : w.heap[b]? = some (.cells #[.slice none 0 0] 45 (0, 0))) (hR : fdAll IX s (fdListStep BR KR IX s m n) k [] = some R) :
  Calls Tryd.prog 29 #[.pointer (some ⟨g, 0, none⟩), .pointer (some ⟨b, 0, none⟩)] w fun e w' => GivesM (LsAt b w.heap.size g (w.heap.size + 1)) (FrAt w0 b1 b2) e w' g s R := by
 obtain ⟨hx1, hb1⟩ := alloc1 w (.cells #[.pointer (some ⟨g, 0, none⟩)] 73)
 have hz1 : (w.alloc (.cells #[.pointer (some ⟨g, 0, none⟩)] 73)).heap.size = w.heap.size + 1 := by show (w.heap.push _).size = _; rw [Array.size_push]
 have hlb := blk_lt hb
 have hlg := hr.lt
 have hl1 := blk_lt hw.c1
 have hl2 := blk_lt hw.c2
 have HMM := Aside0.mk (members_calls IX H.hI (LsAt b w.heap.size g (w.heap.size + 1)) (FrAt w0 b1 b2) 31 #[.pointer (some ⟨b, 0, none⟩), .pointer (some ⟨w.heap.size, 0, none⟩)] (fun args w => rfl) (fdListStep BR KR IX s m n) g s hs
  (fun w1 w2 x hI hw2 => hI.went hw2 hbg (by omega) (by omega)) (fun w1 w2 hF hw2 => hF.went hw2 hg h1g h2g)
  (fun w1 a x R1 hF hr1 hI h0 h1 hR1 => lstep_calls H b w.heap.size g (w.heap.size + 1) s hs m n h0b hg hbg (by omega) (by omega) (by omega) (by omega) (by omega) (Nat.le_succ_of_le hw.below.size) b1 b2 (by omega) (by omega) h1g h2g h1n h2n w1 a x R1 hF hr1 hI h0 h1 hR1)
  (fun a x y c h0 h1 h => H.list_in a x y c h0 h1 h) [] (w.alloc (.cells #[.pointer (some ⟨g, 0, none⟩)] 73)) ⟨hw.below.trans (below_thn (Below.refl _ _) hw.below.size hb1), blk_below hw.c1 hb1, blk_below hw.c2 hb1⟩ (hr.more hb1)
  ⟨⟨_, blk_below hb hb1, Mems.nil _ _⟩, hx1, Nat.zero_le _, Nat.le_of_eq hz1.symm⟩ k R hR)
 have q0 : (w.alloc (.cells #[.pointer (some ⟨g, 0, none⟩)] 73)).cell? ⟨w.heap.size, 0, none⟩ = some (.pointer (some ⟨g, 0, none⟩)) := (blk_cell hx1 0).trans rfl
 have hmf : ∀ (fn : Fn) (first cap : Array Value) (w : World), (Instr.makeFunc fn first cap).run Tryd.prog w = .ok (.func fn first cap) w := fun _ _ _ _ => rfl
 clear hx1 hb1 hz1 hlb hlg hl1 hl2 hw hr hb H
 go_enter Tryd.func29, Tryd.ntmps29
 go_upto_region 1 with (fail)
 rcases R with f | ⟨y, c⟩
 ·unfold GivesM at HMM
  go_wp2_with (go_at_call 30; refine HMM.out.mono ?_; rintro e w2 ⟨rfl, hf⟩)
  exact ⟨rfl, rfl, hf⟩
 ·unfold GivesM at HMM
  go_wp2_with (go_at_call 30; refine HMM.out.mono ?_; rintro e w2 ⟨rfl, hr2, hl2, hf⟩)
  go_end0
  exact ⟨rfl, hr2, hl2, hf⟩
set_option maxHeartbeats 4000000 in
set_option maxRecDepth 100000 in
theorem readList_calls (w : World) {BR : ByteArray → Int → Option (BareT × Int × Int)} {KR : ByteArray → Int → Option (ByteArray × Int × Int)} {IX : ByteArray → Int → Int} (H : FdHyp w BR KR IX)
  (m n k : Nat) (s : ByteArray) (A : List MemT × Int × Int) (hR : fdReadList BR KR IX m n k s = some A) :
  Calls Tryd.prog 20 #[.string s] w fun e w' => ∃ v, e = .returned (.tuple #[v, .int .i64 A.2.1, .int .i64 A.2.2]) ∧ Mems w' w.heap.size v A.1 ∧ Below w.heap.size w w' := by
 have hmf : ∀ (fn : Fn) (first cap : Array Value) (w : World), (Instr.makeFunc fn first cap).run Tryd.prog w = .ok (.func fn first cap) w := fun _ _ _ _ => rfl
 obtain ⟨hx1, hb1⟩ := alloc1 w (.cells #[.slice none 0 0] 45)
 unfold fdReadList at hR
 by_cases hl : 65536 < (s.size : Int)
 ·rw [if_pos hl] at hR
  have hR := Option.some.inj hR
  subst hR
  have HB := Aside0.mk (fun rd => begin_long s rd (w.alloc (.cells #[.slice none 0 0] 45)) hl)
  have HB1 := Aside0.mk hb1
  clear hx1 hb1 H
  go_enter Tryd.func20, Tryd.ntmps20
  go_wp2_with (go_at_call 28; refine (HB.out _).mono ?_; rintro e w2 ⟨rfl, hb2⟩)
  (try simp only [Exit.inBlock, Exit.then])
  refine bodyPost_ret (v := .tuple #[.slice none 0 0, .int .i64 5, .int .i64 0]) (by simp [results, Tryd.results20, go_sem]; try rfl) rfl ?_
  exact ⟨_, rfl, Mems.nil _ _, below_then HB1.out HB1.out.size hb2⟩
 ·rw [if_neg hl] at hR
  obtain ⟨R, hA, hR⟩ := Option.bind_eq_some_iff.mp hR
  have hz1 : (w.alloc (.cells #[.slice none 0 0] 45)).heap.size = w.heap.size + 1 := by show (w.heap.push _).size = _; rw [Array.size_push]
  have hg1 := begin_calls (w0 := w) 29 #[.pointer (some ⟨w.heap.size, 0, none⟩)] (fun args w => rfl) s (by omega) (LsAt w.heap.size (w.heap.size + 4) (w.heap.size + 3) (w.heap.size + 5)) (w.alloc (.cells #[.slice none 0 0] 45)) hb1 R
   (fun w' p u y hy h1 h2 => hy.far (by omega) (by omega) (by omega) u)
   (fun w1 h1 h2 h3 h4 => by
    rw [hz1] at h1 h2 h3 h4 ⊢
    have hL := list1_calls H w.heap.size (w.heap.size + 3) (w.heap.size + 1) (w.heap.size + 2) s (by omega) m n k (Nat.le_refl _) (by omega) (by omega) (by omega) (by omega) (by omega) (by omega) w1 R h3 h4 ((h2.block _ (by omega)).trans hx1) hA
    rw [h1] at hL
    exact hL)
  have HG1 := Aside0.mk hg1
  have HB1 := Aside0.mk hb1
  clear hx1 hb1 H hg1 hz1
  unfold GivesG at HG1
  rcases R with f | ⟨xs, c⟩
  ·have hR : (if f.1 = 0 then none else some (([] : List MemT), f.1, f.2)) = some A := hR
   by_cases hf : f.1 = 0
   ·rw [if_pos hf] at hR
    cases hR
   ·rw [if_neg hf] at hR
    have hR := Option.some.inj hR
    subst hR
    have hfb : (f.1 != 0) = true := by simp [hf]
    obtain ⟨f1, f2⟩ := f
    go_enter Tryd.func20, Tryd.ntmps20
    go_wp2_with (go_at_call 28; refine HG1.out.mono ?_; rintro e w2 ⟨rfl, hb2⟩)
    (try simp only [Exit.inBlock, Exit.then])
    refine bodyPost_ret (v := .tuple #[.slice none 0 0, .int .i64 f1, .int .i64 f2]) (by simp [results, Tryd.results20, go_sem]; try rfl) rfl ?_
    exact ⟨_, rfl, Mems.nil _ _, hb2⟩
  ·have hR := Option.some.inj hR
   subst hR
   go_enter Tryd.func20, Tryd.ntmps20
   go_wp2_with (go_at_call 28; refine HG1.out.mono ?_; rintro e w2 ⟨rfl, hl2, hb2⟩; obtain ⟨⟨v2, hv2, hm2⟩, _, _, _⟩ := hl2; obtain ⟨A2, c2, rfl⟩ := hm2.len; have q0 : w2.cell? ⟨w.heap.size, 0, none⟩ = some (.slice A2 xs.length c2) := (blk_cell hv2 0).trans rfl; have HM2 := Aside0.mk hm2; clear hm2 hv2)
   (try simp only [Exit.inBlock, Exit.then])
   refine bodyPost_ret (v := .tuple #[.slice A2 xs.length c2, .int .i64 0, .int .i64 s.size]) (by simp [results, Tryd.results20, go_sem]; try rfl) rfl ?_
   exact ⟨_, rfl, Kd.R_lower HM2.out (by omega), hb2⟩
end Go.Proofs.YtclkclcacnpmbaaDoorW.PrintWords
