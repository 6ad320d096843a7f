/- Layer 10's ReadList: the step of its members. -/
import Derived.Test.YtclkclcacnpmbaaDoorXWFs
namespace Go.Proofs.YtclkclcacnpmbaaDoorW.PrintWords
open Go.RowKit Go.Proofs.YtclkclcacnpmbaaDoorW.PrintLast

theorem below_grown {B : Nat} {w0 w w1 : World} {row : Option Nat} (h : Below B w0 w) (hB : B ≤ w.heap.size) (hg : w.grownBy w1 row) (hr : ∀ k, row = some k → B ≤ k) : Below B w0 w1 :=
 h.trans ⟨hg.os, hg.tape, hg.output, hg.size, fun i hi => hg.block i (Nat.lt_of_lt_of_le hi hB) (fun e => by have := hr i e.symm; omega)⟩
def Mems (w : World) (base : Nat) (v : Value) (xs : List MemT) : Prop := kMemT.R 54 w base (fun _ => True) v xs
theorem Mems.nil (w : World) (base : Nat) : Mems w base (.slice none 0 0) [] := Kd.R_nil _ _ _ _ _
theorem Mems.below {w w1 : World} {base : Nat} {v : Value} {xs : List MemT} (h : Mems w base v xs) (hb : Below w.heap.size w w1) : Mems w1 base v xs := Kd.R_below h hb
theorem Mems.went {w w1 : World} {base g : Nat} {v : Value} {xs : List MemT} (h : Mems w base v xs) (hw : Went w w1 g) (hg : g < base) : Mems w1 base v xs :=
 Kd.R_mono (Kd.R_move (Kd.R_bound h) (fun k hk => hw.keep.2 k hk.2.2.1 (by have := hk.2.1; omega) (by simp))) (fun _ _ => trivial)
theorem Mems.far {w : World} {base : Nat} {v : Value} {xs : List MemT} (h : Mems w base v xs) {p : Addr} (hp : p.block < base) (u : Value) : Mems (w.setCell p u) base v xs :=
 Kd.R_mono (Kd.R_move (Kd.R_bound h) (fun k hk => Below.heap_setCell w p u k (by have := hk.2.1; omega))) (fun _ _ => trivial)
theorem Mems.len {w : World} {base : Nat} {v : Value} {xs : List MemT} (h : Mems w base v xs) : ∃ A c, v = .slice A xs.length c := by
 obtain ⟨_, inner, ho, _⟩ := h
 exact own_slice ho
theorem Mems.at_ {w : World} {base : Nat} {v : Value} {xs : List MemT} (h : Mems w base v xs) (k : Nat) (hk : v.ownBlock = some k) : base ≤ k ∧ k < w.heap.size := by
 obtain ⟨_, inner, ho, _⟩ := h
 exact ⟨own_base ho k hk, own_lt ho k hk⟩
theorem infoMember : (Tryd.prog.info? 54).map (fun i => (i.zero, i.size, i.bytes)) = some (some (.agg #[.string ⟨#[]⟩, .bool false, .int .i64 0, .int .i64 0, .string ⟨#[]⟩, .slice none 0 0, .slice none 0 0]), 7, 104) := by kernel_rfl
abbrev memCells (x : MemT) (vi vp : Value) : Array Value := #[.string x.1, .bool x.2.1, .int .i64 x.2.2.1.1, .int .i64 x.2.2.1.2.1, .string x.2.2.1.2.2, vi, vp]
section
variable {ops : Array Oper} {o : Oper} {a : Act} {Q : Exit → Act → World → Prop} {Kc : Act → World → Prop} {W : World} {B B1 : Nat}
theorem push_mem_step (hw : Region.wanted o (yielded ops a.tmps) = true) (sl x : Operand) (ho : o.op = .call { callee := .builtin .append, args := #[sl, x], argTypes := #[45, 45] }) (v : Value) (xs : List MemT) (y : MemT) (vi vp : Value) (hs : a.eval sl = v) (hx : a.eval x = .slice (some ⟨W.heap.size, 0, none⟩) 1 1)
  (HM : Mems W B v xs) (HI : Items W B1 vi y.2.2.2.1) (HP : Pars W B1 vp y.2.2.2.2) (hB : B ≤ B1) (hv : ∀ k, v.ownBlock = some k → k < B1) (hb : B ≤ W.heap.size) (hl : xs.length ≤ 1024)
  (h : ∀ v1 w1, Mems w1 B v1 (xs ++ [y]) → W.grownBy w1 v.ownBlock → Kc (a.put o.dst v1) w1) :
  if Region.wanted o (yielded ops a.tmps) = true then Oper.wp Tryd.prog o a (W.alloc (.cells (memCells y vi vp) 54)) Kc Q else Kc (a.put o.dst undef) (W.alloc (.cells (memCells y vi vp) 54)) := by
 have hM := kMemT.M_lower hB (kMemT_mk y HI HP (fun k => some k ≠ v.ownBlock) (fun k hk e => by have := hv k e.symm; omega))
 refine Kd.R_append_step kMemT (w0 := W) B hw sl x 45 54 _ 104 ho Tryd.underlying45 infoMember rfl (by decide) (by decide) v xs y [.string y.1, .bool y.2.1, .int .i64 y.2.2.1.1, .int .i64 y.2.2.1.2.1, .string y.2.2.1.2.2, vi, vp] (fun _ => True) (fun k => some k ≠ v.ownBlock) hs hx hM (fun k hk => ⟨trivial, hk⟩) (fun _ _ => trivial) HM (Below.refl _ _) hb (by omega) ?_
 intro v1 w1 ho1 _ hg1 _
 exact h v1 w1 ho1 hg1
end
structure LsAt (b rb g base : Nat) (w : World) (xs : List MemT) : Prop where
 own : ∃ v, w.heap[b]? = some (.cells #[v] 45 (0, 0)) ∧ Mems w base v xs
 rd : w.heap[rb]? = some (.cells #[.pointer (some ⟨g, 0, none⟩)] 73 (0, 0))
 most : xs.length ≤ 1024
 size : base ≤ w.heap.size
theorem LsAt.went {b rb g base : Nat} {w w1 : World} {xs : List MemT} (h : LsAt b rb g base w xs) (hw : Went w w1 g) (h1 : b ≠ g) (h2 : rb ≠ g) (h3 : g < base) : LsAt b rb g base w1 xs := by
 obtain ⟨⟨v, hv, hm⟩, hr, hl, hs⟩ := h
 exact ⟨⟨v, hw.keep.blk hv h1 (by simp), hm.went hw h3⟩, hw.keep.blk hr h2 (by simp), hl, Nat.le_trans hs hw.keep.1⟩
structure FrAt (w0 : World) (b1 b2 : Nat) (w : World) : Prop where
 below : Below w0.heap.size w0 w
 c1 : w.heap[b1]? = some (.cells #[.int .i64 0] 29 (0, 0))
 c2 : w.heap[b2]? = some (.cells #[.int .i64 0] 3 (0, 0))
theorem FrAt.went {w0 w w1 : World} {b1 b2 g : Nat} (h : FrAt w0 b1 b2 w) (hw : Went w w1 g) (hg : w0.heap.size ≤ g) (h1 : b1 ≠ g) (h2 : b2 ≠ g) : FrAt w0 b1 b2 w1 :=
 ⟨hw.from0 h.below hg, hw.keep.blk h.c1 h1 (by simp), hw.keep.blk h.c2 h2 (by simp)⟩
def fdListStep (BR : ByteArray → Int → Option (BareT × Int × Int)) (KR : ByteArray → Int → Option (ByteArray × Int × Int)) (IX : ByteArray → Int → Int) (s : ByteArray) (m n : Nat) (a : Int) (xs : List MemT) : Option (FR (List MemT)) :=
 if xs.length = 1024 then some (.inl (3, a)) else (fdValue BR KR IX s m n a).bind fun V => match V with
  | .inl f => some (.inl f)
  | .inr (y, c) => some (.inr (xs ++ [y], c))
theorem FdHyp.value_in {w0 : World} {BR : ByteArray → Int → Option (BareT × Int × Int)} {KR : ByteArray → Int → Option (ByteArray × Int × Int)} {IX : ByteArray → Int → Int} (H : FdHyp w0 BR KR IX) {s : ByteArray} {m n : Nat} {a d : Int} {y : MemT} (h0 : 0 ≤ a) (h1 : a ≤ (s.size : Int)) (h : fdValue BR KR IX s m n a = some (.inr (y, d))) : a ≤ d ∧ d ≤ (s.size : Int) := by
 unfold fdValue at h
 split at h
 ·rename_i hc
  have hlt := isB_lt hc
  obtain ⟨X, hX, h⟩ := Option.bind_eq_some_iff.mp h
  rcases X with f | ⟨xs, c⟩
  ·cases Option.some.inj h
  ·have hi := H.inner_in n (a + 1) c [] xs (by omega) (by omega) hX
   obtain ⟨P, hP, h⟩ := Option.bind_eq_some_iff.mp h
   rcases P with f | ⟨ps, e⟩
   ·cases Option.some.inj h
   ·have hp := H.params_in m c e [] ps (by omega) hi.2 hP
    have h := Option.some.inj h
    injection h with h
    injection h with _ h
    omega
 ·obtain ⟨X, hX, h⟩ := Option.bind_eq_some_iff.mp h
  rcases X with f | ⟨⟨b, ps⟩, c⟩
  ·cases Option.some.inj h
  ·have hi := H.item_in h0 h1 hX
   have h := Option.some.inj h
   injection h with h
   injection h with _ h
   omega
theorem FdHyp.list_in {w0 : World} {BR : ByteArray → Int → Option (BareT × Int × Int)} {KR : ByteArray → Int → Option (ByteArray × Int × Int)} {IX : ByteArray → Int → Int} (H : FdHyp w0 BR KR IX) {s : ByteArray} {m n : Nat} (a : Int) (x y : List MemT) (c : Int) (h0 : 0 ≤ a) (h1 : a ≤ (s.size : Int)) (h : fdListStep BR KR IX s m n a x = some (.inr (y, c))) : a ≤ c ∧ c ≤ (s.size : Int) := by
 unfold fdListStep at h
 split at h
 ·cases Option.some.inj h
 ·obtain ⟨V, hV, h⟩ := Option.bind_eq_some_iff.mp h
  rcases V with f | ⟨z, d⟩
  ·cases Option.some.inj h
  ·have hv := H.value_in h0 h1 hV
   have h := Option.some.inj h
   injection h with h
   injection h with _ h
   omega
set_option linter.unusedVariables false
set_option linter.unusedSimpArgs false
set_option maxHeartbeats 4000000 in
set_option maxRecDepth 100000 in
theorem lstep_calls {w0 : World} {BR : ByteArray → Int → Option (BareT × Int × Int)} {KR : ByteArray → Int → Option (ByteArray × Int × Int)} {IX : ByteArray → Int → Int} (H : FdHyp w0 BR KR IX)
  (b rb g base : Nat) (s : ByteArray) (hs : s.size ≤ 281474976710656) (m n : Nat) (h0b : w0.heap.size ≤ b) (hg : w0.heap.size ≤ g) (hbg : b ≠ g) (hrg : rb ≠ g) (hbr : b ≠ rb) (hbb : b < base) (hrb : rb < base) (hgb : g < base) (hB0 : w0.heap.size ≤ base) (b1 b2 : Nat) (h1b : b1 < base) (h2b : b2 < base) (h1g : b1 ≠ g) (h2g : b2 ≠ g) (h1n : b1 ≠ b) (h2n : b2 ≠ b)
  (w : World) (a : Int) (xs : List MemT) (R : FR (List MemT)) (hw : FrAt w0 b1 b2 w) (hr : FdAt w g s a) (hx : LsAt b rb g base w xs) (h0 : 0 ≤ a) (h1 : a ≤ (s.size : Int)) (hR : fdListStep BR KR IX s m n a xs = some R) :
  Calls Tryd.prog 31 #[.pointer (some ⟨b, 0, none⟩), .pointer (some ⟨rb, 0, none⟩)] w fun e w' => GivesM (LsAt b rb g base) (FrAt w0 b1 b2) e w' g s R := by
 unfold fdListStep at hR
 obtain ⟨⟨v, hb1, hm⟩, hb2, hl, hz⟩ := hx
 obtain ⟨A, cp, rfl⟩ := hm.len
 have hvl := fun k hk => hm.at_ k hk
 have HM0 := Aside0.mk hm
 have HB1 := Aside0.mk hb1
 have HB2 := Aside0.mk hb2
 have HR0 := Aside0.mk hr
 have HW0 := Aside0.mk hw
 have HH := Aside0.mk H
 have HG := Aside0.mk hg
 have HZ := Aside0.mk hz
 have HVL := Aside0.mk hvl
 have q0 : w.cell? ⟨b, 0, none⟩ = some (.slice A xs.length cp) := (blk_cell hb1 0).trans rfl
 have q1 : w.cell? ⟨rb, 0, none⟩ = some (.pointer (some ⟨g, 0, none⟩)) := (blk_cell hb2 0).trans rfl
 have q2 := hr.c1
 clear hb1 hb2 hm hr hw H hg hz hvl
 by_cases hf : xs.length = 1024
 ·rw [if_pos hf] at hR
  have hR := Option.some.inj hR
  subst hR
  have hfb : ((xs.length : Int) == 1024) = true := by rw [hf]; rfl
  go_enter Tryd.func31, Tryd.ntmps31
  go_upto_region 1 with (fail)
  go_region_dies
  all_goals (go_at_call 32; refine (fail_calls _ _ _ _).mono ?_; rintro x w7 ⟨rfl, rfl⟩; exact ⟨rfl, rfl, HW0.out.went (Went.refl _ g).drew HG.out h1g h2g⟩)
 ·rw [if_neg hf] at hR
  have hfb : ((xs.length : Int) == 1024) = false := by rw [beq_eq_false_iff_ne]; omega
  obtain ⟨V, hV, hR⟩ := Option.bind_eq_some_iff.mp hR
  have HVC := Aside0.mk (value_calls HH.out g s a w.drew HR0.out.drew (drew_below HW0.out.below) HG.out h0 h1 hs m n V hV)
  rcases V with f | ⟨y, c⟩
  ·have hR := Option.some.inj hR
   subst hR
   have HVC2 : Aside0 (Calls Tryd.prog 33 #[.pointer (some ⟨g, 0, none⟩)] w.drew fun x w' => x = .panicked (wrongF f.1 f.2) ∧ Went w.drew w' g) := ⟨HVC.out⟩
   go_enter Tryd.func31, Tryd.ntmps31
   go_upto_region 2 with (fail)
   go_region_dies
   all_goals (go_at_call 33; refine HVC2.out.mono ?_; rintro x w7 ⟨rfl, hw7⟩; exact ⟨rfl, rfl, HW0.out.went ((Went.refl _ g).drew.trans hw7) HG.out h1g h2g⟩)
  ·have hR := Option.some.inj hR
   subst hR
   have HVC2 : Aside0 (Calls Tryd.prog 33 #[.pointer (some ⟨g, 0, none⟩)] w.drew fun x w' => ∃ vi vp, x = .returned (.agg (memCells y vi vp)) ∧ Items w' w.drew.heap.size vi y.2.2.2.1 ∧ Pars w' w.drew.heap.size vp y.2.2.2.2 ∧ FdAt w' g s c ∧ Went w.drew w' g) := ⟨HVC.out⟩
   clear HVC q2
   go_enter Tryd.func31, Tryd.ntmps31
   go_upto_region 2 with (fail)
   refine start_ (n := 6) (S := fun w' => w'.cell? ⟨b, 0, none⟩ = some (.slice A xs.length cp) ∧ w'.cell? ⟨rb, 0, none⟩ = some (.pointer (some ⟨g, 0, none⟩))) (ds := [5]) #[false, false, false, false, false, false] (by kernel_rfl) rfl rfl ⟨q0, q1⟩ (fun hHeld => ?_)
   refine take_ (i := 0) (N := some 11) (v := ?_) (a' := ?_) #[true, false, false, false, false, false] rfl rfl (by kernel_rfl) (fun _ _ _ h => h) (Or.inl ⟨by rfl, ?_⟩) hHeld ?_ ?_
   rotate_left
   ·rintro w' ⟨s0, s1⟩
    go_simp
    with_reducible rfl
   rotate_left
   ·simp only [Act.put, List.setIfInBounds_toArray, List.set_cons_zero, List.set_cons_succ, i64_w, i32_w]
    rfl
   refine take_ (i := 1) (N := some 12) (v := ?_) (a' := ?_) #[true, true, false, false, false, false] rfl rfl (by kernel_rfl) (fun _ _ _ h => h) (Or.inl ⟨by rfl, ?_⟩) hHeld ?_ ?_
   rotate_left
   ·rintro w' ⟨s0, s1⟩
    go_simp
    with_reducible rfl
   rotate_left
   ·simp only [Act.put, List.setIfInBounds_toArray, List.set_cons_zero, List.set_cons_succ, i64_w, i32_w]
    rfl
   refine one_ (i := 2) (N := some 13) #[true, true, true, false, false, false] rfl rfl (by kernel_rfl) (by decide) (fun K hK => ?_)
   refine goes_ Tryd.func33 (by kernel_rfl) rfl #[.pointer (some ⟨g, 0, none⟩)] (by rfl) rfl rfl (by simp only [List.map_toArray, List.map_cons, List.map_nil]; rfl) ?_
   with_reducible refine (HVC2.out).mono ?_
   rintro x w2 ⟨vi, vp, rfl, hi, hp, hr2, hw2⟩
   obtain ⟨A5, c5, rfl⟩ := hi.len
   obtain ⟨A6, c6, rfl, _⟩ := hp.len
   refine ⟨_, rfl, ?_⟩
   have HI2 := Aside0.mk hi
   have HP2 := Aside0.mk hp
   have HR2 := Aside0.mk hr2
   have HM2 := Aside0.mk ((HM0.out.went (Went.refl _ g).drew hgb).went hw2 hgb)
   have hb12 := hw2.keep.blk (drew_blk HB1.out) hbg (by simp)
   have hb22 := hw2.keep.blk (drew_blk HB2.out) hrg (by simp)
   have z0 : w2.cell? ⟨b, 0, none⟩ = some (.slice A xs.length cp) := (blk_cell hb12 0).trans rfl
   have z1 : w2.cell? ⟨rb, 0, none⟩ = some (.pointer (some ⟨g, 0, none⟩)) := (blk_cell hb22 0).trans rfl
   have y0 := cell_more (below_alloc (Below.refl w2.heap.size w2) (.cells (memCells y (.slice A5 y.2.2.2.1.length c5) (.slice A6 y.2.2.2.2.length c6)) 54)) z0
   have y1 := cell_more (below_alloc (Below.refl w2.heap.size w2) (.cells (memCells y (.slice A5 y.2.2.2.1.length c5) (.slice A6 y.2.2.2.2.length c6)) 54)) z1
   have HB12 := Aside0.mk hb12
   have HB22 := Aside0.mk hb22
   have HW2 := Aside0.mk (HW0.out.went ((Went.refl _ g).drew.trans hw2) HG.out h1g h2g)
   have HS2 := Aside0.mk hw2.keep.1
   clear hi hp hr2 hb12 hb22 hw2
   refine hK.out _ _ ⟨z0, z1⟩ (fun hHeld => ?_)
   clear hK K
   refine norm_ (a' := ?_) ?_ ?_
   rotate_left
   ·show Act.put _ (some 13) _ = _
    simp only [Act.put, List.setIfInBounds_toArray, List.set_cons_zero, List.set_cons_succ, i64_w, i32_w]
    rfl
   refine one_ (i := 3) (N := some 14) #[true, true, true, true, false, false] rfl rfl (by kernel_rfl) (by decide) (fun K hK => ?_)
   refine value_ (w1 := ?_) (v := ?_) (by rfl) rfl ?_ ?_
   rotate_left 2
   ·go_simp
    constructor
    ·rfl
    ·rfl
   refine hK.out _ _ ⟨y0, y1⟩ (fun hHeld => ?_)
   clear hK K
   refine norm_ (a' := ?_) ?_ ?_
   rotate_left
   ·show Act.put _ (some 14) _ = _
    simp only [Act.put, List.setIfInBounds_toArray, List.set_cons_zero, List.set_cons_succ, i64_w, i32_w]
    rfl
   refine one_ (i := 4) (N := some 15) #[true, true, true, true, true, false] rfl rfl (by kernel_rfl) (by decide) (fun K hK => ?_)
   refine push_mem_step (by rfl) (.tmp 11) (.tmp 14) (by rfl) (.slice A xs.length cp) xs y (.slice A5 y.2.2.2.1.length c5) (.slice A6 y.2.2.2.2.length c6) (by rfl) (by rfl) HM2.out HI2.out HP2.out HZ.out (fun k hk => (HVL.out k hk).2) (Nat.le_trans HZ.out HS2.out) hl ?_
   intro v1 w3 hm3 hg3
   obtain ⟨A7, c7, rfl⟩ := hm3.len
   have HM3 := Aside0.mk hm3
   have HG3 := Aside0.mk hg3
   have hb13 := blk_grown HB12.out hg3 (fun e => by have := HVL.out b e.symm; omega)
   have hb23 := blk_grown HB22.out hg3 (fun e => by have := HVL.out rb e.symm; omega)
   have x0 : w3.cell? ⟨b, 0, none⟩ = some (.slice A xs.length cp) := (blk_cell hb13 0).trans rfl
   have x1 : w3.cell? ⟨rb, 0, none⟩ = some (.pointer (some ⟨g, 0, none⟩)) := (blk_cell hb23 0).trans rfl
   have f0 := blk_frozen hb13 0
   have HB13 := Aside0.mk hb13
   have HB23 := Aside0.mk hb23
   clear hm3 hg3 hb13 hb23
   refine hK.out _ _ ⟨x0, x1⟩ (fun hHeld => ?_)
   clear hK K
   refine norm_ (a' := ?_) ?_ ?_
   rotate_left
   ·show Act.put _ (some 15) _ = _
    simp only [Act.put, List.setIfInBounds_toArray, List.set_cons_zero, List.set_cons_succ, i64_w, i32_w]
    rfl
   refine last_ (i := 5) (N := none) #[true, true, true, true, true, true] rfl rfl (by kernel_rfl) (by decide) (fun K hK => ?_)
   refine skip_ (w1 := ?_) (by rfl) rfl ?_ ?_
   rotate_left
   ·go_simp
    rfl
   refine hK.out _ _ ?_
   clear hK K
   refine done_ (by kernel_rfl) ?_
   have hne : ∀ q, q < base → some q ≠ (Value.slice A xs.length cp).ownBlock := fun q hq e => by have := HVL.out q e.symm; omega
   go_end0
   refine ⟨rfl, (HR2.out.grown HG3.out (fun e => hne g hgb e.symm)).far (p := ⟨b, 0, none⟩) hbg _, ⟨⟨_, blk_set HB13.out 0 _, (show Mems w3 base (.slice A7 (xs.length + 1) c7) (xs ++ [y]) by have h := HM3.out; rw [List.length_append] at h; exact h).far (p := ⟨b, 0, none⟩) hbb _⟩, blk_far (p := ⟨b, 0, none⟩) HB23.out hbr.symm _, by rw [List.length_append]; show xs.length + 1 ≤ 1024; omega, ?_⟩, ⟨below_setF (below_grown HW2.out.below HW2.out.below.size HG3.out (fun k hk => Nat.le_trans hB0 (HVL.out k hk).1)) h0b 0 _, blk_far (p := ⟨b, 0, none⟩) (blk_grown HW2.out.c1 HG3.out (hne b1 h1b)) h1n _, blk_far (p := ⟨b, 0, none⟩) (blk_grown HW2.out.c2 HG3.out (hne b2 h2b)) h2n _⟩⟩
   exact Nat.le_trans HZ.out (Nat.le_trans HS2.out (Nat.le_trans HG3.out.size (Nat.le_of_eq (by simp [World.setCell]))))
end Go.Proofs.YtclkclcacnpmbaaDoorW.PrintWords
