/- The replacer's Once: built at its first Replace. -/
import Derived.Test.YtkbmbancfbfddaaGreatDoorXWRpl
namespace Go.Proofs.YtkbmbancfbfddaaGreatDoorW.PrintWords
open Go.RowKit

theorem below_thenB {B : Nat} {w w1 w2 : World} (h : Below B w w1) (hB : B ≤ w1.heap.size) (k : Below w1.heap.size w1 w2) : Below B w w2 := h.trans ⟨k.os, k.tape, k.output, k.size, fun i hi => k.block i (Nat.lt_of_lt_of_le hi hB)⟩
theorem set_size (w : World) (p : Addr) (u : Value) : (w.setCell p u).heap.size = w.heap.size := Array.size_modify ..
theorem heap_set_ne (w : World) {p : Addr} (u : Value) {k : Nat} (h : k ≠ p.block) : (w.setCell p u).heap[k]? = w.heap[k]? := Below.heap_setCell w p u k h
theorem BsrAt.move {w w1 : World} {q : Nat} {v1 v2 tr : Value} (h : BsrAt w q v1 v2 tr) (hm : w1.heap[q]? = w.heap[q]?) : BsrAt w1 q v1 v2 tr := by
 obtain ⟨cs, hk, r⟩ := h
 exact ⟨cs, hm.trans hk, r⟩
theorem Marked.neB {W : World} {e g b : Nat} {xs : List Int} {cs : Array Value} {t : TypeId} (h : Marked W e g xs) (hb : W.heap[b]? = some (.cells cs t (0, 0))) : g ≠ b := by
 rintro rfl
 obtain ⟨cur, m, hh, _⟩ := h
 rw [hh] at hb
 injection hb with hb
 injection hb with _ _ hb
 injection hb with h1 h2
 omega
structure Built (w : World) (base b : Nat) (d m : Int) (q g1 c1 g2 c2 : Nat) (tr : Value) : Prop where
 rpl : RplAt w b d m (.iface 153 (.pointer (some ⟨q, 0, none⟩))) (.slice none 0 0)
 bsr : BsrAt w q (.slice (some ⟨g1, 0, none⟩) 2 c1) (.slice (some ⟨g2, 0, none⟩) 2 c2) tr
 m1 : Marked w 5 g1 [92, 34]
 m2 : Marked w 5 g2 [92, 92]
 txt : Kd.R Kd.string 9 w base (fun k => k ≠ b) tr [⟨#[92]⟩, ⟨#[34]⟩]
 ne : q ≠ b
theorem Built.put {w : World} {base b : Nat} {d m d' m' : Int} {q g1 c1 g2 c2 : Nat} {tr : Value} (h : Built w base b d m q g1 c1 g2 c2 tr) {w1 : World} (hr : RplAt w1 b d' m' (.iface 153 (.pointer (some ⟨q, 0, none⟩))) (.slice none 0 0)) (hm : ∀ k, k ≠ b → w1.heap[k]? = w.heap[k]?) : Built w1 base b d' m' q g1 c1 g2 c2 tr :=
 ⟨hr, h.bsr.move (hm q h.ne), h.m1.move (hm g1 (h.m1.neB h.rpl)), h.m2.move (hm g2 (h.m2.neB h.rpl)), Kd.R_move h.txt (fun k hk => hm k hk), h.ne⟩
set_option maxHeartbeats 2000000 in
set_option maxRecDepth 100000 in
theorem buildOnce_calls (b o c : Nat) (m : Int) (x : Value) (w : World) (hb : RplAt w b 0 m x (.slice (some ⟨o, 0, none⟩) 4 c)) (ho : Old4 w o) :
  Calls Tryz.prog 69 #[.pointer (some ⟨b, 0, none⟩)] w fun e w' => e = .returned (.tuple #[]) ∧ (∃ (q g1 c1 g2 c2 : Nat) (tr : Value), Built w' w.heap.size b 0 m q g1 c1 g2 c2 tr) ∧ w.heap.size ≤ w'.heap.size ∧ (∀ (B : Nat) (w0 : World), Below B w0 w → B ≤ b → B ≤ w.heap.size → Below B w0 w') := by
 have hc := build_calls b o c m x w hb ho
 have hlt := blk_lt hb
 have HB := Aside0.mk hb
 clear hb ho
 go_enter Tryz.func69, Tryz.ntmps69
 go_wp2_with (go_at_call 91; refine hc.mono ?_; rintro e w1 ⟨q, g1, c1, g2, c2, tr, rfl, hq, h1, h2, ht, hqb, hbw⟩; have HQ := Aside0.mk hq; have H1 := Aside0.mk h1; have H2 := Aside0.mk h2; have HT := Aside0.mk ht; have HG := Aside0.mk hqb; have HW := Aside0.mk hbw; have HR := Aside0.mk ((hbw.block b hlt).trans HB.out); clear hq h1 h2 ht hqb hbw; have hc3 : w1.cell? ⟨b, 3, none⟩ = some x := (blk_cell HR.out 3).trans rfl; have hc4 : w1.cell? ⟨b, 4, none⟩ = some (.slice (some ⟨o, 0, none⟩) 4 c) := (blk_cell HR.out 4).trans rfl; have hf3 := blk_frozen HR.out 3; have hf4 := blk_frozen HR.out 4)
 go_end0
 have far : ∀ k, k ≠ b → ((w1.setCell ⟨b, 3, none⟩ (.iface 153 (.pointer (some ⟨q, 0, none⟩)))).setCell ⟨b, 4, none⟩ (.slice none 0 0)).heap[k]? = w1.heap[k]? := fun k hk => (heap_set_ne _ _ hk).trans (heap_set_ne _ _ hk)
 have hqb : q ≠ b := by have := HG.out; omega
 have hsz : ((w1.setCell ⟨b, 3, none⟩ (.iface 153 (.pointer (some ⟨q, 0, none⟩)))).setCell ⟨b, 4, none⟩ (.slice none 0 0)).heap.size = w1.heap.size := (Array.size_modify ..).trans (Array.size_modify ..)
 refine ⟨rfl, ⟨q, g1, c1, g2, c2, tr, ?_, HQ.out.move (far q hqb), H1.out.move (far g1 (H1.out.neB HR.out)), H2.out.move (far g2 (H2.out.neB HR.out)), ?_, hqb⟩, ?_, fun B w0 h1 h2 h3 => ((below_thenB h1 h3 HW.out).setCell h2 _).setCell h2 _⟩
 ·exact blk_put (blk_put HR.out 3 _ rfl) 4 _ rfl
 ·exact Kd.R_move (Kd.R_mono (Kd.R_bound HT.out) (fun k hk => by have := hk.2.1; omega)) (fun k hk => far k hk)
 ·rw [hsz]; exact HW.out.size
theorem meth_replace (x : Value) (w : World) : (method 325 153 x "Replace").run Tryz.prog w = .ok (174, x) w := by kernel_rfl
def esc : List Int → List Int
 | [] => []
 | c :: t => if c = 34 ∨ c = 92 then 92 :: c :: esc t else c :: esc t
set_option maxHeartbeats 2000000 in
set_option maxRecDepth 100000 in
theorem replace_calls (HRep : ∀ (base b : Nat) (d m : Int) (q g1 c1 g2 c2 : Nat) (tr : Value) (s : ByteArray) (w : World), s.size ≤ 1000000000000 → Built w base b d m q g1 c1 g2 c2 tr → Calls Tryz.prog 174 #[.pointer (some ⟨q, 0, none⟩), .string s] w fun e w' => e = .returned (.string (strOfNums (esc (bytesOf s)))) ∧ Below w.heap.size w w')
  (base b : Nat) (v : Value) (s : ByteArray) (w : World) (hs : s.size ≤ 1000000000000) (hb : RplAt w b 0 0 .nilIface v) (hR : Kd.R Kd.string 9 w base (fun k => k ≠ b) v rplTexts) :
  Calls Tryz.prog 28 #[.pointer (some ⟨b, 0, none⟩), .string s] w fun e w' => e = .returned (.string (strOfNums (esc (bytesOf s)))) ∧ (∀ (B : Nat) (w0 : World), Below B w0 w → B ≤ b → B ≤ w.heap.size → Below B w0 w') := by
 obtain ⟨o, c, rfl, ho⟩ := old4_of hR
 have hob : o ≠ b := hR.1 o rfl
 have hb1 : RplAt (w.setCell ⟨b, 1, none⟩ (.int .i32 1)) b 0 1 .nilIface (.slice (some ⟨o, 0, none⟩) 4 c) := blk_put hb 1 _ rfl
 have hs1 : (w.setCell ⟨b, 1, none⟩ (.int .i32 1)).heap.size = w.heap.size := Array.size_modify ..
 have hcell : ∀ j, (w.setCell ⟨b, 1, none⟩ (.int .i32 1)).cell? ⟨o, j, none⟩ = w.cell? ⟨o, j, none⟩ := fun j => World.cell?_setCell_other _ ⟨b, 1, none⟩ ⟨o, j, none⟩ _ (fun h => hob (congrArg Addr.block h).symm)
 have ho1 : Old4 (w.setCell ⟨b, 1, none⟩ (.int .i32 1)) o := ⟨(hcell 0).trans ho.c0, (hcell 1).trans ho.c1, (hcell 2).trans ho.c2, (hcell 3).trans ho.c3⟩
 have hF := buildOnce_calls b o c 1 .nilIface _ hb1 ho1
 rw [hs1] at hF
 have hD := do_first b .nilIface _ w hb (fun w2 => (∃ (q g1 c1 g2 c2 : Nat) (tr : Value), Built w2 w.heap.size b 0 1 q g1 c1 g2 c2 tr) ∧ w.heap.size ≤ w2.heap.size ∧ (∀ (B : Nat) (w0 : World), Below B w0 (w.setCell ⟨b, 1, none⟩ (.int .i32 1)) → B ≤ b → B ≤ w.heap.size → Below B w0 w2))
  (hF.mono (by
   rintro e w2 ⟨rfl, ⟨q, g1, c1, g2, c2, tr, hB⟩, h2, h3⟩
   exact ⟨rfl, ⟨_, _, hB.rpl⟩, ⟨q, g1, c1, g2, c2, tr, hB⟩, h2, h3⟩))
 clear hF hb1 ho1 hcell ho hob hR
 have hmeth := meth_replace
 have HB0 := Aside0.mk hb
 have HREP := Aside0.mk HRep
 clear hb HRep
 go_enter Tryz.func28, Tryz.ntmps28
 go_wp2_with (first
  | (go_at_call 68; refine hD.mono ?_; rintro e w3 ⟨rfl, w2, ⟨⟨q, g1, c1, g2, c2, tr, hB⟩, h2, h3⟩, hw⟩; have HBu : Aside0 (Built w3 w.heap.size b 1 0 q g1 c1 g2 c2 tr) := ⟨by rw [hw]; exact hB.put (blk_put (blk_put (show RplAt w2.drew b 0 1 _ _ from hB.rpl) 0 _ rfl) 1 _ rfl) (fun k hk => (heap_set_ne _ _ hk).trans (heap_set_ne _ _ hk))⟩; have HW3 : Aside0 (∀ (B : Nat) (w0 : World), Below B w0 w → B ≤ b → B ≤ w.heap.size → Below B w0 w3) := ⟨fun B w0 k1 k2 k3 => by rw [hw]; exact ((h3 B w0 (k1.setCell k2 _) k2 k3).drew.setCell k2 _).setCell k2 _⟩; have HS3 : Aside0 (w.heap.size ≤ w3.heap.size) := ⟨by rw [hw]; rw [set_size, set_size]; exact h2⟩; clear hw hB h2 h3; have hc3 : w3.cell? ⟨b, 3, none⟩ = some (.iface 153 (.pointer (some ⟨q, 0, none⟩))) := (blk_cell HBu.out.rpl 3).trans rfl)
  | (go_at_call 174; refine (HREP.out _ _ _ _ _ _ _ _ _ _ s _ hs HBu.out).mono ?_; rintro e w4 ⟨rfl, hb4⟩; have HB4 := Aside0.mk hb4; clear hb4))
 go_ret
 exact ⟨rfl, fun B w0 k1 k2 k3 => below_thenB (HW3.out B w0 k1 k2 k3) (Nat.le_trans k3 HS3.out) HB4.out⟩
end Go.Proofs.YtkbmbancfbfddaaGreatDoorW.PrintWords
