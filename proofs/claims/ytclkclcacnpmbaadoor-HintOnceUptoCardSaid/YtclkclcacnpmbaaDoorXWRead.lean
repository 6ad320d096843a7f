/- Layer 9's Read, by hand, over what its helpers do. -/
import Derived.Test.YtclkclcacnpmbaaDoorXWRm
import Derived.Test.YtclkclcacnpmbaaDoorXWRy
import Derived.Test.YtclkclcacnpmbaaDoorXWRc
namespace Go.Proofs.YtclkclcacnpmbaaDoorW.PrintWords
open Go.RowKit

theorem alloc2 (wa : World) (o1 o2 : Obj) : ((wa.alloc o1).alloc o2).heap[wa.heap.size]? = some o1 ∧ ((wa.alloc o1).alloc o2).heap[wa.heap.size + 1]? = some o2 ∧ Below wa.heap.size wa ((wa.alloc o1).alloc o2) := by
 have h1 : ∀ k : Nat, ((wa.alloc o1).alloc o2).heap[k]? = ((wa.heap.push o1).push o2)[k]? := fun _ => rfl
 have h2 : ((wa.alloc o1).alloc o2).heap.size = wa.heap.size + 2 := by show ((wa.heap.push o1).push o2).size = _; simp
 refine ⟨?_, ?_, ⟨rfl, rfl, rfl, by rw [h2]; omega, fun k hk => ?_⟩⟩
 ·rw [h1, Array.getElem?_push, if_neg (by simp), Array.getElem?_push, if_pos rfl]
 ·rw [h1, Array.getElem?_push, if_pos (by simp)]
 ·rw [h1]
  simp only [Array.getElem?_push, Array.size_push]
  rw [if_neg (by omega), if_neg (by omega)]
theorem alloc1 (wa : World) (o1 : Obj) : (wa.alloc o1).heap[wa.heap.size]? = some o1 ∧ Below wa.heap.size wa (wa.alloc o1) := by
 have h1 : ∀ k : Nat, (wa.alloc o1).heap[k]? = (wa.heap.push o1)[k]? := fun _ => rfl
 have h2 : (wa.alloc o1).heap.size = wa.heap.size + 1 := by show (wa.heap.push o1).size = _; simp
 refine ⟨?_, ⟨rfl, rfl, rfl, by rw [h2]; omega, fun k hk => ?_⟩⟩
 ·rw [h1, Array.getElem?_push, if_pos rfl]
 ·rw [h1, Array.getElem?_push, if_neg (by omega)]
theorem drew_blk {w : World} {b : Nat} {o : Option Obj} (h : w.heap[b]? = o) : w.drew.heap[b]? = o := h
theorem drew_below {B : Nat} {w w1 : World} (h : Below B w w1) : Below B w w1.drew := ⟨h.os, h.tape, h.output, h.size, h.block⟩
theorem read_results (tmps : Array Value) (w : World) (b0 b1 b2 : Nat) (n1 n2 : Int) (b : Int × Int × ByteArray) (h4 : tmps[4]? = some (.pointer (some ⟨b0, 0, none⟩))) (h5 : tmps[5]? = some (.pointer (some ⟨b1, 0, none⟩))) (h6 : tmps[6]? = some (.pointer (some ⟨b2, 0, none⟩)))
  (E0 : w.heap[b0]? = some (.cells #[.int .i64 b.1, .int .i64 b.2.1, .string b.2.2] 50 (0, 0))) (E1 : w.heap[b1]? = some (.cells #[.int .i64 n1] 3 (0, 0))) (E2 : w.heap[b2]? = some (.cells #[.int .i64 n2] 29 (0, 0))) :
  (results Tryd.f74 tmps).run Tryd.prog w = .ok (.tuple #[bareV b, .int .i64 n1, .int .i64 n2]) w := by
 have c0 : w.cell? ⟨b0, 0, none⟩ = some (.int .i64 b.1) := (blk_cell E0 0).trans rfl
 have c1 : w.cell? ⟨b0, 1, none⟩ = some (.int .i64 b.2.1) := (blk_cell E0 1).trans rfl
 have c2 : w.cell? ⟨b0, 2, none⟩ = some (.string b.2.2) := (blk_cell E0 2).trans rfl
 have c3 : w.cell? ⟨b1, 0, none⟩ = some (.int .i64 n1) := (blk_cell E1 0).trans rfl
 have c4 : w.cell? ⟨b2, 0, none⟩ = some (.int .i64 n2) := (blk_cell E2 0).trans rfl
 simp [results, Tryd.results74, go_sem, bareV, h4, h5, h6, c0, c1, c2, c3, c4]
theorem read_stored {wc : World} {b0 b1 b2 : Nat} {cs0 cs1 cs2 : Array Value} (X0 : wc.heap[b0]? = some (.cells cs0 50 (0, 0))) (X1 : wc.heap[b1]? = some (.cells cs1 3 (0, 0))) (X2 : wc.heap[b2]? = some (.cells cs2 29 (0, 0))) (z0 : cs0.size = 3) (z1 : cs1.size = 1) (z2 : cs2.size = 1)
  (h01 : b0 ≠ b1) (h02 : b0 ≠ b2) (h12 : b1 ≠ b2) (v0 v1 v2 v3 v4 : Value) (B : Nat) (w : World) (hB : Below B w wc) (l0 : B ≤ b0) (l1 : B ≤ b1) (l2 : B ≤ b2) :
  let w5 := ((((wc.setCell ⟨b0, 0, none⟩ v0).setCell ⟨b0, 1, none⟩ v1).setCell ⟨b0, 2, none⟩ v2).setCell ⟨b1, 0, none⟩ v3).setCell ⟨b2, 0, none⟩ v4
  w5.heap[b0]? = some (.cells #[v0, v1, v2] 50 (0, 0)) ∧ w5.heap[b1]? = some (.cells #[v3] 3 (0, 0)) ∧ w5.heap[b2]? = some (.cells #[v4] 29 (0, 0)) ∧ Below B w w5 := by
 obtain ⟨a, b, c, rfl⟩ : ∃ a b c, cs0 = #[a, b, c] := by
  obtain ⟨l⟩ := cs0
  match l, z0 with
  | [a, b, c], _ => exact ⟨a, b, c, rfl⟩
 obtain ⟨d, rfl⟩ : ∃ d, cs1 = #[d] := by
  obtain ⟨l⟩ := cs1
  match l, z1 with
  | [d], _ => exact ⟨d, rfl⟩
 obtain ⟨e, rfl⟩ : ∃ e, cs2 = #[e] := by
  obtain ⟨l⟩ := cs2
  match l, z2 with
  | [e], _ => exact ⟨e, rfl⟩
 refine ⟨?_, ?_, ?_, ?_⟩
 ·exact blk_far (p := ⟨b2, 0, none⟩) (blk_far (p := ⟨b1, 0, none⟩) (blk_set (blk_set (blk_set X0 0 v0) 1 v1) 2 v2) h01 v3) h02 v4
 ·exact blk_far (p := ⟨b2, 0, none⟩) (blk_set (blk_far (p := ⟨b0, 2, none⟩) (blk_far (p := ⟨b0, 1, none⟩) (blk_far (p := ⟨b0, 0, none⟩) X1 h01.symm v0) h01.symm v1) h01.symm v2) 0 v3) h12 v4
 ·exact blk_set (blk_far (p := ⟨b1, 0, none⟩) (blk_far (p := ⟨b0, 2, none⟩) (blk_far (p := ⟨b0, 1, none⟩) (blk_far (p := ⟨b0, 0, none⟩) X2 h02.symm v0) h02.symm v1) h02.symm v2) h12.symm v3) 0 v4
 ·exact below_setF (below_setF (below_setF (below_setF (below_setF hB l0 0 v0) l0 1 v1) l0 2 v2) l1 0 v3) l2 0 v4
def rdAns : RR → (Int × Int × ByteArray) × Int × Int
 | .inl f => ((0, 0, ⟨#[]⟩), f.1, f.2)
 | .inr (b, p) => (b, p, 0)
set_option maxHeartbeats 64000000 in
set_option maxRecDepth 100000 in
theorem read_leaf (Lt : Int → Bool) (HL : ∀ (c : Int) (w : World), 0 ≤ c → c < 256 → Calls Tryd.prog 83 #[.int .u8 c] w fun x w' => x = .returned (.bool (Lt c)) ∧ Drawn0 w w') (s : ByteArray) (at_ c : Int) (w : World) (h0 : 0 ≤ at_) (h1 : at_ < (s.size : Int)) (hc : bt s at_ = c) (R : RR) (m : FuncId)
  (hcase : (dig c = true ∧ m = 81) ∨ (dig c = false ∧ (c == 45) = true ∧ m = 81) ∨ (dig c = false ∧ (c == 45) = false ∧ (c == 34) = true ∧ m = 82) ∨ (dig c = false ∧ (c == 45) = false ∧ (c == 34) = false ∧ Lt c = true ∧ m = 84) ∨ (dig c = false ∧ (c == 45) = false ∧ (c == 34) = false ∧ Lt c = false ∧ (c == 58) = true ∧ m = 85) ∨ (dig c = false ∧ (c == 45) = false ∧ (c == 34) = false ∧ Lt c = false ∧ (c == 58) = false ∧ (c == 63) = true ∧ m = 86) ∨ (dig c = false ∧ (c == 45) = false ∧ (c == 34) = false ∧ Lt c = false ∧ (c == 58) = false ∧ (c == 63) = false ∧ (c == 64) = true ∧ m = 87) ∨ (dig c = false ∧ (c == 45) = false ∧ (c == 34) = false ∧ Lt c = false ∧ (c == 58) = false ∧ (c == 63) = false ∧ (c == 64) = false ∧ (c == 37) = true ∧ m = 88))
  (HM : Aside0 (∀ (g : Nat) (w1 : World), w.heap.size ≤ g → Below w.heap.size w w1 → RdAt w1 g s at_ → Calls Tryd.prog m #[.pointer (some ⟨g, 0, none⟩)] w1 fun x w' => Gives x w1 w' g s R)) :
  Calls Tryd.prog 74 #[.string s, .int .i64 at_] w fun x w' => x = .returned (.tuple #[bareV (rdAns R).1, .int .i64 (rdAns R).2.1, .int .i64 (rdAns R).2.2]) ∧ Below w.heap.size w w' := by
 have hbd : decide (at_ < 0) = false := decide_eq_false (by omega)
 have hbe : decide ((s.size : Int) < at_) = false := decide_eq_false (by omega)
 have hbf : (at_ == (s.size : Int)) = false := by simp; omega
 have hmf : ∀ (fn : Fn) (first cap : Array Value) (w : World), (Instr.makeFunc fn first cap).run Tryd.prog w = .ok (.func fn first cap) w := fun _ _ _ _ => rfl
 have hb := bt_at s at_ (by omega)
 have hi : 0 ≤ at_ ∧ at_ < (s.size : Int) := ⟨h0, h1⟩
 rw [hc] at hb
 have HDc := Aside0.mk (fun w => digit_calls c w)
 have HLc := Aside0.mk (fun w => HL c w (by have := (bt_range s at_).1; omega) (by have := (bt_range s at_).2; omega))
 clear HL
 go_enter_defers Tryd.func74, Tryd.ntmps74
 go_upto_region 1 with (first | ((with_reducible refine gate_dst (N := 4) rfl ?_); refine box_event ?hg (N := 4) ?hd (cs := #[.int .i64 0, .int .i64 0, .string ⟨#[]⟩]) (t := 50) ?hr ?_; (case hd => rfl); (case hg => rfl); (case hr => first | (go_simp; done) | (go_simp; rfl)); intro b0 hg wa hbox hb; have HBa := Aside0.mk hb; have X0a := Aside0.mk hbox; have L0 := Aside0.mk (show w.heap.size ≤ b0 from Nat.le_of_eq hg.symm); clear hg hbox hb))
 obtain ⟨b1, hb1⟩ : ∃ b, b = wa.heap.size := ⟨_, rfl⟩
 have HA2 := alloc2 wa (.cells #[.int .i64 0] 3) (.cells #[.int .i64 0] 29)
 rw [← hb1] at HA2
 rw [← hb1]
 obtain ⟨hx1, hx2, hb⟩ := HA2
 rw [hb1] at hb
 have HB := Aside0.mk (below_then HBa.out HBa.out.size hb)
 have X0 := Aside0.mk (blk_below X0a.out hb)
 have X1 := Aside0.mk hx1
 have X2 := Aside0.mk hx2
 have L1 := Aside0.mk (show b0 < b1 by have := blk_lt X0a.out; omega)
 have n01 : b0 ≠ b1 := Nat.ne_of_lt L1.out
 obtain ⟨b2, hb2⟩ : ∃ b, b = b1 + 1 := ⟨_, rfl⟩
 have L2 := Aside0.mk (show b1 < b2 by omega)
 rw [← hb2] at X2
 rw [← hb2]
 have n12 : b1 ≠ b2 := Nat.ne_of_lt L2.out
 have n02 : b0 ≠ b2 := Nat.ne_of_lt (Nat.lt_trans L1.out L2.out)
 have n10 := n01.symm
 have n21 := n12.symm
 have n20 := n02.symm
 clear hb hx1 hx2 hb1 hb2 HBa X0a
 generalize (wa.alloc (Obj.cells #[Value.int IntKind.i64 0] 3)).alloc (Obj.cells #[Value.int IntKind.i64 0] 29) = wc at *
 obtain ⟨hxr, hbr⟩ := alloc1 wc (.cells #[.string s, .int .i64 at_] 132)
 have HBd := Aside0.mk (below_then HB.out HB.out.size hbr)
 have X0d := Aside0.mk (blk_below X0.out hbr)
 have X1d := Aside0.mk (blk_below X1.out hbr)
 have X2d := Aside0.mk (blk_below X2.out hbr)
 have HRd : Aside0 (RdAt (wc.alloc (Obj.cells #[Value.string s, Value.int IntKind.i64 at_] 132)) wc.heap.size s at_) := ⟨hxr⟩
 have hl2 := blk_lt X2.out
 have NG0 : b0 ≠ wc.heap.size := by have := L1.out; have := L2.out; omega
 have NG1 : b1 ≠ wc.heap.size := by have := L2.out; omega
 have NG2 : b2 ≠ wc.heap.size := by omega
 have HGB := Aside0.mk (show w.heap.size ≤ wc.heap.size from HB.out.size)
 clear hxr hbr hl2
 rcases R with ⟨f1_, f2_⟩ | ⟨⟨v0, v1, v2⟩, p_⟩
 ·unfold Gives at HM
  rcases hcase with ⟨hd, rfl⟩ | ⟨hd, h45, rfl⟩ | ⟨hd, h45, h34, rfl⟩ | ⟨hd, h45, h34, hl, rfl⟩ | ⟨hd, h45, h34, hl, h58, rfl⟩ | ⟨hd, h45, h34, hl, h58, h63, rfl⟩ | ⟨hd, h45, h34, hl, h58, h63, h64, rfl⟩ | ⟨hd, h45, h34, hl, h58, h63, h64, h37, rfl⟩
  all_goals (
   rw [hd] at HDc
   try rw [hl] at HLc
   clear hd
   try clear hl
   go_wp2_with (first | (go_at_call 80; refine (HDc.out _).mono ?_; rintro e w' ⟨rfl, rfl⟩) | (go_at_call 83; refine (HLc.out _).mono ?_; rintro e w' ⟨rfl, ⟨⟨nd, rfl⟩⟩⟩; have HBe := Aside0.mk (pw_below_drewN HBd.out nd); have X0e : Aside0 (((wc.alloc (Obj.cells #[Value.string s, Value.int IntKind.i64 at_] 132)).drewN nd).heap[b0]? = _) := ⟨X0d.out⟩; have X1e : Aside0 (((wc.alloc (Obj.cells #[Value.string s, Value.int IntKind.i64 at_] 132)).drewN nd).heap[b1]? = _) := ⟨X1d.out⟩; have X2e : Aside0 (((wc.alloc (Obj.cells #[Value.string s, Value.int IntKind.i64 at_] 132)).drewN nd).heap[b2]? = _) := ⟨X2d.out⟩; have HRe := Aside0.mk (HRd.out.more (pw_below_drewN (Below.refl _ _) nd)); clear HBd X0d X1d X2d HRd; generalize (wc.alloc (Obj.cells #[Value.string s, Value.int IntKind.i64 at_] 132)).drewN nd = wd_ at *; have HBd := HBe; have X0d := X0e; have X1d := X1e; have X2d := X2e; have HRd := HRe; clear HBe X0e X1e X2e HRe) | (go_at_call 81; refine (HM.out _ _ HGB.out HBd.out HRd.out).mono ?_; rintro e we ⟨rfl, We⟩; have HBe := Aside0.mk (HBd.out.trans (We.below HGB.out HBd.out.size)); have X0e := Aside0.mk (We.keep.blk X0d.out NG0 (by simp)); have X1e := Aside0.mk (We.keep.blk X1d.out NG1 (by simp)); have X2e := Aside0.mk (We.keep.blk X2d.out NG2 (by simp)); clear We) | (go_at_call 82; refine (HM.out _ _ HGB.out HBd.out HRd.out).mono ?_; rintro e we ⟨rfl, We⟩; have HBe := Aside0.mk (HBd.out.trans (We.below HGB.out HBd.out.size)); have X0e := Aside0.mk (We.keep.blk X0d.out NG0 (by simp)); have X1e := Aside0.mk (We.keep.blk X1d.out NG1 (by simp)); have X2e := Aside0.mk (We.keep.blk X2d.out NG2 (by simp)); clear We) | (go_at_call 84; refine (HM.out _ _ HGB.out HBd.out HRd.out).mono ?_; rintro e we ⟨rfl, We⟩; have HBe := Aside0.mk (HBd.out.trans (We.below HGB.out HBd.out.size)); have X0e := Aside0.mk (We.keep.blk X0d.out NG0 (by simp)); have X1e := Aside0.mk (We.keep.blk X1d.out NG1 (by simp)); have X2e := Aside0.mk (We.keep.blk X2d.out NG2 (by simp)); clear We) | (go_at_call 85; refine (HM.out _ _ HGB.out HBd.out HRd.out).mono ?_; rintro e we ⟨rfl, We⟩; have HBe := Aside0.mk (HBd.out.trans (We.below HGB.out HBd.out.size)); have X0e := Aside0.mk (We.keep.blk X0d.out NG0 (by simp)); have X1e := Aside0.mk (We.keep.blk X1d.out NG1 (by simp)); have X2e := Aside0.mk (We.keep.blk X2d.out NG2 (by simp)); clear We) | (go_at_call 86; refine (HM.out _ _ HGB.out HBd.out HRd.out).mono ?_; rintro e we ⟨rfl, We⟩; have HBe := Aside0.mk (HBd.out.trans (We.below HGB.out HBd.out.size)); have X0e := Aside0.mk (We.keep.blk X0d.out NG0 (by simp)); have X1e := Aside0.mk (We.keep.blk X1d.out NG1 (by simp)); have X2e := Aside0.mk (We.keep.blk X2d.out NG2 (by simp)); clear We) | (go_at_call 87; refine (HM.out _ _ HGB.out HBd.out HRd.out).mono ?_; rintro e we ⟨rfl, We⟩; have HBe := Aside0.mk (HBd.out.trans (We.below HGB.out HBd.out.size)); have X0e := Aside0.mk (We.keep.blk X0d.out NG0 (by simp)); have X1e := Aside0.mk (We.keep.blk X1d.out NG1 (by simp)); have X2e := Aside0.mk (We.keep.blk X2d.out NG2 (by simp)); clear We) | (go_at_call 88; refine (HM.out _ _ HGB.out HBd.out HRd.out).mono ?_; rintro e we ⟨rfl, We⟩; have HBe := Aside0.mk (HBd.out.trans (We.below HGB.out HBd.out.size)); have X0e := Aside0.mk (We.keep.blk X0d.out NG0 (by simp)); have X1e := Aside0.mk (We.keep.blk X1d.out NG1 (by simp)); have X2e := Aside0.mk (We.keep.blk X2d.out NG2 (by simp)); clear We))
   refine leaves_cons (f := 79) (args := #[.pointer (some ⟨b0, 0, none⟩), .pointer (some ⟨b1, 0, none⟩), .pointer (some ⟨b2, 0, none⟩)]) (by simp) (by simp [go_sem]) ?_
   refine (catch_fault b0 b1 b2 _ _ _ _ _ _ _ _ X0e.out X1e.out X2e.out n01 n02 n12).mono ?_
   rintro e u' wg ⟨rfl, rfl, E0, E1, E2, BB⟩
   exact ⟨_, read_results _ _ b0 b1 b2 _ _ (0, 0, ⟨#[]⟩) rfl rfl rfl E0 E1 E2, rfl, HBe.out.trans (BB _ L0.out (by have := L0.out; have := L1.out; omega) (by have := L0.out; have := L1.out; have := L2.out; omega))⟩)
 ·unfold Gives bareV at HM
  rcases hcase with ⟨hd, rfl⟩ | ⟨hd, h45, rfl⟩ | ⟨hd, h45, h34, rfl⟩ | ⟨hd, h45, h34, hl, rfl⟩ | ⟨hd, h45, h34, hl, h58, rfl⟩ | ⟨hd, h45, h34, hl, h58, h63, rfl⟩ | ⟨hd, h45, h34, hl, h58, h63, h64, rfl⟩ | ⟨hd, h45, h34, hl, h58, h63, h64, h37, rfl⟩
  all_goals (
   rw [hd] at HDc
   try rw [hl] at HLc
   clear hd
   try clear hl
   go_upto_region 23 with (first | (go_at_call 80; refine (HDc.out _).mono ?_; rintro e w' ⟨rfl, rfl⟩) | (go_at_call 83; refine (HLc.out _).mono ?_; rintro e w' ⟨rfl, ⟨⟨nd, rfl⟩⟩⟩; have HBe := Aside0.mk (pw_below_drewN HBd.out nd); have X0e : Aside0 (((wc.alloc (Obj.cells #[Value.string s, Value.int IntKind.i64 at_] 132)).drewN nd).heap[b0]? = _) := ⟨X0d.out⟩; have X1e : Aside0 (((wc.alloc (Obj.cells #[Value.string s, Value.int IntKind.i64 at_] 132)).drewN nd).heap[b1]? = _) := ⟨X1d.out⟩; have X2e : Aside0 (((wc.alloc (Obj.cells #[Value.string s, Value.int IntKind.i64 at_] 132)).drewN nd).heap[b2]? = _) := ⟨X2d.out⟩; have HRe := Aside0.mk (HRd.out.more (pw_below_drewN (Below.refl _ _) nd)); clear HBd X0d X1d X2d HRd; generalize (wc.alloc (Obj.cells #[Value.string s, Value.int IntKind.i64 at_] 132)).drewN nd = wd_ at *; have HBd := HBe; have X0d := X0e; have X1d := X1e; have X2d := X2e; have HRd := HRe; clear HBe X0e X1e X2e HRe) | (go_at_call 81; refine (HM.out _ _ HGB.out HBd.out HRd.out).mono ?_; rintro e we ⟨rfl, hre, We⟩; have HRe := Aside0.mk hre; have HBe := Aside0.mk (HBd.out.trans (We.below HGB.out HBd.out.size)); have X0e := Aside0.mk (We.keep.blk X0d.out NG0 (by simp)); have X1e := Aside0.mk (We.keep.blk X1d.out NG1 (by simp)); have X2e := Aside0.mk (We.keep.blk X2d.out NG2 (by simp)); have c00 : we.cell? ⟨b0, 0, none⟩ = some (.int .i64 0) := (blk_cell X0e.out 0).trans rfl; have c01 : we.cell? ⟨b0, 1, none⟩ = some (.int .i64 0) := (blk_cell X0e.out 1).trans rfl; have c02 : we.cell? ⟨b0, 2, none⟩ = some (.string ⟨#[]⟩) := (blk_cell X0e.out 2).trans rfl; have z00 := blk_frozen X0e.out 0; have z01 := blk_frozen X0e.out 1; have z02 := blk_frozen X0e.out 2; clear We hre) | (go_at_call 82; refine (HM.out _ _ HGB.out HBd.out HRd.out).mono ?_; rintro e we ⟨rfl, hre, We⟩; have HRe := Aside0.mk hre; have HBe := Aside0.mk (HBd.out.trans (We.below HGB.out HBd.out.size)); have X0e := Aside0.mk (We.keep.blk X0d.out NG0 (by simp)); have X1e := Aside0.mk (We.keep.blk X1d.out NG1 (by simp)); have X2e := Aside0.mk (We.keep.blk X2d.out NG2 (by simp)); have c00 : we.cell? ⟨b0, 0, none⟩ = some (.int .i64 0) := (blk_cell X0e.out 0).trans rfl; have c01 : we.cell? ⟨b0, 1, none⟩ = some (.int .i64 0) := (blk_cell X0e.out 1).trans rfl; have c02 : we.cell? ⟨b0, 2, none⟩ = some (.string ⟨#[]⟩) := (blk_cell X0e.out 2).trans rfl; have z00 := blk_frozen X0e.out 0; have z01 := blk_frozen X0e.out 1; have z02 := blk_frozen X0e.out 2; clear We hre) | (go_at_call 84; refine (HM.out _ _ HGB.out HBd.out HRd.out).mono ?_; rintro e we ⟨rfl, hre, We⟩; have HRe := Aside0.mk hre; have HBe := Aside0.mk (HBd.out.trans (We.below HGB.out HBd.out.size)); have X0e := Aside0.mk (We.keep.blk X0d.out NG0 (by simp)); have X1e := Aside0.mk (We.keep.blk X1d.out NG1 (by simp)); have X2e := Aside0.mk (We.keep.blk X2d.out NG2 (by simp)); have c00 : we.cell? ⟨b0, 0, none⟩ = some (.int .i64 0) := (blk_cell X0e.out 0).trans rfl; have c01 : we.cell? ⟨b0, 1, none⟩ = some (.int .i64 0) := (blk_cell X0e.out 1).trans rfl; have c02 : we.cell? ⟨b0, 2, none⟩ = some (.string ⟨#[]⟩) := (blk_cell X0e.out 2).trans rfl; have z00 := blk_frozen X0e.out 0; have z01 := blk_frozen X0e.out 1; have z02 := blk_frozen X0e.out 2; clear We hre) | (go_at_call 85; refine (HM.out _ _ HGB.out HBd.out HRd.out).mono ?_; rintro e we ⟨rfl, hre, We⟩; have HRe := Aside0.mk hre; have HBe := Aside0.mk (HBd.out.trans (We.below HGB.out HBd.out.size)); have X0e := Aside0.mk (We.keep.blk X0d.out NG0 (by simp)); have X1e := Aside0.mk (We.keep.blk X1d.out NG1 (by simp)); have X2e := Aside0.mk (We.keep.blk X2d.out NG2 (by simp)); have c00 : we.cell? ⟨b0, 0, none⟩ = some (.int .i64 0) := (blk_cell X0e.out 0).trans rfl; have c01 : we.cell? ⟨b0, 1, none⟩ = some (.int .i64 0) := (blk_cell X0e.out 1).trans rfl; have c02 : we.cell? ⟨b0, 2, none⟩ = some (.string ⟨#[]⟩) := (blk_cell X0e.out 2).trans rfl; have z00 := blk_frozen X0e.out 0; have z01 := blk_frozen X0e.out 1; have z02 := blk_frozen X0e.out 2; clear We hre) | (go_at_call 86; refine (HM.out _ _ HGB.out HBd.out HRd.out).mono ?_; rintro e we ⟨rfl, hre, We⟩; have HRe := Aside0.mk hre; have HBe := Aside0.mk (HBd.out.trans (We.below HGB.out HBd.out.size)); have X0e := Aside0.mk (We.keep.blk X0d.out NG0 (by simp)); have X1e := Aside0.mk (We.keep.blk X1d.out NG1 (by simp)); have X2e := Aside0.mk (We.keep.blk X2d.out NG2 (by simp)); have c00 : we.cell? ⟨b0, 0, none⟩ = some (.int .i64 0) := (blk_cell X0e.out 0).trans rfl; have c01 : we.cell? ⟨b0, 1, none⟩ = some (.int .i64 0) := (blk_cell X0e.out 1).trans rfl; have c02 : we.cell? ⟨b0, 2, none⟩ = some (.string ⟨#[]⟩) := (blk_cell X0e.out 2).trans rfl; have z00 := blk_frozen X0e.out 0; have z01 := blk_frozen X0e.out 1; have z02 := blk_frozen X0e.out 2; clear We hre) | (go_at_call 87; refine (HM.out _ _ HGB.out HBd.out HRd.out).mono ?_; rintro e we ⟨rfl, hre, We⟩; have HRe := Aside0.mk hre; have HBe := Aside0.mk (HBd.out.trans (We.below HGB.out HBd.out.size)); have X0e := Aside0.mk (We.keep.blk X0d.out NG0 (by simp)); have X1e := Aside0.mk (We.keep.blk X1d.out NG1 (by simp)); have X2e := Aside0.mk (We.keep.blk X2d.out NG2 (by simp)); have c00 : we.cell? ⟨b0, 0, none⟩ = some (.int .i64 0) := (blk_cell X0e.out 0).trans rfl; have c01 : we.cell? ⟨b0, 1, none⟩ = some (.int .i64 0) := (blk_cell X0e.out 1).trans rfl; have c02 : we.cell? ⟨b0, 2, none⟩ = some (.string ⟨#[]⟩) := (blk_cell X0e.out 2).trans rfl; have z00 := blk_frozen X0e.out 0; have z01 := blk_frozen X0e.out 1; have z02 := blk_frozen X0e.out 2; clear We hre) | (go_at_call 88; refine (HM.out _ _ HGB.out HBd.out HRd.out).mono ?_; rintro e we ⟨rfl, hre, We⟩; have HRe := Aside0.mk hre; have HBe := Aside0.mk (HBd.out.trans (We.below HGB.out HBd.out.size)); have X0e := Aside0.mk (We.keep.blk X0d.out NG0 (by simp)); have X1e := Aside0.mk (We.keep.blk X1d.out NG1 (by simp)); have X2e := Aside0.mk (We.keep.blk X2d.out NG2 (by simp)); have c00 : we.cell? ⟨b0, 0, none⟩ = some (.int .i64 0) := (blk_cell X0e.out 0).trans rfl; have c01 : we.cell? ⟨b0, 1, none⟩ = some (.int .i64 0) := (blk_cell X0e.out 1).trans rfl; have c02 : we.cell? ⟨b0, 2, none⟩ = some (.string ⟨#[]⟩) := (blk_cell X0e.out 2).trans rfl; have z00 := blk_frozen X0e.out 0; have z01 := blk_frozen X0e.out 1; have z02 := blk_frozen X0e.out 2; clear We hre))
   have X0f := Aside0.mk (blk_set (blk_set (blk_set X0e.out 0 (.int .i64 v0)) 1 (.int .i64 v1)) 2 (.string v2))
   have X1f := Aside0.mk (blk_far (p := ⟨b0, 2, none⟩) (blk_far (p := ⟨b0, 1, none⟩) (blk_far (p := ⟨b0, 0, none⟩) X1e.out n01.symm (.int .i64 v0)) n01.symm (.int .i64 v1)) n01.symm (.string v2))
   have X2f := Aside0.mk (blk_far (p := ⟨b0, 2, none⟩) (blk_far (p := ⟨b0, 1, none⟩) (blk_far (p := ⟨b0, 0, none⟩) X2e.out n02.symm (.int .i64 v0)) n02.symm (.int .i64 v1)) n02.symm (.string v2))
   have HRf := Aside0.mk (HRe.out.far3 NG0 (.int .i64 v0) (.int .i64 v1) (.string v2))
   have HBf := Aside0.mk (below_setF (below_setF (below_setF HBe.out L0.out 0 (.int .i64 v0)) L0.out 1 (.int .i64 v1)) L0.out 2 (.string v2))
   clear c00 c01 c02 z00 z01 z02 HRe X0e X1e X2e HBe
   generalize ((we.setCell ⟨b0, 0, none⟩ (.int .i64 v0)).setCell ⟨b0, 1, none⟩ (.int .i64 v1)).setCell ⟨b0, 2, none⟩ (.string v2) = wf at *
   have q1 := HRf.out.c1
   have c00 : wf.cell? ⟨b0, 0, none⟩ = some (.int .i64 v0) := (blk_cell X0f.out 0).trans rfl
   have c01 : wf.cell? ⟨b0, 1, none⟩ = some (.int .i64 v1) := (blk_cell X0f.out 1).trans rfl
   have c02 : wf.cell? ⟨b0, 2, none⟩ = some (.string v2) := (blk_cell X0f.out 2).trans rfl
   have c10 : wf.cell? ⟨b1, 0, none⟩ = some (.int .i64 0) := (blk_cell X1f.out 0).trans rfl
   have c20 : wf.cell? ⟨b2, 0, none⟩ = some (.int .i64 0) := (blk_cell X2f.out 0).trans rfl
   have z00 := blk_frozen X0f.out 0
   have z01 := blk_frozen X0f.out 1
   have z02 := blk_frozen X0f.out 2
   have z10 := blk_frozen X1f.out 0
   have z20 := blk_frozen X2f.out 0
   have NG0' := NG0.symm
   have NG1' := NG1.symm
   have NG2' := NG2.symm
   have n10 := n01.symm
   have n20 := n02.symm
   have n21 := n12.symm
   go_region
   obtain ⟨E0, E1, E2, BE⟩ := read_stored X0f.out X1f.out X2f.out rfl rfl rfl n01 n02 n12 (.int .i64 v0) (.int .i64 v1) (.string v2) (.int .i64 p_) (.int .i64 0) w.heap.size w HBf.out L0.out (by have := L0.out; have := L1.out; omega) (by have := L0.out; have := L1.out; have := L2.out; omega)
   have E0' := Aside0.mk (drew_blk E0)
   have E1' := Aside0.mk (drew_blk E1)
   have E2' := Aside0.mk (drew_blk E2)
   have BE' := Aside0.mk (drew_below BE)
   clear E0 E1 E2 BE q1 c00 c01 c02 c10 c20 z00 z01 z02 z10 z20 NG0' NG1' NG2' n10 n20 n21 HRf X0f X1f X2f HBf
   generalize (((((wf.setCell ⟨b0, 0, none⟩ (.int .i64 v0)).setCell ⟨b0, 1, none⟩ (.int .i64 v1)).setCell ⟨b0, 2, none⟩ (.string v2)).setCell ⟨b1, 0, none⟩ (.int .i64 p_)).setCell ⟨b2, 0, none⟩ (.int .i64 0)).drew = wz at *
   go_wp2
   refine leaves_cons (f := 79) (args := #[.pointer (some ⟨b0, 0, none⟩), .pointer (some ⟨b1, 0, none⟩), .pointer (some ⟨b2, 0, none⟩)]) (by simp) (by simp [go_sem]) ?_
   refine (catch_idle _ _ _ wz).mono ?_
   rintro e u' wg ⟨rfl, rfl, rfl⟩
   exact ⟨_, read_results _ _ b0 b1 b2 p_ 0 (v0, v1, v2) rfl rfl rfl E0'.out E1'.out E2'.out, rfl, BE'.out⟩)
section
variable (T Lt : Int → Bool) (IX : ByteArray → Int) (U6 : ByteArray → Option (List Int × Int × Int)) (V : ByteArray → Option (Bool × Int)) (UX : ByteArray → Option (List Int × Int × Int)) (LO : ByteArray → Option ByteArray)
end
end Go.Proofs.YtclkclcacnpmbaaDoorW.PrintWords
