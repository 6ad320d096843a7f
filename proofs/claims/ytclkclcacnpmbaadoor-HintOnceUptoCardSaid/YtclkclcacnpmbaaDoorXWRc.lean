/- Layer 9's Read: its deferred closure where a fault goes through, by hand. -/
import Derived.Test.YtclkclcacnpmbaaDoorXWRd
import Derived.BigRegion
namespace Go.Proofs.YtclkclcacnpmbaaDoorW.PrintWords
open Go.RowKit

def caught (at_ e : Int) : List PanicEntry := [{ v := .iface 128 (.agg #[.int .i64 at_, .int .i64 e]), recovered := true }]
theorem below_setF {B : Nat} {w w1 : World} (h : Below B w w1) {q : Nat} (hq : B ≤ q) (j : Nat) (u : Value) : Below B w (w1.setCell ⟨q, j, none⟩ u) :=
 ⟨h.os, h.tape, h.output, Nat.le_trans h.size (Nat.le_of_eq (by simp [World.setCell])), fun k hk => (Below.heap_setCell w1 ⟨q, j, none⟩ u k (by show k ≠ q; omega)).trans (h.block k hk)⟩
set_option maxHeartbeats 8000000 in
set_option maxRecDepth 100000 in
theorem catch_fault (b0 b1 b2 : Nat) (at_ e : Int) (w : World) (v0 v1 v2 v3 v4 : Value) (h0 : w.heap[b0]? = some (.cells #[v0, v1, v2] 50 (0, 0))) (h1 : w.heap[b1]? = some (.cells #[v3] 3 (0, 0))) (h2 : w.heap[b2]? = some (.cells #[v4] 29 (0, 0))) (h01 : b0 ≠ b1) (h02 : b0 ≠ b2) (h12 : b1 ≠ b2) :
  CallsD Tryd.prog 79 #[.pointer (some ⟨b0, 0, none⟩), .pointer (some ⟨b1, 0, none⟩), .pointer (some ⟨b2, 0, none⟩)] (.panicking (fault at_ e)) w fun x u' w' => x = .returned (.tuple #[]) ∧ u' = .panicking (caught at_ e) ∧
   w'.heap[b0]? = some (.cells #[.int .i64 0, .int .i64 0, .string ⟨#[]⟩] 50 (0, 0)) ∧ w'.heap[b1]? = some (.cells #[.int .i64 at_] 3 (0, 0)) ∧ w'.heap[b2]? = some (.cells #[.int .i64 e] 29 (0, 0)) ∧ ∀ b, b ≤ b0 → b ≤ b1 → b ≤ b2 → Below b w w' := by
 refine callsD_of_wpS Tryd.func79 rfl fun c₀ cs hu => ?_
 simp only [Tryd.ntmps79, List.size_toArray, List.length_cons, List.length_nil, Nat.reduceAdd, Nat.reduceSub, Array.replicate_succ, Array.replicate_zero, List.push_toArray, List.append_toArray, List.nil_append, List.cons_append]
 apply wpS_seq
 apply wpS_region
 unfold fault at hu
 simp [wpOpsS, go_sem, recoverD, hu, Exit.thenS]
 apply wpS_seq
 apply wpS_region
 simp [wpOpsS, go_sem, Exit.thenS]
 refine wpS_cond (t := true) (by simp [Act.eval]) ?_
 simp only [if_true]
 refine wpS_of_wp ?_
 have hta : ∀ (v : Value) (w : World), (Instr.typeAssert (.iface 128 v) 20 128 true).run Tryd.prog w = .ok (.tuple #[v, .bool true]) w := fun v w => by
  simp [Instr.typeAssert, go_sem]
 go_wp2_with (first
  | ((with_reducible refine gate_dst (N := 4) rfl ?_); refine box_event ?hg (N := 4) ?hd (cs := #[.int .i64 0, .int .i64 0]) (t := 128) ?hr ?_; (case hd => rfl); (case hg => rfl); (case hr => first | (go_simp; done) | (go_simp; rfl)); intro gf hg w1 hbox hb; have HGF := Aside0.mk hg; have HB1 := Aside0.mk hb; have HBX := Aside0.mk hbox; have k0 : w1.cell? ⟨gf, 0, none⟩ = some (.int .i64 0) := (blk_cell hbox 0).trans rfl; have k1 : w1.cell? ⟨gf, 1, none⟩ = some (.int .i64 0) := (blk_cell hbox 1).trans rfl; have y0 := blk_frozen hbox 0; have y1 := blk_frozen hbox 1; clear hg hbox hb))
 have hlt0 := blk_lt h0
 have hlt1 := blk_lt h1
 have hlt2 := blk_lt h2
 have HGT := Aside0.mk (show w.heap.size ≤ gf from Nat.le_of_eq HGF.out.symm)
 have n0 : b0 ≠ gf := fun h => by have := HGT.out; omega
 have n1 : b1 ≠ gf := fun h => by have := HGT.out; omega
 have n2 : b2 ≠ gf := fun h => by have := HGT.out; omega
 have HF := Aside0.mk (blk_set (blk_set HBX.out 0 (.int .i64 at_)) 1 (.int .i64 e))
 have B0 := Aside0.mk (blk_far (p := ⟨gf, 1, none⟩) (blk_far (p := ⟨gf, 0, none⟩) (blk_below h0 HB1.out) n0 (.int .i64 at_)) n0 (.int .i64 e))
 have B1 := Aside0.mk (blk_far (p := ⟨gf, 1, none⟩) (blk_far (p := ⟨gf, 0, none⟩) (blk_below h1 HB1.out) n1 (.int .i64 at_)) n1 (.int .i64 e))
 have B2 := Aside0.mk (blk_far (p := ⟨gf, 1, none⟩) (blk_far (p := ⟨gf, 0, none⟩) (blk_below h2 HB1.out) n2 (.int .i64 at_)) n2 (.int .i64 e))
 have BW : Aside0 (Below w.heap.size w ((w1.setCell ⟨gf, 0, none⟩ (.int .i64 at_)).setCell ⟨gf, 1, none⟩ (.int .i64 e))) := ⟨below_setF (below_setF HB1.out HGT.out 0 _) HGT.out 1 _⟩
 clear HBX HB1 k0 k1 y0 y1
 generalize (w1.setCell ⟨gf, 0, none⟩ (.int .i64 at_)).setCell ⟨gf, 1, none⟩ (.int .i64 e) = w2 at *
 have k0 : w2.cell? ⟨gf, 0, none⟩ = some (.int .i64 at_) := (blk_cell HF.out 0).trans rfl
 have k1 : w2.cell? ⟨gf, 1, none⟩ = some (.int .i64 e) := (blk_cell HF.out 1).trans rfl
 have c00 : w2.cell? ⟨b0, 0, none⟩ = some v0 := (blk_cell B0.out 0).trans rfl
 have c01 : w2.cell? ⟨b0, 1, none⟩ = some v1 := (blk_cell B0.out 1).trans rfl
 have c02 : w2.cell? ⟨b0, 2, none⟩ = some v2 := (blk_cell B0.out 2).trans rfl
 have c10 : w2.cell? ⟨b1, 0, none⟩ = some v3 := (blk_cell B1.out 0).trans rfl
 have c20 : w2.cell? ⟨b2, 0, none⟩ = some v4 := (blk_cell B2.out 0).trans rfl
 have z00 := blk_frozen B0.out 0
 have z01 := blk_frozen B0.out 1
 have z02 := blk_frozen B0.out 2
 have z10 := blk_frozen B1.out 0
 have z20 := blk_frozen B2.out 0
 have m0 := Ne.symm n0
 have m1 := Ne.symm n1
 have m2 := Ne.symm n2
 have m01 := Ne.symm h01
 have m02 := Ne.symm h02
 have m12 := Ne.symm h12
 go_region
 have D0 := blk_far (p := ⟨b2, 0, none⟩) (blk_far (p := ⟨b1, 0, none⟩) (blk_set (blk_set (blk_set B0.out 0 (.int .i64 0)) 1 (.int .i64 0)) 2 (.string ⟨#[]⟩)) h01 (.int .i64 at_)) h02 (.int .i64 e)
 have D1 := blk_far (p := ⟨b2, 0, none⟩) (blk_set (blk_far (p := ⟨b0, 2, none⟩) (blk_far (p := ⟨b0, 1, none⟩) (blk_far (p := ⟨b0, 0, none⟩) B1.out m01 (.int .i64 0)) m01 (.int .i64 0)) m01 (.string ⟨#[]⟩)) 0 (.int .i64 at_)) h12 (.int .i64 e)
 have D2 := blk_set (blk_far (p := ⟨b1, 0, none⟩) (blk_far (p := ⟨b0, 2, none⟩) (blk_far (p := ⟨b0, 1, none⟩) (blk_far (p := ⟨b0, 0, none⟩) B2.out m02 (.int .i64 0)) m02 (.int .i64 0)) m02 (.string ⟨#[]⟩)) m12 (.int .i64 at_)) 0 (.int .i64 e)
 refine ⟨rfl, _, rfl, _, results_none rfl _ _ _, rfl, rfl, D0, D1, D2, fun b l0 l1 l2 => ?_⟩
 have BB : Below b w w2 := ⟨BW.out.os, BW.out.tape, BW.out.output, BW.out.size, fun k hk => BW.out.block k (by omega)⟩
 have R5 := below_setF (below_setF (below_setF (below_setF (below_setF BB l0 0 (.int .i64 0)) l0 1 (.int .i64 0)) l0 2 (.string ⟨#[]⟩)) l1 0 (.int .i64 at_)) l2 0 (.int .i64 e)
 exact ⟨R5.os, R5.tape, R5.output, R5.size, R5.block⟩
end Go.Proofs.YtclkclcacnpmbaaDoorW.PrintWords
