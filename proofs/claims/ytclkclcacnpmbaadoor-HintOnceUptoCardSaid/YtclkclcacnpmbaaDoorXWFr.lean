/- Layer 10's begin: its deferred closure where a fault goes through, by hand. -/
import Derived.Test.YtclkclcacnpmbaaDoorXWFp
namespace Go.Proofs.YtclkclcacnpmbaaDoorW.PrintWords
open Go.RowKit

def caughtF (e at_ : Int) : List PanicEntry := [{ v := .iface 97 (.agg #[.int .i64 e, .int .i64 at_]), recovered := true }]
set_option linter.unusedVariables false
set_option maxHeartbeats 8000000 in
set_option maxRecDepth 100000 in
theorem fcatch_fault (b1 b2 : Nat) (e at_ : Int) (w : World) (v3 v4 : Value) (h1 : w.heap[b1]? = some (.cells #[v3] 29 (0, 0))) (h2 : w.heap[b2]? = some (.cells #[v4] 3 (0, 0))) (h12 : b1 ≠ b2) :
  CallsD Tryd.prog 49 #[.pointer (some ⟨b1, 0, none⟩), .pointer (some ⟨b2, 0, none⟩)] (.panicking (wrongF e at_)) w fun x u' w' => x = .returned (.tuple #[]) ∧ u' = .panicking (caughtF e at_) ∧
   w'.heap[b1]? = some (.cells #[.int .i64 e] 29 (0, 0)) ∧ w'.heap[b2]? = some (.cells #[.int .i64 at_] 3 (0, 0)) ∧ ∀ b, b ≤ b1 → b ≤ b2 → Below b w w' := by
 refine callsD_of_wpS Tryd.func49 rfl fun c₀ cs hu => ?_
 simp only [Tryd.ntmps49, List.size_toArray, List.length_cons, List.length_nil, Nat.reduceAdd, Nat.reduceSub, Array.replicate_succ, Array.replicate_zero, List.push_toArray, List.append_toArray, List.nil_append, List.cons_append]
 apply wpS_seq
 apply wpS_region
 unfold wrongF at hu
 simp [wpOpsS, go_sem, recoverD, hu, Exit.thenS]
 refine wpS_of_wp ?_
 have hta : ∀ (v : Value) (w : World), (Instr.typeAssert (.iface 97 v) 20 97 true).run Tryd.prog w = .ok (.tuple #[v, .bool true]) w := fun v w => by
  simp [Instr.typeAssert, go_sem]
 go_wp2_with (first
  | ((with_reducible refine gate_dst (N := 3) rfl ?_); refine box_event ?hg (N := 3) ?hd (cs := #[.int .i64 0, .int .i64 0]) (t := 97) ?hr ?_; (case hd => rfl); (case hg => rfl); (case hr => first | (go_simp; done) | (go_simp; rfl)); intro gf hg w1 hbox hb; have HGF := Aside0.mk hg; have HB1 := Aside0.mk hb; have HBX := Aside0.mk hbox; have k0 : w1.cell? ⟨gf, 0, none⟩ = some (.int .i64 0) := (blk_cell hbox 0).trans rfl; have k1 : w1.cell? ⟨gf, 1, none⟩ = some (.int .i64 0) := (blk_cell hbox 1).trans rfl; have y0 := blk_frozen hbox 0; have y1 := blk_frozen hbox 1; clear hg hbox hb))
 have hlt1 := blk_lt h1
 have hlt2 := blk_lt h2
 have HGT := Aside0.mk (show w.heap.size ≤ gf from Nat.le_of_eq HGF.out.symm)
 have n1 : b1 ≠ gf := fun h => by have := HGT.out; omega
 have n2 : b2 ≠ gf := fun h => by have := HGT.out; omega
 have HF := Aside0.mk (blk_set (blk_set HBX.out 0 (.int .i64 e)) 1 (.int .i64 at_))
 have B1 := Aside0.mk (blk_far (p := ⟨gf, 1, none⟩) (blk_far (p := ⟨gf, 0, none⟩) (blk_below h1 HB1.out) n1 (.int .i64 e)) n1 (.int .i64 at_))
 have B2 := Aside0.mk (blk_far (p := ⟨gf, 1, none⟩) (blk_far (p := ⟨gf, 0, none⟩) (blk_below h2 HB1.out) n2 (.int .i64 e)) n2 (.int .i64 at_))
 have BW : Aside0 (Below w.heap.size w ((w1.setCell ⟨gf, 0, none⟩ (.int .i64 e)).setCell ⟨gf, 1, none⟩ (.int .i64 at_))) := ⟨below_setF (below_setF HB1.out HGT.out 0 _) HGT.out 1 _⟩
 clear HBX HB1 k0 k1 y0 y1
 generalize (w1.setCell ⟨gf, 0, none⟩ (.int .i64 e)).setCell ⟨gf, 1, none⟩ (.int .i64 at_) = w2 at *
 have k0 : w2.cell? ⟨gf, 0, none⟩ = some (.int .i64 e) := (blk_cell HF.out 0).trans rfl
 have k1 : w2.cell? ⟨gf, 1, none⟩ = some (.int .i64 at_) := (blk_cell HF.out 1).trans rfl
 have c10 : w2.cell? ⟨b1, 0, none⟩ = some v3 := (blk_cell B1.out 0).trans rfl
 have c20 : w2.cell? ⟨b2, 0, none⟩ = some v4 := (blk_cell B2.out 0).trans rfl
 have z10 := blk_frozen B1.out 0
 have z20 := blk_frozen B2.out 0
 have m1 := Ne.symm n1
 have m2 := Ne.symm n2
 have m12 := Ne.symm h12
 go_region
 have D1 := blk_far (p := ⟨b2, 0, none⟩) (blk_set B1.out 0 (.int .i64 e)) h12 (.int .i64 at_)
 have D2 := blk_set (blk_far (p := ⟨b1, 0, none⟩) B2.out m12 (.int .i64 e)) 0 (.int .i64 at_)
 have BF : ∀ b, b ≤ b1 → b ≤ b2 → Below b w ((w2.setCell ⟨b1, 0, none⟩ (.int .i64 e)).setCell ⟨b2, 0, none⟩ (.int .i64 at_)) := fun b l1 l2 => by
  have BB : Below b w w2 := ⟨BW.out.os, BW.out.tape, BW.out.output, BW.out.size, fun k hk => BW.out.block k (by omega)⟩
  exact below_setF (below_setF BB l1 0 (.int .i64 e)) l2 0 (.int .i64 at_)
 all_goals (refine ⟨rfl, _, rfl, _, results_none rfl _ _ _, rfl, rfl, D1, D2, fun b l1 l2 => ?_⟩; exact ⟨(BF b l1 l2).os, (BF b l1 l2).tape, (BF b l1 l2).output, (BF b l1 l2).size, (BF b l1 l2).block⟩)
end Go.Proofs.YtclkclcacnpmbaaDoorW.PrintWords
