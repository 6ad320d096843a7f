/- utf.at: a piece of a text by Go's reading, over utf8's two tables. -/
import Derived.Test.YtkbmbancfbfddaaGreatDoorXW
import Derived.Test.YtkbmbancfbfddaaGreatDoorShelf
import Derived.Lib.RuneCountTail
namespace Go.Proofs.YtkbmbancfbfddaaGreatDoorW.PrintWords
open Go.RowKit

def Utf8Is (w : World) : Prop := Lib.Utf8Tabs 2 3 w
theorem Utf8Is.below {w w1 : World} (h : Utf8Is w) (hb : Below w.heap.size w w1) : Utf8Is w1 :=
 ⟨fun c hc => pw_cell_below hb (h.1 c hc), fun i hi => ⟨pw_cell_below hb (h.2 i hi).1, pw_cell_below hb (h.2 i hi).2⟩⟩
def wrongAt (s : ByteArray) (pos : Nat) : Bool := decide ((Utf8.decode s pos).1 = 65533) && decide ((Utf8.decode s pos).2 = 1)
set_option maxHeartbeats 4000000 in
theorem at_calls (s : ByteArray) (pos : Nat) (h : pos < s.size) (w : World) (hU : Utf8Is w) :
  Calls Tryz.prog 78 #[.string s, .int .i64 pos] w fun x w' => x = .returned (.agg #[.int .i64 pos, .int .i64 ((Utf8.decode s pos).2 : Int), .int .i32 ((Utf8.decode s pos).1 : Int), .bool (wrongAt s pos)]) ∧ Below w.heap.size w w' := by
 have hd : Lib.decodeGo (s.extract pos s.size) = Utf8.decode s pos := by
  unfold Lib.decodeGo
  rw [if_neg (by simp; omega), Lib.tail_decode, Nat.add_zero]
 have HD := Aside0.mk (fun w1 (hU1 : Utf8Is w1) => Tryz.utf8_DecodeRuneInString (s.extract pos s.size) w1 hU1)
 rw [hd] at HD
 have hlo : (0 : Int) ≤ (pos : Int) ∧ (pos : Int) ≤ (s.size : Int) := ⟨by omega, by omega⟩
 have hn : ((pos : Int)).toNat = pos := by omega
 have HU := Aside0.mk hU
 clear hd hU
 unfold wrongAt
 generalize (Utf8.decode s pos).1 = r at *
 generalize (Utf8.decode s pos).2 = n at *
 by_cases h1 : r = 65533
 all_goals (
  by_cases h2 : n = 1
  all_goals (
   have b1 : ((r : Int) == 65533) = decide (r = 65533) := by simp [h1]; try omega
   have b2 : ((n : Int) == 1) = decide (n = 1) := by simp [h2]; try omega
   first | rw [decide_eq_true h1] at b1 | rw [decide_eq_false h1] at b1
   first | rw [decide_eq_true h2] at b2 | rw [decide_eq_false h2] at b2
   first | rw [decide_eq_true h1] | rw [decide_eq_false h1]
   first | rw [decide_eq_true h2] | rw [decide_eq_false h2]
   clear h1 h2
   go_enter Tryz.func78, Tryz.ntmps78
   go_wp2_with (first
    | ((with_reducible refine gate_dst (N := 4) rfl ?_); refine box_event ?hg (N := 4) ?hd (cs := #[.int .i64 0, .int .i64 0, .int .i32 0, .bool false]) (t := 109) ?hr ?_; (case hd => rfl); (case hg => rfl); (case hr => first | (go_simp; done) | (go_simp; rfl)); intro gb hg w1 hbox hb; have HB := Aside0.mk hb; have HX := Aside0.mk hbox; have HG := Aside0.mk (show w.heap.size ≤ gb from Nat.le_of_eq hg.symm); clear hg hbox hb)
    | (go_at_call 95; refine (HD.out _ (HU.out.below HB.out)).mono ?_; rintro e w2 ⟨rfl, hb2⟩; have HB2 := Aside0.mk (below_then HB.out HB.out.size hb2); have hx := (hb2.block gb (blk_lt HX.out)).trans HX.out; have hx0 : w2.cell? ⟨gb, 0, none⟩ = some (.int .i64 0) := (blk_cell hx 0).trans rfl; have hx1 : w2.cell? ⟨gb, 1, none⟩ = some (.int .i64 0) := (blk_cell hx 1).trans rfl; have hx2 : w2.cell? ⟨gb, 2, none⟩ = some (.int .i32 0) := (blk_cell hx 2).trans rfl; have hx3 : w2.cell? ⟨gb, 3, none⟩ = some (.bool false) := (blk_cell hx 3).trans rfl; have fx0 := blk_frozen hx 0; have fx1 := blk_frozen hx 1; have fx2 := blk_frozen hx 2; have fx3 := blk_frozen hx 3; clear hb2 hx HB HX))
   refine bodyPost_ret (v := .agg #[.int .i64 pos, .int .i64 n, .int .i32 r, .bool _]) (by simp [results, Tryz.results78, go_sem, hx0, hx1, hx2, hx3]; try rfl) rfl ?_
   exact ⟨rfl, below_set (below_set (below_set (below_set HB2.out HG.out) HG.out) HG.out) HG.out⟩))
theorem piece_field (a b c : Value) (d : Bool) (w : World) : (Instr.field 109 (.agg #[a, b, c, .bool d]) 3).run Tryz.prog w = .ok (.bool d) w := by
 have hup := Tryz.underlying109
 simp [Instr.field, go_sem, run_underlying hup, asAgg]
end Go.Proofs.YtkbmbancfbfddaaGreatDoorW.PrintWords
