/- strings.NewReplacer over the two signs that a text in quotes marks, and its Replace. -/
import Derived.Test.YtkbmbancfbfddaaGreatDoorXWOnce
import Derived.Test.YtkbmbancfbfddaaGreatDoorWWords
import Derived.Deep.RegionHeld3
import Derived.BigRegion
import Derived.StillTailTactics
namespace Go.Proofs.YtkbmbancfbfddaaGreatDoorW.PrintWords
open Go.RowKit

def rplTexts : List ByteArray := [⟨#[34]⟩, ⟨#[92, 34]⟩, ⟨#[92]⟩, ⟨#[92, 92]⟩]
theorem infoStr : (Tryz.prog.info? 9).map (fun i => (i.zero, i.size, i.bytes)) = some (some (.string ⟨#[]⟩), 1, 16) := by kernel_rfl
theorem infoRpl : (Tryz.prog.info? 98).map (fun i => (i.zero, i.size)) = some (some (.agg #[.int .u32 0, .int .i32 0, .int .u32 0, .nilIface, .slice none 0 0]), 5) := by kernel_rfl
set_option maxHeartbeats 2000000 in
set_option maxRecDepth 100000 in
theorem newReplacer_calls (A : Option Addr) (c : Nat) (w : World) (HR : Kd.C Kd.string w A 4 rplTexts) :
    Calls Tryz.prog 27 #[.slice A 4 c] w fun e w' => ∃ (b : Nat) (v : Value), e = .returned (.pointer (some ⟨b, 0, none⟩)) ∧ RplAt w' b 0 0 .nilIface v ∧ Kd.R Kd.string 9 w' w.heap.size (fun k => k ≠ b) v rplTexts ∧ w.heap.size ≤ b ∧ Below w.heap.size w w' := by
  have hz := (zero_of_info (P := Tryz.prog) infoRpl).1
  have HR0 := Aside0.mk HR
  have HB := Aside0.mk (Below.refl w.heap.size w)
  clear HR
  go_enter Tryz.func27, Tryz.ntmps27
  go_wp2_with (first
    | ((with_reducible refine gate_builtin (b := .append) (xs := #[.const (.slice none 0 0), .tmp 8]) rfl ?_); at_builtin; refine Kd.R_append_rows Kd.string (w0 := w) w.heap.size rfl (.const (.slice none 0 0)) (.tmp 8) 82 9 (.string ⟨#[]⟩) 16 rfl Tryz.underlying82 infoStr rfl (by decide) (by omega) (.slice none 0 0) ([] : List ByteArray) rplTexts _ _ _ (fun _ => True) (fun _ => False) rfl rfl (Kd.R_nil _ _ _ _ (fun _ => True)) ?aR (fun _ _ h => h) (fun _ h => h.elim) (fun _ _ => trivial) ?aB ?aS ?aL ?_; (case aR => exact HR0.out); (case aB => exact HB.out); (case aS => exact Nat.le_refl _); (case aL => show (0 + 4) * 16 ≤ _; omega); intro v1 w3 ho hb hg hat; obtain ⟨A2, c2, rfl⟩ := Kd.R_slice ho; have HO := Aside0.mk ho; have HB2 := Aside0.mk hb; clear ho hb hg hat))
  go_ret
  refine ⟨w3.heap.size, _, rfl, blk_new w3 _, ?_, HB2.out.size, below_alloc HB2.out _⟩
  exact Kd.R_mono (Kd.R_alloc (Kd.R_bound HO.out) _) (fun k hk => by have := hk.2.2.1; omega)

theorem rcell_more {w w1 : World} (hb : Below w.heap.size w w1) {a : Addr} {v : Value} (h : w.cell? a = some v) : w1.cell? a = some v := by
  have hlt : a.block < w.heap.size := by
    rcases Nat.lt_or_ge a.block w.heap.size with h1 | h1
    · exact h1
    · simp [World.cell?, Array.getElem?_eq_none h1] at h
  unfold World.cell?
  rw [hb.block _ hlt]
  exact h
structure Old4 (w : World) (o : Nat) : Prop where
  c0 : w.cell? ⟨o, 0, none⟩ = some (.string ⟨#[34]⟩)
  c1 : w.cell? ⟨o, 1, none⟩ = some (.string ⟨#[92, 34]⟩)
  c2 : w.cell? ⟨o, 2, none⟩ = some (.string ⟨#[92]⟩)
  c3 : w.cell? ⟨o, 3, none⟩ = some (.string ⟨#[92, 92]⟩)
theorem Old4.more {w w1 : World} {o : Nat} (h : Old4 w o) (hb : Below w.heap.size w w1) : Old4 w1 o := ⟨rcell_more hb h.c0, rcell_more hb h.c1, rcell_more hb h.c2, rcell_more hb h.c3⟩
theorem old4_of {w : World} {b : Nat} {ok : Nat → Prop} {v : Value} (h : Kd.R Kd.string 9 w b ok v rplTexts) : ∃ (o c : Nat), v = .slice (some ⟨o, 0, none⟩) 4 c ∧ Old4 w o := by
  have ho := Kd.own_of_R h
  rcases ho.2 with ⟨_, h0⟩ | ⟨k, cap, cur, rfl, _⟩
  · simp [rplTexts] at h0
  · exact ⟨k, cap, rfl, ho.cells (g := k) rfl 0 _ (by simp [encs, rplTexts]), ho.cells (g := k) rfl 1 _ (by simp [encs, rplTexts]), ho.cells (g := k) rfl 2 _ (by simp [encs, rplTexts]), ho.cells (g := k) rfl 3 _ (by simp [encs, rplTexts])⟩
theorem infoBsr : (Tryz.prog.info? 152).map (fun i => (i.zero, i.size)) = some (some (.agg ((Array.replicate 256 (.slice none 0 0)).push (.slice none 0 0))), 257) := by kernel_rfl
def BsrAt (w : World) (q : Nat) (v1 v2 tr : Value) : Prop := ∃ cs : Array Value, w.heap[q]? = some (.cells cs 152 (0, 0)) ∧ cs.size = 257 ∧ (∀ j : Nat, j < 256 → cs[j]? = some (if j = 34 then v1 else if j = 92 then v2 else .slice none 0 0)) ∧ cs[256]? = some tr
theorem bsr_all (v : Value) (hv : v.oneCell' = true) : ((Array.replicate 256 (Value.slice none 0 0)).push v).all (·.oneCell') = true := by
  refine Array.all_eq_true_iff_forall_mem.2 fun x hx => ?_
  rcases Array.mem_push.1 hx with h | rfl
  · rw [(Array.mem_replicate.1 h).2]; rfl
  · exact hv
theorem bsr_first {w : World} {q : Nat} {tr : Value} (h : w.heap[q]? = some (.cells ((Array.replicate 256 (Value.slice none 0 0)).push tr) 152 (0, 0))) : BsrAt w q (.slice none 0 0) (.slice none 0 0) tr := by
  refine ⟨_, h, by simp, fun j hj => ?_, by rw [Array.getElem?_push, if_pos (by simp)]⟩
  rw [Array.getElem?_push, if_neg (by simp; omega), Array.getElem?_replicate, if_pos hj]
  split
  · rfl
  · split <;> rfl
theorem BsrAt.cell {w : World} {q : Nat} {v1 v2 tr : Value} (h : BsrAt w q v1 v2 tr) (j : Nat) (hj : j < 256) : w.cell? ⟨q, j, none⟩ = some (if j = 34 then v1 else if j = 92 then v2 else .slice none 0 0) := by
  obtain ⟨cs, hb, hs, hc, ht⟩ := h
  exact (blk_cell hb j).trans (hc j hj)
theorem BsrAt.last {w : World} {q : Nat} {v1 v2 tr : Value} (h : BsrAt w q v1 v2 tr) : w.cell? ⟨q, 256, none⟩ = some tr := by
  obtain ⟨cs, hb, hs, hc, ht⟩ := h
  exact (blk_cell hb 256).trans ht
theorem BsrAt.thaw {w : World} {q : Nat} {v1 v2 tr : Value} (h : BsrAt w q v1 v2 tr) (j : Nat) : w.frozen? ⟨q, j, none⟩ = false := by
  obtain ⟨cs, hb, hs, hc, ht⟩ := h
  exact blk_frozen hb j
theorem BsrAt.put1 {w : World} {q : Nat} {v1 v2 tr : Value} (h : BsrAt w q v1 v2 tr) (u : Value) : BsrAt (w.setCell ⟨q, 34, none⟩ u) q u v2 tr := by
  obtain ⟨cs, hb, hs, hc, ht⟩ := h
  refine ⟨_, blk_put hb 34 u rfl, by simp [hs], fun j hj => ?_, ?_⟩
  · rw [Array.getElem?_setIfInBounds]
    by_cases h1 : 34 = j
    · rw [if_pos h1, if_pos (by omega), if_pos h1.symm]
    · rw [if_neg h1, hc j hj]
      simp only [if_neg (show ¬ j = 34 from fun h => h1 h.symm)]
  · rw [Array.getElem?_setIfInBounds, if_neg (by decide)]
    exact ht
theorem BsrAt.put2 {w : World} {q : Nat} {v1 v2 tr : Value} (h : BsrAt w q v1 v2 tr) (u : Value) : BsrAt (w.setCell ⟨q, 92, none⟩ u) q v1 u tr := by
  obtain ⟨cs, hb, hs, hc, ht⟩ := h
  refine ⟨_, blk_put hb 92 u rfl, by simp [hs], fun j hj => ?_, ?_⟩
  · rw [Array.getElem?_setIfInBounds]
    by_cases h1 : 92 = j
    · subst h1
      rw [if_pos rfl, if_pos (by omega), if_neg (by decide), if_pos rfl]
    · rw [if_neg h1, hc j hj]
      split
      · rfl
      · rw [if_neg (fun h => h1 h.symm), if_neg (fun h => h1 h.symm)]
  · rw [Array.getElem?_setIfInBounds, if_neg (by decide)]
    exact ht
theorem BsrAt.put3 {w : World} {q : Nat} {v1 v2 tr : Value} (h : BsrAt w q v1 v2 tr) (u : Value) : BsrAt (w.setCell ⟨q, 256, none⟩ u) q v1 v2 u := by
  obtain ⟨cs, hb, hs, hc, ht⟩ := h
  refine ⟨_, blk_put hb 256 u rfl, by simp [hs], fun j hj => ?_, ?_⟩
  · rw [Array.getElem?_setIfInBounds, if_neg (by omega)]
    exact hc j hj
  · rw [Array.getElem?_setIfInBounds, if_pos rfl, if_pos (by omega)]
theorem BsrAt.below {w w1 : World} {q : Nat} {v1 v2 tr : Value} (h : BsrAt w q v1 v2 tr) (hb : Below w.heap.size w w1) : BsrAt w1 q v1 v2 tr := by
  obtain ⟨cs, hk, hs, hc, ht⟩ := h
  exact ⟨cs, (hb.block q (blk_lt hk)).trans hk, hs, hc, ht⟩
theorem BsrAt.grown {w w1 : World} {q : Nat} {v1 v2 tr : Value} (h : BsrAt w q v1 v2 tr) {row : Option Nat} (hg : w.grownBy w1 row) (hne : some q ≠ row) : BsrAt w1 q v1 v2 tr := by
  obtain ⟨cs, hk, hs, hc, ht⟩ := h
  exact ⟨cs, blk_grown hk hg hne, hs, hc, ht⟩
theorem BsrAt.lt {w : World} {q : Nat} {v1 v2 tr : Value} (h : BsrAt w q v1 v2 tr) : q < w.heap.size := by
  obtain ⟨cs, hk, _⟩ := h
  exact blk_lt hk
theorem Marked.lt {W : World} {e g : Nat} {xs : List Int} (h : Marked W e g xs) : g < W.heap.size := by
  obtain ⟨cur, m, hh, _⟩ := h
  exact blk_lt hh
theorem Marked.ne {W : World} {e g q : Nat} {xs : List Int} {v1 v2 tr : Value} (h : Marked W e g xs) (hq : BsrAt W q v1 v2 tr) : g ≠ q := by
  rintro rfl
  obtain ⟨cur, m, hh, _⟩ := h
  obtain ⟨cs, hk, _⟩ := hq
  rw [hh] at hk
  injection hk with hk
  injection hk with _ _ hk
  injection hk with h1 h2
  omega
theorem Marked.neR {W : World} {e g : Nat} {xs : List Int} (h : Marked W e g xs) {α : Type} {d : Kd α} {e' base : Nat} {ok : Nat → Prop} {v : Value} {ys : List α} (hr : Kd.R d e' W base ok v ys) : some g ≠ v.ownBlock := by
  intro he
  obtain ⟨_, inner, ho, _⟩ := hr
  obtain ⟨cells, hc⟩ := own_typed ho g he.symm
  obtain ⟨cur, m, hh, _⟩ := h
  rw [hh] at hc
  injection hc with hc
  injection hc with _ _ hc
  injection hc with h1 h2
  omega
section
variable {P : Program} {ops : Array Oper} {rest : List Oper} {o : Oper} {a : Act} {Q : Exit → Act → World → Prop}
theorem M_bytes {W : World} (e : Nat) (hgd : o.guard = none) {N : Tmp} (_hd : o.dst = some N) (src dst : TypeId) (x : Operand) (ho : o.op = .convert src dst x) (s : ByteArray) (hx : a.eval x = .string s)
    {u : TypeDesc} (hs : P.underlying src = some u) (hdst : P.underlying dst = some (.slice e)) (he : P.underlying e = some (.int .u8))
    (h : ∀ g c w1, g = W.heap.size → Marked w1 e g (bytesOf s) → Below W.heap.size W w1 → wpList P ops Q rest (a.put o.dst (.slice (some ⟨g, 0, none⟩) s.size c)) w1) : wpList P ops Q (o :: rest) a W := by
  have hr := print_bytes (P := P) src dst e hs hdst he s W
  exact Kd.event_run hgd (v := .slice (some ⟨W.heap.size, 0, none⟩) s.size (grownCap W s.size 0 e)) (w1 := Lib.bytesWorld W e s) (by simp [execOp, ho, hx, hr]) (h _ _ _ rfl (Marked.new W e s) (bytes_below (Below.refl _ _) (Nat.le_refl _) e s))
end
theorem sliceIn_nil (P : Program) (t e : TypeId) (ht : P.underlying t = some (.slice e)) (d : Nat) (A : Option Addr) (n c : Nat) (w : World) : (Op.equalIn (d + 1) t (.slice A n c) (.slice none 0 0)).run P w = .ok A.isNone w := by
  cases A <;> simp [Op.equalIn, go_sem, run_underlying ht]
theorem slice_eq_nil (P : Program) (t e : TypeId) (ht : P.underlying t = some (.slice e)) (A : Option Addr) (n c : Nat) (w : World) : (Go.binOp .eql t (.slice A n c) (.slice none 0 0)).run P w = .ok (.bool (A.isNone)) w := by
  have h := sliceIn_nil P t e ht 9999 A n c w
  have h2 : (Op.equal t (.slice A n c) (.slice none 0 0)).run P w = .ok A.isNone w := h
  simp [Go.binOp, go_sem, h2]
theorem slice_ne_nil (P : Program) (t e : TypeId) (ht : P.underlying t = some (.slice e)) (A : Option Addr) (n c : Nat) (w : World) : (Go.binOp .neq t (.slice A n c) (.slice none 0 0)).run P w = .ok (.bool (!A.isNone)) w := by
  have h := sliceIn_nil P t e ht 9999 A n c w
  have h2 : (Op.equal t (.slice A n c) (.slice none 0 0)).run P w = .ok A.isNone w := h
  simp [Go.binOp, go_sem, h2]
theorem one_string (c : Nat) (_hc : c < 256) (W : World) : (convert 59 9 (.slice (some ⟨W.heap.size, 0, none⟩) 1 1)).run Tryz.prog (W.alloc (.cells #[.int .u8 c] 5)) = .ok (.string ⟨#[UInt8.ofNat c]⟩) (W.alloc (.cells #[.int .u8 c] 5)) := by
  have h := run_convert_bytes_arg (P := Tryz.prog) (W.alloc (.cells #[.int .u8 c] 5)) 59 5 Tryz.underlying59 Tryz.underlying5 W.heap.size 0 1 1 [(c : Int)] rfl (fun i hi => by
    have h0 : i = 0 := by simp at hi; omega
    subst h0
    simp) 9 Tryz.underlying9
  rw [h]
  have : strOfNums [(c : Int)] = ⟨#[UInt8.ofNat c]⟩ := by
    apply ByteArray.ext
    apply Array.ext'
    rw [strOfNums_data]
    simp
  rw [this]
set_option maxHeartbeats 4000000 in
set_option maxRecDepth 100000 in
theorem build_calls (b o c : Nat) (m : Int) (x : Value) (w : World) (hb : RplAt w b 0 m x (.slice (some ⟨o, 0, none⟩) 4 c)) (ho : Old4 w o) :
    Calls Tryz.prog 91 #[.pointer (some ⟨b, 0, none⟩)] w fun e w' => ∃ (q g1 c1 g2 c2 : Nat) (tr : Value), e = .returned (.iface 153 (.pointer (some ⟨q, 0, none⟩))) ∧ BsrAt w' q (.slice (some ⟨g1, 0, none⟩) 2 c1) (.slice (some ⟨g2, 0, none⟩) 2 c2) tr ∧ Marked w' 5 g1 [92, 34] ∧ Marked w' 5 g2 [92, 92] ∧ Kd.R Kd.string 9 w' w.heap.size (fun _ => True) tr [⟨#[92]⟩, ⟨#[34]⟩] ∧ w.heap.size ≤ q ∧ Below w.heap.size w w' := by
  have hz := (zero_of_info (P := Tryz.prog) infoBsr).1
  have h4 : w.cell? ⟨b, 4, none⟩ = some (.slice (some ⟨o, 0, none⟩) 4 c) := (blk_cell hb 4).trans rfl
  have HO := Aside0.mk ho
  have HB := Aside0.mk (Below.refl w.heap.size w)
  clear hb ho
  go_enter Tryz.func91, Tryz.ntmps91
  go_wp2
  go_loopg [4, 5] 2 (fun kq v4 v5 w' => ((kq = 2 ∧ v4 = .bool true ∧ v5 = .int .i64 0) ∨ (kq = 1 ∧ v4 = .bool false ∧ v5 = .int .i64 2) ∨ (kq = 0 ∧ v4 = .bool false ∧ v5 = .int .i64 4)) ∧ Aside0 (Below w.heap.size w w'))
  case atStart => exact ⟨.inl ⟨rfl, rfl, rfl⟩, HB⟩
  case round =>
    obtain ⟨hr, HB1⟩ := hrel
    have hq := HO.out.more HB1.out
    have q0 := hq.c0
    have q1 := hq.c1
    have q2 := hq.c2
    have q3 := hq.c3
    clear hq
    rcases hr with ⟨rfl, rfl, rfl⟩ | ⟨rfl, rfl, rfl⟩ | ⟨rfl, rfl, rfl⟩
    · go_wp2
      go_roundg 1
      case measure => omega
      case rel => exact ⟨.inr (.inl ⟨rfl, rfl, rfl⟩), HB1⟩
    · go_wp2
      go_roundg 0
      case measure => omega
      case rel => exact ⟨.inr (.inr ⟨rfl, rfl, rfl⟩), HB1⟩
    · clear q0 q1 q2 q3
      go_wp2_with (first
        | ((with_reducible refine gate_dst (N := 94) rfl ?_); refine Kd.R_make0 Kd.string (w0 := w) w.heap.size 9 rfl (N := 94) rfl 82 _ _ rfl 2 rfl rfl Tryz.underlying82 (.string ⟨#[]⟩) 16 infoStr rfl (by decide) (by omega) (⟨#[]⟩ : ByteArray) (ok := fun _ => True) (okp := fun _ => True) rfl (fun _ hk => hk) trivial (by omega) (by decide) HB1.out HB1.out.size ?_; intro v94 w2 hr94 hb94 hg94 hat94; obtain ⟨A94, c94, rfl⟩ := Kd.R_slice hr94; have HR94 := Aside0.mk hr94; have HB2 := Aside0.mk hb94; clear hr94 hb94 hg94 hat94)
        | ((with_reducible refine gate_dst (N := 95) rfl ?_); obtain ⟨vs, hvs⟩ : ∃ vs : Array Value, vs = (Array.replicate 256 (Value.slice none 0 0)).push (.slice A94 0 c94) := ⟨_, rfl⟩; refine Kd.event_run rfl (v := .agg vs) (w1 := w2) ?hb ?_; (case hb => rw [hvs]; first | (go_simp; done) | (go_simp; rfl)); have HV := Aside0.mk hvs; clear hvs)
        | ((with_reducible refine gate_dst (N := 11) rfl ?_); refine box_event ?hg (N := 11) ?hd (cs := (Array.replicate 256 (.slice none 0 0)).push (.slice none 0 0)) (t := 152) ?hr ?_; (case hd => rfl); (case hg => rfl); (case hr => first | (go_simp; done) | (go_simp; rfl)); intro gb hg w3 hbox hb3; have HX := Aside0.mk hbox; have HB3 := Aside0.mk hb3; have HG := Aside0.mk (show w2.heap.size ≤ gb from Nat.le_of_eq hg.symm); clear hbox hb3 hg)
        | (refine wpList_plain rfl fun K hK => wp_store_row 152 (.tmp 11) (.tmp 95) rfl gb vs rfl rfl _ _ HX.out ?si ?so ?s1 (hK _ _ ?_); (case si => rw [HV.out]; kernel_rfl); (case so => rw [HV.out]; simp); (case s1 => rw [HV.out]; exact bsr_all _ rfl); have hblk := setRow_heap w3 gb _ vs _ _ HX.out; have hbw := below_setRow HB3.out HG.out vs; generalize w3.setRow gb vs = w4 at *; rw [HV.out] at hblk; have HK := Aside0.mk (bsr_first hblk); have HB4 := Aside0.mk hbw; clear hblk hbw HX HB3))
      have HR4 := Aside0.mk (show Kd.R Kd.string 9 w4 w.heap.size (fun k => k ≠ gb) _ [] from Kd.R_mono (Kd.R_move (Kd.R_bound HR94.out) (fun k hk => HB4.out.block k hk.2.2.1)) (fun k hk => by have := hk.2.2.1; have := HG.out; omega))
      have HW4 := Aside0.mk (below_then HB2.out HB2.out.size HB4.out)
      have HGw := Aside0.mk (Nat.le_trans HB2.out.size HG.out)
      clear HR94 HB4 HB2 HG HV HB1
      go_loopg [12] 2 (fun kq v12 w' => ∃ (v1 v2 tr : Value), Aside0 (BsrAt w' gb v1 v2 tr) ∧ Aside0 (Below w.heap.size w w') ∧
        ((kq = 2 ∧ v12 = .int .i64 2 ∧ v1 = .slice none 0 0 ∧ v2 = .slice none 0 0 ∧ Aside0 (Kd.R Kd.string 9 w' w.heap.size (fun k => k ≠ gb) tr [])) ∨
         (kq = 1 ∧ v12 = .int .i64 0 ∧ v1 = .slice none 0 0 ∧ (∃ g2 c2, v2 = .slice (some ⟨g2, 0, none⟩) 2 c2 ∧ Aside0 (Marked w' 5 g2 [92, 92])) ∧ Aside0 (Kd.R Kd.string 9 w' w.heap.size (fun k => k ≠ gb) tr [⟨#[92]⟩])) ∨
         (kq = 0 ∧ v12 = .int .i64 (-2) ∧ (∃ g1 c1, v1 = .slice (some ⟨g1, 0, none⟩) 2 c1 ∧ Aside0 (Marked w' 5 g1 [92, 34])) ∧ (∃ g2 c2, v2 = .slice (some ⟨g2, 0, none⟩) 2 c2 ∧ Aside0 (Marked w' 5 g2 [92, 92])) ∧ Aside0 (Kd.R Kd.string 9 w' w.heap.size (fun k => k ≠ gb) tr [⟨#[92]⟩, ⟨#[34]⟩]))))
      case atStart => exact ⟨_, _, _, HK, HW4, .inl ⟨rfl, rfl, rfl, rfl, HR4⟩⟩
      case round =>
        clear HK HR4 HW4
        obtain ⟨v1, v2, tr, HK, HW, hr⟩ := hrel
        have hq := HO.out.more HW.out
        have q0 := hq.c0
        have q1 := hq.c1
        have q2 := hq.c2
        have q3 := hq.c3
        clear hq
        have k34 := HK.out.cell 34 (by decide)
        have k92 := HK.out.cell 92 (by decide)
        have k256 := HK.out.last
        rw [if_pos rfl] at k34
        rw [if_neg (by decide), if_pos rfl] at k92
        have HL := Aside0.mk HK.out.lt
        have hcv92 : ∀ W : World, (convert 59 9 (.slice (some ⟨W.heap.size, 0, none⟩) 1 1)).run Tryz.prog (W.alloc (.cells #[.int .u8 92] 5)) = .ok (.string ⟨#[92]⟩) (W.alloc (.cells #[.int .u8 92] 5)) := fun W => one_string 92 (by decide) W
        have hcv34 : ∀ W : World, (convert 59 9 (.slice (some ⟨W.heap.size, 0, none⟩) 1 1)).run Tryz.prog (W.alloc (.cells #[.int .u8 34] 5)) = .ok (.string ⟨#[34]⟩) (W.alloc (.cells #[.int .u8 34] 5)) := fun W => one_string 34 (by decide) W
        have hen := slice_eq_nil Tryz.prog 59 5 Tryz.underlying59
        rcases hr with ⟨rfl, rfl, rfl, rfl, HT⟩ | ⟨rfl, rfl, rfl, ⟨g2, c2, rfl, HM2⟩, HT⟩ | ⟨rfl, rfl, ⟨g1, c1, rfl, HM1⟩, ⟨g2, c2, rfl, HM2⟩, HT⟩
        · obtain ⟨AT, cT, rfl⟩ := Kd.R_slice HT.out
          go_wp2_with (first
            | ((with_reducible refine gate_dst (N := 107) rfl ?_); refine Kd.event_run rfl (v := .int .u8 92) (w1 := wr) ?hb ?_; (case hb => go_simp; rfl))
            | ((with_reducible refine gate_builtin (b := .append) (xs := #[.tmp 119, .tmp 123]) rfl ?_); at_builtin; refine Kd.R_append Kd.string (w0 := w) w.heap.size rfl (.tmp 119) (.tmp 123) 82 9 (.string ⟨#[]⟩) 16 rfl Tryz.underlying82 infoStr rfl (by decide) (by omega) (.slice AT 0 cT) [] ⟨#[92]⟩ [.string ⟨#[92]⟩] (fun k => k ≠ gb) (fun _ => False) rfl (by rw [show (wr.alloc (.cells #[.int .u8 92] 5)).heap.size = wr.heap.size + 1 from Array.size_push _]; rfl) ?aP (fun _ hk => hk.elim) ?aF ?aO ?aB ?aS ?aL ?_; (case aP => exact rfl); (case aF => intro k hk; have h1 := HL.out; have h2 := (below_alloc (Below.refl wr.heap.size wr) (.cells #[.int .u8 92] 5)).size; omega); (case aO => exact Kd.R_alloc HT.out _); (case aB => exact below_alloc HW.out _); (case aS => exact (below_alloc HW.out _).size); (case aL => show (0 + 1) * 16 ≤ _; omega); intro v201 w13 ho hb hg hat; have HK13 := Aside0.mk ((HK.out.below (below_alloc (Below.refl _ _) _)).grown hg (fun e => HT.out.1 gb e.symm rfl)); have HW13 := Aside0.mk hb; obtain ⟨A3, c3, rfl⟩ := Kd.R_slice ho; have HT13 := Aside0.mk ho; have k256b := HK13.out.last; have z256b := HK13.out.thaw 256; clear ho hb hg hat HK HT HW)
            | ((with_reducible refine gate_dst (N := 128) rfl ?_); refine M_bytes 5 rfl (N := 128) rfl 9 59 _ rfl ⟨#[92, 92]⟩ rfl Tryz.underlying9 Tryz.underlying59 Tryz.underlying5 ?_; intro g2 c2 w14 hg2 hm2 hb2; have HM := Aside0.mk hm2; have HG2 := Aside0.mk hg2; have HB14 := Aside0.mk hb2; have HK14 := Aside0.mk (((HK13.out.put3 _).below hb2)); have HT14 := Aside0.mk (Kd.R_below (Kd.R_far HT13.out (fun k hk => hk) _) hb2); have HW14 := Aside0.mk (below_then (below_set HW13.out HGw.out) (Nat.le_trans HW13.out.size (Nat.le_of_eq (Array.size_modify ..).symm)) hb2); have k34c := HK14.out.cell 34 (by decide); have k92c := HK14.out.cell 92 (by decide); have z34c := HK14.out.thaw 34; have z92c := HK14.out.thaw 92; rw [if_pos rfl] at k34c; rw [if_neg (by decide), if_pos rfl] at k92c; clear hg2 hm2 hb2))
          go_roundg 1
          case measure => omega
          case rel => exact ⟨_, _, _, ⟨HK14.out.put2 _⟩, ⟨below_set HW14.out HGw.out⟩, .inr (.inl ⟨rfl, rfl, rfl, ⟨g2, c2, rfl, ⟨HM.out.move (Below.heap_setCell w14 ⟨gb, 92, none⟩ _ g2 (HM.out.ne HK14.out))⟩⟩, ⟨Kd.R_far HT14.out (fun k hk => hk) _⟩⟩)⟩
        · obtain ⟨AT, cT, rfl⟩ := Kd.R_slice HT.out
          go_wp2_with (first
            | ((with_reducible refine gate_dst (N := 107) rfl ?_); refine Kd.event_run rfl (v := .int .u8 34) (w1 := wr) ?hb ?_; (case hb => go_simp; rfl))
            | ((with_reducible refine gate_builtin (b := .append) (xs := #[.tmp 119, .tmp 123]) rfl ?_); at_builtin; refine Kd.R_append Kd.string (w0 := w) w.heap.size rfl (.tmp 119) (.tmp 123) 82 9 (.string ⟨#[]⟩) 16 rfl Tryz.underlying82 infoStr rfl (by decide) (by omega) (.slice AT 1 cT) [⟨#[92]⟩] ⟨#[34]⟩ [.string ⟨#[34]⟩] (fun k => k ≠ gb) (fun _ => False) rfl (by rw [show (wr.alloc (.cells #[.int .u8 34] 5)).heap.size = wr.heap.size + 1 from Array.size_push _]; rfl) ?aP (fun _ hk => hk.elim) ?aF ?aO ?aB ?aS ?aL ?_; (case aP => exact rfl); (case aF => intro k hk; have h1 := HL.out; have h2 := (below_alloc (Below.refl wr.heap.size wr) (.cells #[.int .u8 34] 5)).size; omega); (case aO => exact Kd.R_alloc HT.out _); (case aB => exact below_alloc HW.out _); (case aS => exact (below_alloc HW.out _).size); (case aL => show (1 + 1) * 16 ≤ _; omega); intro v201 w13 ho hb hg hat; have HK13 := Aside0.mk ((HK.out.below (below_alloc (Below.refl _ _) _)).grown hg (fun e => HT.out.1 gb e.symm rfl)); have HW13 := Aside0.mk hb; have HM213 := Aside0.mk (HM2.out.move ((hg.block g2 (Nat.lt_of_lt_of_le HM2.out.lt (below_alloc (Below.refl wr.heap.size wr) (.cells #[.int .u8 34] 5)).size) (HM2.out.neR HT.out)).trans ((below_alloc (Below.refl wr.heap.size wr) (.cells #[.int .u8 34] 5)).block g2 HM2.out.lt))); obtain ⟨A3, c3, rfl⟩ := Kd.R_slice ho; have HT13 := Aside0.mk ho; have k256b := HK13.out.last; have z256b := HK13.out.thaw 256; clear ho hb hg hat HK HT HW)
            | ((with_reducible refine gate_dst (N := 128) rfl ?_); refine M_bytes 5 rfl (N := 128) rfl 9 59 _ rfl ⟨#[92, 34]⟩ rfl Tryz.underlying9 Tryz.underlying59 Tryz.underlying5 ?_; intro g1 c1 w14 hg2 hm2 hb2; have HM := Aside0.mk hm2; have HG2 := Aside0.mk hg2; have HB14 := Aside0.mk hb2; have HM214 := Aside0.mk (HM213.out.move ((hb2.block g2 (Nat.lt_of_lt_of_le HM213.out.lt (Nat.le_of_eq (Array.size_modify ..).symm))).trans (Below.heap_setCell w13 ⟨gb, 256, none⟩ _ g2 (HM213.out.ne HK13.out)))); have HK14 := Aside0.mk (((HK13.out.put3 _).below hb2)); have HT14 := Aside0.mk (Kd.R_below (Kd.R_far HT13.out (fun k hk => hk) _) hb2); have HW14 := Aside0.mk (below_then (below_set HW13.out HGw.out) (Nat.le_trans HW13.out.size (Nat.le_of_eq (Array.size_modify ..).symm)) hb2); have k34c := HK14.out.cell 34 (by decide); have k92c := HK14.out.cell 92 (by decide); have z34c := HK14.out.thaw 34; have z92c := HK14.out.thaw 92; rw [if_pos rfl] at k34c; rw [if_neg (by decide), if_pos rfl] at k92c; clear hg2 hm2 hb2))
          go_roundg 0
          case measure => omega
          case rel => exact ⟨_, _, _, ⟨HK14.out.put1 _⟩, ⟨below_set HW14.out HGw.out⟩, .inr (.inr ⟨rfl, rfl, ⟨g1, c1, rfl, ⟨HM.out.move (Below.heap_setCell w14 ⟨gb, 34, none⟩ _ g1 (HM.out.ne HK14.out))⟩⟩, ⟨g2, c2, rfl, ⟨HM214.out.move (Below.heap_setCell w14 ⟨gb, 34, none⟩ _ g2 (HM214.out.ne HK14.out))⟩⟩, ⟨Kd.R_far HT14.out (fun k hk => hk) _⟩⟩)⟩
        · go_wp2
          go_ret
          exact ⟨gb, g1, c1, g2, c2, tr, rfl, HK.out, HM1.out, HM2.out, Kd.R_mono HT.out (fun _ _ => trivial), HGw.out, HW.out⟩
end Go.Proofs.YtkbmbancfbfddaaGreatDoorW.PrintWords
