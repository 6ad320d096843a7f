-- Written by wip/xprint.py for this seat
import Derived.Test.YtknmcpccljmfdaaX0
namespace Go.Proofs.Ytknmcpccljmfdaa.X
open Go.RowKit Go.Proofs.YtknmcpccljmfdaaW.PrintWords Go.Proofs.YtknmcpccljmfdaaW.PrintLast Go.Proofs.YtknmcpccljmfdaaW.PrintMore
attribute [local go_sem] max2_int min2_int max_two min_two max_three min_three max_four min_four   -- for this text's walks alone
set_option linter.unusedVariables false
set_option linter.unusedSimpArgs false

/-! ### given: pergola/octets.Bytes -/
-- INFO 5
def octets_Bytes.l0 : Nat → ByteArray → Nat → List Int → Option (List Int × Int × Int)
  | 0, _, _, _ => none
  | k + 1, s, pos, out => if pos < s.size then (if 255 < (Utf8.decode s pos).1 then some ([], 4, (pos : Int)) else (if out.length < 140737488355328 then octets_Bytes.l0 k s (pos + (Utf8.decode s pos).2) (out ++ [((Utf8.decode s pos).1 : Int)]) else none)) else some (out, 0, 0)
def octets_Bytes.f (k : Nat) (a0 : ByteArray) : Option (List Int × Int × Int) := if a0.size ≤ 9223372036854775807 then octets_Bytes.l0 k a0 0 [] else none
theorem octets_Bytes.mono_l : ∀ k s pos out, LeO (octets_Bytes.l0 k s pos out) (octets_Bytes.l0 (k + 1) s pos out) := by
  intro k
  induction k with
  | zero => intro s pos out; exact LeO.none _
  | succ k ih =>
    intro s pos out
    unfold octets_Bytes.l0
    exact LeO.ite (LeO.ite (LeO.refl _) (LeO.ite (ih _ _ _) (LeO.none _))) (LeO.refl _)
theorem octets_Bytes.mono : ∀ a0 k, LeO (octets_Bytes.f k a0) (octets_Bytes.f (k + 1) a0) := fun a0 k => by
  unfold octets_Bytes.f
  exact LeO.ite (octets_Bytes.mono_l k _ _ _) (LeO.refl _)
set_option maxHeartbeats 2000000 in
theorem octets_Bytes.calls (k : Nat) (a0 : ByteArray) (r1 : List Int) (r2 : Int) (r3 : Int) (w : World) (h : octets_Bytes.f k a0 = some (r1, r2, r3)) :
    Calls Try.prog 22 #[.string a0] w fun e w' => ∃ v0_ : Value, e = .returned (.tuple #[v0_, .int .i64 r2, .int .i64 r3]) ∧ Kd.R (Kd.int .u8) 5 w' w.heap.size (fun _ => True) v0_ r1 ∧ Below w.heap.size w w' := by
  unfold octets_Bytes.f at h
  by_cases hs : a0.size ≤ 9223372036854775807
  · rw [if_pos hs] at h
    have H := Aside0.mk h
    clear h
    go_enter Try.func22, Try.ntmps22
    go_wp2
    have hit : (w.iter a0 0).heap[w.heap.size]? = some (.stringIter a0 0) := World.iter_heap w a0 0
    have HB : Below w.heap.size w (w.iter a0 0) := below_alloc (Below.refl _ _) _
    go_loopg [5] k (fun kq v5 wr => ∃ (pos : Nat) (out : List Int), Aside0 (octets_Bytes.l0 kq a0 pos out = some (r1, r2, r3)) ∧ Aside0 (kq ≤ k) ∧ Aside0 (wr.heap[w.heap.size]? = some (.stringIter a0 pos)) ∧ Aside0 (Kd.R (Kd.int .u8) 5 wr w.heap.size (fun b => b ≠ w.heap.size) v5 out) ∧ Aside0 (Below w.heap.size w wr))
    case atStart => exact ⟨0, [], H, ⟨Nat.le_refl _⟩, ⟨hit⟩, ⟨Kd.R_nil _ _ _ _ _⟩, ⟨HB⟩⟩
    case round =>
      clear hit HB H
      obtain ⟨pos, out, HA, HK, HI, HO, HB⟩ := hrel
      cases gk with
      | zero => exact absurd HA.out (by simp [octets_Bytes.l0])
      | succ k1 =>
        have h := HA.out
        clear HA
        simp only [octets_Bytes.l0] at h
        by_cases hlt : pos < a0.size
        · rw [if_pos hlt] at h
          have hnx := fun ty => Lib.run_next_any_at (P := Try.prog) wr w.heap.size a0 pos ty HI.out hlt
          have hle := decode_le a0 pos
          have HI2 := Aside0.mk (Lib.iterAt_heap wr w.heap.size a0 pos (pos + (Utf8.decode a0 pos).2) HI.out)
          have HB2 := Aside0.mk (Lib.below_iterAt HB.out (Nat.le_refl _) a0 (pos + (Utf8.decode a0 pos).2))
          have HO2 := Aside0.mk (Kd.R_step (w1 := wr.iterAt w.heap.size a0 (pos + (Utf8.decode a0 pos).2)) HO.out (fun b hb _ => Lib.iterAt_other wr w.heap.size b a0 _ hb))
          clear HI HB HO
          generalize (Utf8.decode a0 pos).1 = n at *
          generalize (pos + (Utf8.decode a0 pos).2) = pos2 at *
          generalize wr.iterAt w.heap.size a0 pos2 = w2 at *
          by_cases h255 : 255 < n
          · rw [if_pos h255] at h
            obtain ⟨rfl, rfl, rfl⟩ : [] = r1 ∧ 4 = r2 ∧ (pos : Int) = r3 := by simpa using h
            clear h
            go_wp2
            go_ret3
            exact ⟨_, by first | rfl | (simp; done) | (simp [*]; done), Kd.R_nil _ _ _ _ _, HB2.out⟩
          · rw [if_neg h255] at h
            by_cases hlim : out.length < 140737488355328
            · rw [if_pos hlim] at h
              have H := Aside0.mk h
              clear h
              go_wp2_with (first | ((with_reducible refine gate_builtin (b := .append) (xs := #[.tmp 17, .tmp 20]) rfl ?_); at_builtin; refine Kd.R_append (Kd.int .u8) (w0 := w) w.heap.size rfl (.tmp 17) (.tmp 20) 22 5 (.int .u8 0) 1 rfl Try.underlying22 info5 rfl (by decide) (by omega) u5 out (n : Int) [.int .u8 (n : Int)] (fun b => b ≠ w.heap.size) (fun _ => False) rfl rfl ?aP (fun _ hk => hk.elim) ?aF ?aO ?aB ?aS ?aL ?_; (case aP => exact rfl); (case aB => exact HB2.out); (case aF => exact (fun b hb => by have := blk_lt HI2.out; omega)); (case aO => exact HO2.out); (case aS => exact below_size HB2.out); (case aL => omega); intro v1 w3 ho hb hg hat; have n0_ := Aside0.mk hb; have n1_ := Aside0.mk ho; have n2_ := Aside0.mk ((hg.block _ (blk_lt HI2.out) (fun e => HO2.out.1 _ e.symm rfl)).trans HI2.out); clear ho hb hg hat HB2 HO2 HI2))
              go_roundg k1
              case measure => have := HK.out; omega
              case rel => exact ⟨pos2, out ++ [(n : Int)], H, ⟨by have := HK.out; omega⟩, n2_, n1_, n0_⟩
            · rw [if_neg hlim] at h
              cases h
        · rw [if_neg hlt] at h
          have hnx := fun ty => Lib.run_next_end_at (P := Try.prog) wr w.heap.size a0 pos ty HI.out hlt
          obtain ⟨rfl, rfl, rfl⟩ : out = r1 ∧ 0 = r2 ∧ 0 = r3 := by simpa using h
          clear h
          go_wp2
          go_ret3
          exact ⟨_, by first | rfl | (simp; done) | (simp [*]; done), Kd.R_mono HO.out (fun _ _ => trivial), HB.out⟩
  · rw [if_neg hs] at h
    cases h

end Go.Proofs.Ytknmcpccljmfdaa.X
