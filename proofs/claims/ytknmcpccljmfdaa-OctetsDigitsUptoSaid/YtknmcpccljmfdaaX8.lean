-- Written by wip/xprint.py for this seat
import Derived.Test.YtknmcpccljmfdaaX0
namespace Go.Proofs.Ytknmcpccljmfdaa.X
open Go.RowKit Go.Proofs.YtknmcpccljmfdaaW.PrintWords Go.Proofs.YtknmcpccljmfdaaW.PrintLast Go.Proofs.YtknmcpccljmfdaaW.PrintMore
attribute [local go_sem] max2_int min2_int max_two min_two max_three min_three max_four min_four   -- for this text's walks alone
set_option linter.unusedVariables false
set_option linter.unusedSimpArgs false

/-! ### given: pergola/octets.Base64 -/
-- INFO 5
def b64base : ByteArray := ⟨#[65, 66, 67, 68, 69, 70, 71, 72, 73, 74, 75, 76, 77, 78, 79, 80, 81, 82, 83, 84, 85, 86, 87, 88, 89, 90, 97, 98, 99, 100, 101, 102, 103, 104, 105, 106, 107, 108, 109, 110, 111, 112, 113, 114, 115, 116, 117, 118, 119, 120, 121, 122, 48, 49, 50, 51, 52, 53, 54, 55, 56, 57, 43, 47]⟩
def b64dig (q : Int) (n k : Nat) : Int := if n < k then 61 else bt b64base (q % 64)
def b64v (b : List Int) : Int := b.getD 0 0 * 65536 + b.getD 1 0 * 256 + b.getD 2 0
def b64four (b : List Int) : List Int := [b64dig (b64v b / 262144) (min b.length 3) 0, b64dig (b64v b / 4096) (min b.length 3) 1, b64dig (b64v b / 64) (min b.length 3) 2, b64dig (b64v b) (min b.length 3) 3]
def isByte (x : Int) : Bool := decide (0 ≤ x) && decide (x ≤ 255)
def octets_Base64.l0 : Nat → List Int → List Int → Option ByteArray
  | 0, _, _ => none
  | k + 1, b, out => if 0 < b.length then (if (isByte (b.getD 0 0) && isByte (b.getD 1 0) && isByte (b.getD 2 0)) = true then (if out.length + 4 < 140737488355328 then octets_Base64.l0 k (b.drop (min 3 b.length)) (out ++ b64four b) else none) else none) else some (strOfNums out)
def octets_Base64.f (k : Nat) (l0 : List Int) : Option ByteArray := octets_Base64.l0 k l0 []
theorem octets_Base64.mono_l : ∀ k b out, LeO (octets_Base64.l0 k b out) (octets_Base64.l0 (k + 1) b out) := by
  intro k
  induction k with
  | zero => intro b out; exact LeO.none _
  | succ k ih =>
    intro b out
    unfold octets_Base64.l0
    exact LeO.ite (LeO.ite (LeO.ite (ih _ _) (LeO.none _)) (LeO.none _)) (LeO.refl _)
theorem octets_Base64.mono : ∀ l0 k, LeO (octets_Base64.f k l0) (octets_Base64.f (k + 1) l0) := fun l0 k => octets_Base64.mono_l k _ _
theorem b64_splice (f : Int → Value) (b : List Int) (hb : 0 < b.length) : splice [f 0, f 0, f 0] 0 ((b.take 3).map f) = [f (b.getD 0 0), f (b.getD 1 0), f (b.getD 2 0)] := by
  match b, hb with
  | [a], _ => rfl
  | [a, c], _ => rfl
  | a :: c :: d :: t, _ => simp [splice]
set_option maxRecDepth 100000 in
theorem b64_or (x y z : Int) (hx : 0 ≤ x ∧ x ≤ 255) (hy : 0 ≤ y ∧ y ≤ 255) (hz : 0 ≤ z ∧ z ≤ 255) : Go.bits .or .u64 (Go.bits .or .u64 (x * 65536) (y * 256)) z = x * 65536 + y * 256 + z := by
  obtain ⟨x, rfl⟩ := Int.eq_ofNat_of_zero_le hx.1
  obtain ⟨y, rfl⟩ := Int.eq_ofNat_of_zero_le hy.1
  obtain ⟨z, rfl⟩ := Int.eq_ofNat_of_zero_le hz.1
  have h1 := u64_or_nat (x * 65536) (y * 256) (by omega) (by omega)
  have e1 : x * 65536 ||| y * 256 = x * 65536 + y * 256 := by
    have := Nat.shiftLeft_add_eq_or_of_lt (show y * 256 < 2 ^ 16 by omega) x
    simp only [Nat.shiftLeft_eq, Nat.reducePow] at this
    exact this.symm
  rw [e1] at h1
  have h2 := u64_or_nat (x * 65536 + y * 256) z (by omega) (by omega)
  have e2 : (x * 65536 + y * 256) ||| z = x * 65536 + y * 256 + z := by
    have := Nat.shiftLeft_add_eq_or_of_lt (show z < 2 ^ 8 by omega) (x * 256 + y)
    simp only [Nat.shiftLeft_eq, Nat.reducePow] at this
    rw [show x * 65536 + y * 256 = (x * 256 + y) * 256 by omega]
    exact this.symm
  rw [e2] at h2
  simp only [Int.natCast_mul, Int.natCast_add, Int.cast_ofNat_Int] at h1 h2
  rw [h1, h2]
theorem b64_and (v : Int) (h : 0 ≤ v) (h2 : v < 18446744073709551616) : Go.bits .and .u64 v 63 = v % 64 := by
  obtain ⟨v, rfl⟩ := Int.eq_ofNat_of_zero_le h
  have h1 := u64_and_nat v 63 (by omega) (by omega)
  have : v &&& 63 = v % 64 := Nat.and_two_pow_sub_one_eq_mod v 6
  rw [this] at h1
  simp only [Int.cast_ofNat_Int] at h1
  rw [h1, Int.natCast_emod]
  rfl
theorem isByte_of {x : Int} (h : isByte x = true) : 0 ≤ x ∧ x ≤ 255 := by simpa [isByte] using h
theorem b64_src {W : World} {A : Option Addr} {b : List Int} (h : Kd.C (Kd.int .u8) W A b.length b) (g : Nat) : 0 < ((b.take 3).map (Value.int .u8)).length → (some (⟨g, 0, none⟩ : Addr) = some ⟨g, 0, none⟩) ∧ ∃ ad, A = some ad ∧ ∀ j v, ((b.take 3).map (Value.int .u8))[j]? = some v → W.cell? (ad.add j) = some v := by
  intro hp
  have hr := Kd.reads_of_C (enc := Value.int .u8) (d := (0 : Int)) (h1 := fun _ => rfl) h
  have h0 : 0 < b.length := by rw [List.length_map, List.length_take] at hp; omega
  obtain ⟨ad, e, hc⟩ := hr.2.2 h0
  refine ⟨rfl, ad, e, fun j v hj => ?_⟩
  rw [List.getElem?_map, List.getElem?_take] at hj
  split at hj
  · rename_i h3
    cases hb : b[j]? with
    | none => rw [hb] at hj; cases hj
    | some x =>
      rw [hb] at hj
      obtain rfl : Value.int .u8 x = v := by simpa using hj
      have hl := (List.getElem?_eq_some_iff.1 hb).1
      rw [hc j hl, List.getD_eq_getElem?_getD, hb]
      rfl
  · cases hj
theorem b64_one (b : List Int) : ∀ v ∈ (b.take 3).map (Value.int .u8), v.oneCell' = true := by
  intro v hv
  obtain ⟨x, _, rfl⟩ := List.mem_map.1 hv
  rfl
set_option maxHeartbeats 4000000 in
set_option maxRecDepth 100000 in
theorem octets_Base64.calls (k : Nat) (A0 : Option Addr) (c0 : Nat) (l0 : List Int) (r : ByteArray) (w : World) (hr0 : Kd.C (Kd.int .u8) w A0 l0.length l0) (hc0 : l0.length ≤ c0) (h : octets_Base64.f k l0 = some r) :
    Calls Try.prog 17 #[.slice A0 l0.length c0] w fun e w' => e = .returned (.string r) ∧ Below w.heap.size w w' := by
  have HR := Aside0.mk hr0
  have HC := Aside0.mk hc0
  have H := Aside0.mk (show octets_Base64.l0 k l0 [] = some r from h)
  clear h hr0 hc0
  go_enter Try.func17, Try.ntmps17
  go_wp2
  go_loopg [0, 3] k (fun kq v0 v3 wr => ∃ (b out : List Int) (A : Option Addr) (c : Nat), v0 = .slice A b.length c ∧ Aside0 (octets_Base64.l0 kq b out = some r) ∧ Aside0 (kq ≤ k) ∧ Aside0 (b.length ≤ c) ∧ Aside0 (Kd.C (Kd.int .u8) w A b.length b) ∧ Aside0 (Kd.R (Kd.int .u8) 5 wr w.heap.size (fun _ => True) v3 out) ∧ Aside0 (Below w.heap.size w wr))
  case atStart => exact ⟨l0, [], A0, c0, rfl, H, ⟨Nat.le_refl _⟩, HC, HR, ⟨Kd.R_nil _ _ _ _ _⟩, ⟨Below.refl _ _⟩⟩
  case round =>
    clear H HR HC
    obtain ⟨b, out, A, c, rfl, HA, HK, HC, HR, HO, HB⟩ := hrel
    cases gk with
    | zero => exact absurd HA.out (by simp [octets_Base64.l0])
    | succ k1 =>
      have h := HA.out
      clear HA
      simp only [octets_Base64.l0] at h
      by_cases hlt : 0 < b.length
      · rw [if_pos hlt] at h
        by_cases hby : (isByte (b.getD 0 0) && isByte (b.getD 1 0) && isByte (b.getD 2 0)) = true
        · rw [if_pos hby] at h
          by_cases hlim : out.length + 4 < 140737488355328
          · rw [if_pos hlim] at h
            have H := Aside0.mk h
            clear h
            simp only [Bool.and_eq_true] at hby
            obtain ⟨⟨hx, hy⟩, hz⟩ := hby
            replace hx := isByte_of hx
            replace hy := isByte_of hy
            replace hz := isByte_of hz
            have hlt2 : (0 : Int) < (b.length : Int) := by omega
            have hor := b64_or _ _ _ hx hy hz
            have HSP := Aside0.mk (b64_splice (Value.int .u8) b hlt)
            have HN := Aside0.mk (show ((b.take 3).map (Value.int .u8)).length = Nat.min b.length 3 by rw [List.length_map, List.length_take, Nat.min_comm])
            have HF := Aside0.mk (show b64four b = [b64dig (b64v b / 262144) (min b.length 3) 0, b64dig (b64v b / 4096) (min b.length 3) 1, b64dig (b64v b / 64) (min b.length 3) 2, b64dig (b64v b) (min b.length 3) 3] from rfl)
            have hv : b.getD 0 0 * 65536 + b.getD 1 0 * 256 + b.getD 2 0 = b64v b := rfl
            rw [hv] at hor
            have hv0 : 0 ≤ b64v b := by omega
            have hv1 : b64v b < 16777216 := by omega
            clear hv
            generalize b64v b = V at *
            generalize b.getD 0 0 = x0 at *
            generalize b.getD 1 0 = x1 at *
            generalize b.getD 2 0 = x2 at *
            have hb0 : Below wr.heap.size wr (wr.alloc (.cells [Value.int .u8 0, Value.int .u8 0, Value.int .u8 0].toArray 74)) := below_alloc (Below.refl _ _) _
            have HS := Aside0.mk (b64_src (Kd.C_below HR.out (below_alloc HB.out (.cells [Value.int .u8 0, Value.int .u8 0, Value.int .u8 0].toArray 74))) wr.heap.size)
            have H5 := Aside0.mk (show (Try.prog.info? 5).map (·.size) = some 1 by have h5 := congrArg (Option.map fun z => z.2.1) info5; simpa [Option.map_map, Function.comp_def] using h5)
            have HB0 := Aside0.mk hb0
            clear hb0
            go_wp2_with (first | ((with_reducible refine gate_builtin (b := .copy) (xs := #[.tmp 16, .tmp 17]) rfl ?_); refine wpList_copy_splice rfl (.tmp 16) (.tmp 17) 22 22 rfl 5 Try.underlying22 H5.out (some ⟨wr.heap.size, 0, none⟩) A 3 3 b.length c rfl rfl wr.heap.size 0 [Value.int .u8 0, Value.int .u8 0, Value.int .u8 0] 74 (heap_alloc_new wr _) ((b.take 3).map (Value.int .u8)) HN.out HS.out (by rw [HN.out, Nat.zero_add]; exact Nat.min_le_right _ _) (b64_one b) wr.heap.size wr HB0.out (Nat.le_refl _) ?_; intro w2 hg2 hb2; have hh := hg2.out; rw [HSP.out] at hh; have q0 := cell_of_row w2 wr.heap.size 0 _ _ _ hh; have q1 := cell_of_row w2 wr.heap.size 1 _ _ _ hh; have q2 := cell_of_row w2 wr.heap.size 2 _ _ _ hh; have HO2 := Aside0.mk (Kd.R_below HO.out hb2); have HB2 := Aside0.mk (below_then HB.out HB.out.size hb2); clear hh hg2 hb2 HO HB HS HB0; rw [HN.out]))
            clear q0 q1 q2 hx hy hz hor HSP H5
            obtain ⟨n, hn⟩ : ∃ n, b.length.min 3 = n := ⟨_, rfl⟩
            rw [hn]
            have hn3 : n ≤ 3 := by rw [← hn]; exact Nat.min_le_right _ _
            have HNN := Aside0.mk hn
            have HF2 := HF.out
            rw [show min b.length 3 = n from hn] at HF2
            clear HF HN hn
            have HF := Aside0.mk HF2
            clear HF2
            go_loopw [32, 3] (fun v32 v3 wq => ∃ (j : Nat), v32 = .int .i64 j ∧ j ≤ 4 ∧ Aside0 (Kd.R (Kd.int .u8) 5 wq w.heap.size (fun _ => True) v3 (out ++ (b64four b).take j)) ∧ Aside0 (Below w.heap.size w wq)) (fun v32 _ _ => 4 - (intOf v32).toNat)
            case atStart => exact ⟨0, rfl, by omega, ⟨by simpa using HO2.out⟩, HB2⟩
            case round =>
              clear HO2 HB2
              obtain ⟨j, rfl, hj, HO, HB⟩ := hrel
              by_cases hj4 : j < 4
              · have hcs : j = 0 ∨ j = 1 ∨ j = 2 ∨ j = 3 := by omega
                rcases hcs with rfl | rfl | rfl | rfl
                · have hand := b64_and (V / 262144) (by omega) (by omega)
                  have h0 : 0 ≤ V / 262144 % 64 := by omega
                  have h1 : V / 262144 % 64 < 64 := by omega
                  have hbt := bt_at b64base (V / 262144 % 64)
                  unfold b64base at hbt
                  by_cases hnj : n < 0
                  · omega
                  · go_wp2_with (first | ((with_reducible refine gate_builtin (b := .append) (xs := #[.tmp 41, .tmp 49]) rfl ?_); at_builtin; refine Kd.R_append (Kd.int .u8) (w0 := w) w.heap.size rfl (.tmp 41) (.tmp 49) 22 5 (.int .u8 0) 1 rfl Try.underlying22 info5 rfl (by decide) (by omega) _ _ (bt b64base (V / 262144 % 64)) [.int .u8 (bt b64base (V / 262144 % 64))] (fun _ => True) (fun _ => False) rfl rfl rfl (fun _ hk => hk.elim) (fun _ _ => trivial) HO.out HB.out (below_size HB.out) ?aL ?_; (case aL => simp; omega); intro v1 w3 ho hb hg hat; have n0_ := Aside0.mk hb; have n1_ := Aside0.mk ho; clear ho hb hg hat HB HO))
                    exact ⟨⟨1, by go_num, by omega, ⟨by have := n1_.out; rw [HF.out] at this ⊢; simpa [b64dig, hnj] using this⟩, n0_⟩, by simp [intOf]⟩
                · have hand := b64_and (V / 4096) (by omega) (by omega)
                  have h0 : 0 ≤ V / 4096 % 64 := by omega
                  have h1 : V / 4096 % 64 < 64 := by omega
                  have hbt := bt_at b64base (V / 4096 % 64)
                  unfold b64base at hbt
                  by_cases hnj : n < 1
                  · go_wp2_with (first | ((with_reducible refine gate_builtin (b := .append) (xs := #[.tmp 38, .tmp 39]) rfl ?_); at_builtin; refine Kd.R_append (Kd.int .u8) (w0 := w) w.heap.size rfl (.tmp 38) (.tmp 39) 22 5 (.int .u8 0) 1 rfl Try.underlying22 info5 rfl (by decide) (by omega) _ _ (61) [.int .u8 (61)] (fun _ => True) (fun _ => False) rfl rfl rfl (fun _ hk => hk.elim) (fun _ _ => trivial) HO.out HB.out (below_size HB.out) ?aL ?_; (case aL => simp; omega); intro v1 w3 ho hb hg hat; have n0_ := Aside0.mk hb; have n1_ := Aside0.mk ho; clear ho hb hg hat HB HO))
                    exact ⟨⟨2, by go_num, by omega, ⟨by have := n1_.out; rw [HF.out] at this ⊢; simpa [b64dig, hnj] using this⟩, n0_⟩, by simp [intOf]⟩
                  · go_wp2_with (first | ((with_reducible refine gate_builtin (b := .append) (xs := #[.tmp 41, .tmp 49]) rfl ?_); at_builtin; refine Kd.R_append (Kd.int .u8) (w0 := w) w.heap.size rfl (.tmp 41) (.tmp 49) 22 5 (.int .u8 0) 1 rfl Try.underlying22 info5 rfl (by decide) (by omega) _ _ (bt b64base (V / 4096 % 64)) [.int .u8 (bt b64base (V / 4096 % 64))] (fun _ => True) (fun _ => False) rfl rfl rfl (fun _ hk => hk.elim) (fun _ _ => trivial) HO.out HB.out (below_size HB.out) ?aL ?_; (case aL => simp; omega); intro v1 w3 ho hb hg hat; have n0_ := Aside0.mk hb; have n1_ := Aside0.mk ho; clear ho hb hg hat HB HO))
                    exact ⟨⟨2, by go_num, by omega, ⟨by have := n1_.out; rw [HF.out] at this ⊢; simpa [b64dig, hnj] using this⟩, n0_⟩, by simp [intOf]⟩
                · have hand := b64_and (V / 64) (by omega) (by omega)
                  have h0 : 0 ≤ V / 64 % 64 := by omega
                  have h1 : V / 64 % 64 < 64 := by omega
                  have hbt := bt_at b64base (V / 64 % 64)
                  unfold b64base at hbt
                  by_cases hnj : n < 2
                  · go_wp2_with (first | ((with_reducible refine gate_builtin (b := .append) (xs := #[.tmp 38, .tmp 39]) rfl ?_); at_builtin; refine Kd.R_append (Kd.int .u8) (w0 := w) w.heap.size rfl (.tmp 38) (.tmp 39) 22 5 (.int .u8 0) 1 rfl Try.underlying22 info5 rfl (by decide) (by omega) _ _ (61) [.int .u8 (61)] (fun _ => True) (fun _ => False) rfl rfl rfl (fun _ hk => hk.elim) (fun _ _ => trivial) HO.out HB.out (below_size HB.out) ?aL ?_; (case aL => simp; omega); intro v1 w3 ho hb hg hat; have n0_ := Aside0.mk hb; have n1_ := Aside0.mk ho; clear ho hb hg hat HB HO))
                    exact ⟨⟨3, by go_num, by omega, ⟨by have := n1_.out; rw [HF.out] at this ⊢; simpa [b64dig, hnj] using this⟩, n0_⟩, by simp [intOf]⟩
                  · go_wp2_with (first | ((with_reducible refine gate_builtin (b := .append) (xs := #[.tmp 41, .tmp 49]) rfl ?_); at_builtin; refine Kd.R_append (Kd.int .u8) (w0 := w) w.heap.size rfl (.tmp 41) (.tmp 49) 22 5 (.int .u8 0) 1 rfl Try.underlying22 info5 rfl (by decide) (by omega) _ _ (bt b64base (V / 64 % 64)) [.int .u8 (bt b64base (V / 64 % 64))] (fun _ => True) (fun _ => False) rfl rfl rfl (fun _ hk => hk.elim) (fun _ _ => trivial) HO.out HB.out (below_size HB.out) ?aL ?_; (case aL => simp; omega); intro v1 w3 ho hb hg hat; have n0_ := Aside0.mk hb; have n1_ := Aside0.mk ho; clear ho hb hg hat HB HO))
                    exact ⟨⟨3, by go_num, by omega, ⟨by have := n1_.out; rw [HF.out] at this ⊢; simpa [b64dig, hnj] using this⟩, n0_⟩, by simp [intOf]⟩
                · have hand := b64_and (V) (by omega) (by omega)
                  have h0 : 0 ≤ V % 64 := by omega
                  have h1 : V % 64 < 64 := by omega
                  have hbt := bt_at b64base (V % 64)
                  unfold b64base at hbt
                  by_cases hnj : n < 3
                  · go_wp2_with (first | ((with_reducible refine gate_builtin (b := .append) (xs := #[.tmp 38, .tmp 39]) rfl ?_); at_builtin; refine Kd.R_append (Kd.int .u8) (w0 := w) w.heap.size rfl (.tmp 38) (.tmp 39) 22 5 (.int .u8 0) 1 rfl Try.underlying22 info5 rfl (by decide) (by omega) _ _ (61) [.int .u8 (61)] (fun _ => True) (fun _ => False) rfl rfl rfl (fun _ hk => hk.elim) (fun _ _ => trivial) HO.out HB.out (below_size HB.out) ?aL ?_; (case aL => simp; omega); intro v1 w3 ho hb hg hat; have n0_ := Aside0.mk hb; have n1_ := Aside0.mk ho; clear ho hb hg hat HB HO))
                    exact ⟨⟨4, by go_num, by omega, ⟨by have := n1_.out; rw [HF.out] at this ⊢; simpa [b64dig, hnj] using this⟩, n0_⟩, by simp [intOf]⟩
                  · go_wp2_with (first | ((with_reducible refine gate_builtin (b := .append) (xs := #[.tmp 41, .tmp 49]) rfl ?_); at_builtin; refine Kd.R_append (Kd.int .u8) (w0 := w) w.heap.size rfl (.tmp 41) (.tmp 49) 22 5 (.int .u8 0) 1 rfl Try.underlying22 info5 rfl (by decide) (by omega) _ _ (bt b64base (V % 64)) [.int .u8 (bt b64base (V % 64))] (fun _ => True) (fun _ => False) rfl rfl rfl (fun _ hk => hk.elim) (fun _ _ => trivial) HO.out HB.out (below_size HB.out) ?aL ?_; (case aL => simp; omega); intro v1 w3 ho hb hg hat; have n0_ := Aside0.mk hb; have n1_ := Aside0.mk ho; clear ho hb hg hat HB HO))
                    exact ⟨⟨4, by go_num, by omega, ⟨by have := n1_.out; rw [HF.out] at this ⊢; simpa [b64dig, hnj] using this⟩, n0_⟩, by simp [intOf]⟩
              · obtain rfl : j = 4 := by omega
                have ho := HO.out
                rw [List.take_of_length_le (by rw [HF.out]; simp)] at ho
                have HO4 := Aside0.mk ho
                clear ho HO
                obtain ⟨i5, hi5, he5⟩ := Option.map_eq_some_iff.1 info5
                simp only [Prod.mk.injEq] at he5
                have hC := Kd.C_drop (c := c) HR.out (m := min 3 b.length) (Nat.min_le_right _ _) HC.out
                replace hC : Kd.C (Kd.int .u8) w (if c = min 3 b.length then A else A.map (·.add (min 3 b.length * 1))) (b.drop (min 3 b.length)).length (b.drop (min 3 b.length)) := hC
                by_cases h3 : (b.length : Int) < 3
                · have hcut := cut_from (P := Try.prog) 22 5 .i64 Try.underlying22 hi5 1 he5.2.1 A b.length c ((b.length : Int)) (by omega) (by omega)
                  rw [show ((b.length : Int) : Int).toNat = min 3 b.length by omega, ← List.length_drop] at hcut
                  generalize (if c = min 3 b.length then A else A.map (·.add (min 3 b.length * 1))) = A2 at hcut hC
                  have HC2 := Aside0.mk hC
                  clear hC hi5 he5
                  go_wp2
                  go_roundg k1
                  case measure => have := HK.out; omega
                  case rel => exact ⟨b.drop (min 3 b.length), out ++ b64four b, A2, c - min 3 b.length, (by first | rfl | (simp; done)), H, ⟨by have := HK.out; omega⟩, ⟨by have := HC.out; rw [List.length_drop]; omega⟩, HC2, HO4, HB⟩
                · have hcut := cut_from (P := Try.prog) 22 5 .i64 Try.underlying22 hi5 1 he5.2.1 A b.length c (3) (by omega) (by omega)
                  rw [show (3 : Int).toNat = min 3 b.length by omega, ← List.length_drop] at hcut
                  generalize (if c = min 3 b.length then A else A.map (·.add (min 3 b.length * 1))) = A2 at hcut hC
                  have HC2 := Aside0.mk hC
                  clear hC hi5 he5
                  go_wp2
                  go_roundg k1
                  case measure => have := HK.out; omega
                  case rel => exact ⟨b.drop (min 3 b.length), out ++ b64four b, A2, c - min 3 b.length, (by first | rfl | (simp; done)), H, ⟨by have := HK.out; omega⟩, ⟨by have := HC.out; rw [List.length_drop]; omega⟩, HC2, HO4, HB⟩
          · rw [if_neg hlim] at h
            cases h
        · rw [if_neg hby] at h
          cases h
      · rw [if_neg hlt] at h
        obtain rfl := Option.some.inj h
        clear h
        have hlt2 : ¬ (0 : Int) < (b.length : Int) := by omega
        have hcv := own_string (P := Try.prog) Try.underlying22 Try.underlying5 Try.underlying9 (Kd.own_of_R HO.out)
        go_wp2
        go_ret
        exact ⟨by first | rfl | (simp; done) | (simp [*]; done), HB.out⟩

end Go.Proofs.Ytknmcpccljmfdaa.X
