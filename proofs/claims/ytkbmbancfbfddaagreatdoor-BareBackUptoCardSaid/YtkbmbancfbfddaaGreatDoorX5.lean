-- Written by wip/xprint.py for this seat
import Derived.Test.YtkbmbancfbfddaaGreatDoorX0
import Derived.Test.YtkbmbancfbfddaaGreatDoorX2
import Derived.Test.YtkbmbancfbfddaaGreatDoorX3
import Derived.Test.YtkbmbancfbfddaaGreatDoorX4
namespace Go.Proofs.YtkbmbancfbfddaaGreatDoor.X
open Go.RowKit Go.Proofs.YtkbmbancfbfddaaGreatDoorW.PrintWords Go.Proofs.YtkbmbancfbfddaaGreatDoorW.PrintLast Go.Proofs.YtkbmbancfbfddaaGreatDoorW.PrintMore
attribute [local go_sem] max2_int min2_int max_two min_two max_three min_three max_four min_four   -- for this text's walks alone
set_option linter.unusedVariables false
set_option linter.unusedSimpArgs false

-- USES pergola/bare.Check
-- USES pergola/bare.decimal
-- USES strconv.FormatInt
-- USES pergola/octets.Base64
-- USES pergola/octets.Hex
theorem octets_Hex_all : (List.range 256).all (fun n => decide ((octets_Hex.f 3 [(n : Int)]).map (·.data.toList) = some (strOfNums [hxd ((n : Int) / 16), hxd ((n : Int) % 16)]).data.toList)) = true := by kernel_rfl
theorem octets_Hex_one (c : Int) (h0 : 0 ≤ c) (h1 : c ≤ 255) : octets_Hex.f 3 [c] = some (strOfNums [hxd (c / 16), hxd (c % 16)]) := by
  obtain ⟨n, rfl⟩ := Int.eq_ofNat_of_zero_le h0
  have h := List.all_eq_true.1 octets_Hex_all n (List.mem_range.2 (by omega))
  replace h := of_decide_eq_true h
  obtain ⟨r, hr, he⟩ := Option.map_eq_some_iff.1 h
  show octets_Hex.f 3 [(n : Int)] = _
  rw [hr]
  exact congrArg some (ByteArray.ext (Array.toList_inj.1 he))
def bare_Print.f (k : Nat) (a0_0 : Int) (a0_1 : Int) (a0_2 : ByteArray) : Option (ByteArray × Int) :=
  (bare_Check.f k a0_0 a0_1 a0_2).bind fun e => if e = 0 then
    (if a0_0 = 1 then (strconv_FormatInt.f a0_1 10).bind fun t => some (t, 0)
     else if a0_0 = 2 then (bare_decimal.f k a0_1).bind fun t => some (t, 0)
     else if a0_0 = 3 then (if a0_2.size ≤ 1000000000000 then some (inQuotes a0_2, 0) else none)
     else if a0_0 = 5 then (octets_Base64.f k (bytesOf a0_2)).bind fun t => (if a0_2.size ≤ 1000000000000 ∧ t.size ≤ 4000000000000 then some (((⟨#[58]⟩ : ByteArray) ++ t) ++ ⟨#[58]⟩, 0) else none)
     else if a0_0 = 8 then (if a0_2.size ≤ 1000000000000 then some (((⟨#[37, 34]⟩ : ByteArray) ++ strOfNums (pct (bytesOf a0_2))) ++ ⟨#[34]⟩, 0) else none)
     else if a0_0 = 6 then ((strconv_FormatInt.f a0_1 10).bind fun t => if (⟨#[63]⟩ : ByteArray).size + t.size ≤ 9223372036854775807 then some ((⟨#[63]⟩ : ByteArray) ++ t, 0) else none)
     else if a0_0 = 7 then ((strconv_FormatInt.f a0_1 10).bind fun t => if (⟨#[64]⟩ : ByteArray).size + t.size ≤ 9223372036854775807 then some ((⟨#[64]⟩ : ByteArray) ++ t, 0) else none)
     else some (a0_2, 0)) else some (⟨#[]⟩, e)
theorem bare_Print.mono : ∀ a0_0 a0_1 a0_2 k, LeO (bare_Print.f k a0_0 a0_1 a0_2) (bare_Print.f (k + 1) a0_0 a0_1 a0_2) := by
  intro a0_0 a0_1 a0_2 k
  unfold bare_Print.f
  refine LeO.bind (bare_Check.mono _ _ _ _) (fun _ => ?_)
  refine LeO.ite ?_ (LeO.refl _)
  refine LeO.ite (LeO.refl _) ?_
  refine LeO.ite (LeO.bind (bare_decimal.mono _ _) (fun _ => LeO.refl _)) ?_
  refine LeO.ite (LeO.refl _) ?_
  exact LeO.ite (LeO.bind (octets_Base64.mono _ _) (fun _ => LeO.refl _)) (LeO.refl _)
set_option maxHeartbeats 4000000 in
set_option maxRecDepth 100000 in
theorem bare_Print.calls (k : Nat) (a0_0 : Int) (a0_1 : Int) (a0_2 : ByteArray) (r1 : ByteArray) (r2 : Int) (w : World) (hT_ : PowIs w) (hU_ : Utf8Is w) (h : bare_Print.f k a0_0 a0_1 a0_2 = some (r1, r2)) :
    Calls Tryz.prog 10 #[.agg #[.int .i64 a0_0, .int .i64 a0_1, .string a0_2]] w fun e w' => e = .returned (.tuple #[.string r1, .int .i64 r2]) ∧ Below w.heap.size w w' := by
  have HT0_ := Aside0.mk hT_
  have HU0_ := Aside0.mk hU_
  clear hT_ hU_
  unfold bare_Print.f at h
  replace h := Option.bind_eq_some_iff.mp h
  obtain ⟨e, he, h⟩ := h
  have HC := Aside0.mk (fun w (hw : Utf8Is w) => bare_Check.calls k a0_0 a0_1 a0_2 e w hw he)
  clear he
  by_cases h0 : e = 0
  · rw [if_pos h0] at h
    subst h0
    by_cases h1 : a0_0 = 1
    · rw [if_pos h1] at h
      subst h1
      replace h := Option.bind_eq_some_iff.mp h
      obtain ⟨t, ht, h⟩ := h
      obtain ⟨rfl, rfl⟩ : t = r1 ∧ 0 = r2 := by simpa using h
      have HF := Aside0.mk ht
      clear h ht
      go_enter Tryz.func10, Tryz.ntmps10
      go_upto_region 1 with (fail)
      obtain ⟨hx1, hb1⟩ := alloc1 w (.cells #[.int .i64 1, .int .i64 a0_1, .string a0_2] 24)
      have HB1 := Aside0.mk hb1
      have HT1 := Aside0.mk (HT0_.out.below hb1)
      have HU1 := Aside0.mk (HU0_.out.below hb1)
      have c0 : (w.alloc (Obj.cells #[.int .i64 1, .int .i64 a0_1, .string a0_2] 24)).cell? ⟨w.heap.size, 0, none⟩ = some (.int .i64 1) := (blk_cell hx1 0).trans rfl
      have c1 : (w.alloc (Obj.cells #[.int .i64 1, .int .i64 a0_1, .string a0_2] 24)).cell? ⟨w.heap.size, 1, none⟩ = some (.int .i64 a0_1) := (blk_cell hx1 1).trans rfl
      have c2 : (w.alloc (Obj.cells #[.int .i64 1, .int .i64 a0_1, .string a0_2] 24)).cell? ⟨w.heap.size, 2, none⟩ = some (.string a0_2) := (blk_cell hx1 2).trans rfl
      clear hx1 hb1
      generalize w.alloc (Obj.cells #[.int .i64 1, .int .i64 a0_1, .string a0_2] 24) = w1 at *
      go_wp2_with (first | (go_at_call 13; refine (HC.out _ HU1.out).mono ?_; rintro e w2 ⟨rfl, hb2⟩; have HB2 := Aside0.mk (below_then HB1.out HB1.out.size hb2); have HT2 := Aside0.mk (HT1.out.below hb2); have d0 := cell_more hb2 c0; have d1 := cell_more hb2 c1; have d2 := cell_more hb2 c2; clear hb2 c0 c1 c2 HB1 HT1) | (go_at_call 25; refine (strconv_FormatInt.calls _ _ _ _ HT2.out HF.out).mono ?_; rintro e w3 ⟨rfl, hb3⟩; have HB3 := Aside0.mk (below_then HB2.out HB2.out.size hb3); clear hb3))
      go_ret2
      exact ⟨by first | rfl | (simp; done) | (simp [*]; done), HB3.out⟩
    rw [if_neg h1] at h
    by_cases h2 : a0_0 = 2
    · rw [if_pos h2] at h
      subst h2
      replace h := Option.bind_eq_some_iff.mp h
      obtain ⟨t, ht, h⟩ := h
      obtain ⟨rfl, rfl⟩ : t = r1 ∧ 0 = r2 := by simpa using h
      have HF := Aside0.mk ht
      clear h ht
      go_enter Tryz.func10, Tryz.ntmps10
      go_upto_region 1 with (fail)
      obtain ⟨hx1, hb1⟩ := alloc1 w (.cells #[.int .i64 2, .int .i64 a0_1, .string a0_2] 24)
      have HB1 := Aside0.mk hb1
      have HT1 := Aside0.mk (HT0_.out.below hb1)
      have HU1 := Aside0.mk (HU0_.out.below hb1)
      have c0 : (w.alloc (Obj.cells #[.int .i64 2, .int .i64 a0_1, .string a0_2] 24)).cell? ⟨w.heap.size, 0, none⟩ = some (.int .i64 2) := (blk_cell hx1 0).trans rfl
      have c1 : (w.alloc (Obj.cells #[.int .i64 2, .int .i64 a0_1, .string a0_2] 24)).cell? ⟨w.heap.size, 1, none⟩ = some (.int .i64 a0_1) := (blk_cell hx1 1).trans rfl
      have c2 : (w.alloc (Obj.cells #[.int .i64 2, .int .i64 a0_1, .string a0_2] 24)).cell? ⟨w.heap.size, 2, none⟩ = some (.string a0_2) := (blk_cell hx1 2).trans rfl
      clear hx1 hb1
      generalize w.alloc (Obj.cells #[.int .i64 2, .int .i64 a0_1, .string a0_2] 24) = w1 at *
      go_wp2_with (first | (go_at_call 13; refine (HC.out _ HU1.out).mono ?_; rintro e w2 ⟨rfl, hb2⟩; have HB2 := Aside0.mk (below_then HB1.out HB1.out.size hb2); have HT2 := Aside0.mk (HT1.out.below hb2); have d0 := cell_more hb2 c0; have d1 := cell_more hb2 c1; have d2 := cell_more hb2 c2; clear hb2 c0 c1 c2 HB1 HT1) | (go_at_call 26; refine (bare_decimal.calls k _ _ _ HT2.out HF.out).mono ?_; rintro e w3 ⟨rfl, hb3⟩; have HB3 := Aside0.mk (below_then HB2.out HB2.out.size hb3); clear hb3))
      go_ret2
      exact ⟨by first | rfl | (simp; done) | (simp [*]; done), HB3.out⟩
    rw [if_neg h2] at h
    by_cases h3 : a0_0 = 3
    · rw [if_pos h3] at h
      subst h3
      by_cases hs : a0_2.size ≤ 1000000000000
      · rw [if_pos hs] at h
        obtain ⟨rfl, rfl⟩ : inQuotes a0_2 = r1 ∧ 0 = r2 := by simpa using h
        exact bpr3 a0_1 a0_2 w hs (fun w' hb => HC.out w' (HU0_.out.below hb))
      · rw [if_neg hs] at h
        cases h
    rw [if_neg h3] at h
    by_cases h5 : a0_0 = 5
    · rw [if_pos h5] at h
      subst h5
      replace h := Option.bind_eq_some_iff.mp h
      obtain ⟨t, ht, h⟩ := h
      by_cases hs : a0_2.size ≤ 1000000000000 ∧ t.size ≤ 4000000000000
      · rw [if_pos hs] at h
        obtain ⟨rfl, rfl⟩ : ((⟨#[58]⟩ : ByteArray) ++ t) ++ ⟨#[58]⟩ = r1 ∧ 0 = r2 := by simpa using h
        exact bpr5 a0_1 a0_2 t w hs.1 hs.2 (fun A c w hr hc => octets_Base64.calls k A c (bytesOf a0_2) t w hr hc ht) (fun w' hb => HC.out w' (HU0_.out.below hb))
      · rw [if_neg hs] at h
        cases h
    rw [if_neg h5] at h
    by_cases h8 : a0_0 = 8
    · rw [if_pos h8] at h
      subst h8
      by_cases hs : a0_2.size ≤ 1000000000000
      · rw [if_pos hs] at h
        obtain ⟨rfl, rfl⟩ : ((⟨#[37, 34]⟩ : ByteArray) ++ strOfNums (pct (bytesOf a0_2))) ++ ⟨#[34]⟩ = r1 ∧ 0 = r2 := by simpa using h
        exact bpr8 a0_1 a0_2 w hs (fun c A cc w h0 h1 hr hc => octets_Hex.calls 3 A cc [c] _ w hr hc (octets_Hex_one c h0 h1)) (fun w' hb => HC.out w' (HU0_.out.below hb))
      · rw [if_neg hs] at h
        cases h
    rw [if_neg h8] at h
    by_cases h6 : a0_0 = 6
    · rw [if_pos h6] at h
      subst h6
      replace h := Option.bind_eq_some_iff.mp h
      obtain ⟨t, ht, h⟩ := h
      by_cases hz : (⟨#[63]⟩ : ByteArray).size + t.size ≤ 9223372036854775807
      · rw [if_pos hz] at h
        obtain ⟨rfl, rfl⟩ : (⟨#[63]⟩ : ByteArray) ++ t = r1 ∧ 0 = r2 := by simpa using h
        have HF := Aside0.mk ht
        have hz2 : (9223372036854775807 < (⟨#[63]⟩ : ByteArray).size + t.size) = False := eq_false (Nat.not_lt.2 hz)
        clear h ht
        go_enter Tryz.func10, Tryz.ntmps10
        go_upto_region 1 with (fail)
        obtain ⟨hx1, hb1⟩ := alloc1 w (.cells #[.int .i64 6, .int .i64 a0_1, .string a0_2] 24)
        have HB1 := Aside0.mk hb1
        have HT1 := Aside0.mk (HT0_.out.below hb1)
        have HU1 := Aside0.mk (HU0_.out.below hb1)
        have c0 : (w.alloc (Obj.cells #[.int .i64 6, .int .i64 a0_1, .string a0_2] 24)).cell? ⟨w.heap.size, 0, none⟩ = some (.int .i64 6) := (blk_cell hx1 0).trans rfl
        have c1 : (w.alloc (Obj.cells #[.int .i64 6, .int .i64 a0_1, .string a0_2] 24)).cell? ⟨w.heap.size, 1, none⟩ = some (.int .i64 a0_1) := (blk_cell hx1 1).trans rfl
        have c2 : (w.alloc (Obj.cells #[.int .i64 6, .int .i64 a0_1, .string a0_2] 24)).cell? ⟨w.heap.size, 2, none⟩ = some (.string a0_2) := (blk_cell hx1 2).trans rfl
        clear hx1 hb1
        generalize w.alloc (Obj.cells #[.int .i64 6, .int .i64 a0_1, .string a0_2] 24) = w1 at *
        go_wp2_with (first | (go_at_call 13; refine (HC.out _ HU1.out).mono ?_; rintro e w2 ⟨rfl, hb2⟩; have HB2 := Aside0.mk (below_then HB1.out HB1.out.size hb2); have HT2 := Aside0.mk (HT1.out.below hb2); have d0 := cell_more hb2 c0; have d1 := cell_more hb2 c1; have d2 := cell_more hb2 c2; clear hb2 c0 c1 c2 HB1 HT1) | (go_at_call 25; refine (strconv_FormatInt.calls _ _ _ _ HT2.out HF.out).mono ?_; rintro e w3 ⟨rfl, hb3⟩; have HB3 := Aside0.mk (below_then HB2.out HB2.out.size hb3); clear hb3))
        go_ret2
        exact ⟨by first | rfl | (simp; done) | (simp [*]; done), HB3.out⟩
      · rw [if_neg hz] at h
        cases h
    rw [if_neg h6] at h
    by_cases h7 : a0_0 = 7
    · rw [if_pos h7] at h
      subst h7
      replace h := Option.bind_eq_some_iff.mp h
      obtain ⟨t, ht, h⟩ := h
      by_cases hz : (⟨#[64]⟩ : ByteArray).size + t.size ≤ 9223372036854775807
      · rw [if_pos hz] at h
        obtain ⟨rfl, rfl⟩ : (⟨#[64]⟩ : ByteArray) ++ t = r1 ∧ 0 = r2 := by simpa using h
        have HF := Aside0.mk ht
        have hz2 : (9223372036854775807 < (⟨#[64]⟩ : ByteArray).size + t.size) = False := eq_false (Nat.not_lt.2 hz)
        clear h ht
        go_enter Tryz.func10, Tryz.ntmps10
        go_upto_region 1 with (fail)
        obtain ⟨hx1, hb1⟩ := alloc1 w (.cells #[.int .i64 7, .int .i64 a0_1, .string a0_2] 24)
        have HB1 := Aside0.mk hb1
        have HT1 := Aside0.mk (HT0_.out.below hb1)
        have HU1 := Aside0.mk (HU0_.out.below hb1)
        have c0 : (w.alloc (Obj.cells #[.int .i64 7, .int .i64 a0_1, .string a0_2] 24)).cell? ⟨w.heap.size, 0, none⟩ = some (.int .i64 7) := (blk_cell hx1 0).trans rfl
        have c1 : (w.alloc (Obj.cells #[.int .i64 7, .int .i64 a0_1, .string a0_2] 24)).cell? ⟨w.heap.size, 1, none⟩ = some (.int .i64 a0_1) := (blk_cell hx1 1).trans rfl
        have c2 : (w.alloc (Obj.cells #[.int .i64 7, .int .i64 a0_1, .string a0_2] 24)).cell? ⟨w.heap.size, 2, none⟩ = some (.string a0_2) := (blk_cell hx1 2).trans rfl
        clear hx1 hb1
        generalize w.alloc (Obj.cells #[.int .i64 7, .int .i64 a0_1, .string a0_2] 24) = w1 at *
        go_wp2_with (first | (go_at_call 13; refine (HC.out _ HU1.out).mono ?_; rintro e w2 ⟨rfl, hb2⟩; have HB2 := Aside0.mk (below_then HB1.out HB1.out.size hb2); have HT2 := Aside0.mk (HT1.out.below hb2); have d0 := cell_more hb2 c0; have d1 := cell_more hb2 c1; have d2 := cell_more hb2 c2; clear hb2 c0 c1 c2 HB1 HT1) | (go_at_call 25; refine (strconv_FormatInt.calls _ _ _ _ HT2.out HF.out).mono ?_; rintro e w3 ⟨rfl, hb3⟩; have HB3 := Aside0.mk (below_then HB2.out HB2.out.size hb3); clear hb3))
        go_ret2
        exact ⟨by first | rfl | (simp; done) | (simp [*]; done), HB3.out⟩
      · rw [if_neg hz] at h
        cases h
    rw [if_neg h7] at h
    obtain ⟨rfl, rfl⟩ : a0_2 = r1 ∧ 0 = r2 := by simpa using h
    have b1 : (a0_0 == 1) = false := by simp [h1]
    have b2 : (a0_0 == 2) = false := by simp [h2]
    have b3 : (a0_0 == 3) = false := by simp; omega
    have b5 : (a0_0 == 5) = false := by simp; omega
    have b6 : (a0_0 == 6) = false := by simp [h6]
    have b7 : (a0_0 == 7) = false := by simp [h7]
    have b8 : (a0_0 == 8) = false := by simp; omega
    clear h h1 h2 h3 h5 h6 h7 h8
    go_enter Tryz.func10, Tryz.ntmps10
    go_upto_region 1 with (fail)
    obtain ⟨hx1, hb1⟩ := alloc1 w (.cells #[.int .i64 a0_0, .int .i64 a0_1, .string a0_2] 24)
    have HB1 := Aside0.mk hb1
    have HT1 := Aside0.mk (HT0_.out.below hb1)
    have HU1 := Aside0.mk (HU0_.out.below hb1)
    have c0 : (w.alloc (Obj.cells #[.int .i64 a0_0, .int .i64 a0_1, .string a0_2] 24)).cell? ⟨w.heap.size, 0, none⟩ = some (.int .i64 a0_0) := (blk_cell hx1 0).trans rfl
    have c1 : (w.alloc (Obj.cells #[.int .i64 a0_0, .int .i64 a0_1, .string a0_2] 24)).cell? ⟨w.heap.size, 1, none⟩ = some (.int .i64 a0_1) := (blk_cell hx1 1).trans rfl
    have c2 : (w.alloc (Obj.cells #[.int .i64 a0_0, .int .i64 a0_1, .string a0_2] 24)).cell? ⟨w.heap.size, 2, none⟩ = some (.string a0_2) := (blk_cell hx1 2).trans rfl
    clear hx1 hb1
    generalize w.alloc (Obj.cells #[.int .i64 a0_0, .int .i64 a0_1, .string a0_2] 24) = w1 at *
    go_wp2_with (first | (go_at_call 13; refine (HC.out _ HU1.out).mono ?_; rintro e w2 ⟨rfl, hb2⟩; have HB2 := Aside0.mk (below_then HB1.out HB1.out.size hb2); have HT2 := Aside0.mk (HT1.out.below hb2); have d0 := cell_more hb2 c0; have d1 := cell_more hb2 c1; have d2 := cell_more hb2 c2; clear hb2 c0 c1 c2 HB1 HT1))
    go_ret2
    exact ⟨by first | rfl | (simp; done) | (simp [*]; done), HB2.out⟩
  · rw [if_neg h0] at h
    obtain ⟨rfl, rfl⟩ : (⟨#[]⟩ : ByteArray) = r1 ∧ e = r2 := by simpa using h
    have h0b : (e != 0) = true := by simp [h0]
    clear h h0
    go_enter Tryz.func10, Tryz.ntmps10
    go_upto_region 1 with (fail)
    obtain ⟨hx1, hb1⟩ := alloc1 w (.cells #[.int .i64 a0_0, .int .i64 a0_1, .string a0_2] 24)
    have HB1 := Aside0.mk hb1
    have HT1 := Aside0.mk (HT0_.out.below hb1)
    have HU1 := Aside0.mk (HU0_.out.below hb1)
    have c0 : (w.alloc (Obj.cells #[.int .i64 a0_0, .int .i64 a0_1, .string a0_2] 24)).cell? ⟨w.heap.size, 0, none⟩ = some (.int .i64 a0_0) := (blk_cell hx1 0).trans rfl
    have c1 : (w.alloc (Obj.cells #[.int .i64 a0_0, .int .i64 a0_1, .string a0_2] 24)).cell? ⟨w.heap.size, 1, none⟩ = some (.int .i64 a0_1) := (blk_cell hx1 1).trans rfl
    have c2 : (w.alloc (Obj.cells #[.int .i64 a0_0, .int .i64 a0_1, .string a0_2] 24)).cell? ⟨w.heap.size, 2, none⟩ = some (.string a0_2) := (blk_cell hx1 2).trans rfl
    clear hx1 hb1
    generalize w.alloc (Obj.cells #[.int .i64 a0_0, .int .i64 a0_1, .string a0_2] 24) = w1 at *
    go_wp2_with (first | (go_at_call 13; refine (HC.out _ HU1.out).mono ?_; rintro e w2 ⟨rfl, hb2⟩; have HB2 := Aside0.mk (below_then HB1.out HB1.out.size hb2); have HT2 := Aside0.mk (HT1.out.below hb2); have d0 := cell_more hb2 c0; have d1 := cell_more hb2 c1; have d2 := cell_more hb2 c2; clear hb2 c0 c1 c2 HB1 HT1))
    go_ret2
    exact ⟨by first | rfl | (simp; done) | (simp [*]; done), HB2.out⟩

def pergolalaw09_num.f (a0 : Int) : Option (Int) := some a0
set_option maxHeartbeats 8000000 in
set_option maxRecDepth 100000 in
theorem pergolalaw09_num.calls (a0 : Int) (r : Int) (w : World) (h : pergolalaw09_num.f a0 = some r) :
    Calls Tryz.prog 11 #[.int .i64 a0] w fun e w' => e = .returned (.int .i64 r) ∧ Drawn0 w w' := by
  have H : (some a0) = some r := h
  clear h
  obtain rfl := Option.some.inj H
  go_enter Tryz.func11, Tryz.ntmps11
  go_wp2
  go_ret
  exact ⟨by first | rfl | (simp; done) | (simp [*]; done), by repeat (first | exact Drawn0.refl _ | apply Drawn0.step)⟩

mutual
def octets_Unbase64.l0 : Nat → ByteArray → Int → Int → Int → Option (List Int × Int × Int)
  | 0, _, _, _, _ => none
  | k + 1, x0, x5, x15, x16 => if x16 < x15 then (if 0 ≤ x16 then (if x16 < (x0.size : Int) then ((strings_IndexByte.f (⟨#[65, 66, 67, 68, 69, 70, 71, 72, 73, 74, 75, 76, 77, 78, 79, 80, 81, 82, 83, 84, 85, 86, 87, 88, 89, 90, 97, 98, 99, 100, 101, 102, 103, 104, 105, 106, 107, 108, 109, 110, 111, 112, 113, 114, 115, 116, 117, 118, 119, 120, 121, 122, 48, 49, 50, 51, 52, 53, 54, 55, 56, 57, 43, 47]⟩ : ByteArray) (bt x0 x16)).bind fun t134 => (if (bt x0 x16) = 61 then (octets_Unbase64.j1 k x0 x5 x16 (decide (t134 ≥ 0)) x15 x16 (decide (x16 ≥ (wrap64 ((x0.size : Int) - 2))))) else (octets_Unbase64.j1 k x0 x5 x16 (decide (t134 ≥ 0)) x15 x16 false))) else (none)) else (none)) else (if x5 < (x0.size : Int) then (if ((x0.size : Int) % 4) = 0 then (if x5 = (x0.size : Int) then (octets_Unbase64.j2 k x0 x5 ((Int.tmod x5 4) == 1)) else (octets_Unbase64.j2 k x0 x5 false)) else (octets_Unbase64.j2 k x0 x5 true)) else (if x5 = (x0.size : Int) then (octets_Unbase64.j2 k x0 x5 ((Int.tmod x5 4) == 1)) else (octets_Unbase64.j2 k x0 x5 false)))
def octets_Unbase64.j1 : Nat → ByteArray → Int → Int → Bool → Int → Int → Bool → Option (List Int × Int × Int)
  | 0, _, _, _, _, _, _, _ => none
  | k + 1, x0, x5, x6, x7, x15, x16, x34 => if x34 = true then (octets_Unbase64.l0 k x0 (mn x5 x6) x15 (wrap64 (x16 + 1))) else (if x7 = true then (if x5 < (x0.size : Int) then (some (([] : List Int), 11, x6)) else (octets_Unbase64.l0 k x0 x5 x15 (wrap64 (x16 + 1)))) else (some (([] : List Int), 11, x6)))
def octets_Unbase64.j2 : Nat → ByteArray → Int → Bool → Option (List Int × Int × Int)
  | 0, _, _, _ => none
  | k + 1, x0, x5, x68 => if x68 = true then (some (([] : List Int), 12, (x0.size : Int))) else (octets_Unbase64.l1 k x0 x5 ([] : List Int) 0 0 x5 0)
def octets_Unbase64.l1 : Nat → ByteArray → Int → List Int → Int → Int → Int → Int → Option (List Int × Int × Int)
  | 0, _, _, _, _, _, _, _ => none
  | k + 1, x0, x5, x8, x9, x10, x71, x72 => if x72 < x71 then (if 0 ≤ x72 then (if x72 < (x0.size : Int) then ((strings_IndexByte.f (⟨#[65, 66, 67, 68, 69, 70, 71, 72, 73, 74, 75, 76, 77, 78, 79, 80, 81, 82, 83, 84, 85, 86, 87, 88, 89, 90, 97, 98, 99, 100, 101, 102, 103, 104, 105, 106, 107, 108, 109, 110, 111, 112, 113, 114, 115, 116, 117, 118, 119, 120, 121, 122, 48, 49, 50, 51, 52, 53, 54, 55, 56, 57, 43, 47]⟩ : ByteArray) (bt x0 x72)).bind fun t135 => (if (wrap64 (x10 + 6)) ≥ 8 then (if 0 ≤ (wrap64 ((wrap64 (x10 + 6)) - 8)) then (if x8.length < 140737488355328 then (octets_Unbase64.l1 k x0 x5 (x8 ++ [(shr .u64 (Go.bits .or .u64 (IntKind.u64.wrap (x9 * 64)) (IntKind.u64.wrap (t135))) (wrap64 ((wrap64 (x10 + 6)) - 8))) % 256]) (Go.bits .or .u64 (IntKind.u64.wrap (x9 * 64)) (IntKind.u64.wrap (t135))) (wrap64 ((wrap64 (x10 + 6)) - 8)) x71 (wrap64 (x72 + 1))) else (none)) else (none)) else (octets_Unbase64.l1 k x0 x5 x8 (Go.bits .or .u64 (IntKind.u64.wrap (x9 * 64)) (IntKind.u64.wrap (t135))) (wrap64 (x10 + 6)) x71 (wrap64 (x72 + 1))))) else (none)) else (none)) else (if 0 ≤ x10 then (if (Go.bits .and .u64 x9 (IntKind.u64.wrap ((shl .u64 1 x10) - 1))) = 0 then (some (x8, 0, 0)) else (some (([] : List Int), 12, wrap64 (x5 - 1)))) else (none))
end
def octets_Unbase64.f (k : Nat) (a0 : ByteArray) : Option (List Int × Int × Int) := octets_Unbase64.l0 k a0 (a0.size : Int) (a0.size : Int) 0
theorem octets_Unbase64.mono_l : ∀ k, (∀ y0 y1 y2 y3, LeO (octets_Unbase64.l0 k y0 y1 y2 y3) (octets_Unbase64.l0 (k + 1) y0 y1 y2 y3)) ∧ (∀ y0 y1 y2 y3 y4 y5 y6, LeO (octets_Unbase64.j1 k y0 y1 y2 y3 y4 y5 y6) (octets_Unbase64.j1 (k + 1) y0 y1 y2 y3 y4 y5 y6)) ∧ (∀ y0 y1 y2, LeO (octets_Unbase64.j2 k y0 y1 y2) (octets_Unbase64.j2 (k + 1) y0 y1 y2)) ∧ (∀ y0 y1 y2 y3 y4 y5 y6, LeO (octets_Unbase64.l1 k y0 y1 y2 y3 y4 y5 y6) (octets_Unbase64.l1 (k + 1) y0 y1 y2 y3 y4 y5 y6))
  | 0 => ⟨fun _ _ _ _ r h => by simp [octets_Unbase64.l0] at h, fun _ _ _ _ _ _ _ r h => by simp [octets_Unbase64.j1] at h, fun _ _ _ r h => by simp [octets_Unbase64.j2] at h, fun _ _ _ _ _ _ _ r h => by simp [octets_Unbase64.l1] at h⟩
  | k + 1 => by
    obtain ⟨ih0, ih1, ih2, ih3⟩ := octets_Unbase64.mono_l k
    refine ⟨?_, ?_, ?_, ?_⟩
    · intro y0 y1 y2 y3
      unfold octets_Unbase64.l0
      repeat' first
      | (with_reducible exact ih0 _ _ _ _)
      | (with_reducible exact ih1 _ _ _ _ _ _ _)
      | (with_reducible exact ih2 _ _ _)
      | (with_reducible exact ih3 _ _ _ _ _ _ _)
      | (with_reducible exact LeO.refl _)
      | (with_reducible exact LeO.none _)
      | (with_reducible refine LeO.ite ?_ ?_)
      | (with_reducible refine LeO.bind ?_ (fun _ => ?_))
      | exact ih0 _ _ _ _
      | exact ih1 _ _ _ _ _ _ _
      | exact ih2 _ _ _
      | exact ih3 _ _ _ _ _ _ _
      | exact LeO.none _
      | refine LeO.ite ?_ ?_
      | refine LeO.bind ?_ (fun _ => ?_)
    · intro y0 y1 y2 y3 y4 y5 y6
      unfold octets_Unbase64.j1
      repeat' first
      | (with_reducible exact ih0 _ _ _ _)
      | (with_reducible exact ih1 _ _ _ _ _ _ _)
      | (with_reducible exact ih2 _ _ _)
      | (with_reducible exact ih3 _ _ _ _ _ _ _)
      | (with_reducible exact LeO.refl _)
      | (with_reducible exact LeO.none _)
      | (with_reducible refine LeO.ite ?_ ?_)
      | (with_reducible refine LeO.bind ?_ (fun _ => ?_))
      | exact ih0 _ _ _ _
      | exact ih1 _ _ _ _ _ _ _
      | exact ih2 _ _ _
      | exact ih3 _ _ _ _ _ _ _
      | exact LeO.none _
      | refine LeO.ite ?_ ?_
      | refine LeO.bind ?_ (fun _ => ?_)
    · intro y0 y1 y2
      unfold octets_Unbase64.j2
      repeat' first
      | (with_reducible exact ih0 _ _ _ _)
      | (with_reducible exact ih1 _ _ _ _ _ _ _)
      | (with_reducible exact ih2 _ _ _)
      | (with_reducible exact ih3 _ _ _ _ _ _ _)
      | (with_reducible exact LeO.refl _)
      | (with_reducible exact LeO.none _)
      | (with_reducible refine LeO.ite ?_ ?_)
      | (with_reducible refine LeO.bind ?_ (fun _ => ?_))
      | exact ih0 _ _ _ _
      | exact ih1 _ _ _ _ _ _ _
      | exact ih2 _ _ _
      | exact ih3 _ _ _ _ _ _ _
      | exact LeO.none _
      | refine LeO.ite ?_ ?_
      | refine LeO.bind ?_ (fun _ => ?_)
    · intro y0 y1 y2 y3 y4 y5 y6
      unfold octets_Unbase64.l1
      repeat' first
      | (with_reducible exact ih0 _ _ _ _)
      | (with_reducible exact ih1 _ _ _ _ _ _ _)
      | (with_reducible exact ih2 _ _ _)
      | (with_reducible exact ih3 _ _ _ _ _ _ _)
      | (with_reducible exact LeO.refl _)
      | (with_reducible exact LeO.none _)
      | (with_reducible refine LeO.ite ?_ ?_)
      | (with_reducible refine LeO.bind ?_ (fun _ => ?_))
      | exact ih0 _ _ _ _
      | exact ih1 _ _ _ _ _ _ _
      | exact ih2 _ _ _
      | exact ih3 _ _ _ _ _ _ _
      | exact LeO.none _
      | refine LeO.ite ?_ ?_
      | refine LeO.bind ?_ (fun _ => ?_)
theorem octets_Unbase64.mono : ∀ a0 k, LeO (octets_Unbase64.f k a0) (octets_Unbase64.f (k + 1) a0) := by
  intro a0 k
  obtain ⟨ih0, ih1, ih2, ih3⟩ := octets_Unbase64.mono_l k
  unfold octets_Unbase64.f
  repeat' first
      | (with_reducible exact ih0 _ _ _ _)
      | (with_reducible exact ih1 _ _ _ _ _ _ _)
      | (with_reducible exact ih2 _ _ _)
      | (with_reducible exact ih3 _ _ _ _ _ _ _)
      | (with_reducible exact LeO.refl _)
      | (with_reducible exact LeO.none _)
      | (with_reducible refine LeO.ite ?_ ?_)
      | (with_reducible refine LeO.bind ?_ (fun _ => ?_))
      | exact ih0 _ _ _ _
      | exact ih1 _ _ _ _ _ _ _
      | exact ih2 _ _ _
      | exact ih3 _ _ _ _ _ _ _
      | exact LeO.none _
      | refine LeO.ite ?_ ?_
      | refine LeO.bind ?_ (fun _ => ?_)
set_option maxHeartbeats 8000000 in
set_option maxRecDepth 100000 in
theorem octets_Unbase64.calls (k : Nat) (a0 : ByteArray) (r1 : List Int) (r2 : Int) (r3 : Int) (w : World) (h : octets_Unbase64.f k a0 = some (r1, r2, r3)) :
    Calls Tryz.prog 75 #[.string a0] w fun e w' => ∃ v0_ : Value, e = .returned (.tuple #[v0_, .int .i64 r2, .int .i64 r3]) ∧ Kd.R (Kd.int .u8) 5 w' w.heap.size (fun _ => True) v0_ r1 ∧ Below w.heap.size w w' := by
  have HB := Aside0.mk (Below.refl w.heap.size w)
  have H : (octets_Unbase64.l0 k a0 (a0.size : Int) (a0.size : Int) 0) = some (r1, r2, r3) := h
  clear h
  have H' := Aside0.mk H
  clear H
  go_enter Tryz.func75, Tryz.ntmps75
  go_wp2
  go_loopg [5, 16] k (fun kq v5 v16 w' => ∃ (x5_1 : Int) (x16_1 : Int), v5 = .int .i64 x5_1 ∧ v16 = .int .i64 x16_1 ∧ Aside0 (octets_Unbase64.l0 kq a0 x5_1 (a0.size : Int) x16_1 = some (r1, r2, r3)) ∧ Aside0 (kq ≤ k) ∧ Aside0 (Below w.heap.size w w'))
  case atStart => exact ⟨((a0.size : Int)), (0), (by first | rfl | (simp; done) | (simp [*]; done)), (by first | rfl | (simp; done) | (simp [*]; done)), H', ⟨Nat.le_refl _⟩, ⟨by repeat (first | (with_reducible first | exact HB.out | apply below_alloc | apply pw_below_drewN | apply below_drew1) | exact HB.out)⟩⟩
  case round =>
    clear H'
    obtain ⟨x5_1, x16_1, rfl, rfl, HA, HK1, HB⟩ := hrel
    cases gk with
    | zero => exact absurd HA.out (by simp [octets_Unbase64.l0])
    | succ k1 =>
      have H := HA.out
      clear HA
      simp only [octets_Unbase64.l0] at H
      by_cases c2 : x16_1 < (a0.size : Int)
      · rw [if_pos c2] at H
        have c2b0 : decide (x16_1 < (a0.size : Int)) = true := decide_eq_true c2
        clear c2
        by_cases c3 : 0 ≤ x16_1
        · rw [if_pos c3] at H
          have c3b0 : decide (0 ≤ x16_1) = true := decide_eq_true c3
          clear c3
          by_cases c4 : x16_1 < (a0.size : Int)
          · rw [if_pos c4] at H
            have c4b0 : decide (x16_1 < (a0.size : Int)) = true := decide_eq_true c4
            clear c4
            replace H := Option.bind_eq_some_iff.mp H
            obtain ⟨t134, A60, H⟩ := H
            replace H : (if (bt a0 x16_1) = 61 then (octets_Unbase64.j1 k1 a0 x5_1 x16_1 (decide (t134 ≥ 0)) (a0.size : Int) x16_1 (decide (x16_1 ≥ (wrap64 ((a0.size : Int) - 2))))) else (octets_Unbase64.j1 k1 a0 x5_1 x16_1 (decide (t134 ≥ 0)) (a0.size : Int) x16_1 false)) = some (r1, r2, r3) := H
            have A6 := Aside0.mk A60
            clear A60
            have HC7 := Aside0.mk H
            clear H
            have p5 : 0 ≤ (x16_1 : Int) := of_decide_eq_true (by first | (with_reducible assumption) | assumption)
            have q5 : x16_1 < (a0.size : Int) := of_decide_eq_true (by first | (with_reducible assumption) | assumption)
            have hx5 := bt_at a0 x16_1
            replace p5 := eq_true p5
            replace q5 := eq_true q5
            go_upto_region 6 with (first | ((with_reducible refine gate_callee (f := 74) rfl ?_); refine goesL_ (some 22) rfl rfl Tryz.func74 (by kernel_rfl) rfl #[.string (⟨#[65, 66, 67, 68, 69, 70, 71, 72, 73, 74, 75, 76, 77, 78, 79, 80, 81, 82, 83, 84, 85, 86, 87, 88, 89, 90, 97, 98, 99, 100, 101, 102, 103, 104, 105, 106, 107, 108, 109, 110, 111, 112, 113, 114, 115, 116, 117, 118, 119, 120, 121, 122, 48, 49, 50, 51, 52, 53, 54, 55, 56, 57, 43, 47]⟩ : ByteArray), .int .u8 (bt a0 x16_1)] rfl (by (try simp only [List.map_toArray, List.map_cons, List.map_nil]); first | done | rfl | (simp only [List.length_drop, List.length_take]; rfl)) ?_; (with_reducible refine (strings_IndexByte.calls (⟨#[65, 66, 67, 68, 69, 70, 71, 72, 73, 74, 75, 76, 77, 78, 79, 80, 81, 82, 83, 84, 85, 86, 87, 88, 89, 90, 97, 98, 99, 100, 101, 102, 103, 104, 105, 106, 107, 108, 109, 110, 111, 112, 113, 114, 115, 116, 117, 118, 119, 120, 121, 122, 48, 49, 50, 51, 52, 53, 54, 55, 56, 57, 43, 47]⟩ : ByteArray) (bt a0 x16_1) t134 _ A6.out).mono ?_); rintro e w' ⟨rfl, ⟨nd, rfl⟩⟩; refine ⟨_, rfl, ?_⟩))
            (try simp only [Act.put, List.setIfInBounds_toArray, List.set_cons_zero, List.set_cons_succ])
            go_cut [34] (fun v34 wc => ∃ (kq : Nat) (x34_6 : Bool), v34 = .bool x34_6 ∧ Aside0 (octets_Unbase64.j1 kq a0 x5_1 x16_1 (decide (t134 ≥ 0)) (a0.size : Int) x16_1 x34_6 = some (r1, r2, r3)) ∧ Aside0 (kq ≤ k1) ∧ Aside0 (Below w.heap.size w wc))
            case first =>
              have H := HC7.out
              clear HC7
              by_cases c9 : (bt a0 x16_1) = 61
              · rw [if_pos c9] at H
                have c9b0 : ((bt a0 x16_1) == 61) = true := beq_iff_eq.mpr c9
                have c9b1 : ((bt a0 x16_1) != 61) = false := bne_eq_false_iff_eq.mpr c9
                clear c9
                (first | rw [c9b0] | (simp only [i64_w, i32_w]; rw [c9b0]) | skip)
                have H' := Aside0.mk H
                clear H
                have p8 : 0 ≤ (x16_1 : Int) := of_decide_eq_true (by first | (with_reducible assumption) | assumption)
                have q8 : x16_1 < (a0.size : Int) := of_decide_eq_true (by first | (with_reducible assumption) | assumption)
                have hx8 := bt_at a0 x16_1
                replace p8 := eq_true p8
                replace q8 := eq_true q8
                go_wp2
                go_meet
                case rel => exact ⟨_, (decide (x16_1 ≥ (wrap64 ((a0.size : Int) - 2)))), (by first | rfl | (simp; done) | (simp [*]; done)), H', ⟨by have := HK1.out; first | omega | exact Nat.le_refl _⟩, ⟨by repeat (first | (with_reducible first | exact HB.out | apply below_alloc | apply pw_below_drewN | apply below_drew1) | exact HB.out)⟩⟩
              · rw [if_neg c9] at H
                have c9b0 : ((bt a0 x16_1) == 61) = false := beq_eq_false_iff_ne.mpr c9
                have c9b1 : ((bt a0 x16_1) != 61) = true := bne_iff_ne.mpr c9
                (first | rw [c9b0] | (simp only [i64_w, i32_w]; rw [c9b0]) | skip)
                have H' := Aside0.mk H
                clear H
                have p8 : 0 ≤ (x16_1 : Int) := of_decide_eq_true (by first | (with_reducible assumption) | assumption)
                have q8 : x16_1 < (a0.size : Int) := of_decide_eq_true (by first | (with_reducible assumption) | assumption)
                have hx8 := bt_at a0 x16_1
                replace p8 := eq_true p8
                replace q8 := eq_true q8
                go_wp2
                go_meet
                case rel => exact ⟨_, (false), (by first | rfl | (simp; done) | (simp [*]; done)), H', ⟨by have := HK1.out; first | omega | exact Nat.le_refl _⟩, ⟨by repeat (first | (with_reducible first | exact HB.out | apply below_alloc | apply pw_below_drewN | apply below_drew1) | exact HB.out)⟩⟩
            case rest =>
              clear HC7
              try clear c2
              try clear c2b0
              try clear p2
              try clear c3
              try clear c3b0
              try clear c4
              try clear c4b0
              try clear p5
              try clear q5
              try clear hx5
              try clear p6
              try clear c7
              try clear p8
              try clear q8
              try clear hx8
              try clear c9
              try clear c9b0
              try clear c9b1
              try clear p5
              try clear p8
              try clear q5
              try clear q8
              obtain ⟨kq, x34_6, rfl, HA, HJ6, HB⟩ := hcut
              cases kq with
              | zero => exact absurd HA.out (by simp [octets_Unbase64.j1])
              | succ kj6 =>
                have H := HA.out
                clear HA
                simp only [octets_Unbase64.j1] at H
                by_cases c10 : x34_6 = true
                · subst c10
                  have H1 : (octets_Unbase64.l0 kj6 a0 (mn x5_1 x16_1) (a0.size : Int) (wrap64 (x16_1 + 1))) = some (r1, r2, r3) := by rw [if_pos rfl] at H; exact H
                  clear H
                  have H := H1
                  clear H1
                  obtain ⟨ji11, hji11⟩ : ∃ j_ : Int, (mn x5_1 x16_1) = j_ := ⟨_, rfl⟩
                  replace H : (octets_Unbase64.l0 kj6 a0 ji11 (a0.size : Int) (wrap64 (x16_1 + 1))) = some (r1, r2, r3) := by first | (rw [hji11] at H; exact H) | (simp only [hji11] at H ⊢; exact H)
                  have hji11_ : (if x16_1 < x5_1 then x16_1 else x5_1) = ji11 := hji11
                  have H' := Aside0.mk H
                  clear H
                  go_wp2
                  go_roundg kj6
                  case measure => have := HK1.out; have := HJ6.out; omega
                  case rel => exact ⟨(ji11), (wrap64 (x16_1 + 1)), (by first | rfl | (simp; done) | (simp only [← hji11] <;> (first | rfl | simp)) | (simp [*]; done)), (by first | rfl | (simp; done) | (simp [*]; done)), H', ⟨by have := HK1.out; have := HJ6.out; omega⟩, ⟨by repeat (first | (with_reducible first | exact HB.out | apply below_alloc | apply pw_below_drewN | apply below_drew1) | exact HB.out)⟩⟩
                · replace c10 := Bool.eq_false_iff.mpr c10
                  subst c10
                  have H1 : (if (decide (t134 ≥ 0)) = true then (if x5_1 < (a0.size : Int) then (some (([] : List Int), 11, x16_1)) else (octets_Unbase64.l0 kj6 a0 x5_1 (a0.size : Int) (wrap64 (x16_1 + 1)))) else (some (([] : List Int), 11, x16_1))) = some (r1, r2, r3) := by rw [if_neg (show ¬ (false = true) by decide)] at H; exact H
                  clear H
                  have H := H1
                  clear H1
                  by_cases c12 : (decide (t134 ≥ 0)) = true
                  · rw [if_pos c12] at H
                    have c12b0 : (decide (t134 ≥ 0)) = true := c12
                    clear c12
                    by_cases c13 : x5_1 < (a0.size : Int)
                    · rw [if_pos c13] at H
                      have c13b0 : decide (x5_1 < (a0.size : Int)) = true := decide_eq_true c13
                      clear c13
                      simp only [Option.some.injEq, Prod.mk.injEq] at H
                      obtain ⟨rfl, rfl, rfl⟩ := H
                      go_wp2
                      go_ret3
                      exact ⟨_, by first | rfl | (simp [errW_none, errW_some] <;> rfl) | (simp [*, errW_none, errW_some] <;> rfl), by first | exact Kd.R_nil _ _ _ _ _ | exact Kd.N_nil _ _ _ _ _ | exact Kd.V_nil _ _ _ _ _ | exact Kd.Q_nil _ _ _ _ _ | exact Kd.S_nil _ _ _ _ _, by repeat (first | (with_reducible first | exact HB.out | apply below_alloc | apply pw_below_drewN | apply below_drew1) | exact HB.out)⟩
                    · rw [if_neg c13] at H
                      have c13b0 : decide (x5_1 < (a0.size : Int)) = false := decide_eq_false c13
                      clear c13
                      have H' := Aside0.mk H
                      clear H
                      go_wp2
                      go_roundg kj6
                      case measure => have := HK1.out; have := HJ6.out; omega
                      case rel => exact ⟨(x5_1), (wrap64 (x16_1 + 1)), (by first | rfl | (simp; done) | (simp [*]; done)), (by first | rfl | (simp; done) | (simp [*]; done)), H', ⟨by have := HK1.out; have := HJ6.out; omega⟩, ⟨by repeat (first | (with_reducible first | exact HB.out | apply below_alloc | apply pw_below_drewN | apply below_drew1) | exact HB.out)⟩⟩
                  · rw [if_neg c12] at H
                    have c12b0 : (decide (t134 ≥ 0)) = false := by simpa using c12
                    clear c12
                    simp only [Option.some.injEq, Prod.mk.injEq] at H
                    obtain ⟨rfl, rfl, rfl⟩ := H
                    go_wp2
                    go_ret3
                    exact ⟨_, by first | rfl | (simp [errW_none, errW_some] <;> rfl) | (simp [*, errW_none, errW_some] <;> rfl), by first | exact Kd.R_nil _ _ _ _ _ | exact Kd.N_nil _ _ _ _ _ | exact Kd.V_nil _ _ _ _ _ | exact Kd.Q_nil _ _ _ _ _ | exact Kd.S_nil _ _ _ _ _, by repeat (first | (with_reducible first | exact HB.out | apply below_alloc | apply pw_below_drewN | apply below_drew1) | exact HB.out)⟩
          · rw [if_neg c4] at H
            exact absurd H (by simp)
        · rw [if_neg c3] at H
          exact absurd H (by simp)
      · rw [if_neg c2] at H
        have c2b0 : decide (x16_1 < (a0.size : Int)) = false := decide_eq_false c2
        clear c2
        have HC14 := Aside0.mk H
        clear H
        go_upto_region 11 with (fail)
        go_cut [68] (fun v68 wc => ∃ (kq : Nat) (x68_13 : Bool), v68 = .bool x68_13 ∧ Aside0 (octets_Unbase64.j2 kq a0 x5_1 x68_13 = some (r1, r2, r3)) ∧ Aside0 (kq ≤ k1) ∧ Aside0 (Below w.heap.size w wc))
        case first =>
          have H := HC14.out
          clear HC14
          by_cases c15 : x5_1 < (a0.size : Int)
          · rw [if_pos c15] at H
            have c15b0 : decide (x5_1 < (a0.size : Int)) = true := decide_eq_true c15
            clear c15
            (first | rw [c15b0] | (simp only [i64_w, i32_w]; rw [c15b0]) | skip)
            by_cases c16 : ((a0.size : Int) % 4) = 0
            · rw [if_pos c16] at H
              have c16b0 : (((a0.size : Int) % 4) == 0) = true := beq_iff_eq.mpr c16
              have c16b1 : (((a0.size : Int) % 4) != 0) = false := bne_eq_false_iff_eq.mpr c16
              clear c16
              by_cases c17 : x5_1 = (a0.size : Int)
              · rw [if_pos c17] at H
                have c17b0 : (x5_1 == (a0.size : Int)) = true := beq_iff_eq.mpr c17
                have c17b1 : (x5_1 != (a0.size : Int)) = false := bne_eq_false_iff_eq.mpr c17
                clear c17
                have H' := Aside0.mk H
                clear H
                go_wp2
                go_meet
                case rel => exact ⟨_, (((Int.tmod x5_1 4) == 1)), (by first | rfl | (simp; done) | (simp [*]; done)), H', ⟨by have := HK1.out; first | omega | exact Nat.le_refl _⟩, ⟨by repeat (first | (with_reducible first | exact HB.out | apply below_alloc | apply pw_below_drewN | apply below_drew1) | exact HB.out)⟩⟩
              · rw [if_neg c17] at H
                have c17b0 : (x5_1 == (a0.size : Int)) = false := beq_eq_false_iff_ne.mpr c17
                have c17b1 : (x5_1 != (a0.size : Int)) = true := bne_iff_ne.mpr c17
                have H' := Aside0.mk H
                clear H
                go_wp2
                go_meet
                case rel => exact ⟨_, (false), (by first | rfl | (simp; done) | (simp [*]; done)), H', ⟨by have := HK1.out; first | omega | exact Nat.le_refl _⟩, ⟨by repeat (first | (with_reducible first | exact HB.out | apply below_alloc | apply pw_below_drewN | apply below_drew1) | exact HB.out)⟩⟩
            · rw [if_neg c16] at H
              have c16b0 : (((a0.size : Int) % 4) == 0) = false := beq_eq_false_iff_ne.mpr c16
              have c16b1 : (((a0.size : Int) % 4) != 0) = true := bne_iff_ne.mpr c16
              have H' := Aside0.mk H
              clear H
              go_wp2
              go_meet
              case rel => exact ⟨_, (true), (by first | rfl | (simp; done) | (simp [*]; done)), H', ⟨by have := HK1.out; first | omega | exact Nat.le_refl _⟩, ⟨by repeat (first | (with_reducible first | exact HB.out | apply below_alloc | apply pw_below_drewN | apply below_drew1) | exact HB.out)⟩⟩
          · rw [if_neg c15] at H
            have c15b0 : decide (x5_1 < (a0.size : Int)) = false := decide_eq_false c15
            clear c15
            (first | rw [c15b0] | (simp only [i64_w, i32_w]; rw [c15b0]) | skip)
            by_cases c18 : x5_1 = (a0.size : Int)
            · rw [if_pos c18] at H
              have c18b0 : (x5_1 == (a0.size : Int)) = true := beq_iff_eq.mpr c18
              have c18b1 : (x5_1 != (a0.size : Int)) = false := bne_eq_false_iff_eq.mpr c18
              clear c18
              have H' := Aside0.mk H
              clear H
              go_wp2
              go_meet
              case rel => exact ⟨_, (((Int.tmod x5_1 4) == 1)), (by first | rfl | (simp; done) | (simp [*]; done)), H', ⟨by have := HK1.out; first | omega | exact Nat.le_refl _⟩, ⟨by repeat (first | (with_reducible first | exact HB.out | apply below_alloc | apply pw_below_drewN | apply below_drew1) | exact HB.out)⟩⟩
            · rw [if_neg c18] at H
              have c18b0 : (x5_1 == (a0.size : Int)) = false := beq_eq_false_iff_ne.mpr c18
              have c18b1 : (x5_1 != (a0.size : Int)) = true := bne_iff_ne.mpr c18
              have H' := Aside0.mk H
              clear H
              go_wp2
              go_meet
              case rel => exact ⟨_, (false), (by first | rfl | (simp; done) | (simp [*]; done)), H', ⟨by have := HK1.out; first | omega | exact Nat.le_refl _⟩, ⟨by repeat (first | (with_reducible first | exact HB.out | apply below_alloc | apply pw_below_drewN | apply below_drew1) | exact HB.out)⟩⟩
        case rest =>
          clear HC14
          try clear c1
          try clear c2
          try clear c2b0
          try clear p2
          try clear c3
          try clear c3b0
          try clear c4
          try clear c4b0
          try clear p5
          try clear q5
          try clear hx5
          try clear p6
          try clear c7
          try clear p8
          try clear q8
          try clear hx8
          try clear c9
          try clear c9b0
          try clear c9b1
          try clear c10
          try clear c12
          try clear c12b0
          try clear c13
          try clear c13b0
          try clear c15
          try clear c15b0
          try clear c16
          try clear c16b0
          try clear c16b1
          try clear c17
          try clear c17b0
          try clear c17b1
          try clear c18
          try clear c18b0
          try clear c18b1
          try clear p2
          try clear p5
          try clear p6
          try clear p8
          try clear q5
          try clear q8
          obtain ⟨kq, x68_13, rfl, HA, HJ13, HB⟩ := hcut
          cases kq with
          | zero => exact absurd HA.out (by simp [octets_Unbase64.j2])
          | succ kj13 =>
            have H := HA.out
            clear HA
            simp only [octets_Unbase64.j2] at H
            by_cases c19 : x68_13 = true
            · subst c19
              have H1 : (some (([] : List Int), 12, (a0.size : Int))) = some (r1, r2, r3) := by rw [if_pos rfl] at H; exact H
              clear H
              have H := H1
              clear H1
              simp only [Option.some.injEq, Prod.mk.injEq] at H
              obtain ⟨rfl, rfl, rfl⟩ := H
              go_wp2
              go_ret3
              exact ⟨_, by first | rfl | (simp [errW_none, errW_some] <;> rfl) | (simp [*, errW_none, errW_some] <;> rfl), by first | exact Kd.R_nil _ _ _ _ _ | exact Kd.N_nil _ _ _ _ _ | exact Kd.V_nil _ _ _ _ _ | exact Kd.Q_nil _ _ _ _ _ | exact Kd.S_nil _ _ _ _ _, by repeat (first | (with_reducible first | exact HB.out | apply below_alloc | apply pw_below_drewN | apply below_drew1) | exact HB.out)⟩
            · replace c19 := Bool.eq_false_iff.mpr c19
              subst c19
              have H1 : (octets_Unbase64.l1 kj13 a0 x5_1 ([] : List Int) 0 0 x5_1 0) = some (r1, r2, r3) := by rw [if_neg (show ¬ (false = true) by decide)] at H; exact H
              clear H
              have H := H1
              clear H1
              have H' := Aside0.mk H
              clear H
              go_wp2
              go_loopg [8, 9, 10, 72] kj13 (fun kq v8 v9 v10 v72 w' => ∃ (x8_3 : List Int) (x9_3 : Int) (x10_3 : Int) (x72_3 : Int), v9 = .int .u64 x9_3 ∧ v10 = .int .i64 x10_3 ∧ v72 = .int .i64 x72_3 ∧ Aside0 (octets_Unbase64.l1 kq a0 x5_1 x8_3 x9_3 x10_3 x5_1 x72_3 = some (r1, r2, r3)) ∧ Aside0 (kq ≤ kj13) ∧ Aside0 (Kd.R (Kd.int .u8) 5 w' w.heap.size (fun _ => True) v8 x8_3) ∧ Aside0 (Below w.heap.size w w'))
              case atStart => exact ⟨(([] : List Int)), (0), (0), (0), (by first | rfl | (simp; done) | (simp [*]; done)), (by first | rfl | (simp; done) | (simp [*]; done)), (by first | rfl | (simp; done) | (simp [*]; done)), H', ⟨Nat.le_refl _⟩, ⟨by first | exact Kd.R_nil _ _ _ _ _ | exact Kd.N_nil _ _ _ _ _ | exact Kd.V_nil _ _ _ _ _ | exact Kd.Q_nil _ _ _ _ _ | exact Kd.S_nil _ _ _ _ _⟩, ⟨by repeat (first | (with_reducible first | exact HB.out | apply below_alloc | apply pw_below_drewN | apply below_drew1) | exact HB.out)⟩⟩
              case round =>
                clear H'
                try clear c1
                try clear c2
                try clear c2b0
                try clear p2
                try clear c3
                try clear c3b0
                try clear c4
                try clear c4b0
                try clear p5
                try clear q5
                try clear hx5
                try clear p6
                try clear c7
                try clear p8
                try clear q8
                try clear hx8
                try clear c9
                try clear c9b0
                try clear c9b1
                try clear c10
                try clear c12
                try clear c12b0
                try clear c13
                try clear c13b0
                try clear c15
                try clear c15b0
                try clear c16
                try clear c16b0
                try clear c16b1
                try clear c17
                try clear c17b0
                try clear c17b1
                try clear c18
                try clear c18b0
                try clear c18b1
                try clear c19
                try clear p2
                try clear p5
                try clear p6
                try clear p8
                try clear q5
                try clear q8
                obtain ⟨x8_3, x9_3, x10_3, x72_3, rfl, rfl, rfl, HA, HK3, HO_8, HB⟩ := hrel
                cases gk with
                | zero => exact absurd HA.out (by simp [octets_Unbase64.l1])
                | succ k3 =>
                  have H := HA.out
                  clear HA
                  simp only [octets_Unbase64.l1] at H
                  by_cases c20 : x72_3 < x5_1
                  · rw [if_pos c20] at H
                    have c20b0 : decide (x72_3 < x5_1) = true := decide_eq_true c20
                    clear c20
                    by_cases c21 : 0 ≤ x72_3
                    · rw [if_pos c21] at H
                      have c21b0 : decide (0 ≤ x72_3) = true := decide_eq_true c21
                      clear c21
                      by_cases c22 : x72_3 < (a0.size : Int)
                      · rw [if_pos c22] at H
                        have c22b0 : decide (x72_3 < (a0.size : Int)) = true := decide_eq_true c22
                        clear c22
                        replace H := Option.bind_eq_some_iff.mp H
                        obtain ⟨t135, A240, H⟩ := H
                        replace H : (if (wrap64 (x10_3 + 6)) ≥ 8 then (if 0 ≤ (wrap64 ((wrap64 (x10_3 + 6)) - 8)) then (if x8_3.length < 140737488355328 then (octets_Unbase64.l1 k3 a0 x5_1 (x8_3 ++ [(shr .u64 (Go.bits .or .u64 (IntKind.u64.wrap (x9_3 * 64)) (IntKind.u64.wrap (t135))) (wrap64 ((wrap64 (x10_3 + 6)) - 8))) % 256]) (Go.bits .or .u64 (IntKind.u64.wrap (x9_3 * 64)) (IntKind.u64.wrap (t135))) (wrap64 ((wrap64 (x10_3 + 6)) - 8)) x5_1 (wrap64 (x72_3 + 1))) else (none)) else (none)) else (octets_Unbase64.l1 k3 a0 x5_1 x8_3 (Go.bits .or .u64 (IntKind.u64.wrap (x9_3 * 64)) (IntKind.u64.wrap (t135))) (wrap64 (x10_3 + 6)) x5_1 (wrap64 (x72_3 + 1)))) = some (r1, r2, r3) := H
                        have A24 := Aside0.mk A240
                        clear A240
                        by_cases c25 : (wrap64 (x10_3 + 6)) ≥ 8
                        · rw [if_pos c25] at H
                          have c25b0 : decide (8 ≤ (wrap64 (x10_3 + 6))) = true := decide_eq_true c25
                          clear c25
                          obtain ⟨ji26, hji26⟩ : ∃ j_ : Int, (wrap64 ((wrap64 (x10_3 + 6)) - 8)) = j_ := ⟨_, rfl⟩
                          replace H : (if 0 ≤ (ji26) then (if x8_3.length < 140737488355328 then (octets_Unbase64.l1 k3 a0 x5_1 (x8_3 ++ [(shr .u64 (Go.bits .or .u64 (IntKind.u64.wrap (x9_3 * 64)) (IntKind.u64.wrap (t135))) (ji26)) % 256]) (Go.bits .or .u64 (IntKind.u64.wrap (x9_3 * 64)) (IntKind.u64.wrap (t135))) ji26 x5_1 (wrap64 (x72_3 + 1))) else (none)) else (none)) = some (r1, r2, r3) := by first | (rw [hji26] at H; exact H) | (simp only [hji26] at H ⊢; exact H)
                          (try rw [hji26] at A24)
                          have hji26w : (IntKind.i64.wrap ((wrap64 (x10_3 + 6)) - 8)) = ji26 := (i64_w _).trans hji26
                          by_cases c27 : 0 ≤ (ji26)
                          · rw [if_pos c27] at H
                            have c27b0 := eq_true c27
                            have c27b1 : decide (0 ≤ (ji26)) = true := decide_eq_true c27
                            clear c27
                            obtain ⟨ji28, hji28⟩ : ∃ j_ : Int, (shr .u64 (Go.bits .or .u64 (IntKind.u64.wrap (x9_3 * 64)) (IntKind.u64.wrap (t135))) (ji26)) = j_ := ⟨_, rfl⟩
                            replace H : (if x8_3.length < 140737488355328 then (octets_Unbase64.l1 k3 a0 x5_1 (x8_3 ++ [(ji28) % 256]) (Go.bits .or .u64 (IntKind.u64.wrap (x9_3 * 64)) (IntKind.u64.wrap (t135))) ji26 x5_1 (wrap64 (x72_3 + 1))) else (none)) = some (r1, r2, r3) := by first | (rw [hji28] at H; exact H) | (simp only [hji28] at H ⊢; exact H)
                            (try rw [hji28] at A24)
                            have hji28_ : ((Go.bits .or .u64 (IntKind.u64.wrap (x9_3 * 64)) (IntKind.u64.wrap (t135))) / 2 ^ min (ji26).toNat 64) = ji28 := hji28
                            have hji28z : (ji26) ≤ 64 → ((Go.bits .or .u64 (IntKind.u64.wrap (x9_3 * 64)) (IntKind.u64.wrap (t135))) / 2 ^ (ji26).toNat) = ji28 := shr_small hji28
                            by_cases c29 : x8_3.length < 140737488355328
                            · rw [if_pos c29] at H
                              have LMc29 := Aside0.mk c29
                              clear c29
                              obtain ⟨y136, hy136⟩ : ∃ y_ : List Int, y_ = (x8_3 ++ [(ji28) % 256]) := ⟨_, rfl⟩
                              replace H : (octets_Unbase64.l1 k3 a0 x5_1 y136 (Go.bits .or .u64 (IntKind.u64.wrap (x9_3 * 64)) (IntKind.u64.wrap (t135))) ji26 x5_1 (wrap64 (x72_3 + 1))) = some (r1, r2, r3) := by first | (rw [hy136]; with_reducible exact H) | (have H2_ := (Option.bind_some _ _).symm.trans H; rw [hy136]; with_reducible exact H2_) | (have H2_ := (Option.bind_some _ _).symm.trans H; with_reducible exact H2_) | with_reducible exact H | (rw [hy136]; exact H) | exact H
                              have Ny136 := Aside0.mk hy136
                              clear hy136
                              have H' := Aside0.mk H
                              clear H
                              have p23 : 0 ≤ (x72_3 : Int) := of_decide_eq_true (by first | (with_reducible assumption) | assumption)
                              have q23 : x72_3 < (a0.size : Int) := of_decide_eq_true (by first | (with_reducible assumption) | assumption)
                              have hx23 := bt_at a0 x72_3
                              replace p23 := eq_true p23
                              replace q23 := eq_true q23
                              go_wp2_with (first | ((with_reducible refine gate_callee (f := 74) rfl ?_); refine goesL_ (some 80) rfl rfl Tryz.func74 (by kernel_rfl) rfl #[.string (⟨#[65, 66, 67, 68, 69, 70, 71, 72, 73, 74, 75, 76, 77, 78, 79, 80, 81, 82, 83, 84, 85, 86, 87, 88, 89, 90, 97, 98, 99, 100, 101, 102, 103, 104, 105, 106, 107, 108, 109, 110, 111, 112, 113, 114, 115, 116, 117, 118, 119, 120, 121, 122, 48, 49, 50, 51, 52, 53, 54, 55, 56, 57, 43, 47]⟩ : ByteArray), .int .u8 (bt a0 x72_3)] rfl (by (try simp only [List.map_toArray, List.map_cons, List.map_nil]); first | done | rfl | (simp only [List.length_drop, List.length_take]; rfl)) ?_; (with_reducible refine (strings_IndexByte.calls (⟨#[65, 66, 67, 68, 69, 70, 71, 72, 73, 74, 75, 76, 77, 78, 79, 80, 81, 82, 83, 84, 85, 86, 87, 88, 89, 90, 97, 98, 99, 100, 101, 102, 103, 104, 105, 106, 107, 108, 109, 110, 111, 112, 113, 114, 115, 116, 117, 118, 119, 120, 121, 122, 48, 49, 50, 51, 52, 53, 54, 55, 56, 57, 43, 47]⟩ : ByteArray) (bt a0 x72_3) t135 _ A24.out).mono ?_); rintro e w' ⟨rfl, ⟨nd, rfl⟩⟩; refine ⟨_, rfl, ?_⟩) | ((with_reducible refine gate_builtin (b := .append) (xs := #[.tmp 89, .tmp 94]) rfl ?_); (try (refine gate_guard (by rfl) ?_; dsimp only)); at_builtin; refine Kd.R_append (Kd.int .u8) (w0 := w) w.heap.size rfl (.tmp 89) (.tmp 94) 59 5 (.int .u8 0) 1 rfl Tryz.underlying59 info5 rfl (by decide) (by omega) u8 x8_3 ((ji28) % 256) [.int .u8 ((ji28) % 256)] (fun _ => True) (fun _ => False) rfl rfl ?aP (fun _ hk => hk.elim) ?aF ?aO ?aB ?aS ?aL ?_; (case aP => exact rfl); (case aB => exact (by repeat (first | (with_reducible first | exact HB.out | apply below_alloc | apply pw_below_drewN | apply below_drew1) | exact HB.out))); (case aF => exact (fun _ _ => trivial)); (case aO => exact (by (with_reducible repeat (first | apply Kd.R_alloc | apply Kd.R_drewN | apply Kd.R_drew)); exact HO_8.out)); (case aS => exact (below_size (by repeat (first | (with_reducible first | exact HB.out | apply below_alloc | apply pw_below_drewN | apply below_drew1) | exact HB.out)))); (case aL => have := LMc29.out; omega); intro v137 w30 ho hb hg hat; rw [← Ny136.out] at ho; have n0_ := Aside0.mk (hb); have n1_ := Aside0.mk (ho); clear HB; clear HO_8; have HB := n0_; have HO138 := n1_; clear n0_ n1_; clear ho hb hg hat))
                              go_roundg k3
                              case measure => have := HK1.out; have := HJ13.out; have := HK3.out; omega
                              case rel => exact ⟨(y136), (Go.bits .or .u64 (IntKind.u64.wrap (x9_3 * 64)) (IntKind.u64.wrap (t135))), (ji26), (wrap64 (x72_3 + 1)), (by first | rfl | (simp; done) | (simp [*]; done)), (by first | rfl | (simp; done) | (simp only [← hji26] <;> (first | rfl | simp)) | (simp [*]; done)), (by first | rfl | (simp; done) | (simp [*]; done)), H', ⟨by have := HK1.out; have := HJ13.out; have := HK3.out; omega⟩, ⟨by (with_reducible repeat (first | apply Kd.R_alloc | apply Kd.R_drewN | apply Kd.R_drew)); exact HO138.out⟩, ⟨by repeat (first | (with_reducible first | exact HB.out | apply below_alloc | apply pw_below_drewN | apply below_drew1) | exact HB.out)⟩⟩
                            · rw [if_neg c29] at H
                              exact absurd H (by simp)
                          · rw [if_neg c27] at H
                            exact absurd H (by simp)
                        · rw [if_neg c25] at H
                          have c25b0 : decide (8 ≤ (wrap64 (x10_3 + 6))) = false := decide_eq_false c25
                          clear c25
                          have H' := Aside0.mk H
                          clear H
                          have p23 : 0 ≤ (x72_3 : Int) := of_decide_eq_true (by first | (with_reducible assumption) | assumption)
                          have q23 : x72_3 < (a0.size : Int) := of_decide_eq_true (by first | (with_reducible assumption) | assumption)
                          have hx23 := bt_at a0 x72_3
                          replace p23 := eq_true p23
                          replace q23 := eq_true q23
                          go_wp2_with (first | ((with_reducible refine gate_callee (f := 74) rfl ?_); refine goesL_ (some 80) rfl rfl Tryz.func74 (by kernel_rfl) rfl #[.string (⟨#[65, 66, 67, 68, 69, 70, 71, 72, 73, 74, 75, 76, 77, 78, 79, 80, 81, 82, 83, 84, 85, 86, 87, 88, 89, 90, 97, 98, 99, 100, 101, 102, 103, 104, 105, 106, 107, 108, 109, 110, 111, 112, 113, 114, 115, 116, 117, 118, 119, 120, 121, 122, 48, 49, 50, 51, 52, 53, 54, 55, 56, 57, 43, 47]⟩ : ByteArray), .int .u8 (bt a0 x72_3)] rfl (by (try simp only [List.map_toArray, List.map_cons, List.map_nil]); first | done | rfl | (simp only [List.length_drop, List.length_take]; rfl)) ?_; (with_reducible refine (strings_IndexByte.calls (⟨#[65, 66, 67, 68, 69, 70, 71, 72, 73, 74, 75, 76, 77, 78, 79, 80, 81, 82, 83, 84, 85, 86, 87, 88, 89, 90, 97, 98, 99, 100, 101, 102, 103, 104, 105, 106, 107, 108, 109, 110, 111, 112, 113, 114, 115, 116, 117, 118, 119, 120, 121, 122, 48, 49, 50, 51, 52, 53, 54, 55, 56, 57, 43, 47]⟩ : ByteArray) (bt a0 x72_3) t135 _ A24.out).mono ?_); rintro e w' ⟨rfl, ⟨nd, rfl⟩⟩; refine ⟨_, rfl, ?_⟩))
                          go_roundg k3
                          case measure => have := HK1.out; have := HJ13.out; have := HK3.out; omega
                          case rel => exact ⟨(x8_3), (Go.bits .or .u64 (IntKind.u64.wrap (x9_3 * 64)) (IntKind.u64.wrap (t135))), (wrap64 (x10_3 + 6)), (wrap64 (x72_3 + 1)), (by first | rfl | (simp; done) | (simp [*]; done)), (by first | rfl | (simp; done) | (simp [*]; done)), (by first | rfl | (simp; done) | (simp [*]; done)), H', ⟨by have := HK1.out; have := HJ13.out; have := HK3.out; omega⟩, ⟨by (with_reducible repeat (first | apply Kd.R_alloc | apply Kd.R_drewN | apply Kd.R_drew)); exact HO_8.out⟩, ⟨by repeat (first | (with_reducible first | exact HB.out | apply below_alloc | apply pw_below_drewN | apply below_drew1) | exact HB.out)⟩⟩
                      · rw [if_neg c22] at H
                        exact absurd H (by simp)
                    · rw [if_neg c21] at H
                      exact absurd H (by simp)
                  · rw [if_neg c20] at H
                    have c20b0 : decide (x72_3 < x5_1) = false := decide_eq_false c20
                    clear c20
                    by_cases c31 : 0 ≤ x10_3
                    · rw [if_pos c31] at H
                      have c31b0 := eq_true c31
                      have c31b1 : decide (0 ≤ x10_3) = true := decide_eq_true c31
                      clear c31
                      obtain ⟨ji32, hji32⟩ : ∃ j_ : Int, (shl .u64 1 x10_3) = j_ := ⟨_, rfl⟩
                      replace H : (if (Go.bits .and .u64 x9_3 (IntKind.u64.wrap ((ji32) - 1))) = 0 then (some (x8_3, 0, 0)) else (some (([] : List Int), 12, wrap64 (x5_1 - 1)))) = some (r1, r2, r3) := by first | (rw [hji32] at H; exact H) | (simp only [hji32] at H ⊢; exact H)
                      have hji32_ : (IntKind.u64.wrap (1 * 2 ^ min x10_3.toNat 64)) = ji32 := hji32
                      have hji32z : x10_3 ≤ 64 → (IntKind.u64.wrap (1 * 2 ^ x10_3.toNat)) = ji32 := shl_small hji32
                      have hji32u : (IntKind.u64.wrap (2 ^ min x10_3.toNat 64)) = ji32 := by have h_ := hji32_; rw [Int.one_mul] at h_; exact h_
                      have hji32v : x10_3 ≤ 64 → (IntKind.u64.wrap (2 ^ x10_3.toNat)) = ji32 := fun hle_ => by have h_ := hji32z hle_; rw [Int.one_mul] at h_; exact h_
                      by_cases c33 : (Go.bits .and .u64 x9_3 (IntKind.u64.wrap ((ji32) - 1))) = 0
                      · rw [if_pos c33] at H
                        have c33b0 : ((Go.bits .and .u64 x9_3 (IntKind.u64.wrap ((ji32) - 1))) == 0) = true := beq_iff_eq.mpr c33
                        have c33b1 : ((Go.bits .and .u64 x9_3 (IntKind.u64.wrap ((ji32) - 1))) != 0) = false := bne_eq_false_iff_eq.mpr c33
                        clear c33
                        simp only [Option.some.injEq, Prod.mk.injEq] at H
                        obtain ⟨rfl, rfl, rfl⟩ := H
                        go_wp2
                        go_ret3
                        exact ⟨_, by first | rfl | (simp [errW_none, errW_some] <;> rfl) | (simp only [← hji32]; first | rfl | (simp [errW_none, errW_some] <;> rfl)) | (simp [*, errW_none, errW_some] <;> rfl), by (with_reducible repeat (first | apply Kd.R_alloc | apply Kd.R_drewN | apply Kd.R_drew)); exact HO_8.out, by repeat (first | (with_reducible first | exact HB.out | apply below_alloc | apply pw_below_drewN | apply below_drew1) | exact HB.out)⟩
                      · rw [if_neg c33] at H
                        have c33b0 : ((Go.bits .and .u64 x9_3 (IntKind.u64.wrap ((ji32) - 1))) == 0) = false := beq_eq_false_iff_ne.mpr c33
                        have c33b1 : ((Go.bits .and .u64 x9_3 (IntKind.u64.wrap ((ji32) - 1))) != 0) = true := bne_iff_ne.mpr c33
                        simp only [Option.some.injEq, Prod.mk.injEq] at H
                        obtain ⟨rfl, rfl, rfl⟩ := H
                        go_wp2
                        go_ret3
                        exact ⟨_, by first | rfl | (simp [errW_none, errW_some] <;> rfl) | (simp only [← hji32]; first | rfl | (simp [errW_none, errW_some] <;> rfl)) | (simp [*, errW_none, errW_some] <;> rfl), by first | exact Kd.R_nil _ _ _ _ _ | exact Kd.N_nil _ _ _ _ _ | exact Kd.V_nil _ _ _ _ _ | exact Kd.Q_nil _ _ _ _ _ | exact Kd.S_nil _ _ _ _ _, by repeat (first | (with_reducible first | exact HB.out | apply below_alloc | apply pw_below_drewN | apply below_drew1) | exact HB.out)⟩
                    · rw [if_neg c31] at H
                      exact absurd H (by simp)

end Go.Proofs.YtkbmbancfbfddaaGreatDoor.X
