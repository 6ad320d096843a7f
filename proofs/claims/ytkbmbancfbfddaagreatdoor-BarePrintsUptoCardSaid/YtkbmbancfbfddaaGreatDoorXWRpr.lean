/- The page's Print (pergolaref09.Print) at String and Display, over what its Check and pergolaref01.Hex do. -/
import Derived.Test.YtkbmbancfbfddaaGreatDoorXWBpr
namespace Go.Proofs.YtkbmbancfbfddaaGreatDoorW.PrintWords
open Go.RowKit
def FineR (a : Value) (w : World) : Prop := ∀ w' : World, Below w.heap.size w w' → Calls Tryz.prog 22 #[a] w' fun e w2 => e = .returned (.int .i64 0) ∧ Below w'.heap.size w' w2
abbrev OwnB (w : World) (B : Nat) (v : Value) (L : List Int) : Prop := w.ownsRow B 5 1 v L.length (nums .u8 L)
section
variable {ops : Array Oper} {rest : List Oper} {o : Oper} {a : Act} {Q : Exit → Act → World → Prop} {w0 W : World} {B : Nat}
theorem push_one (hgd : o.guard = none) (sl x : Operand) (ho : o.op = .call { callee := .builtin .append, args := #[sl, x], argTypes := #[59, 59] }) (v : Value) (L : List Int) (c : Int) (hs : a.eval sl = v) (hx : a.eval x = .slice (some ⟨W.heap.size, 0, none⟩) 1 1)
  (hown : OwnB W B v L) (HB : Below B w0 W) (hb : B ≤ W.heap.size) (hl : L.length + 1 ≤ 140737488355328)
  (h : ∀ v1 w1, OwnB w1 B v1 (L ++ [c]) → Below B w0 w1 → wpList Tryz.prog ops Q rest (a.put o.dst v1) w1) : wpList Tryz.prog ops Q (o :: rest) a (W.alloc (.cells #[.int .u8 c] 5)) := by
 obtain ⟨i0, hi, hz0, hz1, hz2⟩ := info_parts infoByte5
 refine wpList_append_own _ hgd sl x 59 ho B 5 i0 (.int .u8 0) 1 1 Tryz.underlying59 hi hz0 hz1 hz2 rfl (by decide) v _ _ hs (hown.alloc _) ⟨W.heap.size, 0, none⟩ 1 1 [.int .u8 c] hx rfl ?c1 ?c2 ?c3 ?c4 ?c5 ?_
 case c1 =>
  intro j u hj
  match j, hj with
  | 0, hj => simp at hj; subst hj; simp [Addr.add]
 case c2 => intro u hu; simp at hu; subst hu; rfl
 case c3 => unfold maxLen; omega
 case c4 => omega
 case c5 => simp; omega
 intro v' w2 hown' hgrow _
 refine h v' w2 ?_ ((HB.alloc hb _).grown hgrow (by simp; omega) (fun k hk => (hown.lt k hk).1))
 show w2.ownsRow B 5 1 v' (L ++ [c]).length (nums .u8 (L ++ [c]))
 rw [List.length_append, nums_append]
 exact hown'
theorem push_text (hgd : o.guard = none) (sl x : Operand) (ho : o.op = .call { callee := .builtin .append, args := #[sl, x], argTypes := #[59, 9] }) (v : Value) (L : List Int) (s : ByteArray) (hs : a.eval sl = v) (hx : a.eval x = .string s)
  (hown : OwnB W B v L) (HB : Below B w0 W) (hb : B ≤ W.heap.size) (hl : L.length + s.size ≤ 140737488355328)
  (h : ∀ v1 w1, OwnB w1 B v1 (L ++ bytesOf s) → Below B w0 w1 → wpList Tryz.prog ops Q rest (a.put o.dst v1) w1) : wpList Tryz.prog ops Q (o :: rest) a W := by
 obtain ⟨i0, hi, hz0, hz1, hz2⟩ := info_parts infoByte5
 refine Lib.wpList_append_own_string _ hgd sl x 59 9 ho B 5 i0 Tryz.underlying59 Tryz.underlying9 hi hz0 hz1 hz2 v _ _ hs hown s hx ?c3 ?c4 ?c5 ?_
 case c3 => unfold maxLen; omega
 case c4 => omega
 case c5 => omega
 intro v' w2 hown' hgrow _
 refine h v' w2 ?_ (HB.grown hgrow hb (fun k hk => (hown.lt k hk).1))
 have he : Lib.strCells s = nums .u8 (bytesOf s) := by simp [Lib.strCells, nums, bytesOf]
 show w2.ownsRow B 5 1 v' (L ++ bytesOf s).length (nums .u8 (L ++ bytesOf s))
 rw [List.length_append, nums_append, bytesOf_length, ← he]
 exact hown'
end
theorem own_below {w w1 : World} {B : Nat} {v : Value} {L : List Int} (h : OwnB w B v L) (hb : Below w.heap.size w w1) : OwnB w1 B v L := pw_own_below h hb
set_option maxHeartbeats 4000000 in
set_option maxRecDepth 100000 in
theorem rpr8 (n : Int) (s : ByteArray) (w : World) (hs : s.size ≤ 1000000000000) (HX : ∀ (c : Int) (A : Option Addr) (cc : Nat) (w : World), 0 ≤ c → c ≤ 255 → Kd.C (Kd.int .u8) w A 1 [c] → 1 ≤ cc → Calls Tryz.prog 63 #[.slice A 1 cc] w fun e w' => e = .returned (.string (strOfNums [hxd (c / 16), hxd (c % 16)])) ∧ Below w.heap.size w w')
  (HC : FineR (.agg #[.int .i64 8, .int .i64 n, .string s]) w) :
  Calls Tryz.prog 19 #[.agg #[.int .i64 8, .int .i64 n, .string s]] w fun e w' => e = .returned (.tuple #[.string ((⟨#[37]⟩ : ByteArray) ++ (((⟨#[34]⟩ : ByteArray) ++ strOfNums (pct (bytesOf s))) ++ ⟨#[34]⟩)), .int .i64 0]) ∧ Below w.heap.size w w' := by
 have HC0 := Aside0.mk HC
 have HS := Aside0.mk hs
 have HX0 := Aside0.mk HX
 obtain ⟨Y, hY⟩ : ∃ Y, Y = strOfNums (pct (bytesOf s)) := ⟨_, rfl⟩
 rw [← hY]
 have HY := Aside0.mk hY
 clear HC hs HX hY
 go_enter Tryz.func19, Tryz.ntmps19
 go_upto_region 1 with (fail)
 obtain ⟨hx1, hb1⟩ := alloc1 w (.cells #[.int .i64 8, .int .i64 n, .string s] 24)
 have HB1 := Aside0.mk hb1
 have c0 : (w.alloc (Obj.cells #[.int .i64 8, .int .i64 n, .string s] 24)).cell? ⟨w.heap.size, 0, none⟩ = some (.int .i64 8) := (blk_cell hx1 0).trans rfl
 have c1 : (w.alloc (Obj.cells #[.int .i64 8, .int .i64 n, .string s] 24)).cell? ⟨w.heap.size, 1, none⟩ = some (.int .i64 n) := (blk_cell hx1 1).trans rfl
 have c2 : (w.alloc (Obj.cells #[.int .i64 8, .int .i64 n, .string s] 24)).cell? ⟨w.heap.size, 2, none⟩ = some (.string s) := (blk_cell hx1 2).trans rfl
 clear hx1 hb1
 generalize w.alloc (Obj.cells #[.int .i64 8, .int .i64 n, .string s] 24) = w1 at *
 go_upto_region 17 with (first | (go_at_call 22; refine (HC0.out _ HB1.out).mono ?_; rintro e w2 ⟨rfl, hb2⟩; have HB2 := Aside0.mk (below_thenB HB1.out HB1.out.size hb2); have d0 := cell_more hb2 c0; have d1 := cell_more hb2 c1; have d2 := cell_more hb2 c2; clear hb2 c0 c1 c2 HB1))
 have HD2 := Aside0.mk d2
 have HD0 := Aside0.mk d0
 have HI := Aside0.mk (show OwnB w2 w2.heap.size (.slice none 0 0) [] from own_nil _ _ _ _)
 clear d0 d1 d2
 go_wp2
 go_loopg [5, 6] s.size (fun kq v5 v6 wr => ∃ i : Nat, i + kq = s.size ∧ v6 = .int .i64 (i : Int) ∧ Aside0 (OwnB wr w2.heap.size v5 (pct ((bytesOf s).take i))) ∧ Aside0 (Below w2.heap.size w2 wr))
 case atStart => exact ⟨0, by omega, rfl, HI, ⟨Below.refl _ _⟩⟩
 case round =>
  obtain ⟨i, hik, rfl, HJ, HK⟩ := hrel
  have x2 := cell_more HK.out HD2.out
  have x0 := cell_more HK.out HD0.out
  have hs2 := HS.out
  by_cases hlt : i < s.size
  ·have hi : 0 ≤ (i : Int) ∧ (i : Int) < (s.size : Int) := ⟨by omega, by omega⟩
   have hw1 : IntKind.i64.wrap ((i : Int) + 1) = ((i + 1 : Nat) : Int) := by rw [wrap_small _ (by omega) (by omega)]; omega
   have hbt : bt s (i : Int) = ((s[i]'hlt).toNat : Int) := by
    unfold bt
    rw [dif_pos (by rw [Int.toNat_natCast]; exact hlt)]
    simp only [Int.toNat_natCast]
   have hbn : ((s[i]'hlt).toNat : Int) ≤ 255 := by have := (s[i]'hlt).toNat_lt; omega
   have hmo : pct ((bytesOf s).take (i + 1)) = pct ((bytesOf s).take i) ++ pctC ((s[i]'hlt).toNat : Int) := by
    rw [take_more s i hlt, pct_append, hbt]
    simp [pct]
   have hln := pct_le ((bytesOf s).take i)
   rw [List.length_take, bytesOf_length] at hln
   clear hbt
   by_cases hb : ((s[i]'hlt).toNat : Int) < 32 ∨ ((s[i]'hlt).toNat : Int) > 126 ∨ ((s[i]'hlt).toNat : Int) = 37 ∨ ((s[i]'hlt).toNat : Int) = 34
   ·rw [show pctC ((s[i]'hlt).toNat : Int) = [37, hxd (((s[i]'hlt).toNat : Int) / 16), hxd (((s[i]'hlt).toNat : Int) % 16)] from if_pos hb] at hmo
    have hc0 : (0 : Int) ≤ ((s[i]'hlt).toNat : Int) := by omega
    have HT := Aside0.mk (three_range _ hc0 hbn)
    have HL := Aside0.mk hln
    have HM := Aside0.mk hmo
    have hways : (((s[i]'hlt).toNat : Int) < 32) ∨ (¬ (((s[i]'hlt).toNat : Int) < 32) ∧ ((s[i]'hlt).toNat : Int) > 126) ∨ (¬ (((s[i]'hlt).toNat : Int) < 32) ∧ ¬ ((s[i]'hlt).toNat : Int) > 126 ∧ (((s[i]'hlt).toNat : Int) == 37) = true) ∨ (¬ (((s[i]'hlt).toNat : Int) < 32) ∧ ¬ ((s[i]'hlt).toNat : Int) > 126 ∧ (((s[i]'hlt).toNat : Int) == 37) = false ∧ (((s[i]'hlt).toNat : Int) == 34) = true) := by
     simp only [beq_iff_eq, beq_eq_false_iff_ne, ne_eq]
     omega
    clear hb hln hmo
    rcases hways with k1 | ⟨k1, k2⟩ | ⟨k1, k2, k3⟩ | ⟨k1, k2, k3, k4⟩
    all_goals (
     go_upto_region 29 with (first
      | ((with_reducible refine gate_builtin (b := .append) (xs := #[.tmp 97, .tmp 98]) rfl ?_); refine push_one rfl _ _ rfl _ _ 37 rfl rfl HJ.out HK.out HK.out.size (by have := HL.out; have := HS.out; omega) ?_; intro v1 w4 ho4 hb4; have HJ4 := Aside0.mk ho4; have HK4 := Aside0.mk hb4; clear ho4 hb4))
     go_wp2_with (first
      | (go_at_call 63; refine (HX0.out _ _ _ _ hc0 hbn (one_lit _ _) (Nat.le_refl _)).mono ?_; rintro e w5 ⟨rfl, hb5⟩; have HJ5 := Aside0.mk (own_below (own_below HJ4.out (below_alloc (Below.refl _ _) _)) hb5); have HK5 := Aside0.mk (below_thenB (below_thenB HK4.out HK4.out.size (below_alloc (Below.refl _ _) _)) (Nat.le_trans HK4.out.size (below_alloc (Below.refl w4.heap.size w4) _).size) hb5); clear hb5)
      | ((with_reducible refine gate_builtin (b := .append) (xs := #[.tmp 100, .tmp 103]) rfl ?_); refine push_text rfl _ _ rfl _ _ _ rfl rfl HJ5.out HK5.out HK5.out.size (by rw [strOfNums_size, List.length_append]; show _ + 1 + 2 ≤ _; have := HL.out; have := HS.out; omega) ?_; intro v6 w6 ho6 hb6; have HJ6 := Aside0.mk ho6; have HK6 := Aside0.mk hb6; clear ho6 hb6))
     go_roundg (s.size - (i + 1))
     case measure => omega
     case rel =>
      refine ⟨i + 1, by omega, by first | rfl | simp, ⟨?_⟩, HK6⟩
      have hq := HJ6.out
      rw [List.append_assoc, bytesOf_str _ (fun x hx => HT.out x (List.mem_cons_of_mem _ hx))] at hq
      rw [HM.out]
      exact hq)
   ·rw [show pctC ((s[i]'hlt).toNat : Int) = [((s[i]'hlt).toNat : Int)] from if_neg hb] at hmo
    have HL := Aside0.mk hln
    have HM := Aside0.mk hmo
    have k1 : ¬ (((s[i]'hlt).toNat : Int) < 32) := by omega
    have k2 : ¬ ((s[i]'hlt).toNat : Int) > 126 := by omega
    have k3 : (((s[i]'hlt).toNat : Int) == 37) = false := by simp only [beq_eq_false_iff_ne, ne_eq]; omega
    have k4 : (((s[i]'hlt).toNat : Int) == 34) = false := by simp only [beq_eq_false_iff_ne, ne_eq]; omega
    clear hb hln hmo
    go_upto_region 22 with (fail)
    go_wp2_with (first
     | ((with_reducible refine gate_builtin (b := .append) (xs := #[.tmp 61, .tmp 63]) rfl ?_); refine push_one rfl _ _ rfl _ _ _ rfl rfl HJ.out HK.out HK.out.size (by have := HL.out; have := HS.out; omega) ?_; intro v6 w6 ho6 hb6; have HJ6 := Aside0.mk ho6; have HK6 := Aside0.mk hb6; clear ho6 hb6))
    go_roundg (s.size - (i + 1))
    case measure => omega
    case rel => exact ⟨i + 1, by omega, by first | rfl | simp, ⟨by rw [HM.out]; exact HJ6.out⟩, HK6⟩
  ·obtain rfl : i = s.size := by omega
   have hlt' : ¬ ((s.size : Int) < (s.size : Int)) := by omega
   rw [List.take_of_length_le (by rw [bytesOf_length]; exact Nat.le_refl _)] at HJ
   have hpl := pct_le (bytesOf s)
   rw [bytesOf_length] at hpl
   have hcv := own_string (P := Tryz.prog) Tryz.underlying59 Tryz.underlying5 Tryz.underlying9 HJ.out
   have hsz := strOfNums_size (pct (bytesOf s))
   rw [← HY.out] at hcv hsz
   have hz1 : (9223372036854775807 < (⟨#[34]⟩ : ByteArray).size + Y.size) = False := eq_false (by show ¬ (_ < 1 + _); omega)
   have hz2 : (9223372036854775807 < ((⟨#[34]⟩ : ByteArray) ++ Y).size + (⟨#[34]⟩ : ByteArray).size) = False := eq_false (by rw [ByteArray.size_append]; show ¬ (_ < 1 + _ + 1); omega)
   have hz3 : (9223372036854775807 < 1 + Y.size) = False := eq_false (by omega)
   have hz4 : (9223372036854775807 < 1 + Y.size + 1) = False := eq_false (by omega)
   have hz5 : (9223372036854775807 < (⟨#[37]⟩ : ByteArray).size + (((⟨#[34]⟩ : ByteArray) ++ Y) ++ ⟨#[34]⟩).size) = False := eq_false (by rw [ByteArray.size_append, ByteArray.size_append]; show ¬ (_ < 1 + (1 + _ + 1)); omega)
   have hz6 : (9223372036854775807 < 1 + (1 + Y.size + 1)) = False := eq_false (by omega)
   clear hsz hpl hs2
   go_wp2
   go_ret2
   exact ⟨rfl, below_thenB HB2.out HB2.out.size HK.out⟩
set_option maxHeartbeats 4000000 in
set_option maxRecDepth 100000 in
theorem rpr3 (n : Int) (s : ByteArray) (w : World) (hs : s.size ≤ 1000000000000)
  (HC : FineR (.agg #[.int .i64 3, .int .i64 n, .string s]) w) :
  Calls Tryz.prog 19 #[.agg #[.int .i64 3, .int .i64 n, .string s]] w fun e w' => e = .returned (.tuple #[.string (inQuotes s), .int .i64 0]) ∧ Below w.heap.size w w' := by
 have HC0 := Aside0.mk HC
 have HS := Aside0.mk hs
 obtain ⟨Y, hY⟩ : ∃ Y, Y = strOfNums (esc (bytesOf s)) := ⟨_, rfl⟩
 unfold inQuotes
 rw [← hY]
 have HY := Aside0.mk hY
 clear HC hs hY
 go_enter Tryz.func19, Tryz.ntmps19
 go_upto_region 1 with (fail)
 obtain ⟨hx1, hb1⟩ := alloc1 w (.cells #[.int .i64 3, .int .i64 n, .string s] 24)
 have HB1 := Aside0.mk hb1
 have c0 : (w.alloc (Obj.cells #[.int .i64 3, .int .i64 n, .string s] 24)).cell? ⟨w.heap.size, 0, none⟩ = some (.int .i64 3) := (blk_cell hx1 0).trans rfl
 have c1 : (w.alloc (Obj.cells #[.int .i64 3, .int .i64 n, .string s] 24)).cell? ⟨w.heap.size, 1, none⟩ = some (.int .i64 n) := (blk_cell hx1 1).trans rfl
 have c2 : (w.alloc (Obj.cells #[.int .i64 3, .int .i64 n, .string s] 24)).cell? ⟨w.heap.size, 2, none⟩ = some (.string s) := (blk_cell hx1 2).trans rfl
 clear hx1 hb1
 generalize w.alloc (Obj.cells #[.int .i64 3, .int .i64 n, .string s] 24) = w1 at *
 go_upto_region 17 with (first | (go_at_call 22; refine (HC0.out _ HB1.out).mono ?_; rintro e w2 ⟨rfl, hb2⟩; have HB2 := Aside0.mk (below_thenB HB1.out HB1.out.size hb2); have d0 := cell_more hb2 c0; have d1 := cell_more hb2 c1; have d2 := cell_more hb2 c2; clear hb2 c0 c1 c2 HB1))
 have HD2 := Aside0.mk d2
 have HD0 := Aside0.mk d0
 have HI := Aside0.mk (show OwnB w2 w2.heap.size (.slice none 0 0) [] from own_nil _ _ _ _)
 clear d0 d1 d2
 go_wp2
 go_loopg [5, 6] s.size (fun kq v5 v6 wr => ∃ i : Nat, i + kq = s.size ∧ v6 = .int .i64 (i : Int) ∧ Aside0 (OwnB wr w2.heap.size v5 (esc ((bytesOf s).take i))) ∧ Aside0 (Below w2.heap.size w2 wr))
 case atStart => exact ⟨0, by omega, rfl, HI, ⟨Below.refl _ _⟩⟩
 case round =>
  obtain ⟨i, hik, rfl, HJ, HK⟩ := hrel
  have x2 := cell_more HK.out HD2.out
  have x0 := cell_more HK.out HD0.out
  have hs2 := HS.out
  by_cases hlt : i < s.size
  ·have hi : 0 ≤ (i : Int) ∧ (i : Int) < (s.size : Int) := ⟨by omega, by omega⟩
   have hw1 : IntKind.i64.wrap ((i : Int) + 1) = ((i + 1 : Nat) : Int) := by rw [wrap_small _ (by omega) (by omega)]; omega
   have hbt : bt s (i : Int) = ((s[i]'hlt).toNat : Int) := by
    unfold bt
    rw [dif_pos (by rw [Int.toNat_natCast]; exact hlt)]
    simp only [Int.toNat_natCast]
   have hbn : ((s[i]'hlt).toNat : Int) ≤ 255 := by have := (s[i]'hlt).toNat_lt; omega
   have hmo : esc ((bytesOf s).take (i + 1)) = esc ((bytesOf s).take i) ++ (if ((s[i]'hlt).toNat : Int) = 34 ∨ ((s[i]'hlt).toNat : Int) = 92 then [92, ((s[i]'hlt).toNat : Int)] else [((s[i]'hlt).toNat : Int)]) := by
    rw [take_more s i hlt, esc_append, hbt]
    simp only [esc]
   have hln : (esc ((bytesOf s).take i)).length ≤ 2 * s.size := by
    have h1 := esc_length ((bytesOf s).take i)
    have h2 := escN_le ((bytesOf s).take i)
    have h3 : ((bytesOf s).take i).length ≤ s.size := by rw [List.length_take, bytesOf_length]; omega
    omega
   clear hbt
   by_cases hb : ((s[i]'hlt).toNat : Int) = 34 ∨ ((s[i]'hlt).toNat : Int) = 92
   ·rw [if_pos hb] at hmo
    have HL := Aside0.mk hln
    have HM := Aside0.mk hmo
    have hways : (((s[i]'hlt).toNat : Int) == 34) = true ∨ ((((s[i]'hlt).toNat : Int) == 34) = false ∧ (((s[i]'hlt).toNat : Int) == 92) = true) := by
     simp only [beq_iff_eq, beq_eq_false_iff_ne, ne_eq]
     omega
    clear hb hln hmo
    rcases hways with k3 | ⟨k3, k4⟩
    all_goals (
     go_upto_region 26 with (first
      | ((with_reducible refine gate_builtin (b := .append) (xs := #[.tmp 75, .tmp 76]) rfl ?_); refine push_one rfl _ _ rfl _ _ 92 rfl rfl HJ.out HK.out HK.out.size (by have := HL.out; have := HS.out; omega) ?_; intro v1 w4 ho4 hb4; have HJ4 := Aside0.mk ho4; have HK4 := Aside0.mk hb4; clear ho4 hb4))
     go_wp2_with (first
      | ((with_reducible refine gate_builtin (b := .append) (xs := #[.tmp 78, .tmp 80]) rfl ?_); refine push_one rfl _ _ rfl _ _ _ rfl rfl HJ4.out HK4.out HK4.out.size (by rw [List.length_append]; show _ + 1 + 1 ≤ _; have := HL.out; have := HS.out; omega) ?_; intro v6 w6 ho6 hb6; have HJ6 := Aside0.mk ho6; have HK6 := Aside0.mk hb6; clear ho6 hb6))
     go_roundg (s.size - (i + 1))
     case measure => omega
     case rel =>
      refine ⟨i + 1, by omega, by first | rfl | simp, ⟨?_⟩, HK6⟩
      have hq := HJ6.out
      rw [List.append_assoc] at hq
      rw [HM.out]
      exact hq)
   ·rw [if_neg hb] at hmo
    have HL := Aside0.mk hln
    have HM := Aside0.mk hmo
    have k3 : (((s[i]'hlt).toNat : Int) == 34) = false := by simp only [beq_eq_false_iff_ne, ne_eq]; omega
    have k4 : (((s[i]'hlt).toNat : Int) == 92) = false := by simp only [beq_eq_false_iff_ne, ne_eq]; omega
    clear hb hln hmo
    go_upto_region 26 with (fail)
    go_wp2_with (first
     | ((with_reducible refine gate_builtin (b := .append) (xs := #[.tmp 78, .tmp 80]) rfl ?_); refine push_one rfl _ _ rfl _ _ _ rfl rfl HJ.out HK.out HK.out.size (by have := HL.out; have := HS.out; omega) ?_; intro v6 w6 ho6 hb6; have HJ6 := Aside0.mk ho6; have HK6 := Aside0.mk hb6; clear ho6 hb6))
    go_roundg (s.size - (i + 1))
    case measure => omega
    case rel => exact ⟨i + 1, by omega, by first | rfl | simp, ⟨by rw [HM.out]; exact HJ6.out⟩, HK6⟩
  ·obtain rfl : i = s.size := by omega
   have hlt' : ¬ ((s.size : Int) < (s.size : Int)) := by omega
   rw [List.take_of_length_le (by rw [bytesOf_length]; exact Nat.le_refl _)] at HJ
   have hpl := esc_size s
   have hcv := own_string (P := Tryz.prog) Tryz.underlying59 Tryz.underlying5 Tryz.underlying9 HJ.out
   rw [← HY.out] at hcv hpl
   have hz1 : (9223372036854775807 < (⟨#[34]⟩ : ByteArray).size + Y.size) = False := eq_false (by show ¬ (_ < 1 + _); omega)
   have hz2 : (9223372036854775807 < ((⟨#[34]⟩ : ByteArray) ++ Y).size + (⟨#[34]⟩ : ByteArray).size) = False := eq_false (by rw [ByteArray.size_append]; show ¬ (_ < 1 + _ + 1); omega)
   have hz3 : (9223372036854775807 < 1 + Y.size) = False := eq_false (by omega)
   have hz4 : (9223372036854775807 < 1 + Y.size + 1) = False := eq_false (by omega)
   clear hpl hs2
   go_wp2
   go_ret2
   exact ⟨rfl, below_thenB HB2.out HB2.out.size HK.out⟩
end Go.Proofs.YtkbmbancfbfddaaGreatDoorW.PrintWords
