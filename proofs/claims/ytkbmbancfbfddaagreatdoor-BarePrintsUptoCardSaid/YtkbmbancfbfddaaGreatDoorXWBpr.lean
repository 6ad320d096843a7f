/- bare.Print at the kinds String, Bytes and Display, over what bare.Check, octets.Base64 and octets.Hex do. -/
import Derived.Test.YtkbmbancfbfddaaGreatDoorXWRead
import Derived.Test.YtkbmbancfbfddaaGreatDoorXWRplc
import Derived.Test.YtkbmbancfbfddaaGreatDoorXWBld
import Derived.Deep.RegionHeldLaw
namespace Go.Proofs.YtkbmbancfbfddaaGreatDoorW.PrintWords
open Go.RowKit
def Fine (a : Value) (w : World) : Prop := ∀ w' : World, Below w.heap.size w w' → Calls Tryz.prog 13 #[a] w' fun e w2 => e = .returned (.int .i64 0) ∧ Below w'.heap.size w' w2
def inQuotes (s : ByteArray) : ByteArray := ((⟨#[34]⟩ : ByteArray) ++ strOfNums (esc (bytesOf s))) ++ ⟨#[34]⟩
theorem rpl_lit (w : World) : Kd.C Kd.string (w.alloc (.cells #[.string ⟨#[34]⟩, .string ⟨#[92, 34]⟩, .string ⟨#[92]⟩, .string ⟨#[92, 92]⟩] 9)) (some ⟨w.heap.size, 0, none⟩) 4 rplTexts := by
 have h := heap_alloc_new w (.cells #[.string ⟨#[34]⟩, .string ⟨#[92, 34]⟩, .string ⟨#[92]⟩, .string ⟨#[92, 92]⟩] 9)
 refine Kd.C_of_reads (enc := Value.string) (d := ⟨#[]⟩) (h1 := fun _ => rfl) ⟨rfl, by decide, fun _ => ⟨_, rfl, fun j hj => ?_⟩⟩
 rw [add_plain, blk_cell h]
 match j, hj with
 | 0, _ => rfl
 | 1, _ => rfl
 | 2, _ => rfl
 | 3, _ => rfl
theorem rpl_litd (w : World) : Kd.C Kd.string (w.alloc (.cells #[.string ⟨#[34]⟩, .string ⟨#[92, 34]⟩, .string ⟨#[92]⟩, .string ⟨#[92, 92]⟩] 9)).drew (some ⟨w.heap.size, 0, none⟩) 4 rplTexts := Kd.C_below (rpl_lit w) (below_drew1 (Below.refl _ _))
theorem lit_below {w w4 : World} {o : Obj} (h : Below (w.alloc o).drew.heap.size (w.alloc o).drew w4) : Below w.heap.size w w4 :=
 below_thenB (drew_below (below_alloc (Below.refl _ _) o)) (drew_below (below_alloc (Below.refl w.heap.size w) o)).size h
theorem lit_le {w : World} {o : Obj} {b : Nat} (h : (w.alloc o).drew.heap.size ≤ b) : w.heap.size ≤ b := Nat.le_trans (drew_below (below_alloc (Below.refl w.heap.size w) o)).size h
theorem esc_size (s : ByteArray) : (strOfNums (esc (bytesOf s))).size ≤ 2 * s.size := by
 rw [strOfNums_size, esc_length, bytesOf_length]
 have := escN_le (bytesOf s)
 rw [bytesOf_length] at this
 omega
set_option maxHeartbeats 4000000 in
set_option maxRecDepth 100000 in
theorem bpr3 (n : Int) (s : ByteArray) (w : World) (hs : s.size ≤ 1000000000000) (HC : Fine (.agg #[.int .i64 3, .int .i64 n, .string s]) w) :
  Calls Tryz.prog 10 #[.agg #[.int .i64 3, .int .i64 n, .string s]] w fun e w' => e = .returned (.tuple #[.string (inQuotes s), .int .i64 0]) ∧ Below w.heap.size w w' := by
 have HC0 := Aside0.mk HC
 have HS := Aside0.mk hs
 have hz := esc_size s
 have HR0 := Aside0.mk (fun base b v w h1 h2 => replace_whole base b v s w hs h1 h2)
 unfold inQuotes
 generalize strOfNums (esc (bytesOf s)) = X at *
 have hz1 : (9223372036854775807 < (⟨#[34]⟩ : ByteArray).size + X.size) = False := eq_false (Nat.not_lt.2 (by show 1 + _ ≤ _; omega))
 have hz2 : (9223372036854775807 < ((⟨#[34]⟩ : ByteArray) ++ X).size + (⟨#[34]⟩ : ByteArray).size) = False := eq_false (Nat.not_lt.2 (by rw [ByteArray.size_append]; show (1 + _) + 1 ≤ _; omega))
 have hz3 : (9223372036854775807 < 1 + X.size) = False := eq_false (Nat.not_lt.2 (by omega))
 have hz4 : (9223372036854775807 < 1 + X.size + 1) = False := eq_false (Nat.not_lt.2 (by omega))
 clear HC hs hz
 go_enter Tryz.func10, Tryz.ntmps10
 go_upto_region 1 with (fail)
 obtain ⟨hx1, hb1⟩ := alloc1 w (.cells #[.int .i64 3, .int .i64 n, .string s] 24)
 have HB1 := Aside0.mk hb1
 have c0 : (w.alloc (Obj.cells #[.int .i64 3, .int .i64 n, .string s] 24)).cell? ⟨w.heap.size, 0, none⟩ = some (.int .i64 3) := (blk_cell hx1 0).trans rfl
 have c1 : (w.alloc (Obj.cells #[.int .i64 3, .int .i64 n, .string s] 24)).cell? ⟨w.heap.size, 1, none⟩ = some (.int .i64 n) := (blk_cell hx1 1).trans rfl
 have c2 : (w.alloc (Obj.cells #[.int .i64 3, .int .i64 n, .string s] 24)).cell? ⟨w.heap.size, 2, none⟩ = some (.string s) := (blk_cell hx1 2).trans rfl
 clear hx1 hb1
 generalize w.alloc (Obj.cells #[.int .i64 3, .int .i64 n, .string s] 24) = w1 at *
 go_wp2_with (first | (go_at_call 13; refine (HC0.out _ HB1.out).mono ?_; rintro e w2 ⟨rfl, hb2⟩; have HB2 := Aside0.mk (below_then HB1.out HB1.out.size hb2); have d0 := cell_more hb2 c0; have d1 := cell_more hb2 c1; have d2 := cell_more hb2 c2; clear hb2 c0 c1 c2 HB1))
 go_region_held3 (fun w' => w'.cell? ⟨w.heap.size, 2, none⟩ = some (.string s)) (first | exact d2 | exact cell_more (below_alloc (Below.refl _ _) _) d2 | exact d4 | exact d5)
  (first
   | (go_at_call 27; refine (newReplacer_calls _ _ _ (rpl_litd _)).mono ?_; rintro e w4 ⟨b, v, rfl, hat, hr, hbb, hb4⟩; have d4 := cell_more hb4 (cell_more (drew_below (below_alloc (Below.refl _ _) _)) d2); have HA := Aside0.mk hat; have HR := Aside0.mk hr; have HBB := Aside0.mk hbb; have HB4 := Aside0.mk (lit_below hb4); have HBE := Aside0.mk (lit_le hbb); clear hat hr hbb hb4)
   | (go_at_call 28; refine (HR0.out _ b v w4 HA.out HR.out).mono ?_; rintro e w5 ⟨rfl, hb5⟩; have HB5 := Aside0.mk (hb5 _ _ HB4.out HBE.out HB4.out.size); have d5 := cell_more HB5.out d2; clear hb5))
 go_wp2
 go_ret2
 exact ⟨rfl, below_thenB HB2.out HB2.out.size HB5.out⟩
set_option maxHeartbeats 4000000 in
set_option maxRecDepth 100000 in
theorem bpr5 (n : Int) (s X : ByteArray) (w : World) (hs : s.size ≤ 1000000000000) (hX : X.size ≤ 4000000000000) (HX : ∀ (A : Option Addr) (c : Nat) (w : World), Kd.C (Kd.int .u8) w A (bytesOf s).length (bytesOf s) → (bytesOf s).length ≤ c → Calls Tryz.prog 29 #[.slice A (bytesOf s).length c] w fun e w' => e = .returned (.string X) ∧ Below w.heap.size w w') (HC : Fine (.agg #[.int .i64 5, .int .i64 n, .string s]) w) :
  Calls Tryz.prog 10 #[.agg #[.int .i64 5, .int .i64 n, .string s]] w fun e w' => e = .returned (.tuple #[.string (((⟨#[58]⟩ : ByteArray) ++ X) ++ ⟨#[58]⟩), .int .i64 0]) ∧ Below w.heap.size w w' := by
 have HC0 := Aside0.mk HC
 have HS := Aside0.mk hs
 have HX0 := Aside0.mk HX
 have hz1 : (9223372036854775807 < (⟨#[58]⟩ : ByteArray).size + X.size) = False := eq_false (Nat.not_lt.2 (by show 1 + _ ≤ _; omega))
 have hz2 : (9223372036854775807 < ((⟨#[58]⟩ : ByteArray) ++ X).size + (⟨#[58]⟩ : ByteArray).size) = False := eq_false (Nat.not_lt.2 (by rw [ByteArray.size_append]; show (1 + _) + 1 ≤ _; omega))
 have hz3 : (9223372036854775807 < 1 + X.size) = False := eq_false (Nat.not_lt.2 (by omega))
 have hz4 : (9223372036854775807 < 1 + X.size + 1) = False := eq_false (Nat.not_lt.2 (by omega))
 clear HC hs hX HX
 go_enter Tryz.func10, Tryz.ntmps10
 go_upto_region 1 with (fail)
 obtain ⟨hx1, hb1⟩ := alloc1 w (.cells #[.int .i64 5, .int .i64 n, .string s] 24)
 have HB1 := Aside0.mk hb1
 have c0 : (w.alloc (Obj.cells #[.int .i64 5, .int .i64 n, .string s] 24)).cell? ⟨w.heap.size, 0, none⟩ = some (.int .i64 5) := (blk_cell hx1 0).trans rfl
 have c1 : (w.alloc (Obj.cells #[.int .i64 5, .int .i64 n, .string s] 24)).cell? ⟨w.heap.size, 1, none⟩ = some (.int .i64 n) := (blk_cell hx1 1).trans rfl
 have c2 : (w.alloc (Obj.cells #[.int .i64 5, .int .i64 n, .string s] 24)).cell? ⟨w.heap.size, 2, none⟩ = some (.string s) := (blk_cell hx1 2).trans rfl
 clear hx1 hb1
 generalize w.alloc (Obj.cells #[.int .i64 5, .int .i64 n, .string s] 24) = w1 at *
 go_wp2_with (first | (go_at_call 13; refine (HC0.out _ HB1.out).mono ?_; rintro e w2 ⟨rfl, hb2⟩; have HB2 := Aside0.mk (below_then HB1.out HB1.out.size hb2); have d0 := cell_more hb2 c0; have d1 := cell_more hb2 c1; have d2 := cell_more hb2 c2; clear hb2 c0 c1 c2 HB1) | ((with_reducible refine gate_dst (N := 38) rfl ?_); refine Kd.V_bytes (w0 := w) w.heap.size 5 rfl (N := 38) rfl 9 59 _ rfl s rfl Tryz.underlying9 Tryz.underlying59 Tryz.underlying5 (ok := fun _ => True) trivial (Nat.le_trans HS.out (by decide)) HB2.out HB2.out.size ?_; rintro v3 w3 ⟨A3, c3, rfl, hl3, hF3⟩ hb3 hg hat; have HL3 := Aside0.mk hl3; have HV := Aside0.mk (Kd.F_now hF3); have HB3 := Aside0.mk hb3; clear hl3 hF3 hb3 hg hat d0 d1 d2) | (go_at_call 29; refine (HX0.out _ _ _ HV.out HL3.out).mono ?_; rintro e w4 ⟨rfl, hb4⟩; have HB4 := Aside0.mk (below_thenB HB3.out HB3.out.size hb4); clear hb4))
 go_ret2
 exact ⟨rfl, HB4.out⟩
def hxd (q : Int) : Int := if q < 10 then 48 + q else 87 + q
def pctC (c : Int) : List Int := if c < 32 ∨ c > 126 ∨ c = 37 ∨ c = 34 then [37, hxd (c / 16), hxd (c % 16)] else [c]
def pct (l : List Int) : List Int := l.flatMap pctC
theorem pct_append (l m : List Int) : pct (l ++ m) = pct l ++ pct m := List.flatMap_append
theorem pctC_le (c : Int) : (pctC c).length ≤ 3 := by unfold pctC; split <;> simp
theorem pct_le (l : List Int) : (pct l).length ≤ 3 * l.length := by
 induction l with
 | nil => simp [pct]
 | cons c l ih =>
  have h1 : pct (c :: l) = pctC c ++ pct l := rfl
  have := pctC_le c
  rw [h1, List.length_append, List.length_cons]
  omega
def cellsOf (l : List Int) : List Value := Lib.byteCells (strOfNums l).data.toList
theorem cellsOf_length (l : List Int) : (cellsOf l).length = l.length := by
 unfold cellsOf
 rw [Lib.byteCells_length, Array.length_toList]
 exact strOfNums_size l
theorem cellsOf_text (l : List Int) (s : ByteArray) : cellsOf l ++ Lib.strCells s = cellsOf (l ++ bytesOf s) := by
 unfold cellsOf
 rw [Lib.strCells_eq, strOfNums_data, strOfNums_data, List.map_append]
 unfold Lib.byteCells bytesOf
 rw [List.map_append, List.map_map, List.map_map, List.map_map]
 congr 1
 refine List.map_congr_left fun b _ => ?_
 simp
theorem cellsOf_byte (l : List Int) (c : Int) (h0 : 0 ≤ c) (h1 : c ≤ 255) : cellsOf l ++ [.int .u8 c] = cellsOf (l ++ [c]) := by
 unfold cellsOf
 rw [strOfNums_data, strOfNums_data, List.map_append]
 unfold Lib.byteCells
 rw [List.map_append]
 congr 1
 obtain ⟨n, rfl⟩ := Int.eq_ofNat_of_zero_le h0
 simp
 omega
theorem bytesOf_str (l : List Int) (h : ∀ x ∈ l, 0 ≤ x ∧ x ≤ 255) : bytesOf (strOfNums l) = l := by
 unfold bytesOf
 rw [strOfNums_data, List.map_map]
 rw [List.map_congr_left (g := id) (fun x hx => ?_), List.map_id]
 have := h x hx
 obtain ⟨n, rfl⟩ := Int.eq_ofNat_of_zero_le this.1
 simp
 omega
theorem one_lit (c : Int) (w : World) : Kd.C (Kd.int .u8) (w.alloc (.cells #[.int .u8 c] 5)) (some ⟨w.heap.size, 0, none⟩) 1 [c] := by
 have h := heap_alloc_new w (.cells #[.int .u8 c] 5)
 refine Kd.C_of_reads (enc := Value.int .u8) (d := 0) (h1 := fun _ => rfl) ⟨rfl, by decide, fun _ => ⟨_, rfl, fun j hj => ?_⟩⟩
 rw [add_plain, blk_cell h]
 match j, hj with
 | 0, _ => rfl
theorem bld_below {B b : Nat} {bs : List Value} {w w1 : World} (h : Lib.IsBuilder 62 5 B b bs w) (hb : Below w.heap.size w w1) : Lib.IsBuilder 62 5 B b bs w1 := by
 rcases h with ⟨hB, v, h1, h2, h3⟩ | ⟨hB, v, h1, h2, h3⟩
 ·exact .inl ⟨hB, v, (hb.block b (blk_lt h1)).trans h1, pw_own_below h2 hb, h3⟩
 ·exact .inr ⟨hB, v, (hb.block b (blk_lt h1)).trans h1, pw_own_below h2 hb, h3⟩
theorem bld_str (B b : Nat) (X : List Int) (w : World) (h : Lib.IsBuilder 62 5 B b (cellsOf X) w) (hB : B ≤ w.heap.size) :
  Calls Tryz.prog 33 #[.pointer (some ⟨b, 0, none⟩)] w fun e w' => e = .returned (.string (strOfNums X)) ∧ Below B w w' :=
 (Tryz.Builder_String_any B b (strOfNums X).data.toList w h hB).mono fun e w' ⟨he, hb⟩ => ⟨by rw [he, Array.toArray_toList], hb⟩
theorem str_two (a b : Int) : (⟨#[37]⟩ : ByteArray) ++ strOfNums [a, b] = strOfNums [37, a, b] := rfl
theorem hxd_range (q : Int) (h0 : 0 ≤ q) (h1 : q ≤ 15) : 0 ≤ hxd q ∧ hxd q ≤ 255 := by unfold hxd; split <;> omega
theorem three_range (c : Int) (h0 : 0 ≤ c) (h1 : c ≤ 255) : ∀ x ∈ [37, hxd (c / 16), hxd (c % 16)], 0 ≤ x ∧ x ≤ 255 := by
 intro x hx
 simp only [List.mem_cons, List.not_mem_nil, or_false] at hx
 rcases hx with rfl | rfl | rfl
 ·omega
 ·exact hxd_range _ (by omega) (by omega)
 ·exact hxd_range _ (by omega) (by omega)
set_option maxHeartbeats 4000000 in
set_option maxRecDepth 100000 in
theorem bpr8 (n : Int) (s : ByteArray) (w : World) (hs : s.size ≤ 1000000000000) (HX : ∀ (c : Int) (A : Option Addr) (cc : Nat) (w : World), 0 ≤ c → c ≤ 255 → Kd.C (Kd.int .u8) w A 1 [c] → 1 ≤ cc → Calls Tryz.prog 31 #[.slice A 1 cc] w fun e w' => e = .returned (.string (strOfNums [hxd (c / 16), hxd (c % 16)])) ∧ Below w.heap.size w w')
  (HC : Fine (.agg #[.int .i64 8, .int .i64 n, .string s]) w) :
  Calls Tryz.prog 10 #[.agg #[.int .i64 8, .int .i64 n, .string s]] w fun e w' => e = .returned (.tuple #[.string (((⟨#[37, 34]⟩ : ByteArray) ++ strOfNums (pct (bytesOf s))) ++ ⟨#[34]⟩), .int .i64 0]) ∧ Below w.heap.size w w' := by
 have HC0 := Aside0.mk HC
 have HS := Aside0.mk hs
 have HX0 := Aside0.mk HX
 obtain ⟨Y, hY⟩ : ∃ Y, Y = strOfNums (pct (bytesOf s)) := ⟨_, rfl⟩
 rw [← hY]
 have HY := Aside0.mk hY
 clear HC hs HX hY
 go_enter Tryz.func10, Tryz.ntmps10
 go_upto_region 1 with (fail)
 obtain ⟨hx1, hb1⟩ := alloc1 w (.cells #[.int .i64 8, .int .i64 n, .string s] 24)
 have HB1 := Aside0.mk hb1
 have c0 : (w.alloc (Obj.cells #[.int .i64 8, .int .i64 n, .string s] 24)).cell? ⟨w.heap.size, 0, none⟩ = some (.int .i64 8) := (blk_cell hx1 0).trans rfl
 have c1 : (w.alloc (Obj.cells #[.int .i64 8, .int .i64 n, .string s] 24)).cell? ⟨w.heap.size, 1, none⟩ = some (.int .i64 n) := (blk_cell hx1 1).trans rfl
 have c2 : (w.alloc (Obj.cells #[.int .i64 8, .int .i64 n, .string s] 24)).cell? ⟨w.heap.size, 2, none⟩ = some (.string s) := (blk_cell hx1 2).trans rfl
 clear hx1 hb1
 generalize w.alloc (Obj.cells #[.int .i64 8, .int .i64 n, .string s] 24) = w1 at *
 go_upto_region 19 with (first | (go_at_call 13; refine (HC0.out _ HB1.out).mono ?_; rintro e w2 ⟨rfl, hb2⟩; have HB2 := Aside0.mk (below_thenB HB1.out HB1.out.size hb2); have d0 := cell_more hb2 c0; have d1 := cell_more hb2 c1; have d2 := cell_more hb2 c2; clear hb2 c0 c1 c2 HB1))
 have HI := Aside0.mk (Lib.fresh_isBuilder 62 5 w2)
 have HW := Aside0.mk (below_alloc (Below.refl w2.heap.size w2) (Obj.cells #[Value.pointer none, Value.slice none 0 0] 62))
 generalize w2.alloc (Obj.cells #[Value.pointer none, Value.slice none 0 0] 62) = w3 at *
 have HD2 := Aside0.mk d2
 have e2 := cell_more HW.out d2
 clear d0 d1 d2
 go_wp2
 go_loopg [59] s.size (fun kq v59 wr => ∃ i : Nat, i + kq = s.size ∧ v59 = .int .i64 (i : Int) ∧ Aside0 (Lib.IsBuilder 62 5 w2.heap.size w2.heap.size (cellsOf (pct ((bytesOf s).take i))) wr) ∧ Aside0 (Below w2.heap.size w2 wr))
 case atStart => exact ⟨0, by omega, rfl, ⟨by simpa [pct, cellsOf, strOfNums, Lib.byteCells] using HI.out⟩, HW⟩
 case round =>
  obtain ⟨i, hik, rfl, HJ, HK⟩ := hrel
  have x2 := cell_more HK.out HD2.out
  have hs2 := HS.out
  by_cases hlt : i < s.size
  ·have hi : 0 ≤ (i : Int) ∧ (i : Int) < (s.size : Int) := ⟨by omega, by omega⟩
   have hw1 : IntKind.i64.wrap ((i : Int) + 1) = ((i + 1 : Nat) : Int) := by rw [wrap_small _ (by omega) (by omega)]; omega
   have hbt : bt s (i : Int) = ((s[i]'hlt).toNat : Int) := by
    unfold bt
    rw [dif_pos (by rw [Int.toNat_natCast]; exact hlt)]
    simp only [Int.toNat_natCast]
   have hbn : ((s[i]'hlt).toNat : Int) ≤ 255 := by have := (s[i]'hlt).toNat_lt; omega
   have hmo : pct ((bytesOf s).take (i + 1)) = pct ((bytesOf s).take i) ++ pctC ((s[i]'hlt).toNat : Int) := by
    rw [take_more s i hlt, pct_append, hbt]
    simp [pct]
   have hln := pct_le ((bytesOf s).take i)
   rw [List.length_take, bytesOf_length] at hln
   clear hbt
   by_cases hb : ((s[i]'hlt).toNat : Int) < 32 ∨ ((s[i]'hlt).toNat : Int) > 126 ∨ ((s[i]'hlt).toNat : Int) = 37 ∨ ((s[i]'hlt).toNat : Int) = 34
   ·rw [show pctC ((s[i]'hlt).toNat : Int) = [37, hxd (((s[i]'hlt).toNat : Int) / 16), hxd (((s[i]'hlt).toNat : Int) % 16)] from if_pos hb] at hmo
    have hc0 : (0 : Int) ≤ ((s[i]'hlt).toNat : Int) := by omega
    have HT := Aside0.mk (three_range _ hc0 hbn)
    have HL := Aside0.mk hln
    have HM := Aside0.mk hmo
    have hsz : (9223372036854775807 < (⟨#[37]⟩ : ByteArray).size + (strOfNums [hxd (((s[i]'hlt).toNat : Int) / 16), hxd (((s[i]'hlt).toNat : Int) % 16)]).size) = False := eq_false (by rw [strOfNums_size]; show ¬ (_ < 1 + 2); omega)
    have hways : (((s[i]'hlt).toNat : Int) < 32) ∨ (¬ (((s[i]'hlt).toNat : Int) < 32) ∧ ((s[i]'hlt).toNat : Int) > 126) ∨ (¬ (((s[i]'hlt).toNat : Int) < 32) ∧ ¬ ((s[i]'hlt).toNat : Int) > 126 ∧ (((s[i]'hlt).toNat : Int) == 37) = true) ∨ (¬ (((s[i]'hlt).toNat : Int) < 32) ∧ ¬ ((s[i]'hlt).toNat : Int) > 126 ∧ (((s[i]'hlt).toNat : Int) == 37) = false ∧ (((s[i]'hlt).toNat : Int) == 34) = true) := by
     simp only [beq_iff_eq, beq_eq_false_iff_ne, ne_eq]
     omega
    clear hb hln hmo
    rcases hways with k1 | ⟨k1, k2⟩ | ⟨k1, k2, k3⟩ | ⟨k1, k2, k3, k4⟩
    all_goals (
     go_upto_region 24 with (fail)
     go_wp2_with (first
      | (go_at_call 31; refine (HX0.out _ _ _ _ hc0 hbn (one_lit _ _) (Nat.le_refl _)).mono ?_; rintro e w5 ⟨rfl, hb5⟩; have HJ5 := Aside0.mk (bld_below (bld_below HJ.out (below_alloc (Below.refl _ _) _)) hb5); have HK5 := Aside0.mk (below_thenB (below_thenB HK.out HK.out.size (below_alloc (Below.refl _ _) _)) (Nat.le_trans HK.out.size (below_alloc (Below.refl wr.heap.size wr) _).size) hb5); clear hb5)
      | (go_at_call 30; refine (bld_text _ _ _ _ _ HJ5.out (by rw [cellsOf_length, str_two, strOfNums_size]; show _ + 3 ≤ _; have := HL.out; have := HS.out; omega) HK5.out.size).mono ?_; rintro e w6 ⟨rfl, hJ6, hb6⟩; have HJ6 := Aside0.mk hJ6; have HK6 := Aside0.mk (HK5.out.trans hb6); clear hJ6 hb6))
     go_roundg (s.size - (i + 1))
     case measure => omega
     case rel => exact ⟨i + 1, by omega, by simp, ⟨by rw [HM.out, ← bytesOf_str _ HT.out, ← str_two, ← cellsOf_text]; exact .inr HJ6.out⟩, HK6⟩)
   ·rw [show pctC ((s[i]'hlt).toNat : Int) = [((s[i]'hlt).toNat : Int)] from if_neg hb] at hmo
    have hc0 : (0 : Int) ≤ ((s[i]'hlt).toNat : Int) := by omega
    have HL := Aside0.mk hln
    have HM := Aside0.mk hmo
    have k1 : ¬ (((s[i]'hlt).toNat : Int) < 32) := by omega
    have k2 : ¬ ((s[i]'hlt).toNat : Int) > 126 := by omega
    have k3 : (((s[i]'hlt).toNat : Int) == 37) = false := by simp only [beq_eq_false_iff_ne, ne_eq]; omega
    have k4 : (((s[i]'hlt).toNat : Int) == 34) = false := by simp only [beq_eq_false_iff_ne, ne_eq]; omega
    clear hb hln hmo
    go_upto_region 25 with (fail)
    go_wp2_with (first
     | (go_at_call 32; refine (bld_byte _ _ _ _ _ HJ.out (by rw [cellsOf_length]; have := HL.out; have := HS.out; omega) HK.out.size).mono ?_; rintro e w6 ⟨rfl, hJ6, hb6⟩; have HJ6 := Aside0.mk hJ6; have HK6 := Aside0.mk (HK.out.trans hb6); clear hJ6 hb6))
    go_roundg (s.size - (i + 1))
    case measure => omega
    case rel => exact ⟨i + 1, by omega, by simp, ⟨by rw [HM.out, ← cellsOf_byte _ _ hc0 hbn]; exact .inr HJ6.out⟩, HK6⟩
  ·obtain rfl : i = s.size := by omega
   have hlt' : ¬ ((s.size : Int) < (s.size : Int)) := by omega
   rw [List.take_of_length_le (by rw [bytesOf_length]; exact Nat.le_refl _)] at HJ
   have hpl := pct_le (bytesOf s)
   rw [bytesOf_length] at hpl
   have HSt := Aside0.mk (bld_str _ _ _ wr HJ.out HK.out.size)
   have hsz := strOfNums_size (pct (bytesOf s))
   rw [← HY.out] at HSt hsz
   have hz1 : (9223372036854775807 < (⟨#[37, 34]⟩ : ByteArray).size + Y.size) = False := eq_false (by show ¬ (_ < 2 + _); omega)
   have hz2 : (9223372036854775807 < ((⟨#[37, 34]⟩ : ByteArray) ++ Y).size + (⟨#[34]⟩ : ByteArray).size) = False := eq_false (by rw [ByteArray.size_append]; show ¬ (_ < 2 + _ + 1); omega)
   have hz3 : (9223372036854775807 < 2 + Y.size) = False := eq_false (by omega)
   have hz4 : (9223372036854775807 < 2 + Y.size + 1) = False := eq_false (by omega)
   clear hsz hpl hs2
   go_wp2_with (first
    | (go_at_call 33; refine HSt.out.mono ?_; rintro e w6 ⟨rfl, hb6⟩; have HK6 := Aside0.mk (HK.out.trans hb6); clear hb6))
   go_ret2
   exact ⟨rfl, below_thenB HB2.out HB2.out.size HK6.out⟩
end Go.Proofs.YtkbmbancfbfddaaGreatDoorW.PrintWords
