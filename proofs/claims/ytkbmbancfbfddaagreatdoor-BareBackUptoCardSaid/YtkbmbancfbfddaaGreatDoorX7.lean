-- Written by wip/xprint.py for this seat
import Derived.Test.YtkbmbancfbfddaaGreatDoorX0
import Derived.Test.YtkbmbancfbfddaaGreatDoorX1
import Derived.Test.YtkbmbancfbfddaaGreatDoorX3
import Derived.Test.YtkbmbancfbfddaaGreatDoorX5
import Derived.Test.YtkbmbancfbfddaaGreatDoorX6
namespace Go.Proofs.YtkbmbancfbfddaaGreatDoor.X
open Go.RowKit Go.Proofs.YtkbmbancfbfddaaGreatDoorW.PrintWords Go.Proofs.YtkbmbancfbfddaaGreatDoorW.PrintLast Go.Proofs.YtkbmbancfbfddaaGreatDoorW.PrintMore
attribute [local go_sem] max2_int min2_int max_two min_two max_three min_three max_four min_four   -- for this text's walks alone
set_option linter.unusedVariables false
set_option linter.unusedSimpArgs false

attribute [local go_sem high] eqA24
noncomputable def pergolalaw09_BareBack.j0 : Nat → ByteArray → Int → Option (Bool)
 | 0, _, _ => none
 | k + 1, x1, x2 => (bare_Read.f x1 x2).bind fun bt176 => ((pergolalaw09_num.f bt176.2.2.2.2).bind fun t182 => (if t182 = 0 then ((bare_Print.f k bt176.1 bt176.2.1 bt176.2.2.1).bind fun bt183 => ((bare_Read.f bt183.1 0).bind fun bt185 => ((bare_Check.f k bt176.1 bt176.2.1 bt176.2.2.1).bind fun t191 => ((pergolalaw09_num.f t191).bind fun t192 => (if t192 = 0 then ((pergolalaw09_num.f bt183.2).bind fun t193 => (if t193 = 0 then ((pergolalaw09_num.f bt185.2.2.2.2).bind fun t194 => (if t194 = 0 then (if bt185.2.2.2.1 = (bt183.1.size : Int) then (if (bt185.1 == bt176.1 && (bt185.2.1 == bt176.2.1 && (bt185.2.2.1.toList == bt176.2.2.1.toList))) = true then (if bt176.2.2.2.1 > x2 then (some (decide (bt176.2.2.2.1 ≤ (x1.size : Int)))) else (some false)) else (some false)) else (some false)) else (some false))) else (some false))) else (some false)))))) else (if (bt176.1 == 0 && (bt176.2.1 == 0 && (bt176.2.2.1.toList == ([] : List UInt8)))) = true then (if x2 < 0 then (some true) else (if x2 > (x1.size : Int) then (some true) else (if bt176.2.2.2.1 ≥ x2 then (some (decide (bt176.2.2.2.1 ≤ (x1.size : Int)))) else (some false)))) else (some false))))
noncomputable def pergolalaw09_BareBack.f (k : Nat) (a0_0 : Int) (a0_1 : Int) (a0_2 : ByteArray) (a1 : ByteArray) (a2 : Int) : Option (Bool) := (pergolalaw09_alive.f k).bind fun t164 => (if t164 = true then ((bare_Print.f k a0_0 a0_1 a0_2).bind fun bt165 => ((pergolalaw09_num.f bt165.2).bind fun t167 => (if t167 = 0 then ((bare_Read.f bt165.1 0).bind fun bt168 => ((pergolalaw09_num.f bt168.2.2.2.2).bind fun t174 => (if t174 = 0 then (if bt168.2.2.2.1 = (bt165.1.size : Int) then (if (!(bt168.1 == a0_0) || (!(bt168.2.1 == a0_1) || (!(bt168.2.2.1.toList == a0_2.toList)))) = true then (some false) else (pergolalaw09_BareBack.j0 k a1 a2)) else (some false)) else (some false)))) else (if bt165.1.toList = ([] : List UInt8) then ((bare_Check.f k a0_0 a0_1 a0_2).bind fun t175 => (if bt165.2 = t175 then (pergolalaw09_BareBack.j0 k a1 a2) else (some false))) else (some false))))) else (some false))
set_option maxHeartbeats 8000000 in
set_option maxRecDepth 100000 in
theorem pergolalaw09_BareBack.calls (k : Nat) (a0_0 : Int) (a0_1 : Int) (a0_2 : ByteArray) (a1 : ByteArray) (a2 : Int) (r : Bool) (w : World) (hT_ : PowIs w) (hU_ : Utf8Is w) (h : pergolalaw09_BareBack.f k a0_0 a0_1 a0_2 a1 a2 = some true) :
  Calls Tryz.prog 3 #[.agg #[.int .i64 a0_0, .int .i64 a0_1, .string a0_2], .string a1, .int .i64 a2] w fun e w' => e = .returned (.bool true) ∧ Below w.heap.size w w' := by
 have HU0_ := Aside0.mk hU_
 clear hU_
 have HT0_ := Aside0.mk hT_
 clear hT_
 have hu24 := Tryz.underlying24
 have HB := Aside0.mk (Below.refl w.heap.size w)
 have H : ((pergolalaw09_alive.f k).bind fun t164 => (if t164 = true then ((bare_Print.f k a0_0 a0_1 a0_2).bind fun bt165 => ((pergolalaw09_num.f bt165.2).bind fun t167 => (if t167 = 0 then ((bare_Read.f bt165.1 0).bind fun bt168 => ((pergolalaw09_num.f bt168.2.2.2.2).bind fun t174 => (if t174 = 0 then (if bt168.2.2.2.1 = (bt165.1.size : Int) then (if (!(bt168.1 == a0_0) || (!(bt168.2.1 == a0_1) || (!(bt168.2.2.1.toList == a0_2.toList)))) = true then (some false) else (pergolalaw09_BareBack.j0 k a1 a2)) else (some false)) else (some false)))) else (if bt165.1.toList = ([] : List UInt8) then ((bare_Check.f k a0_0 a0_1 a0_2).bind fun t175 => (if bt165.2 = t175 then (pergolalaw09_BareBack.j0 k a1 a2) else (some false))) else (some false))))) else (some false))) = some true := h
 clear h
 replace H := Option.bind_eq_some_iff.mp H
 obtain ⟨t164, A40, H⟩ := H
 replace H : (if t164 = true then ((bare_Print.f k a0_0 a0_1 a0_2).bind fun bt165 => ((pergolalaw09_num.f bt165.2).bind fun t167 => (if t167 = 0 then ((bare_Read.f bt165.1 0).bind fun bt168 => ((pergolalaw09_num.f bt168.2.2.2.2).bind fun t174 => (if t174 = 0 then (if bt168.2.2.2.1 = (bt165.1.size : Int) then (if (!(bt168.1 == a0_0) || (!(bt168.2.1 == a0_1) || (!(bt168.2.2.1.toList == a0_2.toList)))) = true then (some false) else (pergolalaw09_BareBack.j0 k a1 a2)) else (some false)) else (some false)))) else (if bt165.1.toList = ([] : List UInt8) then ((bare_Check.f k a0_0 a0_1 a0_2).bind fun t175 => (if bt165.2 = t175 then (pergolalaw09_BareBack.j0 k a1 a2) else (some false))) else (some false))))) else (some false)) = some true := H
 have A4 := Aside0.mk A40
 clear A40
 by_cases c5 : t164 = true
 ·subst c5
  have H1 : ((bare_Print.f k a0_0 a0_1 a0_2).bind fun bt165 => ((pergolalaw09_num.f bt165.2).bind fun t167 => (if t167 = 0 then ((bare_Read.f bt165.1 0).bind fun bt168 => ((pergolalaw09_num.f bt168.2.2.2.2).bind fun t174 => (if t174 = 0 then (if bt168.2.2.2.1 = (bt165.1.size : Int) then (if (!(bt168.1 == a0_0) || (!(bt168.2.1 == a0_1) || (!(bt168.2.2.1.toList == a0_2.toList)))) = true then (some false) else (pergolalaw09_BareBack.j0 k a1 a2)) else (some false)) else (some false)))) else (if bt165.1.toList = ([] : List UInt8) then ((bare_Check.f k a0_0 a0_1 a0_2).bind fun t175 => (if bt165.2 = t175 then (pergolalaw09_BareBack.j0 k a1 a2) else (some false))) else (some false))))) = some true := by rw [if_pos rfl] at H; exact H
  clear H
  have H := H1
  clear H1
  replace H := Option.bind_eq_some_iff.mp H
  obtain ⟨⟨t165, t166⟩, A60, H⟩ := H
  replace H : ((pergolalaw09_num.f t166).bind fun t167 => (if t167 = 0 then ((bare_Read.f t165 0).bind fun bt168 => ((pergolalaw09_num.f bt168.2.2.2.2).bind fun t174 => (if t174 = 0 then (if bt168.2.2.2.1 = (t165.size : Int) then (if (!(bt168.1 == a0_0) || (!(bt168.2.1 == a0_1) || (!(bt168.2.2.1.toList == a0_2.toList)))) = true then (some false) else (pergolalaw09_BareBack.j0 k a1 a2)) else (some false)) else (some false)))) else (if t165.toList = ([] : List UInt8) then ((bare_Check.f k a0_0 a0_1 a0_2).bind fun t175 => (if t166 = t175 then (pergolalaw09_BareBack.j0 k a1 a2) else (some false))) else (some false)))) = some true := H
  have A6 := Aside0.mk A60
  clear A60
  replace H := Option.bind_eq_some_iff.mp H
  obtain ⟨t167, A70, H⟩ := H
  replace H : (if t167 = 0 then ((bare_Read.f t165 0).bind fun bt168 => ((pergolalaw09_num.f bt168.2.2.2.2).bind fun t174 => (if t174 = 0 then (if bt168.2.2.2.1 = (t165.size : Int) then (if (!(bt168.1 == a0_0) || (!(bt168.2.1 == a0_1) || (!(bt168.2.2.1.toList == a0_2.toList)))) = true then (some false) else (pergolalaw09_BareBack.j0 k a1 a2)) else (some false)) else (some false)))) else (if t165.toList = ([] : List UInt8) then ((bare_Check.f k a0_0 a0_1 a0_2).bind fun t175 => (if t166 = t175 then (pergolalaw09_BareBack.j0 k a1 a2) else (some false))) else (some false))) = some true := H
  have A7 := Aside0.mk A70
  clear A70
  have HC8 := Aside0.mk H
  clear H
  go_enter Tryz.func3, Tryz.ntmps3
  go_upto_if 29 with (first | ((with_reducible refine gate_dst (N := 3) rfl ?_); (try (refine gate_guard (by rfl) ?_; dsimp only)); refine box_event ?hg (N := 3) ?hd (cs := #[.int .i64 a0_0, .int .i64 a0_1, .string a0_2]) (t := 24) ?hr ?_; (case hd => rfl); (case hg => rfl); (case hr => first | (go_simp; done) | (go_simp; rfl)); intro gb163 hg w9 hbox hb; have n0_ := Aside0.mk (below_step (by repeat (first | (with_reducible first | exact HB.out | apply below_alloc | apply pw_below_drewN | apply below_drew1) | exact HB.out)) hb); have n1_ := Aside0.mk (hbox); have n2_ := Aside0.mk ((by rw [hg]; exact (below_size (by repeat (first | (with_reducible first | exact HB.out | apply below_alloc | apply pw_below_drewN | apply below_drew1) | exact HB.out))) : w.heap.size ≤ gb163)); have n3_ := Aside0.mk ((by rw [hg]; exact (below_size (by repeat (first | (with_reducible first | exact HB.out | apply below_alloc | apply pw_below_drewN | apply below_drew1) | exact HB.out))) : w.heap.size ≤ gb163)); clear HB; have HB := n0_; have BK163 := n1_; have GW163 := n2_; have GE163 := n3_; clear n0_ n1_ n2_ n3_; clear hb hbox hg) | ((with_reducible refine gate_callee (f := 9) rfl ?_); refine goesL_ (some 20) rfl rfl Tryz.func9 (by kernel_rfl) rfl #[] rfl (by (try simp only [List.map_toArray, List.map_cons, List.map_nil]); first | done | rfl | (simp only [List.length_drop, List.length_take]; rfl)) ?_; (with_reducible refine (pergolalaw09_alive.calls k  true _ ?tabT_ ?tabU_ A4.out).mono ?_); (case tabU_ => exact Utf8Is.below HU0_.out (by repeat (first | (with_reducible first | exact HB.out | apply below_alloc | apply pw_below_drewN | apply below_drew1 | refine below_set ?_ GE163.out) | exact HB.out))); (case tabT_ => exact PowIs.below HT0_.out (by repeat (first | (with_reducible first | exact HB.out | apply below_alloc | apply pw_below_drewN | apply below_drew1 | refine below_set ?_ GE163.out) | exact HB.out))); rintro e w10 ⟨rfl, hb⟩; refine ⟨_, rfl, ?_⟩; have n0_ := Aside0.mk (blk_below (g := gb163) (o := .cells #[.int .i64 a0_0, .int .i64 a0_1, .string a0_2] 24 (0, 0)) (by (with_reducible repeat (first | refine blk_drewN ?_ _ | refine blk_drew ?_ | refine blk_alloc ?_ _)); exact BK163.out) hb); have n1_ := Aside0.mk (below_step (by repeat (first | (with_reducible first | exact HB.out | apply below_alloc | apply pw_below_drewN | apply below_drew1 | refine below_set ?_ GE163.out) | exact HB.out)) hb); clear BK163; clear HB; have BK163 := n0_; have HB := n1_; clear n0_ n1_; (try clear hb); (try clear hb2); (try clear hk); (try clear hi); have hcz11_0 : w10.cell? ⟨gb163, 0, none⟩ = some (.int .i64 a0_0) := (blk_cell BK163.out 0).trans rfl; have hcz11_1 : w10.cell? ⟨gb163, 1, none⟩ = some (.int .i64 a0_1) := (blk_cell BK163.out 1).trans rfl; have hcz11_2 : w10.cell? ⟨gb163, 2, none⟩ = some (.string a0_2) := (blk_cell BK163.out 2).trans rfl; have hfz11_0 := blk_frozen BK163.out 0; have hfz11_1 := blk_frozen BK163.out 1; have hfz11_2 := blk_frozen BK163.out 2) | ((with_reducible refine gate_callee (f := 10) rfl ?_); refine goesL_ (some 24) rfl rfl Tryz.func10 (by kernel_rfl) rfl #[.agg #[.int .i64 a0_0, .int .i64 a0_1, .string a0_2]] rfl (by (try simp only [List.map_toArray, List.map_cons, List.map_nil]); first | done | rfl | (simp only [List.length_drop, List.length_take]; rfl)) ?_; (with_reducible refine (bare_Print.calls k a0_0 a0_1 a0_2 t165 t166 _ ?tabT_ ?tabU_ A6.out).mono ?_); (case tabU_ => exact Utf8Is.below HU0_.out (by repeat (first | (with_reducible first | exact HB.out | apply below_alloc | apply pw_below_drewN | apply below_drew1 | refine below_set ?_ GE163.out) | exact HB.out))); (case tabT_ => exact PowIs.below HT0_.out (by repeat (first | (with_reducible first | exact HB.out | apply below_alloc | apply pw_below_drewN | apply below_drew1 | refine below_set ?_ GE163.out) | exact HB.out))); rintro e w12 ⟨rfl, hb⟩; refine ⟨_, rfl, ?_⟩; have n0_ := Aside0.mk (blk_below (g := gb163) (o := .cells #[.int .i64 a0_0, .int .i64 a0_1, .string a0_2] 24 (0, 0)) (by (with_reducible repeat (first | refine blk_drewN ?_ _ | refine blk_drew ?_ | refine blk_alloc ?_ _)); exact BK163.out) hb); have n1_ := Aside0.mk (below_step (by repeat (first | (with_reducible first | exact HB.out | apply below_alloc | apply pw_below_drewN | apply below_drew1 | refine below_set ?_ GE163.out) | exact HB.out)) hb); clear BK163; clear HB; have BK163 := n0_; have HB := n1_; clear n0_ n1_; (try clear hb); (try clear hb2); (try clear hk); (try clear hi)) | ((with_reducible refine gate_callee (f := 11) rfl ?_); refine goesL_ (some 28) rfl rfl Tryz.func11 (by kernel_rfl) rfl #[.int .i64 t166] rfl (by (try simp only [List.map_toArray, List.map_cons, List.map_nil]); first | done | rfl | (simp only [List.length_drop, List.length_take]; rfl)) ?_; (with_reducible refine (pergolalaw09_num.calls t166 t167 _ A7.out).mono ?_); rintro e w' ⟨rfl, ⟨nd, rfl⟩⟩; refine ⟨_, rfl, ?_⟩) | (go_at_call 11; (with_reducible refine (pergolalaw09_num.calls t166 t167 _ A7.out).mono ?_); rintro e w' ⟨rfl, ⟨nd, rfl⟩⟩))
  (try simp only [Act.put, List.setIfInBounds_toArray, List.set_cons_zero, List.set_cons_succ])
  go_cut [] (fun wc => ∃ (kq : Nat), Aside0 (pergolalaw09_BareBack.j0 kq a1 a2 = some true) ∧ Aside0 (kq ≤ k) ∧ Aside0 (wc.heap[gb163]? = some (.cells #[.int .i64 a0_0, .int .i64 a0_1, .string a0_2] 24 (0, 0))) ∧ Aside0 (Below w.heap.size w wc))
  case first =>
   have H := HC8.out
   clear HC8
   by_cases c13 : t167 = 0
   ·rw [if_pos c13] at H
    have c13b0 : (t167 == 0) = true := beq_iff_eq.mpr c13
    have c13b1 : (t167 != 0) = false := bne_eq_false_iff_eq.mpr c13
    clear c13
    (first | rw [c13b0] | (simp only [i64_w, i32_w]; rw [c13b0]) | skip)
    replace H := Option.bind_eq_some_iff.mp H
    obtain ⟨⟨t168, t169, t170, t171, t172⟩, A140, H⟩ := H
    replace H : ((pergolalaw09_num.f t172).bind fun t174 => (if t174 = 0 then (if t171 = (t165.size : Int) then (if (!(t168 == a0_0) || (!(t169 == a0_1) || (!(t170.toList == a0_2.toList)))) = true then (some false) else (pergolalaw09_BareBack.j0 k a1 a2)) else (some false)) else (some false))) = some true := H
    have A14 := Aside0.mk A140
    clear A140
    replace H := Option.bind_eq_some_iff.mp H
    obtain ⟨t174, A150, H⟩ := H
    replace H : (if t174 = 0 then (if t171 = (t165.size : Int) then (if (!(t168 == a0_0) || (!(t169 == a0_1) || (!(t170.toList == a0_2.toList)))) = true then (some false) else (pergolalaw09_BareBack.j0 k a1 a2)) else (some false)) else (some false)) = some true := H
    have A15 := Aside0.mk A150
    clear A150
    by_cases c16 : t174 = 0
    ·rw [if_pos c16] at H
     have c16b0 : (t174 == 0) = true := beq_iff_eq.mpr c16
     have c16b1 : (t174 != 0) = false := bne_eq_false_iff_eq.mpr c16
     clear c16
     by_cases c17 : t171 = (t165.size : Int)
     ·rw [if_pos c17] at H
      have c17b0 : (t171 == (t165.size : Int)) = true := beq_iff_eq.mpr c17
      have c17b1 : (t171 != (t165.size : Int)) = false := bne_eq_false_iff_eq.mpr c17
      clear c17
      by_cases c18 : (!(t168 == a0_0) || (!(t169 == a0_1) || (!(t170.toList == a0_2.toList)))) = true
      ·rw [if_pos c18] at H
       have c18b0 : (!(t168 == a0_0) || (!(t169 == a0_1) || (!(t170.toList == a0_2.toList)))) = true := c18
       clear c18
       exact absurd H (by simp)
      ·rw [if_neg c18] at H
       have c18b0 : (!(t168 == a0_0) || (!(t169 == a0_1) || (!(t170.toList == a0_2.toList)))) = false := by simpa using c18
       clear c18
       have H' := Aside0.mk H
       clear H
       go_wp2_with (first | ((with_reducible refine gate_callee (f := 12) rfl ?_); refine goesL_ (some 32) rfl rfl Tryz.func12 (by kernel_rfl) rfl #[.string t165, .int .i64 0] rfl (by (try simp only [List.map_toArray, List.map_cons, List.map_nil]); first | done | rfl | (simp only [List.length_drop, List.length_take]; rfl)) ?_; (with_reducible refine (bare_Read.calls t165 0 t168 t169 t170 t171 t172 _ ?tabU_ A14.out).mono ?_); (case tabU_ => exact Utf8Is.below HU0_.out (by repeat (first | (with_reducible first | exact HB.out | apply below_alloc | apply pw_below_drewN | apply below_drew1 | refine below_set ?_ GE163.out) | exact HB.out))); rintro e w24 ⟨rfl, hb⟩; refine ⟨_, rfl, ?_⟩; have n0_ := Aside0.mk (blk_below (g := gb163) (o := .cells #[.int .i64 a0_0, .int .i64 a0_1, .string a0_2] 24 (0, 0)) (by (with_reducible repeat (first | refine blk_drewN ?_ _ | refine blk_drew ?_ | refine blk_alloc ?_ _)); exact BK163.out) hb); have n1_ := Aside0.mk (below_step (by repeat (first | (with_reducible first | exact HB.out | apply below_alloc | apply pw_below_drewN | apply below_drew1 | refine below_set ?_ GE163.out) | exact HB.out)) hb); clear BK163; clear HB; have BK163 := n0_; have HB := n1_; clear n0_ n1_; (try clear hb); (try clear hb2); (try clear hk); (try clear hi)) | ((with_reducible refine gate_dst (N := 9) rfl ?_); (try (refine gate_guard (by rfl) ?_; dsimp only)); refine box_event ?hg (N := 9) ?hd (cs := #[.int .i64 0, .int .i64 0, .string (⟨#[]⟩ : ByteArray)]) (t := 24) ?hr ?_; (case hd => rfl); (case hg => rfl); (case hr => first | (go_simp; done) | (go_simp; rfl)); intro gb173 hg w25 hbox hb; have n0_ := Aside0.mk (blk_below (g := gb163) (o := .cells #[.int .i64 a0_0, .int .i64 a0_1, .string a0_2] 24 (0, 0)) (by (with_reducible repeat (first | refine blk_drewN ?_ _ | refine blk_drew ?_ | refine blk_alloc ?_ _)); exact BK163.out) hb); have n1_ := Aside0.mk (below_step (by repeat (first | (with_reducible first | exact HB.out | apply below_alloc | apply pw_below_drewN | apply below_drew1 | refine below_set ?_ GE163.out) | exact HB.out)) hb); have n2_ := Aside0.mk (hbox); have n3_ := Aside0.mk ((by rw [hg]; exact (below_size (by repeat (first | (with_reducible first | exact HB.out | apply below_alloc | apply pw_below_drewN | apply below_drew1 | refine below_set ?_ GE163.out) | exact HB.out))) : w.heap.size ≤ gb173)); have n4_ := Aside0.mk ((by rw [hg]; exact (below_size (by repeat (first | (with_reducible first | exact HB.out | apply below_alloc | apply pw_below_drewN | apply below_drew1 | refine below_set ?_ GE163.out) | exact HB.out))) : w.heap.size ≤ gb173)); have n5_ := Aside0.mk ((by rw [hg]; exact Nat.ne_of_lt (blk_lt (g := gb163) (o := .cells #[.int .i64 a0_0, .int .i64 a0_1, .string a0_2] 24 (0, 0)) (by (with_reducible repeat (first | refine blk_drewN ?_ _ | refine blk_drew ?_ | refine blk_alloc ?_ _)); exact BK163.out)) : gb163 ≠ gb173)); have n6_ := Aside0.mk ((by rw [hg]; exact Nat.ne_of_gt (blk_lt (g := gb163) (o := .cells #[.int .i64 a0_0, .int .i64 a0_1, .string a0_2] 24 (0, 0)) (by (with_reducible repeat (first | refine blk_drewN ?_ _ | refine blk_drew ?_ | refine blk_alloc ?_ _)); exact BK163.out)) : gb173 ≠ gb163)); clear BK163; clear HB; have BK163 := n0_; have HB := n1_; have BK173 := n2_; have GW173 := n3_; have GE173 := n4_; have NB163_173 := n5_; have NB173_163 := n6_; clear n0_ n1_ n2_ n3_ n4_ n5_ n6_; clear hb hbox hg; have hnb26 := NB173_163.out; have hnc26 := NB163_173.out; have hcz27_0 : w25.cell? ⟨gb173, 0, none⟩ = some (.int .i64 0) := (blk_cell BK173.out 0).trans rfl; have hcz27_1 : w25.cell? ⟨gb173, 1, none⟩ = some (.int .i64 0) := (blk_cell BK173.out 1).trans rfl; have hcz27_2 : w25.cell? ⟨gb173, 2, none⟩ = some (.string (⟨#[]⟩ : ByteArray)) := (blk_cell BK173.out 2).trans rfl; have hfz27_0 := blk_frozen BK173.out 0; have hfz27_1 := blk_frozen BK173.out 1; have hfz27_2 := blk_frozen BK173.out 2) | ((with_reducible refine gate_callee (f := 11) rfl ?_); refine goesL_ (some 37) rfl rfl Tryz.func11 (by kernel_rfl) rfl #[.int .i64 t172] rfl (by (try simp only [List.map_toArray, List.map_cons, List.map_nil]); first | done | rfl | (simp only [List.length_drop, List.length_take]; rfl)) ?_; (with_reducible refine (pergolalaw09_num.calls t172 t174 _ A15.out).mono ?_); rintro e w' ⟨rfl, ⟨nd, rfl⟩⟩; refine ⟨_, rfl, ?_⟩; have hcz28_0 : w25.cell? ⟨gb163, 0, none⟩ = some (.int .i64 a0_0) := (blk_cell BK163.out 0).trans rfl; have hcz28_1 : w25.cell? ⟨gb163, 1, none⟩ = some (.int .i64 a0_1) := (blk_cell BK163.out 1).trans rfl; have hcz28_2 : w25.cell? ⟨gb163, 2, none⟩ = some (.string a0_2) := (blk_cell BK163.out 2).trans rfl; have hfz28_0 := blk_frozen BK163.out 0; have hfz28_1 := blk_frozen BK163.out 1; have hfz28_2 := blk_frozen BK163.out 2))
       go_meet
       case rel => exact ⟨_, H', ⟨by first | omega | exact Nat.le_refl _⟩, ⟨by (with_reducible repeat (first | refine blk_drewN ?_ _ | refine blk_drew ?_ | refine blk_alloc ?_ _)); refine blk_far ?_ NB163_173.out _; (with_reducible repeat (first | refine blk_drewN ?_ _ | refine blk_drew ?_ | refine blk_alloc ?_ _)); refine blk_far ?_ NB163_173.out _; (with_reducible repeat (first | refine blk_drewN ?_ _ | refine blk_drew ?_ | refine blk_alloc ?_ _)); refine blk_far ?_ NB163_173.out _; (with_reducible repeat (first | refine blk_drewN ?_ _ | refine blk_drew ?_ | refine blk_alloc ?_ _)); exact BK163.out⟩, ⟨by repeat (first | (with_reducible first | exact HB.out | apply below_alloc | apply pw_below_drewN | apply below_drew1 | refine below_set ?_ GE163.out | refine below_set ?_ GE173.out) | exact HB.out)⟩⟩
     ·rw [if_neg c17] at H
      have c17b0 : (t171 == (t165.size : Int)) = false := beq_eq_false_iff_ne.mpr c17
      have c17b1 : (t171 != (t165.size : Int)) = true := bne_iff_ne.mpr c17
      exact absurd H (by simp)
    ·rw [if_neg c16] at H
     have c16b0 : (t174 == 0) = false := beq_eq_false_iff_ne.mpr c16
     have c16b1 : (t174 != 0) = true := bne_iff_ne.mpr c16
     exact absurd H (by simp)
   ·rw [if_neg c13] at H
    have c13b0 : (t167 == 0) = false := beq_eq_false_iff_ne.mpr c13
    have c13b1 : (t167 != 0) = true := bne_iff_ne.mpr c13
    (first | rw [c13b0] | (simp only [i64_w, i32_w]; rw [c13b0]) | skip)
    by_cases c37 : t165.toList = ([] : List UInt8)
    ·rw [if_pos c37] at H
     have c37b0 : (t165.toList == ([] : List UInt8)) = true := beq_iff_eq.mpr c37
     have c37b1 : (t165.toList != ([] : List UInt8)) = false := bne_eq_false_iff_eq.mpr c37
     clear c37
     replace H := Option.bind_eq_some_iff.mp H
     obtain ⟨t175, A380, H⟩ := H
     replace H : (if t166 = t175 then (pergolalaw09_BareBack.j0 k a1 a2) else (some false)) = some true := H
     have A38 := Aside0.mk A380
     clear A380
     by_cases c39 : t166 = t175
     ·rw [if_pos c39] at H
      have c39b0 : (t166 == t175) = true := beq_iff_eq.mpr c39
      have c39b1 : (t166 != t175) = false := bne_eq_false_iff_eq.mpr c39
      clear c39
      have H' := Aside0.mk H
      clear H
      have hcz40_0 : w12.cell? ⟨gb163, 0, none⟩ = some (.int .i64 a0_0) := (blk_cell BK163.out 0).trans rfl
      have hcz40_1 : w12.cell? ⟨gb163, 1, none⟩ = some (.int .i64 a0_1) := (blk_cell BK163.out 1).trans rfl
      have hcz40_2 : w12.cell? ⟨gb163, 2, none⟩ = some (.string a0_2) := (blk_cell BK163.out 2).trans rfl
      have hfz40_0 := blk_frozen BK163.out 0
      have hfz40_1 := blk_frozen BK163.out 1
      have hfz40_2 := blk_frozen BK163.out 2
      go_wp2_with (first | (go_at_call 13; (with_reducible refine (bare_Check.calls k a0_0 a0_1 a0_2 t175 _ ?tabU_ A38.out).mono ?_); (case tabU_ => exact Utf8Is.below HU0_.out (by repeat (first | (with_reducible first | exact HB.out | apply below_alloc | apply pw_below_drewN | apply below_drew1 | refine below_set ?_ GE163.out) | exact HB.out))); rintro e w41 ⟨rfl, hb⟩; have n0_ := Aside0.mk (blk_below (g := gb163) (o := .cells #[.int .i64 a0_0, .int .i64 a0_1, .string a0_2] 24 (0, 0)) (by (with_reducible repeat (first | refine blk_drewN ?_ _ | refine blk_drew ?_ | refine blk_alloc ?_ _)); exact BK163.out) hb); have n1_ := Aside0.mk (below_step (by repeat (first | (with_reducible first | exact HB.out | apply below_alloc | apply pw_below_drewN | apply below_drew1 | refine below_set ?_ GE163.out) | exact HB.out)) hb); clear BK163; clear HB; have BK163 := n0_; have HB := n1_; clear n0_ n1_; (try clear hb); (try clear hb2); (try clear hk); (try clear hi)))
      go_meet
      case rel => exact ⟨_, H', ⟨by first | omega | exact Nat.le_refl _⟩, ⟨by (with_reducible repeat (first | refine blk_drewN ?_ _ | refine blk_drew ?_ | refine blk_alloc ?_ _)); exact BK163.out⟩, ⟨by repeat (first | (with_reducible first | exact HB.out | apply below_alloc | apply pw_below_drewN | apply below_drew1 | refine below_set ?_ GE163.out) | exact HB.out)⟩⟩
     ·rw [if_neg c39] at H
      have c39b0 : (t166 == t175) = false := beq_eq_false_iff_ne.mpr c39
      have c39b1 : (t166 != t175) = true := bne_iff_ne.mpr c39
      exact absurd H (by simp)
    ·rw [if_neg c37] at H
     have c37b0 : (t165.toList == ([] : List UInt8)) = false := beq_eq_false_iff_ne.mpr c37
     have c37b1 : (t165.toList != ([] : List UInt8)) = true := bne_iff_ne.mpr c37
     exact absurd H (by simp)
  case rest =>
   clear HC8
   try clear c1
   try clear c2
   try clear p2
   try clear c3
   try clear c5
   try clear c9
   try clear c10
   try clear c11
   try clear c12
   try clear c13
   try clear c13b0
   try clear c13b1
   try clear c16
   try clear c16b0
   try clear c16b1
   try clear c17
   try clear c17b0
   try clear c17b1
   try clear c18
   try clear c18b0
   try clear c21
   try clear c26
   try clear c31
   try clear c35
   try clear c37
   try clear c37b0
   try clear c37b1
   try clear c39
   try clear c39b0
   try clear c39b1
   try clear hcz11_0
   try clear hcz11_1
   try clear hcz11_2
   try clear hcz22_0
   try clear hcz22_1
   try clear hcz22_2
   try clear hcz23_0
   try clear hcz23_1
   try clear hcz23_2
   try clear hcz27_0
   try clear hcz27_1
   try clear hcz27_2
   try clear hcz28_0
   try clear hcz28_1
   try clear hcz28_2
   try clear hcz32_0
   try clear hcz32_1
   try clear hcz32_2
   try clear hcz36_0
   try clear hcz36_1
   try clear hcz36_2
   try clear hcz40_0
   try clear hcz40_1
   try clear hcz40_2
   try clear hcz42_0
   try clear hcz42_1
   try clear hcz42_2
   try clear hfz11_0
   try clear hfz11_1
   try clear hfz11_2
   try clear hfz22_0
   try clear hfz22_1
   try clear hfz22_2
   try clear hfz23_0
   try clear hfz23_1
   try clear hfz23_2
   try clear hfz27_0
   try clear hfz27_1
   try clear hfz27_2
   try clear hfz28_0
   try clear hfz28_1
   try clear hfz28_2
   try clear hfz32_0
   try clear hfz32_1
   try clear hfz32_2
   try clear hfz36_0
   try clear hfz36_1
   try clear hfz36_2
   try clear hfz40_0
   try clear hfz40_1
   try clear hfz40_2
   try clear hfz42_0
   try clear hfz42_1
   try clear hfz42_2
   obtain ⟨kq, HA, HJ7, BK163, HB⟩ := hcut
   cases kq with
   | zero => exact absurd HA.out (by simp [pergolalaw09_BareBack.j0])
   | succ kj7 =>
    have H := HA.out
    clear HA
    simp only [pergolalaw09_BareBack.j0] at H
    replace H := Option.bind_eq_some_iff.mp H
    obtain ⟨⟨t176, t177, t178, t179, t180⟩, A440, H⟩ := H
    replace H : ((pergolalaw09_num.f t180).bind fun t182 => (if t182 = 0 then ((bare_Print.f kj7 t176 t177 t178).bind fun bt183 => ((bare_Read.f bt183.1 0).bind fun bt185 => ((bare_Check.f kj7 t176 t177 t178).bind fun t191 => ((pergolalaw09_num.f t191).bind fun t192 => (if t192 = 0 then ((pergolalaw09_num.f bt183.2).bind fun t193 => (if t193 = 0 then ((pergolalaw09_num.f bt185.2.2.2.2).bind fun t194 => (if t194 = 0 then (if bt185.2.2.2.1 = (bt183.1.size : Int) then (if (bt185.1 == t176 && (bt185.2.1 == t177 && (bt185.2.2.1.toList == t178.toList))) = true then (if t179 > a2 then (some (decide (t179 ≤ (a1.size : Int)))) else (some false)) else (some false)) else (some false)) else (some false))) else (some false))) else (some false)))))) else (if (t176 == 0 && (t177 == 0 && (t178.toList == ([] : List UInt8)))) = true then (if a2 < 0 then (some true) else (if a2 > (a1.size : Int) then (some true) else (if t179 ≥ a2 then (some (decide (t179 ≤ (a1.size : Int)))) else (some false)))) else (some false)))) = some true := H
    have A44 := Aside0.mk A440
    clear A440
    replace H := Option.bind_eq_some_iff.mp H
    obtain ⟨t182, A450, H⟩ := H
    replace H : (if t182 = 0 then ((bare_Print.f kj7 t176 t177 t178).bind fun bt183 => ((bare_Read.f bt183.1 0).bind fun bt185 => ((bare_Check.f kj7 t176 t177 t178).bind fun t191 => ((pergolalaw09_num.f t191).bind fun t192 => (if t192 = 0 then ((pergolalaw09_num.f bt183.2).bind fun t193 => (if t193 = 0 then ((pergolalaw09_num.f bt185.2.2.2.2).bind fun t194 => (if t194 = 0 then (if bt185.2.2.2.1 = (bt183.1.size : Int) then (if (bt185.1 == t176 && (bt185.2.1 == t177 && (bt185.2.2.1.toList == t178.toList))) = true then (if t179 > a2 then (some (decide (t179 ≤ (a1.size : Int)))) else (some false)) else (some false)) else (some false)) else (some false))) else (some false))) else (some false)))))) else (if (t176 == 0 && (t177 == 0 && (t178.toList == ([] : List UInt8)))) = true then (if a2 < 0 then (some true) else (if a2 > (a1.size : Int) then (some true) else (if t179 ≥ a2 then (some (decide (t179 ≤ (a1.size : Int)))) else (some false)))) else (some false))) = some true := H
    have A45 := Aside0.mk A450
    clear A450
    by_cases c46 : t182 = 0
    ·rw [if_pos c46] at H
     have c46b0 : (t182 == 0) = true := beq_iff_eq.mpr c46
     have c46b1 : (t182 != 0) = false := bne_eq_false_iff_eq.mpr c46
     clear c46
     replace H := Option.bind_eq_some_iff.mp H
     obtain ⟨⟨t183, t184⟩, A470, H⟩ := H
     replace H : ((bare_Read.f t183 0).bind fun bt185 => ((bare_Check.f kj7 t176 t177 t178).bind fun t191 => ((pergolalaw09_num.f t191).bind fun t192 => (if t192 = 0 then ((pergolalaw09_num.f t184).bind fun t193 => (if t193 = 0 then ((pergolalaw09_num.f bt185.2.2.2.2).bind fun t194 => (if t194 = 0 then (if bt185.2.2.2.1 = (t183.size : Int) then (if (bt185.1 == t176 && (bt185.2.1 == t177 && (bt185.2.2.1.toList == t178.toList))) = true then (if t179 > a2 then (some (decide (t179 ≤ (a1.size : Int)))) else (some false)) else (some false)) else (some false)) else (some false))) else (some false))) else (some false))))) = some true := H
     have A47 := Aside0.mk A470
     clear A470
     replace H := Option.bind_eq_some_iff.mp H
     obtain ⟨⟨t185, t186, t187, t188, t189⟩, A480, H⟩ := H
     replace H : ((bare_Check.f kj7 t176 t177 t178).bind fun t191 => ((pergolalaw09_num.f t191).bind fun t192 => (if t192 = 0 then ((pergolalaw09_num.f t184).bind fun t193 => (if t193 = 0 then ((pergolalaw09_num.f t189).bind fun t194 => (if t194 = 0 then (if t188 = (t183.size : Int) then (if (t185 == t176 && (t186 == t177 && (t187.toList == t178.toList))) = true then (if t179 > a2 then (some (decide (t179 ≤ (a1.size : Int)))) else (some false)) else (some false)) else (some false)) else (some false))) else (some false))) else (some false)))) = some true := H
     have A48 := Aside0.mk A480
     clear A480
     replace H := Option.bind_eq_some_iff.mp H
     obtain ⟨t191, A490, H⟩ := H
     replace H : ((pergolalaw09_num.f t191).bind fun t192 => (if t192 = 0 then ((pergolalaw09_num.f t184).bind fun t193 => (if t193 = 0 then ((pergolalaw09_num.f t189).bind fun t194 => (if t194 = 0 then (if t188 = (t183.size : Int) then (if (t185 == t176 && (t186 == t177 && (t187.toList == t178.toList))) = true then (if t179 > a2 then (some (decide (t179 ≤ (a1.size : Int)))) else (some false)) else (some false)) else (some false)) else (some false))) else (some false))) else (some false))) = some true := H
     have A49 := Aside0.mk A490
     clear A490
     replace H := Option.bind_eq_some_iff.mp H
     obtain ⟨t192, A500, H⟩ := H
     replace H : (if t192 = 0 then ((pergolalaw09_num.f t184).bind fun t193 => (if t193 = 0 then ((pergolalaw09_num.f t189).bind fun t194 => (if t194 = 0 then (if t188 = (t183.size : Int) then (if (t185 == t176 && (t186 == t177 && (t187.toList == t178.toList))) = true then (if t179 > a2 then (some (decide (t179 ≤ (a1.size : Int)))) else (some false)) else (some false)) else (some false)) else (some false))) else (some false))) else (some false)) = some true := H
     have A50 := Aside0.mk A500
     clear A500
     by_cases c51 : t192 = 0
     ·rw [if_pos c51] at H
      have c51b0 : (t192 == 0) = true := beq_iff_eq.mpr c51
      have c51b1 : (t192 != 0) = false := bne_eq_false_iff_eq.mpr c51
      clear c51
      replace H := Option.bind_eq_some_iff.mp H
      obtain ⟨t193, A520, H⟩ := H
      replace H : (if t193 = 0 then ((pergolalaw09_num.f t189).bind fun t194 => (if t194 = 0 then (if t188 = (t183.size : Int) then (if (t185 == t176 && (t186 == t177 && (t187.toList == t178.toList))) = true then (if t179 > a2 then (some (decide (t179 ≤ (a1.size : Int)))) else (some false)) else (some false)) else (some false)) else (some false))) else (some false)) = some true := H
      have A52 := Aside0.mk A520
      clear A520
      by_cases c53 : t193 = 0
      ·rw [if_pos c53] at H
       have c53b0 : (t193 == 0) = true := beq_iff_eq.mpr c53
       have c53b1 : (t193 != 0) = false := bne_eq_false_iff_eq.mpr c53
       clear c53
       replace H := Option.bind_eq_some_iff.mp H
       obtain ⟨t194, A540, H⟩ := H
       replace H : (if t194 = 0 then (if t188 = (t183.size : Int) then (if (t185 == t176 && (t186 == t177 && (t187.toList == t178.toList))) = true then (if t179 > a2 then (some (decide (t179 ≤ (a1.size : Int)))) else (some false)) else (some false)) else (some false)) else (some false)) = some true := H
       have A54 := Aside0.mk A540
       clear A540
       by_cases c55 : t194 = 0
       ·rw [if_pos c55] at H
        have c55b0 : (t194 == 0) = true := beq_iff_eq.mpr c55
        have c55b1 : (t194 != 0) = false := bne_eq_false_iff_eq.mpr c55
        clear c55
        by_cases c56 : t188 = (t183.size : Int)
        ·rw [if_pos c56] at H
         have c56b0 : (t188 == (t183.size : Int)) = true := beq_iff_eq.mpr c56
         have c56b1 : (t188 != (t183.size : Int)) = false := bne_eq_false_iff_eq.mpr c56
         clear c56
         by_cases c57 : (t185 == t176 && (t186 == t177 && (t187.toList == t178.toList))) = true
         ·rw [if_pos c57] at H
          have c57b0 : (t185 == t176 && (t186 == t177 && (t187.toList == t178.toList))) = true := c57
          (try (have c57b1 : decide (t185 = t176 && (t186 == t177 && (t187.toList == t178.toList))) = true := by simpa using c57))
          (try (have c57b2 : (t185 == t176 && (t186 == t177 && (t187.toList == t178.toList))) = true := by simpa using c57))
          clear c57
          by_cases c58 : t179 > a2
          ·rw [if_pos c58] at H
           have c58b0 : decide (a2 < t179) = true := decide_eq_true c58
           clear c58
           replace H := Option.some.inj H
           go_wp2_with (first | ((with_reducible refine gate_callee (f := 12) rfl ?_); refine goesL_ (some 61) rfl rfl Tryz.func12 (by kernel_rfl) rfl #[.string a1, .int .i64 a2] rfl (by (try simp only [List.map_toArray, List.map_cons, List.map_nil]); first | done | rfl | (simp only [List.length_drop, List.length_take]; rfl)) ?_; (with_reducible refine (bare_Read.calls a1 a2 t176 t177 t178 t179 t180 _ ?tabU_ A44.out).mono ?_); (case tabU_ => exact Utf8Is.below HU0_.out (by repeat (first | (with_reducible first | exact HB.out | apply below_alloc | apply pw_below_drewN | apply below_drew1 | refine below_set ?_ GE163.out) | exact HB.out))); rintro e w59 ⟨rfl, hb⟩; refine ⟨_, rfl, ?_⟩; have n0_ := Aside0.mk (blk_below (g := gb163) (o := .cells #[.int .i64 a0_0, .int .i64 a0_1, .string a0_2] 24 (0, 0)) (by (with_reducible repeat (first | refine blk_drewN ?_ _ | refine blk_drew ?_ | refine blk_alloc ?_ _)); exact BK163.out) hb); have n1_ := Aside0.mk (below_step (by repeat (first | (with_reducible first | exact HB.out | apply below_alloc | apply pw_below_drewN | apply below_drew1 | refine below_set ?_ GE163.out) | exact HB.out)) hb); clear BK163; clear HB; have BK163 := n0_; have HB := n1_; clear n0_ n1_; (try clear hb); (try clear hb2); (try clear hk); (try clear hi)) | ((with_reducible refine gate_dst (N := 12) rfl ?_); (try (refine gate_guard (by rfl) ?_; dsimp only)); refine box_event ?hg (N := 12) ?hd (cs := #[.int .i64 0, .int .i64 0, .string (⟨#[]⟩ : ByteArray)]) (t := 24) ?hr ?_; (case hd => rfl); (case hg => rfl); (case hr => first | (go_simp; done) | (go_simp; rfl)); intro gb181 hg w60 hbox hb; have n0_ := Aside0.mk (blk_below (g := gb163) (o := .cells #[.int .i64 a0_0, .int .i64 a0_1, .string a0_2] 24 (0, 0)) (by (with_reducible repeat (first | refine blk_drewN ?_ _ | refine blk_drew ?_ | refine blk_alloc ?_ _)); exact BK163.out) hb); have n1_ := Aside0.mk (below_step (by repeat (first | (with_reducible first | exact HB.out | apply below_alloc | apply pw_below_drewN | apply below_drew1 | refine below_set ?_ GE163.out) | exact HB.out)) hb); have n2_ := Aside0.mk (hbox); have n3_ := Aside0.mk ((by rw [hg]; exact (below_size (by repeat (first | (with_reducible first | exact HB.out | apply below_alloc | apply pw_below_drewN | apply below_drew1 | refine below_set ?_ GE163.out) | exact HB.out))) : w.heap.size ≤ gb181)); have n4_ := Aside0.mk ((by rw [hg]; exact (below_size (by repeat (first | (with_reducible first | exact HB.out | apply below_alloc | apply pw_below_drewN | apply below_drew1 | refine below_set ?_ GE163.out) | exact HB.out))) : w.heap.size ≤ gb181)); have n5_ := Aside0.mk ((by rw [hg]; exact Nat.ne_of_lt (blk_lt (g := gb163) (o := .cells #[.int .i64 a0_0, .int .i64 a0_1, .string a0_2] 24 (0, 0)) (by (with_reducible repeat (first | refine blk_drewN ?_ _ | refine blk_drew ?_ | refine blk_alloc ?_ _)); exact BK163.out)) : gb163 ≠ gb181)); have n6_ := Aside0.mk ((by rw [hg]; exact Nat.ne_of_gt (blk_lt (g := gb163) (o := .cells #[.int .i64 a0_0, .int .i64 a0_1, .string a0_2] 24 (0, 0)) (by (with_reducible repeat (first | refine blk_drewN ?_ _ | refine blk_drew ?_ | refine blk_alloc ?_ _)); exact BK163.out)) : gb181 ≠ gb163)); clear BK163; clear HB; have BK163 := n0_; have HB := n1_; have BK181 := n2_; have GW181 := n3_; have GE181 := n4_; have NB163_181 := n5_; have NB181_163 := n6_; clear n0_ n1_ n2_ n3_ n4_ n5_ n6_; clear hb hbox hg; have hnb61 := NB181_163.out; have hnc61 := NB163_181.out; have hcz62_0 : w60.cell? ⟨gb181, 0, none⟩ = some (.int .i64 0) := (blk_cell BK181.out 0).trans rfl; have hcz62_1 : w60.cell? ⟨gb181, 1, none⟩ = some (.int .i64 0) := (blk_cell BK181.out 1).trans rfl; have hcz62_2 : w60.cell? ⟨gb181, 2, none⟩ = some (.string (⟨#[]⟩ : ByteArray)) := (blk_cell BK181.out 2).trans rfl; have hfz62_0 := blk_frozen BK181.out 0; have hfz62_1 := blk_frozen BK181.out 1; have hfz62_2 := blk_frozen BK181.out 2) | ((with_reducible refine gate_callee (f := 11) rfl ?_); refine goesL_ (some 66) rfl rfl Tryz.func11 (by kernel_rfl) rfl #[.int .i64 t180] rfl (by (try simp only [List.map_toArray, List.map_cons, List.map_nil]); first | done | rfl | (simp only [List.length_drop, List.length_take]; rfl)) ?_; (with_reducible refine (pergolalaw09_num.calls t180 t182 _ A45.out).mono ?_); rintro e w' ⟨rfl, ⟨nd, rfl⟩⟩; refine ⟨_, rfl, ?_⟩) | (go_at_call 11; (with_reducible refine (pergolalaw09_num.calls t180 t182 _ A45.out).mono ?_); rintro e w' ⟨rfl, ⟨nd, rfl⟩⟩) | ((with_reducible refine gate_callee (f := 10) rfl ?_); refine goesL_ (some 94) rfl rfl Tryz.func10 (by kernel_rfl) rfl #[.agg #[.int .i64 t176, .int .i64 t177, .string t178]] rfl (by (try simp only [List.map_toArray, List.map_cons, List.map_nil]); first | done | rfl | (simp only [List.length_drop, List.length_take]; rfl)) ?_; (with_reducible refine (bare_Print.calls kj7 t176 t177 t178 t183 t184 _ ?tabT_ ?tabU_ A47.out).mono ?_); (case tabU_ => exact Utf8Is.below HU0_.out (by repeat (first | (with_reducible first | exact HB.out | apply below_alloc | apply pw_below_drewN | apply below_drew1 | refine below_set ?_ GE163.out | refine below_set ?_ GE181.out) | exact HB.out))); (case tabT_ => exact PowIs.below HT0_.out (by repeat (first | (with_reducible first | exact HB.out | apply below_alloc | apply pw_below_drewN | apply below_drew1 | refine below_set ?_ GE163.out | refine below_set ?_ GE181.out) | exact HB.out))); rintro e w63 ⟨rfl, hb⟩; refine ⟨_, rfl, ?_⟩; have n0_ := Aside0.mk (blk_below (g := gb163) (o := .cells #[.int .i64 a0_0, .int .i64 a0_1, .string a0_2] 24 (0, 0)) (by (with_reducible repeat (first | refine blk_drewN ?_ _ | refine blk_drew ?_ | refine blk_alloc ?_ _)); refine blk_far ?_ NB163_181.out _; (with_reducible repeat (first | refine blk_drewN ?_ _ | refine blk_drew ?_ | refine blk_alloc ?_ _)); refine blk_far ?_ NB163_181.out _; (with_reducible repeat (first | refine blk_drewN ?_ _ | refine blk_drew ?_ | refine blk_alloc ?_ _)); refine blk_far ?_ NB163_181.out _; (with_reducible repeat (first | refine blk_drewN ?_ _ | refine blk_drew ?_ | refine blk_alloc ?_ _)); exact BK163.out) hb); have n1_ := Aside0.mk (blk_below (g := gb181) (o := .cells #[.int .i64 t176, .int .i64 t177, .string t178] 24 (0, 0)) (by (with_reducible repeat (first | refine blk_drewN ?_ _ | refine blk_drew ?_ | refine blk_alloc ?_ _)); refine blk_put (cs := #[.int .i64 t176, .int .i64 t177, .string (⟨#[]⟩ : ByteArray)]) ?_ 2 _ rfl; (with_reducible repeat (first | refine blk_drewN ?_ _ | refine blk_drew ?_ | refine blk_alloc ?_ _)); refine blk_put (cs := #[.int .i64 t176, .int .i64 0, .string (⟨#[]⟩ : ByteArray)]) ?_ 1 _ rfl; (with_reducible repeat (first | refine blk_drewN ?_ _ | refine blk_drew ?_ | refine blk_alloc ?_ _)); refine blk_put (cs := #[.int .i64 0, .int .i64 0, .string (⟨#[]⟩ : ByteArray)]) ?_ 0 _ rfl; (with_reducible repeat (first | refine blk_drewN ?_ _ | refine blk_drew ?_ | refine blk_alloc ?_ _)); exact BK181.out) hb); have n2_ := Aside0.mk (below_step (by repeat (first | (with_reducible first | exact HB.out | apply below_alloc | apply pw_below_drewN | apply below_drew1 | refine below_set ?_ GE163.out | refine below_set ?_ GE181.out) | exact HB.out)) hb); clear BK163; clear BK181; clear HB; have BK163 := n0_; have BK181 := n1_; have HB := n2_; clear n0_ n1_ n2_; (try clear hb); (try clear hb2); (try clear hk); (try clear hi)) | ((with_reducible refine gate_callee (f := 12) rfl ?_); refine goesL_ (some 99) rfl rfl Tryz.func12 (by kernel_rfl) rfl #[.string t183, .int .i64 0] rfl (by (try simp only [List.map_toArray, List.map_cons, List.map_nil]); first | done | rfl | (simp only [List.length_drop, List.length_take]; rfl)) ?_; (with_reducible refine (bare_Read.calls t183 0 t185 t186 t187 t188 t189 _ ?tabU_ A48.out).mono ?_); (case tabU_ => exact Utf8Is.below HU0_.out (by repeat (first | (with_reducible first | exact HB.out | apply below_alloc | apply pw_below_drewN | apply below_drew1 | refine below_set ?_ GE163.out | refine below_set ?_ GE181.out) | exact HB.out))); rintro e w64 ⟨rfl, hb⟩; refine ⟨_, rfl, ?_⟩; have n0_ := Aside0.mk (blk_below (g := gb163) (o := .cells #[.int .i64 a0_0, .int .i64 a0_1, .string a0_2] 24 (0, 0)) (by (with_reducible repeat (first | refine blk_drewN ?_ _ | refine blk_drew ?_ | refine blk_alloc ?_ _)); exact BK163.out) hb); have n1_ := Aside0.mk (blk_below (g := gb181) (o := .cells #[.int .i64 t176, .int .i64 t177, .string t178] 24 (0, 0)) (by (with_reducible repeat (first | refine blk_drewN ?_ _ | refine blk_drew ?_ | refine blk_alloc ?_ _)); exact BK181.out) hb); have n2_ := Aside0.mk (below_step (by repeat (first | (with_reducible first | exact HB.out | apply below_alloc | apply pw_below_drewN | apply below_drew1 | refine below_set ?_ GE163.out | refine below_set ?_ GE181.out) | exact HB.out)) hb); clear BK163; clear BK181; clear HB; have BK163 := n0_; have BK181 := n1_; have HB := n2_; clear n0_ n1_ n2_; (try clear hb); (try clear hb2); (try clear hk); (try clear hi)) | ((with_reducible refine gate_dst (N := 17) rfl ?_); (try (refine gate_guard (by rfl) ?_; dsimp only)); refine box_event ?hg (N := 17) ?hd (cs := #[.int .i64 0, .int .i64 0, .string (⟨#[]⟩ : ByteArray)]) (t := 24) ?hr ?_; (case hd => rfl); (case hg => rfl); (case hr => first | (go_simp; done) | (go_simp; rfl)); intro gb190 hg w65 hbox hb; have n0_ := Aside0.mk (blk_below (g := gb163) (o := .cells #[.int .i64 a0_0, .int .i64 a0_1, .string a0_2] 24 (0, 0)) (by (with_reducible repeat (first | refine blk_drewN ?_ _ | refine blk_drew ?_ | refine blk_alloc ?_ _)); exact BK163.out) hb); have n1_ := Aside0.mk (blk_below (g := gb181) (o := .cells #[.int .i64 t176, .int .i64 t177, .string t178] 24 (0, 0)) (by (with_reducible repeat (first | refine blk_drewN ?_ _ | refine blk_drew ?_ | refine blk_alloc ?_ _)); exact BK181.out) hb); have n2_ := Aside0.mk (below_step (by repeat (first | (with_reducible first | exact HB.out | apply below_alloc | apply pw_below_drewN | apply below_drew1 | refine below_set ?_ GE163.out | refine below_set ?_ GE181.out) | exact HB.out)) hb); have n3_ := Aside0.mk (hbox); have n4_ := Aside0.mk ((by rw [hg]; exact (below_size (by repeat (first | (with_reducible first | exact HB.out | apply below_alloc | apply pw_below_drewN | apply below_drew1 | refine below_set ?_ GE163.out | refine below_set ?_ GE181.out) | exact HB.out))) : w.heap.size ≤ gb190)); have n5_ := Aside0.mk ((by rw [hg]; exact (below_size (by repeat (first | (with_reducible first | exact HB.out | apply below_alloc | apply pw_below_drewN | apply below_drew1 | refine below_set ?_ GE163.out | refine below_set ?_ GE181.out) | exact HB.out))) : w.heap.size ≤ gb190)); have n6_ := Aside0.mk ((by rw [hg]; exact Nat.ne_of_lt (blk_lt (g := gb163) (o := .cells #[.int .i64 a0_0, .int .i64 a0_1, .string a0_2] 24 (0, 0)) (by (with_reducible repeat (first | refine blk_drewN ?_ _ | refine blk_drew ?_ | refine blk_alloc ?_ _)); exact BK163.out)) : gb163 ≠ gb190)); have n7_ := Aside0.mk ((by rw [hg]; exact Nat.ne_of_gt (blk_lt (g := gb163) (o := .cells #[.int .i64 a0_0, .int .i64 a0_1, .string a0_2] 24 (0, 0)) (by (with_reducible repeat (first | refine blk_drewN ?_ _ | refine blk_drew ?_ | refine blk_alloc ?_ _)); exact BK163.out)) : gb190 ≠ gb163)); have n8_ := Aside0.mk ((by rw [hg]; exact Nat.ne_of_lt (blk_lt (g := gb181) (o := .cells #[.int .i64 t176, .int .i64 t177, .string t178] 24 (0, 0)) (by (with_reducible repeat (first | refine blk_drewN ?_ _ | refine blk_drew ?_ | refine blk_alloc ?_ _)); exact BK181.out)) : gb181 ≠ gb190)); have n9_ := Aside0.mk ((by rw [hg]; exact Nat.ne_of_gt (blk_lt (g := gb181) (o := .cells #[.int .i64 t176, .int .i64 t177, .string t178] 24 (0, 0)) (by (with_reducible repeat (first | refine blk_drewN ?_ _ | refine blk_drew ?_ | refine blk_alloc ?_ _)); exact BK181.out)) : gb190 ≠ gb181)); clear BK163; clear BK181; clear HB; have BK163 := n0_; have BK181 := n1_; have HB := n2_; have BK190 := n3_; have GW190 := n4_; have GE190 := n5_; have NB163_190 := n6_; have NB190_163 := n7_; have NB181_190 := n8_; have NB190_181 := n9_; clear n0_ n1_ n2_ n3_ n4_ n5_ n6_ n7_ n8_ n9_; clear hb hbox hg; have hnb66 := NB190_163.out; have hnc66 := NB163_190.out; have hnb67 := NB190_181.out; have hnc67 := NB181_190.out; have hcz68_0 : w65.cell? ⟨gb190, 0, none⟩ = some (.int .i64 0) := (blk_cell BK190.out 0).trans rfl; have hcz68_1 : w65.cell? ⟨gb190, 1, none⟩ = some (.int .i64 0) := (blk_cell BK190.out 1).trans rfl; have hcz68_2 : w65.cell? ⟨gb190, 2, none⟩ = some (.string (⟨#[]⟩ : ByteArray)) := (blk_cell BK190.out 2).trans rfl; have hfz68_0 := blk_frozen BK190.out 0; have hfz68_1 := blk_frozen BK190.out 1; have hfz68_2 := blk_frozen BK190.out 2; have hcz69_0 : w65.cell? ⟨gb181, 0, none⟩ = some (.int .i64 t176) := (blk_cell BK181.out 0).trans rfl; have hcz69_1 : w65.cell? ⟨gb181, 1, none⟩ = some (.int .i64 t177) := (blk_cell BK181.out 1).trans rfl; have hcz69_2 : w65.cell? ⟨gb181, 2, none⟩ = some (.string t178) := (blk_cell BK181.out 2).trans rfl; have hfz69_0 := blk_frozen BK181.out 0; have hfz69_1 := blk_frozen BK181.out 1; have hfz69_2 := blk_frozen BK181.out 2) | ((with_reducible refine gate_callee (f := 13) rfl ?_); refine goesL_ (some 104) rfl rfl Tryz.func13 (by kernel_rfl) rfl #[.agg #[.int .i64 t176, .int .i64 t177, .string t178]] rfl (by (try simp only [List.map_toArray, List.map_cons, List.map_nil]); first | done | rfl | (simp only [List.length_drop, List.length_take]; rfl)) ?_; (with_reducible refine (bare_Check.calls kj7 t176 t177 t178 t191 _ ?tabU_ A49.out).mono ?_); (case tabU_ => exact Utf8Is.below HU0_.out (by repeat (first | (with_reducible first | exact HB.out | apply below_alloc | apply pw_below_drewN | apply below_drew1 | refine below_set ?_ GE163.out | refine below_set ?_ GE181.out | refine below_set ?_ GE190.out) | exact HB.out))); rintro e w70 ⟨rfl, hb⟩; refine ⟨_, rfl, ?_⟩; have n0_ := Aside0.mk (blk_below (g := gb163) (o := .cells #[.int .i64 a0_0, .int .i64 a0_1, .string a0_2] 24 (0, 0)) (by (with_reducible repeat (first | refine blk_drewN ?_ _ | refine blk_drew ?_ | refine blk_alloc ?_ _)); refine blk_far ?_ NB163_190.out _; (with_reducible repeat (first | refine blk_drewN ?_ _ | refine blk_drew ?_ | refine blk_alloc ?_ _)); refine blk_far ?_ NB163_190.out _; (with_reducible repeat (first | refine blk_drewN ?_ _ | refine blk_drew ?_ | refine blk_alloc ?_ _)); refine blk_far ?_ NB163_190.out _; (with_reducible repeat (first | refine blk_drewN ?_ _ | refine blk_drew ?_ | refine blk_alloc ?_ _)); exact BK163.out) hb); have n1_ := Aside0.mk (blk_below (g := gb181) (o := .cells #[.int .i64 t176, .int .i64 t177, .string t178] 24 (0, 0)) (by (with_reducible repeat (first | refine blk_drewN ?_ _ | refine blk_drew ?_ | refine blk_alloc ?_ _)); refine blk_far ?_ NB181_190.out _; (with_reducible repeat (first | refine blk_drewN ?_ _ | refine blk_drew ?_ | refine blk_alloc ?_ _)); refine blk_far ?_ NB181_190.out _; (with_reducible repeat (first | refine blk_drewN ?_ _ | refine blk_drew ?_ | refine blk_alloc ?_ _)); refine blk_far ?_ NB181_190.out _; (with_reducible repeat (first | refine blk_drewN ?_ _ | refine blk_drew ?_ | refine blk_alloc ?_ _)); exact BK181.out) hb); have n2_ := Aside0.mk (blk_below (g := gb190) (o := .cells #[.int .i64 t185, .int .i64 t186, .string t187] 24 (0, 0)) (by (with_reducible repeat (first | refine blk_drewN ?_ _ | refine blk_drew ?_ | refine blk_alloc ?_ _)); refine blk_put (cs := #[.int .i64 t185, .int .i64 t186, .string (⟨#[]⟩ : ByteArray)]) ?_ 2 _ rfl; (with_reducible repeat (first | refine blk_drewN ?_ _ | refine blk_drew ?_ | refine blk_alloc ?_ _)); refine blk_put (cs := #[.int .i64 t185, .int .i64 0, .string (⟨#[]⟩ : ByteArray)]) ?_ 1 _ rfl; (with_reducible repeat (first | refine blk_drewN ?_ _ | refine blk_drew ?_ | refine blk_alloc ?_ _)); refine blk_put (cs := #[.int .i64 0, .int .i64 0, .string (⟨#[]⟩ : ByteArray)]) ?_ 0 _ rfl; (with_reducible repeat (first | refine blk_drewN ?_ _ | refine blk_drew ?_ | refine blk_alloc ?_ _)); exact BK190.out) hb); have n3_ := Aside0.mk (below_step (by repeat (first | (with_reducible first | exact HB.out | apply below_alloc | apply pw_below_drewN | apply below_drew1 | refine below_set ?_ GE163.out | refine below_set ?_ GE181.out | refine below_set ?_ GE190.out) | exact HB.out)) hb); clear BK163; clear BK181; clear BK190; clear HB; have BK163 := n0_; have BK181 := n1_; have BK190 := n2_; have HB := n3_; clear n0_ n1_ n2_ n3_; (try clear hb); (try clear hb2); (try clear hk); (try clear hi)) | ((with_reducible refine gate_callee (f := 11) rfl ?_); refine goesL_ (some 105) rfl rfl Tryz.func11 (by kernel_rfl) rfl #[.int .i64 t191] rfl (by (try simp only [List.map_toArray, List.map_cons, List.map_nil]); first | done | rfl | (simp only [List.length_drop, List.length_take]; rfl)) ?_; (with_reducible refine (pergolalaw09_num.calls t191 t192 _ A50.out).mono ?_); rintro e w' ⟨rfl, ⟨nd, rfl⟩⟩; refine ⟨_, rfl, ?_⟩) | (go_at_call 11; (with_reducible refine (pergolalaw09_num.calls t191 t192 _ A50.out).mono ?_); rintro e w' ⟨rfl, ⟨nd, rfl⟩⟩) | (go_at_call 11; (with_reducible refine (pergolalaw09_num.calls t184 t193 _ A52.out).mono ?_); rintro e w' ⟨rfl, ⟨nd, rfl⟩⟩) | (go_at_call 11; (with_reducible refine (pergolalaw09_num.calls t189 t194 _ A54.out).mono ?_); rintro e w' ⟨rfl, ⟨nd, rfl⟩⟩; have hcz71_0 : w70.cell? ⟨gb190, 0, none⟩ = some (.int .i64 t185) := (blk_cell BK190.out 0).trans rfl; have hcz71_1 : w70.cell? ⟨gb190, 1, none⟩ = some (.int .i64 t186) := (blk_cell BK190.out 1).trans rfl; have hcz71_2 : w70.cell? ⟨gb190, 2, none⟩ = some (.string t187) := (blk_cell BK190.out 2).trans rfl; have hfz71_0 := blk_frozen BK190.out 0; have hfz71_1 := blk_frozen BK190.out 1; have hfz71_2 := blk_frozen BK190.out 2; have hcz72_0 : w70.cell? ⟨gb181, 0, none⟩ = some (.int .i64 t176) := (blk_cell BK181.out 0).trans rfl; have hcz72_1 : w70.cell? ⟨gb181, 1, none⟩ = some (.int .i64 t177) := (blk_cell BK181.out 1).trans rfl; have hcz72_2 : w70.cell? ⟨gb181, 2, none⟩ = some (.string t178) := (blk_cell BK181.out 2).trans rfl; have hfz72_0 := blk_frozen BK181.out 0; have hfz72_1 := blk_frozen BK181.out 1; have hfz72_2 := blk_frozen BK181.out 2))
           go_ret
           exact ⟨by first | rfl | (simp [errW_none, errW_some] <;> rfl) | (simp [*, errW_none, errW_some] <;> rfl), by repeat (first | (with_reducible first | exact HB.out | apply below_alloc | apply pw_below_drewN | apply below_drew1 | refine below_set ?_ GE163.out | refine below_set ?_ GE181.out | refine below_set ?_ GE190.out) | exact HB.out)⟩
          ·rw [if_neg c58] at H
           have c58b0 : decide (a2 < t179) = false := decide_eq_false c58
           clear c58
           exact absurd H (by simp)
         ·rw [if_neg c57] at H
          have c57b0 : (t185 == t176 && (t186 == t177 && (t187.toList == t178.toList))) = false := by simpa using c57
          (try (have c57b1 : decide (t185 = t176 && (t186 == t177 && (t187.toList == t178.toList))) = false := by simpa using c57))
          (try (have c57b2 : (t185 == t176 && (t186 == t177 && (t187.toList == t178.toList))) = false := by simpa using c57))
          (try (have c57b3 : ¬ (t185 = t176 && (t186 == t177 && (t187.toList == t178.toList))) := by simpa using c57))
          clear c57
          exact absurd H (by simp)
        ·rw [if_neg c56] at H
         have c56b0 : (t188 == (t183.size : Int)) = false := beq_eq_false_iff_ne.mpr c56
         have c56b1 : (t188 != (t183.size : Int)) = true := bne_iff_ne.mpr c56
         exact absurd H (by simp)
       ·rw [if_neg c55] at H
        have c55b0 : (t194 == 0) = false := beq_eq_false_iff_ne.mpr c55
        have c55b1 : (t194 != 0) = true := bne_iff_ne.mpr c55
        exact absurd H (by simp)
      ·rw [if_neg c53] at H
       have c53b0 : (t193 == 0) = false := beq_eq_false_iff_ne.mpr c53
       have c53b1 : (t193 != 0) = true := bne_iff_ne.mpr c53
       exact absurd H (by simp)
     ·rw [if_neg c51] at H
      have c51b0 : (t192 == 0) = false := beq_eq_false_iff_ne.mpr c51
      have c51b1 : (t192 != 0) = true := bne_iff_ne.mpr c51
      exact absurd H (by simp)
    ·rw [if_neg c46] at H
     have c46b0 : (t182 == 0) = false := beq_eq_false_iff_ne.mpr c46
     have c46b1 : (t182 != 0) = true := bne_iff_ne.mpr c46
     by_cases c149 : (t176 == 0 && (t177 == 0 && (t178.toList == ([] : List UInt8)))) = true
     ·rw [if_pos c149] at H
      have c149b0 : (t176 == 0 && (t177 == 0 && (t178.toList == ([] : List UInt8)))) = true := c149
      (try (have c149b1 : decide (t176 = 0 && (t177 == 0 && (t178.toList == ([] : List UInt8)))) = true := by simpa using c149))
      (try (have c149b2 : (t176 == 0 && (t177 == 0 && (t178.toList == ([] : List UInt8)))) = true := by simpa using c149))
      clear c149
      by_cases c150 : a2 < 0
      ·rw [if_pos c150] at H
       have c150b0 : decide (a2 < 0) = true := decide_eq_true c150
       clear c150
       go_wp2_with (first | ((with_reducible refine gate_callee (f := 12) rfl ?_); refine goesL_ (some 61) rfl rfl Tryz.func12 (by kernel_rfl) rfl #[.string a1, .int .i64 a2] rfl (by (try simp only [List.map_toArray, List.map_cons, List.map_nil]); first | done | rfl | (simp only [List.length_drop, List.length_take]; rfl)) ?_; (with_reducible refine (bare_Read.calls a1 a2 t176 t177 t178 t179 t180 _ ?tabU_ A44.out).mono ?_); (case tabU_ => exact Utf8Is.below HU0_.out (by repeat (first | (with_reducible first | exact HB.out | apply below_alloc | apply pw_below_drewN | apply below_drew1 | refine below_set ?_ GE163.out) | exact HB.out))); rintro e w151 ⟨rfl, hb⟩; refine ⟨_, rfl, ?_⟩; have n0_ := Aside0.mk (blk_below (g := gb163) (o := .cells #[.int .i64 a0_0, .int .i64 a0_1, .string a0_2] 24 (0, 0)) (by (with_reducible repeat (first | refine blk_drewN ?_ _ | refine blk_drew ?_ | refine blk_alloc ?_ _)); exact BK163.out) hb); have n1_ := Aside0.mk (below_step (by repeat (first | (with_reducible first | exact HB.out | apply below_alloc | apply pw_below_drewN | apply below_drew1 | refine below_set ?_ GE163.out) | exact HB.out)) hb); clear BK163; clear HB; have BK163 := n0_; have HB := n1_; clear n0_ n1_; (try clear hb); (try clear hb2); (try clear hk); (try clear hi)) | ((with_reducible refine gate_dst (N := 12) rfl ?_); (try (refine gate_guard (by rfl) ?_; dsimp only)); refine box_event ?hg (N := 12) ?hd (cs := #[.int .i64 0, .int .i64 0, .string (⟨#[]⟩ : ByteArray)]) (t := 24) ?hr ?_; (case hd => rfl); (case hg => rfl); (case hr => first | (go_simp; done) | (go_simp; rfl)); intro gb181 hg w152 hbox hb; have n0_ := Aside0.mk (blk_below (g := gb163) (o := .cells #[.int .i64 a0_0, .int .i64 a0_1, .string a0_2] 24 (0, 0)) (by (with_reducible repeat (first | refine blk_drewN ?_ _ | refine blk_drew ?_ | refine blk_alloc ?_ _)); exact BK163.out) hb); have n1_ := Aside0.mk (below_step (by repeat (first | (with_reducible first | exact HB.out | apply below_alloc | apply pw_below_drewN | apply below_drew1 | refine below_set ?_ GE163.out) | exact HB.out)) hb); have n2_ := Aside0.mk (hbox); have n3_ := Aside0.mk ((by rw [hg]; exact (below_size (by repeat (first | (with_reducible first | exact HB.out | apply below_alloc | apply pw_below_drewN | apply below_drew1 | refine below_set ?_ GE163.out) | exact HB.out))) : w.heap.size ≤ gb181)); have n4_ := Aside0.mk ((by rw [hg]; exact (below_size (by repeat (first | (with_reducible first | exact HB.out | apply below_alloc | apply pw_below_drewN | apply below_drew1 | refine below_set ?_ GE163.out) | exact HB.out))) : w.heap.size ≤ gb181)); have n5_ := Aside0.mk ((by rw [hg]; exact Nat.ne_of_lt (blk_lt (g := gb163) (o := .cells #[.int .i64 a0_0, .int .i64 a0_1, .string a0_2] 24 (0, 0)) (by (with_reducible repeat (first | refine blk_drewN ?_ _ | refine blk_drew ?_ | refine blk_alloc ?_ _)); exact BK163.out)) : gb163 ≠ gb181)); have n6_ := Aside0.mk ((by rw [hg]; exact Nat.ne_of_gt (blk_lt (g := gb163) (o := .cells #[.int .i64 a0_0, .int .i64 a0_1, .string a0_2] 24 (0, 0)) (by (with_reducible repeat (first | refine blk_drewN ?_ _ | refine blk_drew ?_ | refine blk_alloc ?_ _)); exact BK163.out)) : gb181 ≠ gb163)); clear BK163; clear HB; have BK163 := n0_; have HB := n1_; have BK181 := n2_; have GW181 := n3_; have GE181 := n4_; have NB163_181 := n5_; have NB181_163 := n6_; clear n0_ n1_ n2_ n3_ n4_ n5_ n6_; clear hb hbox hg; have hnb153 := NB181_163.out; have hnc153 := NB163_181.out; have hcz154_0 : w152.cell? ⟨gb181, 0, none⟩ = some (.int .i64 0) := (blk_cell BK181.out 0).trans rfl; have hcz154_1 : w152.cell? ⟨gb181, 1, none⟩ = some (.int .i64 0) := (blk_cell BK181.out 1).trans rfl; have hcz154_2 : w152.cell? ⟨gb181, 2, none⟩ = some (.string (⟨#[]⟩ : ByteArray)) := (blk_cell BK181.out 2).trans rfl; have hfz154_0 := blk_frozen BK181.out 0; have hfz154_1 := blk_frozen BK181.out 1; have hfz154_2 := blk_frozen BK181.out 2) | ((with_reducible refine gate_callee (f := 11) rfl ?_); refine goesL_ (some 66) rfl rfl Tryz.func11 (by kernel_rfl) rfl #[.int .i64 t180] rfl (by (try simp only [List.map_toArray, List.map_cons, List.map_nil]); first | done | rfl | (simp only [List.length_drop, List.length_take]; rfl)) ?_; (with_reducible refine (pergolalaw09_num.calls t180 t182 _ A45.out).mono ?_); rintro e w' ⟨rfl, ⟨nd, rfl⟩⟩; refine ⟨_, rfl, ?_⟩) | (go_at_call 11; (with_reducible refine (pergolalaw09_num.calls t180 t182 _ A45.out).mono ?_); rintro e w' ⟨rfl, ⟨nd, rfl⟩⟩))
       all_goals (try (rename_i h_; exact (h_ (by simpa using c149b0)).elim))
       go_ret
       exact ⟨by first | rfl | (simp [errW_none, errW_some] <;> rfl) | (simp [*, errW_none, errW_some] <;> rfl), by repeat (first | (with_reducible first | exact HB.out | apply below_alloc | apply pw_below_drewN | apply below_drew1 | refine below_set ?_ GE163.out | refine below_set ?_ GE181.out) | exact HB.out)⟩
      ·rw [if_neg c150] at H
       have c150b0 : decide (a2 < 0) = false := decide_eq_false c150
       clear c150
       by_cases c155 : a2 > (a1.size : Int)
       ·rw [if_pos c155] at H
        have c155b0 : decide ((a1.size : Int) < a2) = true := decide_eq_true c155
        clear c155
        go_wp2_with (first | ((with_reducible refine gate_callee (f := 12) rfl ?_); refine goesL_ (some 61) rfl rfl Tryz.func12 (by kernel_rfl) rfl #[.string a1, .int .i64 a2] rfl (by (try simp only [List.map_toArray, List.map_cons, List.map_nil]); first | done | rfl | (simp only [List.length_drop, List.length_take]; rfl)) ?_; (with_reducible refine (bare_Read.calls a1 a2 t176 t177 t178 t179 t180 _ ?tabU_ A44.out).mono ?_); (case tabU_ => exact Utf8Is.below HU0_.out (by repeat (first | (with_reducible first | exact HB.out | apply below_alloc | apply pw_below_drewN | apply below_drew1 | refine below_set ?_ GE163.out) | exact HB.out))); rintro e w156 ⟨rfl, hb⟩; refine ⟨_, rfl, ?_⟩; have n0_ := Aside0.mk (blk_below (g := gb163) (o := .cells #[.int .i64 a0_0, .int .i64 a0_1, .string a0_2] 24 (0, 0)) (by (with_reducible repeat (first | refine blk_drewN ?_ _ | refine blk_drew ?_ | refine blk_alloc ?_ _)); exact BK163.out) hb); have n1_ := Aside0.mk (below_step (by repeat (first | (with_reducible first | exact HB.out | apply below_alloc | apply pw_below_drewN | apply below_drew1 | refine below_set ?_ GE163.out) | exact HB.out)) hb); clear BK163; clear HB; have BK163 := n0_; have HB := n1_; clear n0_ n1_; (try clear hb); (try clear hb2); (try clear hk); (try clear hi)) | ((with_reducible refine gate_dst (N := 12) rfl ?_); (try (refine gate_guard (by rfl) ?_; dsimp only)); refine box_event ?hg (N := 12) ?hd (cs := #[.int .i64 0, .int .i64 0, .string (⟨#[]⟩ : ByteArray)]) (t := 24) ?hr ?_; (case hd => rfl); (case hg => rfl); (case hr => first | (go_simp; done) | (go_simp; rfl)); intro gb181 hg w157 hbox hb; have n0_ := Aside0.mk (blk_below (g := gb163) (o := .cells #[.int .i64 a0_0, .int .i64 a0_1, .string a0_2] 24 (0, 0)) (by (with_reducible repeat (first | refine blk_drewN ?_ _ | refine blk_drew ?_ | refine blk_alloc ?_ _)); exact BK163.out) hb); have n1_ := Aside0.mk (below_step (by repeat (first | (with_reducible first | exact HB.out | apply below_alloc | apply pw_below_drewN | apply below_drew1 | refine below_set ?_ GE163.out) | exact HB.out)) hb); have n2_ := Aside0.mk (hbox); have n3_ := Aside0.mk ((by rw [hg]; exact (below_size (by repeat (first | (with_reducible first | exact HB.out | apply below_alloc | apply pw_below_drewN | apply below_drew1 | refine below_set ?_ GE163.out) | exact HB.out))) : w.heap.size ≤ gb181)); have n4_ := Aside0.mk ((by rw [hg]; exact (below_size (by repeat (first | (with_reducible first | exact HB.out | apply below_alloc | apply pw_below_drewN | apply below_drew1 | refine below_set ?_ GE163.out) | exact HB.out))) : w.heap.size ≤ gb181)); have n5_ := Aside0.mk ((by rw [hg]; exact Nat.ne_of_lt (blk_lt (g := gb163) (o := .cells #[.int .i64 a0_0, .int .i64 a0_1, .string a0_2] 24 (0, 0)) (by (with_reducible repeat (first | refine blk_drewN ?_ _ | refine blk_drew ?_ | refine blk_alloc ?_ _)); exact BK163.out)) : gb163 ≠ gb181)); have n6_ := Aside0.mk ((by rw [hg]; exact Nat.ne_of_gt (blk_lt (g := gb163) (o := .cells #[.int .i64 a0_0, .int .i64 a0_1, .string a0_2] 24 (0, 0)) (by (with_reducible repeat (first | refine blk_drewN ?_ _ | refine blk_drew ?_ | refine blk_alloc ?_ _)); exact BK163.out)) : gb181 ≠ gb163)); clear BK163; clear HB; have BK163 := n0_; have HB := n1_; have BK181 := n2_; have GW181 := n3_; have GE181 := n4_; have NB163_181 := n5_; have NB181_163 := n6_; clear n0_ n1_ n2_ n3_ n4_ n5_ n6_; clear hb hbox hg; have hnb158 := NB181_163.out; have hnc158 := NB163_181.out; have hcz159_0 : w157.cell? ⟨gb181, 0, none⟩ = some (.int .i64 0) := (blk_cell BK181.out 0).trans rfl; have hcz159_1 : w157.cell? ⟨gb181, 1, none⟩ = some (.int .i64 0) := (blk_cell BK181.out 1).trans rfl; have hcz159_2 : w157.cell? ⟨gb181, 2, none⟩ = some (.string (⟨#[]⟩ : ByteArray)) := (blk_cell BK181.out 2).trans rfl; have hfz159_0 := blk_frozen BK181.out 0; have hfz159_1 := blk_frozen BK181.out 1; have hfz159_2 := blk_frozen BK181.out 2) | ((with_reducible refine gate_callee (f := 11) rfl ?_); refine goesL_ (some 66) rfl rfl Tryz.func11 (by kernel_rfl) rfl #[.int .i64 t180] rfl (by (try simp only [List.map_toArray, List.map_cons, List.map_nil]); first | done | rfl | (simp only [List.length_drop, List.length_take]; rfl)) ?_; (with_reducible refine (pergolalaw09_num.calls t180 t182 _ A45.out).mono ?_); rintro e w' ⟨rfl, ⟨nd, rfl⟩⟩; refine ⟨_, rfl, ?_⟩) | (go_at_call 11; (with_reducible refine (pergolalaw09_num.calls t180 t182 _ A45.out).mono ?_); rintro e w' ⟨rfl, ⟨nd, rfl⟩⟩))
        all_goals (try (rename_i h_; exact (h_ (by simpa using c149b0)).elim))
        go_ret
        exact ⟨by first | rfl | (simp [errW_none, errW_some] <;> rfl) | (simp [*, errW_none, errW_some] <;> rfl), by repeat (first | (with_reducible first | exact HB.out | apply below_alloc | apply pw_below_drewN | apply below_drew1 | refine below_set ?_ GE163.out | refine below_set ?_ GE181.out) | exact HB.out)⟩
       ·rw [if_neg c155] at H
        have c155b0 : decide ((a1.size : Int) < a2) = false := decide_eq_false c155
        clear c155
        by_cases c160 : t179 ≥ a2
        ·rw [if_pos c160] at H
         have c160b0 : decide (a2 ≤ t179) = true := decide_eq_true c160
         clear c160
         replace H := Option.some.inj H
         go_wp2_with (first | ((with_reducible refine gate_callee (f := 12) rfl ?_); refine goesL_ (some 61) rfl rfl Tryz.func12 (by kernel_rfl) rfl #[.string a1, .int .i64 a2] rfl (by (try simp only [List.map_toArray, List.map_cons, List.map_nil]); first | done | rfl | (simp only [List.length_drop, List.length_take]; rfl)) ?_; (with_reducible refine (bare_Read.calls a1 a2 t176 t177 t178 t179 t180 _ ?tabU_ A44.out).mono ?_); (case tabU_ => exact Utf8Is.below HU0_.out (by repeat (first | (with_reducible first | exact HB.out | apply below_alloc | apply pw_below_drewN | apply below_drew1 | refine below_set ?_ GE163.out) | exact HB.out))); rintro e w161 ⟨rfl, hb⟩; refine ⟨_, rfl, ?_⟩; have n0_ := Aside0.mk (blk_below (g := gb163) (o := .cells #[.int .i64 a0_0, .int .i64 a0_1, .string a0_2] 24 (0, 0)) (by (with_reducible repeat (first | refine blk_drewN ?_ _ | refine blk_drew ?_ | refine blk_alloc ?_ _)); exact BK163.out) hb); have n1_ := Aside0.mk (below_step (by repeat (first | (with_reducible first | exact HB.out | apply below_alloc | apply pw_below_drewN | apply below_drew1 | refine below_set ?_ GE163.out) | exact HB.out)) hb); clear BK163; clear HB; have BK163 := n0_; have HB := n1_; clear n0_ n1_; (try clear hb); (try clear hb2); (try clear hk); (try clear hi)) | ((with_reducible refine gate_dst (N := 12) rfl ?_); (try (refine gate_guard (by rfl) ?_; dsimp only)); refine box_event ?hg (N := 12) ?hd (cs := #[.int .i64 0, .int .i64 0, .string (⟨#[]⟩ : ByteArray)]) (t := 24) ?hr ?_; (case hd => rfl); (case hg => rfl); (case hr => first | (go_simp; done) | (go_simp; rfl)); intro gb181 hg w162 hbox hb; have n0_ := Aside0.mk (blk_below (g := gb163) (o := .cells #[.int .i64 a0_0, .int .i64 a0_1, .string a0_2] 24 (0, 0)) (by (with_reducible repeat (first | refine blk_drewN ?_ _ | refine blk_drew ?_ | refine blk_alloc ?_ _)); exact BK163.out) hb); have n1_ := Aside0.mk (below_step (by repeat (first | (with_reducible first | exact HB.out | apply below_alloc | apply pw_below_drewN | apply below_drew1 | refine below_set ?_ GE163.out) | exact HB.out)) hb); have n2_ := Aside0.mk (hbox); have n3_ := Aside0.mk ((by rw [hg]; exact (below_size (by repeat (first | (with_reducible first | exact HB.out | apply below_alloc | apply pw_below_drewN | apply below_drew1 | refine below_set ?_ GE163.out) | exact HB.out))) : w.heap.size ≤ gb181)); have n4_ := Aside0.mk ((by rw [hg]; exact (below_size (by repeat (first | (with_reducible first | exact HB.out | apply below_alloc | apply pw_below_drewN | apply below_drew1 | refine below_set ?_ GE163.out) | exact HB.out))) : w.heap.size ≤ gb181)); have n5_ := Aside0.mk ((by rw [hg]; exact Nat.ne_of_lt (blk_lt (g := gb163) (o := .cells #[.int .i64 a0_0, .int .i64 a0_1, .string a0_2] 24 (0, 0)) (by (with_reducible repeat (first | refine blk_drewN ?_ _ | refine blk_drew ?_ | refine blk_alloc ?_ _)); exact BK163.out)) : gb163 ≠ gb181)); have n6_ := Aside0.mk ((by rw [hg]; exact Nat.ne_of_gt (blk_lt (g := gb163) (o := .cells #[.int .i64 a0_0, .int .i64 a0_1, .string a0_2] 24 (0, 0)) (by (with_reducible repeat (first | refine blk_drewN ?_ _ | refine blk_drew ?_ | refine blk_alloc ?_ _)); exact BK163.out)) : gb181 ≠ gb163)); clear BK163; clear HB; have BK163 := n0_; have HB := n1_; have BK181 := n2_; have GW181 := n3_; have GE181 := n4_; have NB163_181 := n5_; have NB181_163 := n6_; clear n0_ n1_ n2_ n3_ n4_ n5_ n6_; clear hb hbox hg; have hnb163 := NB181_163.out; have hnc163 := NB163_181.out; have hcz164_0 : w162.cell? ⟨gb181, 0, none⟩ = some (.int .i64 0) := (blk_cell BK181.out 0).trans rfl; have hcz164_1 : w162.cell? ⟨gb181, 1, none⟩ = some (.int .i64 0) := (blk_cell BK181.out 1).trans rfl; have hcz164_2 : w162.cell? ⟨gb181, 2, none⟩ = some (.string (⟨#[]⟩ : ByteArray)) := (blk_cell BK181.out 2).trans rfl; have hfz164_0 := blk_frozen BK181.out 0; have hfz164_1 := blk_frozen BK181.out 1; have hfz164_2 := blk_frozen BK181.out 2) | ((with_reducible refine gate_callee (f := 11) rfl ?_); refine goesL_ (some 66) rfl rfl Tryz.func11 (by kernel_rfl) rfl #[.int .i64 t180] rfl (by (try simp only [List.map_toArray, List.map_cons, List.map_nil]); first | done | rfl | (simp only [List.length_drop, List.length_take]; rfl)) ?_; (with_reducible refine (pergolalaw09_num.calls t180 t182 _ A45.out).mono ?_); rintro e w' ⟨rfl, ⟨nd, rfl⟩⟩; refine ⟨_, rfl, ?_⟩) | (go_at_call 11; (with_reducible refine (pergolalaw09_num.calls t180 t182 _ A45.out).mono ?_); rintro e w' ⟨rfl, ⟨nd, rfl⟩⟩))
         all_goals (try (rename_i h_; exact (h_ (by simpa using c149b0)).elim))
         go_ret
         exact ⟨by first | rfl | (simp [errW_none, errW_some] <;> rfl) | (simp [*, errW_none, errW_some] <;> rfl), by repeat (first | (with_reducible first | exact HB.out | apply below_alloc | apply pw_below_drewN | apply below_drew1 | refine below_set ?_ GE163.out | refine below_set ?_ GE181.out) | exact HB.out)⟩
        ·rw [if_neg c160] at H
         have c160b0 : decide (a2 ≤ t179) = false := decide_eq_false c160
         clear c160
         exact absurd H (by simp)
     ·rw [if_neg c149] at H
      have c149b0 : (t176 == 0 && (t177 == 0 && (t178.toList == ([] : List UInt8)))) = false := by simpa using c149
      (try (have c149b1 : decide (t176 = 0 && (t177 == 0 && (t178.toList == ([] : List UInt8)))) = false := by simpa using c149))
      (try (have c149b2 : (t176 == 0 && (t177 == 0 && (t178.toList == ([] : List UInt8)))) = false := by simpa using c149))
      (try (have c149b3 : ¬ (t176 = 0 && (t177 == 0 && (t178.toList == ([] : List UInt8)))) := by simpa using c149))
      clear c149
      exact absurd H (by simp)
 ·replace c5 := Bool.eq_false_iff.mpr c5
  subst c5
  have H1 : (some false) = some true := by rw [if_neg (show ¬ (false = true) by decide)] at H; exact H
  clear H
  have H := H1
  clear H1
  exact absurd H (by simp)

end Go.Proofs.YtkbmbancfbfddaaGreatDoor.X
