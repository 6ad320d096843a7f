/- Layer 9's reader: its bytes, by hand, over what strings.IndexByte and octets.Unbase64 do. -/
import Derived.Test.YtkbmbancfbfddaaGreatDoorXWRs
import Derived.Deep.RegionHeld3
namespace Go.Proofs.YtkbmbancfbfddaaGreatDoorW.PrintWords
open Go.RowKit

def rdBytes (IX : ByteArray → Int) (U : ByteArray → Option (List Int × Int × Int)) (s : ByteArray) (at_ : Int) : Option RR :=
 if IX (s.extract (at_ + 1).toNat s.size) < 0 then some (.inl (s.size, 99))
 else (U (s.extract (at_ + 1).toNat (at_ + 1 + IX (s.extract (at_ + 1).toNat s.size)).toNat)).bind fun r =>
  some (if r.2.1 = 0 then .inr ((5, 0, strOfNums r.1), at_ + 1 + (IX (s.extract (at_ + 1).toNat s.size) + 1)) else .inl (at_ + 1 + r.2.2, 94))
theorem R_setAt {w : World} {b g : Nat} {v : Value} {xs : List Int} (h : Kd.R (Kd.int .u8) 5 w b (fun _ => True) v xs) (hg : g < b) (j : Nat) (u : Value) : Kd.R (Kd.int .u8) 5 (w.setCell ⟨g, j, none⟩ u) b (fun k => b ≤ k) v xs :=
 Kd.R_far (Kd.R_mono (Kd.R_bound h) (fun _ hk => hk.2.1)) (fun k hk => by show k ≠ g; omega) u
set_option maxHeartbeats 4000000 in
set_option maxRecDepth 100000 in
theorem bytes_calls (IX : ByteArray → Int) (U : ByteArray → Option (List Int × Int × Int)) (hIX : ∀ a, IX a < (a.size : Int))
  (HI : ∀ (a : ByteArray) (w : World), Calls Tryz.prog 74 #[.string a, .int .u8 58] w fun x w' => x = .returned (.int .i64 (IX a)) ∧ Drawn0 w w')
  (HU : ∀ (a : ByteArray) (r1 : List Int) (r2 r3 : Int) (w : World), U a = some (r1, r2, r3) → Calls Tryz.prog 75 #[.string a] w fun x w' => ∃ v0_ : Value, x = .returned (.tuple #[v0_, .int .i64 r2, .int .i64 r3]) ∧ Kd.R (Kd.int .u8) 5 w' w.heap.size (fun _ => True) v0_ r1 ∧ Below w.heap.size w w')
  (hU : ∀ a r1 r2 r3, U a = some (r1, r2, r3) → -1 ≤ r3 ∧ r3 ≤ (a.size : Int))
  (g : Nat) (s : ByteArray) (at_ : Int) (w : World) (hr : RdAt w g s at_) (h0 : 0 ≤ at_) (h1 : at_ < (s.size : Int)) (hs : s.size ≤ 140737488355327) (R : RR) (hR : rdBytes IX U s at_ = some R) :
  Calls Tryz.prog 40 #[.pointer (some ⟨g, 0, none⟩)] w fun x w' => Gives x w w' g s R := by
 unfold rdBytes at hR
 have hlo : 0 ≤ at_ + 1 ∧ at_ + 1 ≤ (s.size : Int) := ⟨by omega, by omega⟩
 have hIX1 := hIX (s.extract (at_ + 1).toNat s.size)
 rw [show ((s.extract (at_ + 1).toNat s.size).size : Int) = s.size - (at_ + 1) by simp; omega] at hIX1
 have HIq : ∀ (w : World) (n : Nat), Calls Tryz.prog 74 #[.string (s.extract (at_ + 1).toNat s.size), .int .u8 58] (w.drewN n) fun x w' => x = .returned (.int .i64 (IX (s.extract (at_ + 1).toNat s.size))) ∧ ∃ m, w' = w.drewN m := fun w n => Calls.quiet_of ((HI _ _).mono fun _ _ ⟨he, ⟨h⟩⟩ => ⟨he, h⟩)
 clear HI
 generalize IX (s.extract (at_ + 1).toNat s.size) = ix at *
 by_cases hx : ix < 0
 ·rw [if_pos hx] at hR
  obtain rfl := Option.some.inj hR
  clear hR
  go_enter Tryz.func40, Tryz.ntmps40
  go_wp2_with (first
   | ((with_reducible refine gate_dst (N := 2) rfl ?_); refine box_event ?hg (N := 2) ?hd (cs := #[.int .i64 0, .int .i64 0, .string ⟨#[]⟩]) (t := 24) ?hr ?_; (case hd => rfl); (case hg => rfl); (case hr => first | (go_simp; done) | (go_simp; rfl)); intro gb hg w1 hbox hb; have W0 := Aside0.mk (((Went.refl w g).more hb).set 1 (.int .i64 (at_ + 1))); have hr1 := hr.more hb; have hc1 := hr1.c1; have hf1 := hr1.f1; have HR2 := Aside0.mk (hr1.set (at_ + 1)); have HGL := Aside0.mk (blk_lt hr); have HG := Aside0.mk (show gb ≠ g from fun e => by have := blk_lt hr; omega); have HGE := Aside0.mk (show w.heap.size ≤ gb by omega); have HX := Aside0.mk (blk_far (p := ⟨g, 1, none⟩) hbox HG.out (.int .i64 (at_ + 1))); clear hb hbox hg hr1))
  generalize w1.setCell ⟨g, 1, none⟩ (.int .i64 (at_ + 1)) = w2 at *
  clear hc1 hf1
  have q0 := HR2.out.c0
  have q1 := HR2.out.c1
  have HIQ := Aside0.mk (HIq w2)
  go_quiet (first | (go_at_call 74; exact HIQ.out _))
  have HR3 := Aside0.mk (HR2.out.more (pw_below_drewN (Below.refl _ _) nq))
  have W3 := Aside0.mk (W0.out.drewN nq)
  have HX3 : Aside0 ((w2.drewN nq).heap[gb]? = some (.cells #[.int .i64 0, .int .i64 0, .string ⟨#[]⟩] 24 (0, 0))) := ⟨HX.out⟩
  clear q0 q1 HR2 W0 HX HIQ
  generalize w2.drewN nq = w3 at *
  have q0 := HR3.out.c0
  have q1 := HR3.out.c1
  go_wp2_with (first | (go_at_call 44; refine (stop_calls _ _ _ _).mono ?_; rintro e w5 ⟨rfl, rfl⟩))
  exact ⟨rfl, rfl, W3.out⟩
 ·rw [if_neg hx] at hR
  replace hR := Option.bind_eq_some_iff.mp hR
  obtain ⟨⟨r1, r2, r3⟩, hu, hR⟩ := hR
  have hub := hU _ _ _ _ hu
  rw [show ((s.extract (at_ + 1).toNat (at_ + 1 + ix).toNat).size : Int) = ix by simp; omega] at hub
  have HUc := Aside0.mk (fun w => HU _ _ _ _ w hu)
  clear hu HU hU
  simp only at hR
  have hR' := Option.some.inj hR
  clear hR
  have hwx : IntKind.i64.wrap (at_ + 1 + ix) = at_ + 1 + ix := wrap_small _ (by omega) (by omega)
  have hs1 : (0 : Int) ≤ at_ + 1 := by omega
  have hs2 : at_ + 1 ≤ at_ + 1 + ix := by omega
  have hs3 : at_ + 1 + ix ≤ (s.size : Int) := by omega
  have hsl : 0 ≤ at_ + 1 ∧ at_ + 1 ≤ at_ + 1 + ix ∧ at_ + 1 + ix ≤ (s.size : Int) := ⟨by omega, by omega, by omega⟩
  by_cases h2 : r2 = 0
  ·rw [if_pos h2] at hR'
   subst hR'
   subst h2
   go_enter Tryz.func40, Tryz.ntmps40
   go_wp2_with (first
    | ((with_reducible refine gate_dst (N := 2) rfl ?_); refine box_event ?hg (N := 2) ?hd (cs := #[.int .i64 0, .int .i64 0, .string ⟨#[]⟩]) (t := 24) ?hr ?_; (case hd => rfl); (case hg => rfl); (case hr => first | (go_simp; done) | (go_simp; rfl)); intro gb hg w1 hbox hb; have W0 := Aside0.mk (((Went.refl w g).more hb).set 1 (.int .i64 (at_ + 1))); have hr1 := hr.more hb; have hc1 := hr1.c1; have hf1 := hr1.f1; have HR2 := Aside0.mk (hr1.set (at_ + 1)); have HGL := Aside0.mk (blk_lt hr); have HG := Aside0.mk (show gb ≠ g from fun e => by have := blk_lt hr; omega); have HGE := Aside0.mk (show w.heap.size ≤ gb by omega); have HX := Aside0.mk (blk_far (p := ⟨g, 1, none⟩) hbox HG.out (.int .i64 (at_ + 1))); clear hb hbox hg hr1))
   generalize w1.setCell ⟨g, 1, none⟩ (.int .i64 (at_ + 1)) = w2 at *
   clear hc1 hf1
   have q0 := HR2.out.c0
   have q1 := HR2.out.c1
   have HIQ := Aside0.mk (HIq w2)
   go_quiet (first | (go_at_call 74; exact HIQ.out _))
   have HR3 := Aside0.mk (HR2.out.more (pw_below_drewN (Below.refl _ _) nq))
   have W3 := Aside0.mk (W0.out.drewN nq)
   have HX3 : Aside0 ((w2.drewN nq).heap[gb]? = some (.cells #[.int .i64 0, .int .i64 0, .string ⟨#[]⟩] 24 (0, 0))) := ⟨HX.out⟩
   clear q0 q1 HR2 W0 HX HIQ
   generalize w2.drewN nq = w3 at *
   have q0 := HR3.out.c0
   have q1 := HR3.out.c1
   go_wp2
   go_region_held3 (fun w' => w'.cell? ⟨g, 0, none⟩ = some (.string s) ∧ w'.cell? ⟨g, 1, none⟩ = some (.int .i64 (at_ + 1))) (first | exact ⟨q0, q1⟩ | exact ⟨HR5.out.c0, HR5.out.c1⟩) (first | (go_at_call 75; refine (HUc.out _).mono ?_; rintro e w5 ⟨v0, rfl, ho, hb5⟩; have HR5 := Aside0.mk (RdAt.more (w := w3.drew) HR3.out hb5); have W5 := Aside0.mk (Went.more (w1 := w3.drew) W3.out.drew hb5); have HX5 := Aside0.mk ((hb5.block gb (blk_lt HX3.out)).trans HX3.out); have HO5 := Aside0.mk ho; clear ho hb5 HUc))
   have hw3 : ((at_ + 1 + (ix + 1) + 9223372036854775808) % 18446744073709551616 - 9223372036854775808) = at_ + 1 + (ix + 1) := by omega
   have hw4 : ((ix + 1 + 9223372036854775808) % 18446744073709551616 - 9223372036854775808) = ix + 1 := by omega
   have z1 := HR5.out.c1
   have zf := HR5.out.f1
   go_upto_region 9 with (fail)
   have HR6 := Aside0.mk (HR5.out.set (at_ + 1 + (ix + 1)))
   have W6 := Aside0.mk (W5.out.set 1 (.int .i64 (at_ + 1 + (ix + 1))))
   have HX6 := Aside0.mk (blk_far (p := ⟨g, 1, none⟩) HX5.out HG.out (.int .i64 (at_ + 1 + (ix + 1))))
   have hcv := own_string (P := Tryz.prog) Tryz.underlying59 Tryz.underlying5 Tryz.underlying9 (Kd.own_of_R (R_setAt HO5.out (show g < w3.drew.heap.size from blk_lt HR3.out) 1 (.int .i64 (at_ + 1 + (ix + 1)))))
   clear z1 zf HR5 W5 HX5 HO5
   generalize w5.setCell ⟨g, 1, none⟩ (.int .i64 (at_ + 1 + (ix + 1))) = w6 at *
   have hx0 : w6.cell? ⟨gb, 0, none⟩ = some (.int .i64 0) := (blk_cell HX6.out 0).trans rfl
   have hx1 : w6.cell? ⟨gb, 1, none⟩ = some (.int .i64 0) := (blk_cell HX6.out 1).trans rfl
   have hx2 : w6.cell? ⟨gb, 2, none⟩ = some (.string ⟨#[]⟩) := (blk_cell HX6.out 2).trans rfl
   have fx0 := blk_frozen HX6.out 0
   have fx1 := blk_frozen HX6.out 1
   have fx2 := blk_frozen HX6.out 2
   go_wp2
   (try simp only [Exit.inBlock, Exit.then])
   refine bodyPost_ret (v := bareV (5, 0, strOfNums r1)) (by simp [results, Tryz.results40, go_sem, bareV, hx0, hx1, hx2]; try rfl) rfl ?_
   exact ⟨rfl, HR6.out.far3 HG.out _ _ _, W6.out.far3 HGE.out _ _ _⟩
  ·rw [if_neg h2] at hR'
   subst hR'
   go_enter Tryz.func40, Tryz.ntmps40
   go_wp2_with (first
    | ((with_reducible refine gate_dst (N := 2) rfl ?_); refine box_event ?hg (N := 2) ?hd (cs := #[.int .i64 0, .int .i64 0, .string ⟨#[]⟩]) (t := 24) ?hr ?_; (case hd => rfl); (case hg => rfl); (case hr => first | (go_simp; done) | (go_simp; rfl)); intro gb hg w1 hbox hb; have W0 := Aside0.mk (((Went.refl w g).more hb).set 1 (.int .i64 (at_ + 1))); have hr1 := hr.more hb; have hc1 := hr1.c1; have hf1 := hr1.f1; have HR2 := Aside0.mk (hr1.set (at_ + 1)); have HGL := Aside0.mk (blk_lt hr); have HG := Aside0.mk (show gb ≠ g from fun e => by have := blk_lt hr; omega); have HGE := Aside0.mk (show w.heap.size ≤ gb by omega); have HX := Aside0.mk (blk_far (p := ⟨g, 1, none⟩) hbox HG.out (.int .i64 (at_ + 1))); clear hb hbox hg hr1))
   generalize w1.setCell ⟨g, 1, none⟩ (.int .i64 (at_ + 1)) = w2 at *
   clear hc1 hf1
   have q0 := HR2.out.c0
   have q1 := HR2.out.c1
   have HIQ := Aside0.mk (HIq w2)
   go_quiet (first | (go_at_call 74; exact HIQ.out _))
   have HR3 := Aside0.mk (HR2.out.more (pw_below_drewN (Below.refl _ _) nq))
   have W3 := Aside0.mk (W0.out.drewN nq)
   have HX3 : Aside0 ((w2.drewN nq).heap[gb]? = some (.cells #[.int .i64 0, .int .i64 0, .string ⟨#[]⟩] 24 (0, 0))) := ⟨HX.out⟩
   clear q0 q1 HR2 W0 HX HIQ
   generalize w2.drewN nq = w3 at *
   have q0 := HR3.out.c0
   have q1 := HR3.out.c1
   go_wp2
   go_region_held3 (fun w' => w'.cell? ⟨g, 0, none⟩ = some (.string s) ∧ w'.cell? ⟨g, 1, none⟩ = some (.int .i64 (at_ + 1))) (first | exact ⟨q0, q1⟩ | exact ⟨HR5.out.c0, HR5.out.c1⟩) (first | (go_at_call 75; refine (HUc.out _).mono ?_; rintro e w5 ⟨v0, rfl, ho, hb5⟩; have HR5 := Aside0.mk (RdAt.more (w := w3.drew) HR3.out hb5); have W5 := Aside0.mk (Went.more (w1 := w3.drew) W3.out.drew hb5); have HX5 := Aside0.mk ((hb5.block gb (blk_lt HX3.out)).trans HX3.out); have HO5 := Aside0.mk ho; clear ho hb5 HUc))
   have h2b : (r2 != 0) = true := by simp [h2]
   have hw3 : ((at_ + 1 + r3 + 9223372036854775808) % 18446744073709551616 - 9223372036854775808) = at_ + 1 + r3 := by omega
   have z1 := HR5.out.c1
   go_wp2_with (first | (go_at_call 44; refine (stop_calls _ _ _ _).mono ?_; rintro e w5 ⟨rfl, rfl⟩))
   exact ⟨rfl, rfl, W5.out⟩
end Go.Proofs.YtkbmbancfbfddaaGreatDoorW.PrintWords
