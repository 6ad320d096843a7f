-- Written by wip/xprint.py for this seat
import Derived.Test.YtjadlnmphcoioaaGreatDoorX0
import Derived.Test.YtjadlnmphcoioaaGreatDoorX4
import Derived.Test.YtjadlnmphcoioaaGreatDoorX5
namespace Go.Proofs.YtjadlnmphcoioaaGreatDoor.X
open Go.RowKit Go.Proofs.YtjadlnmphcoioaaGreatDoorW.PrintWords Go.Proofs.YtjadlnmphcoioaaGreatDoorW.PrintLast Go.Proofs.YtjadlnmphcoioaaGreatDoorW.PrintMore
attribute [local go_sem] max2_int min2_int max_two min_two max_three min_three max_four min_four   -- for this text's walks alone
set_option linter.unusedVariables false
set_option linter.unusedSimpArgs false

/-! ### given: pergola/headers.Remove -/
-- USES pergola/octets.Same
-- USES slices.Clone[[]pergola/api.Header,pergola/api.Header]
-- INFO 72
def sameB (n name : ByteArray) : Bool := octets_Same.f n name == some true
/-- What a function value over headers gives, in every world in which the captured text stands. -/
def GivesB (g : Nat) (ad : Addr) (name : ByteArray) (p : S72 → Bool) (l : List S72) : Prop :=
 ∀ (W : World) (h : S72), h ∈ l → W.cell? ad = some (.string name) → Calls Tryz.prog g #[.agg #[.string h.f0, .string h.f1], .pointer (some ad)] W fun e w' => e = .returned (.bool (p h)) ∧ Below W.heap.size W w'
set_option maxHeartbeats 2000000 in
set_option maxRecDepth 100000 in
theorem removeLit_gives (name : ByteArray) (ad : Addr) (l : List S72) (hl : ∀ h ∈ l, (octets_Same.f h.f0 name).isSome = true) :
  GivesB 68 ad name (fun h => sameB h.f0 name) l := fun W h hh hc' => by
 obtain ⟨b, e⟩ := Option.isSome_iff_exists.1 (hl h hh)
 have hs : sameB h.f0 name = b := by
  unfold sameB
  rw [e]
  cases b <;> rfl
 have hcall := octets_Same.calls h.f0 name b W e
 show Calls Tryz.prog 68 #[.agg #[.string h.f0, .string h.f1], .pointer (some ad)] W fun e w' => e = .returned (.bool (sameB h.f0 name)) ∧ Below W.heap.size W w'
 rw [hs]
 clear hs hl hh hcall
 have hcall := fun w2 => octets_Same.calls h.f0 name b w2 e
 generalize h.f0 = n at *
 generalize h.f1 = v at *
 have HC := Aside0.mk hc'
 clear hc' e
 go_enter Tryz.func68, Tryz.ntmps68
 go_wp2_with (first
  | ((with_reducible refine gate_dst (N := 2) rfl ?_); refine box_event ?hg (N := 2) ?hd (cs := #[.string n, .string v]) (t := 72) ?hr ?_; (case hd => rfl); (case hg => rfl); (case hr => first | (go_simp; done) | (go_simp; rfl)); intro gb hg w2 hbox hb2; have HB := Aside0.mk hb2; have hc0 : w2.cell? ⟨gb, 0, none⟩ = some (.string n) := (blk_cell hbox 0).trans rfl; have hc2 : w2.cell? ad = some (.string name) := pw_cell_below hb2 HC.out; clear hb2 hg hbox)
  | (go_at_call 40; refine (hcall _).mono ?_; rintro e w' ⟨rfl, hw⟩; have HB2 := Aside0.mk hw; clear hw))
 go_ret
 exact ⟨rfl, below_step HB.out HB2.out⟩
/-- The first that is so. -/
def fdx (p : S72 → Bool) (l : List S72) : Int := if l.findIdx p < l.length then ((l.findIdx p : Nat) : Int) else -1
theorem fdx_hit {p : S72 → Bool} {l : List S72} {i : Nat} (hi : i < l.length) (h1 : ∀ j (hj : j < l.length), j < i → p (l[j]'hj) = false) (h2 : p (l[i]'hi) = true) : fdx p l = i := by
 have e : l.findIdx p = i := (List.findIdx_eq hi).2 ⟨h2, fun j hj => h1 j (by omega) hj⟩
 unfold fdx
 rw [e, if_pos hi]
theorem fdx_none {p : S72 → Bool} {l : List S72} (h1 : ∀ j (hj : j < l.length), p (l[j]'hj) = false) : fdx p l = -1 := by
 unfold fdx
 rw [if_neg]
 intro h
 have := List.findIdx_getElem (w := h)
 rw [h1 _ h] at this
 cases this
theorem rd_get (l : List S72) (i : Nat) (hi : i < l.length) : rd_T72 l (i : Int) = l[i]'hi := by
 unfold rd_T72
 rw [Int.toNat_natCast, List.getD_eq_getElem?_getD, List.getElem?_eq_getElem hi]
 rfl
set_option maxHeartbeats 4000000 in
set_option maxRecDepth 100000 in
theorem indexFunc_H (g : Nat) (ad : Addr) (name : ByteArray) (eg : ∀ args w, (callFunc g args).run Tryz.prog w = .ok (.enter g args) w) (p : S72 → Bool) (A0 : Option Addr) (c0 : Nat) (l0 : List S72) (w : World)
  (hr0 : Kd.C k72 w A0 l0.length l0) (hp : GivesB g ad name p l0) (hc : w.cell? ad = some (.string name)) :
  Calls Tryz.prog 38 #[.slice A0 l0.length c0, .func (.func g) #[] #[.pointer (some ad)]] w fun e w' => e = .returned (.int .i64 (fdx p l0)) ∧ Below w.heap.size w w' := by
 have HP := Aside0.mk hp
 have HR0 := Aside0.mk hr0
 have hmax : l0.length ≤ 9223372036854775807 := Kd.C_max hr0
 have HC := Aside0.mk hc
 clear hp hr0 hc
 go_enter Tryz.func38, Tryz.ntmps38
 go_wp2
 go_loopg [8] l0.length (fun gk s8 wx => ∃ i : Nat, i + gk = l0.length ∧ s8 = .int .i64 i ∧ Aside0 (Below w.heap.size w wx) ∧ Aside0 (∀ j (hj : j < l0.length), j < i → p (l0[j]'hj) = false))
 case atStart => exact ⟨0, by omega, rfl, ⟨Below.refl _ _⟩, ⟨fun j _ hj => absurd hj (Nat.not_lt_zero _)⟩⟩
 case round =>
  obtain ⟨i, hig, rfl, HB, HN⟩ := hrel
  cases gk with
  | zero =>
   have hiz : ¬ ((i : Int) < (l0.length : Int)) := by omega
   have HE : Aside0 (fdx p l0 = -1) := ⟨fdx_none (fun j hj => HN.out j hj (by omega))⟩
   go_wp2
   go_ret
   exact ⟨by rw [HE.out]; rfl, HB.out⟩
  | succ gk =>
   have hi : i < l0.length := by omega
   have hiz : (i : Int) < (l0.length : Int) := by omega
   have hi0 : (0 : Int) ≤ (i : Int) := by omega
   obtain ⟨ax, e0, hx0, hx1⟩ := at_T72 HR0.out (i : Int) hi0 hiz
   subst e0
   replace hx0 := (HB.out.cell (World.block_lt_of_cell? w _ hx0)).trans hx0
   replace hx1 := (HB.out.cell (World.block_lt_of_cell? w _ hx1)).trans hx1
   rw [rd_get l0 i hi, Int.toNat_natCast] at hx0 hx1
   have hcall := HP.out wr _ (List.getElem_mem hi) (pw_cell_below HB.out HC.out)
   have HI := Aside0.mk (fun h => fdx_hit (p := p) hi HN.out h)
   have HN2 : Aside0 (p (l0[i]'hi) = false → ∀ j (hj : j < l0.length), j < i + 1 → p (l0[j]'hj) = false) := ⟨fun hf j hj hj2 => by
    by_cases e : j = i
    ·subst e; exact hf
    ·exact HN.out j hj (by omega)⟩
   generalize l0[i]'hi = x at *
   cases hpx : p x <;> rw [hpx] at hcall
   ·go_wp2_with (go_at_fn g; refine hcall.mono ?_; rintro e w' ⟨rfl, hw⟩; have HB2 := Aside0.mk (below_step HB.out hw); clear hw)
    go_roundg gk
    case measure => omega
    case rel => exact ⟨i + 1, by omega, by first | rfl | simp, HB2, ⟨HN2.out hpx⟩⟩
   ·go_wp2_with (go_at_fn g; refine hcall.mono ?_; rintro e w' ⟨rfl, hw⟩; have HB2 := Aside0.mk (below_step HB.out hw); clear hw)
    go_ret
    exact ⟨by rw [HI.out hpx]; rfl, HB2.out⟩

/-- What DeleteFunc leaves of the first m: those that are not so. -/
def kept (p : S72 → Bool) (l : List S72) (m : Nat) : List S72 := (l.take m).filter fun h => !p h
theorem kept_succ (p : S72 → Bool) (l : List S72) (m : Nat) (h : m < l.length) : kept p l (m + 1) = kept p l m ++ (if p (l[m]'h) = true then [] else [l[m]'h]) := by
 unfold kept
 rw [List.take_succ_eq_append_getElem h, List.filter_append]
 congr 1
 cases hp : p (l[m]'h) <;> simp [hp]
theorem kept_le (p : S72 → Bool) (l : List S72) (m : Nat) : (kept p l m).length ≤ m := by
 unfold kept
 refine Nat.le_trans (List.length_filter_le _ _) ?_
 rw [List.length_take]
 omega

/-- clear(s[i:]): what stands ahead stands. -/
theorem clear_H {W : World} {base : Nat} {ok : Nat → Prop} {g n cap : Nat} {xs : List S72} (h : Kd.R k72 72 W base ok (.slice (some ⟨g, 0, none⟩) n cap) xs) (i : Nat) (hi : i < n) :
  ∃ W', (∀ ty, (Builtin.clear_ #[22] ty #[.slice (some ⟨g, i * 2, none⟩) (n - i) (cap - i)]).run Tryz.prog W = .ok (.tuple #[]) W') ∧ Kd.R k72 72 W' base ok (.slice (some ⟨g, 0, none⟩) i cap) (xs.take i) ∧ W.grownBy W' (some g) := by
 obtain ⟨hn, hnc, _⟩ := Kd.R_reads' h
 have ht := Kd.R_take (m := i) h (by omega)
 obtain ⟨hok, inner, ho, hr⟩ := ht
 obtain ⟨ho1, ho2⟩ := ho
 rcases ho2 with ⟨hv, _⟩ | ⟨g', cap', cur, hv, hb, hh, hnc', hcm, hcs, ht⟩
 ·cases hv
 injection hv with ha _ hc
 injection ha with ha
 injection ha with hg
 subst hg; subst hc
 have hz : ∀ w, (zeroValue 72).run Tryz.prog w = .ok (.agg #[.string ⟨#[]⟩, .string ⟨#[]⟩]) w := (zero_of_info (P := Tryz.prog) (n := 2) (by kernel_rfl)).1
 let zs : List Value := (Builtin.zeroCells (Value.agg #[.string ⟨#[]⟩, .string ⟨#[]⟩]).cells (n - i)).toList
 have hzl : zs.length = (n - i) * 2 := by simp [zs, Builtin.zeroCells, Value.cells]
 have hzo : ∀ v ∈ zs, v.oneCell' = true := by
  intro v hv
  simp only [zs, Builtin.zeroCells, Array.toList_map, List.mem_map] at hv
  obtain ⟨q, _, rfl⟩ := hv
  have : ∀ r, r < 2 → ((Value.agg #[.string ⟨#[]⟩, .string ⟨#[]⟩]).cells[r]!).oneCell' = true := by
   intro r hr
   match r, hr with
   | 0, _ => rfl
   | 1, _ => rfl
  exact this _ (Nat.mod_lt _ (by decide))
 have hfit : i * 2 + zs.length ≤ cur.size := by rw [hzl, hcs]; show i * 2 + (n - i) * 2 ≤ cap * 2; omega
 obtain ⟨cur', h3, h4, h5⟩ := setCells_row zs (i * 2) W cur hh hfit
 obtain ⟨s1, s2, s3, s4⟩ := setCells_same g zs (i * 2) W
 refine ⟨W.setCells g (i * 2) zs, fun ty => ?_, ⟨hok, inner, ⟨ho1, .inr ⟨g, cap, cur', by rw [List.length_take, Nat.min_eq_left (by omega)], hb, h3, hnc', hcm, by rw [h4, hcs], ?_⟩⟩, hr⟩,
  ⟨s1, s2, s3, by rw [s4]; exact Nat.le_refl _, fun k _ hk => setCells_far zs _ k (fun he => hk (by rw [he]))⟩⟩
 ·have hst := run_storeCells_cells (P := Tryz.prog) g (i * 2) zs 0 W (fun j hj => by
   rw [cell_of_row W g _ cur _ (0, 0) hh, Array.getElem?_eq_getElem (by omega)]
   rfl) (fun j hj => by
   simp [World.frozen?, hh]) hzo
  rw [Nat.add_zero] at hst
  obtain ⟨m, hm⟩ : ∃ m, n - i = m + 1 := ⟨n - i - 1, by omega⟩
  have hzs : zs = (Builtin.zeroCells (Value.agg #[.string ⟨#[]⟩, .string ⟨#[]⟩]).cells (m + 1)).toList := by simp only [zs, hm]
  rw [hzs] at hst ⊢
  rw [hm]
  simp [Builtin.clear_, run_underlying Tryz.underlying22, hz, hst]
 ·have hkl : (xs.take i).length * (k72).sz = i * 2 := by
   rw [List.length_take, Nat.min_eq_left (by omega)]
   rfl
  have hc2 : cur.size = cap * 2 := hcs
  rw [hkl] at ht ⊢
  have htl : (cur.toList.take (i * 2)).length = i * 2 := by rw [List.length_take, Array.length_toList]; omega
  rw [h5, List.append_assoc, List.take_append_of_le_length (by omega), List.take_of_length_le (by omega), ht]

/-- One of a row of one's own, read. -/
theorem elem_H {W : World} {base : Nat} {ok : Nat → Prop} {g n cap : Nat} {xs : List S72} (h : Kd.R k72 72 W base ok (.slice (some ⟨g, 0, none⟩) n cap) xs) (i : Nat) (hi : i < xs.length) :
  W.cell? ⟨g, i * 2, none⟩ = some (.string (xs[i]'hi).f0) ∧ W.cell? ⟨g, i * 2 + 1, none⟩ = some (.string (xs[i]'hi).f1) ∧ W.frozen? ⟨g, i * 2, none⟩ = false ∧ W.frozen? ⟨g, i * 2 + 1, none⟩ = false := by
 obtain ⟨hn, _, _⟩ := Kd.R_reads' h
 obtain ⟨c, hc, hM, hcc, hf⟩ := Kd.R_elem h z72 (i : Int) (by omega) (by omega)
 obtain rfl := k72_openM hM
 rw [Int.toNat_natCast] at hcc hf hc
 have e : xs.getD i z72 = xs[i]'hi := by rw [List.getD_eq_getElem?_getD, List.getElem?_eq_getElem hi]; rfl
 simp only [e] at hcc
 have hsz : (k72).sz = 2 := rfl
 rw [hsz] at hcc hf
 exact ⟨by simpa using hcc 0 _ rfl, by simpa using hcc 1 _ rfl, hf 0, hf 1⟩
theorem put_H {W : World} {base : Nat} {ok : Nat → Prop} {g n cap : Nat} {xs : List S72} (h : Kd.R k72 72 W base ok (.slice (some ⟨g, 0, none⟩) n cap) xs) (i : Nat) (hi : i < xs.length) (x : S72) :
  Kd.R k72 72 ((W.setCell ⟨g, i * 2, none⟩ (.string x.f0)).setCell ⟨g, i * 2 + 1, none⟩ (.string x.f1)) base ok (.slice (some ⟨g, 0, none⟩) n cap) (xs.set i x) ∧ W.grownBy ((W.setCell ⟨g, i * 2, none⟩ (.string x.f0)).setCell ⟨g, i * 2 + 1, none⟩ (.string x.f1)) (some g) := by
 obtain ⟨hn, _, _⟩ := Kd.R_reads' h
 obtain ⟨c0, c1, _, _⟩ := elem_H h i hi
 have := Kd.R_seg h (i : Int) (by omega) (by omega) (c := [.string (xs[i]'hi).f0, .string (xs[i]'hi).f1]) (seg := [.string x.f0, .string x.f1]) (j := 0) (okp := fun _ => False) rfl (fun j u hu => by
  rw [Int.toNat_natCast]
  have hsz : (k72).sz = 2 := rfl
  rw [hsz]
  match j, hu with
  | 0, hu =>
   obtain rfl : Value.string (xs[i]'hi).f0 = u := by simpa using hu
   exact c0
  | 1, hu =>
   obtain rfl : Value.string (xs[i]'hi).f1 = u := by simpa using hu
   exact c1) (Nat.le_refl 2) (x' := x) (k72_mkM W base _ x) (fun _ hk => hk.elim)
 rw [Int.toNat_natCast] at this
 exact this
theorem set_take {α : Type} (ys : List α) (i : Nat) (x : α) (h : i < ys.length) : (ys.set i x).take (i + 1) = ys.take i ++ [x] := by
 rw [List.take_succ_eq_append_getElem (by rw [List.length_set]; exact h), List.getElem_set_self]
 congr 1
 apply List.ext_getElem
 ·simp
 ·intro q h1 h2
  simp at h1 h2
  rw [List.getElem_take, List.getElem_take, List.getElem_set_ne (by omega)]
set_option maxHeartbeats 8000000 in
set_option maxRecDepth 100000 in
theorem deleteFunc_H (fn : Nat) (ad : Addr) (name : ByteArray) (eg : ∀ args w, (callFunc fn args).run Tryz.prog w = .ok (.enter fn args) w) (p : S72 → Bool) (g n cap : Nat) (xs : List S72) (w : World) (base : Nat)
  (hr : Kd.R k72 72 w base (fun _ => True) (.slice (some ⟨g, 0, none⟩) n cap) xs) (hp : GivesB fn ad name p xs) (hc : w.cell? ad = some (.string name)) (hne : ad.block ≠ g) :
  Calls Tryz.prog 67 #[.slice (some ⟨g, 0, none⟩) n cap, .func (.func fn) #[] #[.pointer (some ad)]] w fun e w' => ∃ v, e = .returned v ∧ Kd.R k72 72 w' base (fun _ => True) v (xs.filter fun h => !p h) ∧ Below base w w' := by
 obtain ⟨hn, hnc, hC⟩ := Kd.R_reads' hr
 have hmax := Kd.C_max hC
 have hbg : base ≤ g := Kd.R_base hr g rfl
 have hgl : g < w.heap.size := Kd.R_lt hr g rfl
 have hI := fun W => indexFunc_H fn ad name eg p (some ⟨g, 0, none⟩) cap xs W
 subst hn
 have hI1 := hI w hC hp hc
 clear hI
 have HR := Aside0.mk (Kd.R_mono (Kd.R_tight rfl hr) (ok' := fun k => k = g) (fun k hk => by cases hk; rfl))
 have HRR := Aside0.mk hr
 have HP := Aside0.mk hp
 have HC := Aside0.mk hc
 clear hr hC hp hc
 by_cases hall : xs.findIdx p < xs.length
 ·have hf : fdx p xs = ((xs.findIdx p : Nat) : Int) := if_pos hall
  have hk1 : kept p xs (xs.findIdx p + 1) = xs.take (xs.findIdx p) := by
   rw [kept_succ p xs _ hall, if_pos (List.findIdx_getElem (w := hall)), List.append_nil]
   unfold kept
   rw [List.filter_eq_self]
   intro h hh
   obtain ⟨j, hj, rfl⟩ := List.getElem_of_mem hh
   rw [List.length_take] at hj
   rw [List.getElem_take]
   have := List.not_of_lt_findIdx (p := p) (xs := xs) (i := j) (by omega)
   simpa using this
  rw [hf] at hI1
  generalize hk : xs.findIdx p = k0 at *
  clear hf hk
  have HK1 := Aside0.mk hk1
  clear hk1
  have hk0 : ((k0 : Int) == -1) = false := beq_eq_false_iff_ne.2 (by omega)
  have hwr : IntKind.i64.wrap ((k0 : Int) + 1) = ((k0 + 1 : Nat) : Int) := by rw [wrap_small _ (by omega) (by omega)]; omega
  go_enter Tryz.func67, Tryz.ntmps67
  go_wp2_with (go_at_call 38; refine hI1.mono ?_; rintro e w1 ⟨rfl, hb1⟩; have HB1 := Aside0.mk hb1; clear hb1)
  go_loopg [5, 6] (xs.length - (k0 + 1)) (fun gk s5 s6 wx => ∃ (j : Nat) (ys : List S72), j + gk = xs.length ∧ s5 = .int .i64 ((kept p xs j).length : Nat) ∧ s6 = .int .i64 (j : Nat) ∧ (kept p xs j).length < j ∧ Aside0 (Below base w wx) ∧ Aside0 (w.heap.size ≤ wx.heap.size) ∧ Aside0 (wx.cell? ad = some (.string name)) ∧ Aside0 (Kd.R k72 72 wx base (fun k => k = g) (.slice (some ⟨g, 0, none⟩) xs.length cap) ys) ∧ ys.length = xs.length ∧ Aside0 (ys.take (kept p xs j).length = kept p xs j) ∧ Aside0 (∀ m, j ≤ m → ys[m]? = xs[m]?))
  case atStart =>
   have hl : (kept p xs (k0 + 1)).length = k0 := by rw [HK1.out, List.length_take]; omega
   refine ⟨k0 + 1, xs, by omega, by rw [hl], by first | rfl | simp, by omega, ⟨HB1.out.mono (by omega)⟩, ⟨HB1.out.size⟩, ⟨pw_cell_below HB1.out HC.out⟩, ⟨Kd.R_below HR.out HB1.out⟩, rfl, ⟨?_⟩, ⟨fun m _ => rfl⟩⟩
   rw [hl, HK1.out]
  case round =>
   obtain ⟨j, ys, hjg, rfl, rfl, hij, HB, HS, HCx, HRx, hyl, HT, HX⟩ := hrel
   clear hwr hk0 hI1 hall
   cases gk with
   | zero =>
    have hfil : kept p xs j = xs.filter fun h => !p h := by unfold kept; rw [List.take_of_length_le (by omega)]
    rw [hfil] at HT hij ⊢
    generalize hfl : (xs.filter fun h => !p h) = fl at *
    have hyl2 := hyl
    obtain ⟨W', hclr, hR', hg'⟩ := clear_H HRx.out fl.length (by omega)
    have HF := Aside0.mk (show Below base w W' from HB.out.grown hg' (by have := HS.out; omega) (fun k hk => by cases hk; exact hbg))
    have HF2 := Aside0.mk (show Kd.R k72 72 W' base (fun _ => True) (.slice (some ⟨g, 0, none⟩) fl.length cap) fl by rw [HT.out] at hR'; exact Kd.R_mono hR' (fun _ _ => trivial))
    have hjn : ¬ ((j : Int) < (xs.length : Int)) := by omega
    have c1 : (0 : Int) ≤ (fl.length : Int) := by omega
    have c2 : (fl.length : Int) ≤ (xs.length : Int) := by omega
    have c3 : (fl.length : Int) ≤ (cap : Int) := by omega
    have HFL := Aside0.mk hfl
    clear hg' hR' hfil hfl hyl hyl2 HT HX HRx
    go_wp2
    go_ret
    exact ⟨_, rfl, by rw [HFL.out]; exact HF2.out, HF.out⟩
   | succ gk =>
    have hj : j < xs.length := by omega
    have hjn : (j : Int) < (xs.length : Int) := by omega
    have hj0 : (0 : Int) ≤ (j : Int) := by omega
    have hyj : ys[j]'(by omega) = xs[j]'hj := by
     have := HX.out j (Nat.le_refl _)
     rw [List.getElem?_eq_getElem (by omega), List.getElem?_eq_getElem hj] at this
     exact Option.some.inj this
    obtain ⟨q0, q1, _, _⟩ := elem_H HRx.out j (by omega)
    rw [hyj] at q0 q1
    have HM := Aside0.mk (List.getElem_mem hj)
    have HK := Aside0.mk (kept_succ p xs j hj)
    generalize xs[j]'hj = x at *
    obtain ⟨i, hI_⟩ : ∃ i, i = (kept p xs j).length := ⟨_, rfl⟩
    have HI := Aside0.mk hI_.symm
    rw [← hI_] at hij HT ⊢
    clear hI_
    have hcw : (wr.alloc (.cells #[.string x.f0, .string x.f1] 72 (0, 0))).cell? ad = some (.string name) := pw_cell_below (below_alloc (Below.refl _ _) _) HCx.out
    have HW := Aside0.mk (HP.out _ x HM.out hcw)
    clear hcw
    have HRw := Aside0.mk (Kd.R_alloc HRx.out (.cells #[.string x.f0, .string x.f1] 72 (0, 0)))
    have HBw := Aside0.mk (show Below base w (wr.alloc (.cells #[.string x.f0, .string x.f1] 72 (0, 0))) from HB.out.alloc (by have := HS.out; omega) _)
    have HSw := Aside0.mk (show w.heap.size ≤ (wr.alloc (.cells #[.string x.f0, .string x.f1] 72 (0, 0))).heap.size by have := HS.out; simp; omega)
    have HCw := Aside0.mk (show (wr.alloc (.cells #[.string x.f0, .string x.f1] 72 (0, 0))).cell? ad = some (.string name) from pw_cell_below (below_alloc (Below.refl _ _) _) HCx.out)
    have HBX := Aside0.mk (blk_new wr (.cells #[.string x.f0, .string x.f1] 72 (0, 0)))
    have hi0 : (0 : Int) ≤ (i : Int) := by omega
    have hin : (i : Int) < (xs.length : Int) := by omega
    cases hpx : p x
    ·rw [hpx] at HW HK
     go_wp2_with (go_at_fn fn; refine HW.out.mono ?_; rintro e w2 ⟨rfl, hb2⟩; have HR2 := Aside0.mk (Kd.R_below HRw.out hb2); have HB2 := Aside0.mk (show Below base w w2 from HBw.out.trans (hb2.mono (by have := HSw.out; omega))); have HS2 := Aside0.mk (Nat.le_trans HSw.out hb2.size); have HC2 := Aside0.mk (pw_cell_below hb2 HCw.out); have b0 : w2.cell? ⟨wr.heap.size, 0, none⟩ = some (.string x.f0) := (blk_cell (blk_below HBX.out hb2) 0).trans rfl; have b1 : w2.cell? ⟨wr.heap.size, 1, none⟩ = some (.string x.f1) := (blk_cell (blk_below HBX.out hb2) 1).trans rfl; obtain ⟨y0, y1, z0, z1⟩ := elem_H HR2.out i (by omega); clear hb2)
     go_roundg gk
     case measure => omega
     case rel =>
      have hk2 : kept p xs (j + 1) = kept p xs j ++ [x] := HK.out
      obtain ⟨hR3, hg3⟩ := put_H HR2.out i (by omega) x
      refine ⟨j + 1, ys.set i x, by omega, by rw [hk2, List.length_append, HI.out]; first | rfl | simp, by first | rfl | simp, by rw [hk2, List.length_append, HI.out]; simp; omega, ⟨HB2.out.grown hg3 (by have := HS2.out; omega) (fun k hk => by cases hk; exact hbg)⟩, ⟨by have := hg3.size; have := HS2.out; omega⟩, ⟨?_⟩, ⟨hR3⟩, by rw [List.length_set]; exact hyl, ⟨?_⟩, ⟨fun m hm => ?_⟩⟩
      ·rw [World.cell?_setCell_other _ _ _ _ (fun e => hne (by rw [← e])), World.cell?_setCell_other _ _ _ _ (fun e => hne (by rw [← e]))]
       exact HC2.out
      ·rw [hk2, List.length_append, HI.out]
       rw [← HT.out]
       exact set_take ys i x (by omega)
      ·rw [List.getElem?_set_ne (by omega)]
       exact HX.out m (by omega)
    ·rw [hpx] at HW HK
     go_wp2_with (go_at_fn fn; refine HW.out.mono ?_; rintro e w2 ⟨rfl, hb2⟩; have HR2 := Aside0.mk (Kd.R_below HRw.out hb2); have HB2 := Aside0.mk (show Below base w w2 from HBw.out.trans (hb2.mono (by have := HSw.out; omega))); have HS2 := Aside0.mk (Nat.le_trans HSw.out hb2.size); have HC2 := Aside0.mk (pw_cell_below hb2 HCw.out); clear hb2)
     go_roundg gk
     case measure => omega
     case rel =>
      have hk2 : kept p xs (j + 1) = kept p xs j := HK.out.trans (List.append_nil _)
      refine ⟨j + 1, ys, by omega, by rw [hk2, HI.out], by first | rfl | simp, by rw [hk2, HI.out]; omega, HB2, HS2, HC2, HR2, hyl, ⟨?_⟩, ⟨fun m hm => HX.out m (by omega)⟩⟩
      rw [hk2, HI.out]
      exact HT.out
 ·have hf : fdx p xs = -1 := if_neg hall
  have hfil : (xs.filter fun h => !p h) = xs := by
   rw [List.filter_eq_self]
   intro h hh
   have hge : xs.length ≤ xs.findIdx p := by omega
   have := List.findIdx_eq_length.1 (Nat.le_antisymm List.findIdx_le_length hge) h hh
   simpa using this
  rw [hf] at hI1
  rw [hfil]
  clear hall hf hfil
  go_enter Tryz.func67, Tryz.ntmps67
  go_wp2_with (go_at_call 38; refine hI1.mono ?_; rintro e w1 ⟨rfl, hb1⟩; have HB1 := Aside0.mk hb1; clear hb1)
  go_ret
  exact ⟨_, rfl, Kd.R_below HRR.out HB1.out, HB1.out.mono (by omega)⟩
set_option maxHeartbeats 4000000 in
set_option maxRecDepth 100000 in
theorem deleteFunc_R (fn : Nat) (ad : Addr) (name : ByteArray) (eg : ∀ args w, (callFunc fn args).run Tryz.prog w = .ok (.enter fn args) w) (p : S72 → Bool) (v : Value) (xs : List S72) (w : World) (base : Nat)
  (hr : Kd.R k72 72 w base (fun _ => True) v xs) (hbl : base ≤ w.heap.size) (hp : GivesB fn ad name p xs) (hc : w.cell? ad = some (.string name)) (hne : ad.block < base) :
  Calls Tryz.prog 67 #[v, .func (.func fn) #[] #[.pointer (some ad)]] w fun e w' => ∃ v, e = .returned v ∧ Kd.R k72 72 w' base (fun _ => True) v (xs.filter fun h => !p h) ∧ Below base w w' := by
 obtain ⟨A, c, rfl⟩ := Kd.R_slice hr
 cases A with
 | some a =>
  obtain ⟨g, rfl⟩ := Kd.R_head hr
  have hbg : base ≤ g := Kd.R_base hr g rfl
  exact deleteFunc_H fn ad name eg p g xs.length c xs w base hr hp hc (by omega)
 | none =>
  have hnil : xs = [] ∧ c = 0 := by
   obtain ⟨_, inner, ho, _⟩ := hr
   rcases ho.2 with ⟨hv, hn⟩ | ⟨g, cap, cur, hv, _⟩
   ·injection hv with _ _ h3
    exact ⟨List.eq_nil_of_length_eq_zero hn, h3⟩
   ·injection hv with h1
    cases h1
  obtain ⟨rfl, rfl⟩ := hnil
  have hI1 := indexFunc_H fn ad name eg p none 0 [] w (Kd.C_nil _ _) hp hc
  have hf : fdx p [] = -1 := rfl
  rw [hf] at hI1
  clear hr hp hc hf hne
  go_enter Tryz.func67, Tryz.ntmps67
  go_wp2_with (go_at_call 38; refine hI1.mono ?_; rintro e w1 ⟨rfl, hb1⟩; have HB1 := Aside0.mk hb1; clear hb1)
  go_ret
  exact ⟨_, rfl, Kd.R_nil _ _ _ _ _, HB1.out.mono hbl⟩
def headers_Remove.f (l0 : List (S72)) (a1 : ByteArray) : Option (List (S72)) := if l0.length < 4398046511104 ∧ (l0.all fun h => (octets_Same.f h.f0 a1).isSome) = true then some (l0.filter fun h => !sameB h.f0 a1) else none
set_option maxHeartbeats 4000000 in
set_option maxRecDepth 100000 in
theorem headers_Remove.calls (A0 : Option Addr) (c0 : Nat) (l0 : List (S72)) (a1 : ByteArray) (r : List (S72)) (w : World) (hr0 : Kd.C k72 w A0 l0.length l0) (hc0 : l0.length ≤ c0) (h : headers_Remove.f l0 a1 = some r) :
  Calls Tryz.prog 24 #[.slice A0 l0.length c0, .string a1] w fun e w' => ∃ v0_ : Value, e = .returned (v0_) ∧ Kd.R k72 72 w' w.heap.size (fun _ => True) v0_ r ∧ Below w.heap.size w w' := by
 unfold headers_Remove.f at h
 by_cases hcd : l0.length < 4398046511104 ∧ (l0.all fun h => (octets_Same.f h.f0 a1).isSome) = true
 ·rw [if_pos hcd] at h
  obtain rfl := Option.some.inj h
  obtain ⟨hl, hall⟩ := hcd
  have hcl : api_Header_45.f l0 = some l0 := by
   unfold api_Header_45.f
   rw [Option.bind_some, if_pos (by simpa using hl)]
   rfl
  have hw1 : Below w.heap.size w (w.alloc (.cells #[.string a1] 9 (0, 0))) := below_alloc (Below.refl _ _) _
  have hr1 := Kd.C_below hr0 hw1
  have HCl := Aside0.mk (api_Header_45.calls A0 c0 l0 l0 _ hr1 hc0 hcl)
  have HB := Aside0.mk hw1
  have hbx := blk_new w (.cells #[.string a1] 9 (0, 0))
  have HC0 := Aside0.mk (show (w.alloc (.cells #[.string a1] 9 (0, 0))).cell? ⟨w.heap.size, 0, none⟩ = some (.string a1) from (blk_cell hbx 0).trans rfl)
  have hsz : (w.alloc (.cells #[.string a1] 9 (0, 0))).heap.size = w.heap.size + 1 := by simp
  have hG := removeLit_gives a1 ⟨w.heap.size, 0, none⟩ l0 (fun h hh => List.all_eq_true.1 hall h hh)
  have HD := Aside0.mk (fun v w2 hv hb2 hc2 => deleteFunc_R 68 ⟨w.heap.size, 0, none⟩ a1 (fun args w => rfl) (fun h => sameB h.f0 a1) v l0 w2 (w.heap.size + 1) hv hb2 hG hc2 (Nat.lt_succ_self _))
  rw [hsz] at HCl
  have HS := Aside0.mk hsz
  clear hG hsz hbx hcl hall hl hr0 hr1 hw1
  go_enter Tryz.func24, Tryz.ntmps24
  go_wp2_with (first
   | (go_at_call 45; refine HCl.out.mono ?_; rintro e w2 ⟨v1, rfl, hr2, hb2⟩; have HR2 := Aside0.mk hr2; have HB2 := Aside0.mk hb2; clear hr2 hb2)
   | (go_at_call 67; refine (HD.out _ _ HR2.out (by have := HB2.out.size; have := HS.out; omega) (pw_cell_below (by rw [HS.out]; exact HB2.out) HC0.out)).mono ?_; rintro e w3 ⟨v2, rfl, hr3, hb3⟩; have HR3 := Aside0.mk hr3; have HB3 := Aside0.mk hb3; clear hr3 hb3))
  go_ret
  refine ⟨_, rfl, Kd.R_lower HR3.out (Nat.le_succ _), ?_⟩
  exact (HB.out.trans (HB2.out.mono (Nat.le_succ _))).trans (HB3.out.mono (Nat.le_succ _))
 ·rw [if_neg hcd] at h
  cases h

/-! ### given: slices.Concat[[]pergola/api.Header,pergola/api.Header] -/
-- INFO 72
theorem run_append_zeros (w : World) (ty : TypeId) (n : Nat) (h0 : 0 < n) (hn : n < 4398046511104) :
  (Builtin.append_ #[22, 3] ty #[.slice none 0 0, .int .i64 (n : Int)]).run Tryz.prog w =
   .ok (.slice (some ⟨w.heap.size, 0, none⟩) n (grownCap w n 0 72)) (w.drew.alloc (.cells (Builtin.zeroCells (Value.agg #[.string ⟨#[]⟩, .string ⟨#[]⟩]).cells n ++ Builtin.zeroCells (Value.agg #[.string ⟨#[]⟩, .string ⟨#[]⟩]).cells (grownCap w n 0 72 - n)) 72)) := by
 have hi := info72
 cases hq : Tryz.prog.info? 72 with
 | none => rw [hq] at hi; simp at hi
 | some i =>
  rw [hq] at hi
  simp only [Option.map_some, Option.some.injEq, Prod.mk.injEq] at hi
  obtain ⟨hz, hs, hb⟩ := hi
  have hne : n ≠ 0 := by omega
  have hw : IntKind.i64.wrap (n : Int) = (n : Int) := wrap_small _ (by omega) (by omega)
  have h1 : ¬ ((n : Int) < 0) := by omega
  have h2 : ¬ (281474976710656 < (n : Int) * 32) := by omega
  have h3 : ¬ (9223372036854775807 < (n : Int)) := by omega
  have h4 : ¬ (281474976710656 < Builtin.nextslicecap n 0 * 32) := by rw [nextslicecap_zero h0]; omega
  simp [Builtin.append_, run_underlying Tryz.underlying22, run_underlying Tryz.underlying3, sizeOf, typeInfo, zeroValue, hq, hz, hs, hb, Builtin.lenOf, hne, hw, h1, h2, h3, h4, Question.forced, run_firstCells_none, newRow, grownCap, asInt, asIntOf]
  intro hh
  omega
theorem grow_event {ops : Array Oper} {o : Oper} {a : Act} {Q : Exit → Act → World → Prop} {rest : List Oper} {W : World} (hgd : o.guard = none) (s x : Operand) (ho : o.op = .call { callee := .builtin .append, args := #[s, x], argTypes := #[22, 3] }) (hs : a.eval s = .slice none 0 0) (n : Nat) (hx : a.eval x = .int .i64 (n : Int)) (h0 : 0 < n) (hn : n < 4398046511104)
  (h : ∀ c cur, n ≤ c → c ≤ maxLen → cur.size = c * 2 → wpList Tryz.prog ops Q rest (a.put o.dst (.slice (some ⟨W.heap.size, 0, none⟩) n c)) (W.drew.alloc (.cells cur 72 (0, 0)))) : wpList Tryz.prog ops Q (o :: rest) a W := by
 have hge := grownCap_ge W n 0 72
 have hcm := grownCap_le_maxLen W n 0 72 (Nat.le_trans (Nat.le_of_lt hn) (by decide))
 have hr := run_append_zeros W o.type n h0 hn
 refine Kd.event_run hgd (w1 := W.drew.alloc (.cells (Builtin.zeroCells (Value.agg #[.string ⟨#[]⟩, .string ⟨#[]⟩]).cells n ++ Builtin.zeroCells (Value.agg #[.string ⟨#[]⟩, .string ⟨#[]⟩]).cells (grownCap W n 0 72 - n)) 72 (0, 0))) (v := .slice (some ⟨W.heap.size, 0, none⟩) n (grownCap W n 0 72)) ?_ (h _ _ hge hcm ?_)
 ·unfold execOp
  simp only [ho, resolve, invoke, builtin, Sem.run_bind, Sem.run_pure, Result.andThen_ok, List.map_toArray, List.map_cons, List.map_nil, hs, hx, hr]
 ·rw [Array.size_append, size_zeroCells, size_zeroCells]
  show n * 2 + (_ - n) * 2 = _ * 2
  omega
set_option maxHeartbeats 4000000 in
set_option maxRecDepth 100000 in
theorem grow_H (n : Nat) (hn : n < 4398046511104) (w : World) :
  Calls Tryz.prog 96 #[.slice none 0 0, .int .i64 (n : Int)] w fun e w' => ∃ v, e = .returned v ∧ Kd.R k72 72 w' w.heap.size (fun _ => True) v [] ∧ Below w.heap.size w w' := by
 have h1 : ¬ ((n : Int) < 0) := by omega
 by_cases h0 : 0 < n
 ·have h2 : (0 : Int) < (n : Int) := by omega
  go_enter Tryz.func96, Tryz.ntmps96
  go_wp2_with ((with_reducible refine gate_builtin (b := .append) (xs := #[.tmp 20, .tmp 21]) rfl ?_); at_builtin; refine grow_event rfl (.tmp 20) (.tmp 21) rfl rfl n rfl h0 hn ?_; intro c cur hge hcm hcs; have HCM := Aside0.mk hcm; have HCS := Aside0.mk hcs; have hc0 : (0 : Int) ≤ (c : Int) := (by omega); clear hge hcm hcs)
  go_ret
  refine ⟨_, rfl, ⟨fun _ _ => trivial, [], ⟨rfl, .inr ⟨w.heap.size, _, _, rfl, Nat.le_refl _, heap_alloc_new w.drew _, Nat.zero_le _, HCM.out, HCS.out, rfl⟩⟩, Reps.none _ _⟩, (Below.refl _ _).drew.alloc (Nat.le_refl _) _⟩
 ·obtain rfl : n = 0 := by omega
  go_enter Tryz.func96, Tryz.ntmps96
  go_wp2
  go_ret
  exact ⟨_, rfl, Kd.R_nil _ _ _ _ _, Below.refl _ _⟩
/-- One of a row of rows. -/
theorem row_at {w : World} {A : Option Addr} {l0 : List (List S72)} (h : Kd.C (Kd.slice 72 k72) w A l0.length l0) (i : Nat) (hi : i < l0.length) :
  ∃ ad A1 c1, A = some ad ∧ w.cell? (ad.add i) = some (.slice A1 (l0[i]'hi).length c1) ∧ (l0[i]'hi).length ≤ c1 ∧ Kd.C k72 w A1 (l0[i]'hi).length (l0[i]'hi) := by
 obtain ⟨ad, c, e, _, hK, hc⟩ := Kd.C_get h ([] : List S72) (i : Int) (by omega) (by omega)
 have eg : l0.getD (i : Int).toNat [] = l0[i]'hi := by rw [Int.toNat_natCast, List.getD_eq_getElem?_getD, List.getElem?_eq_getElem hi]; rfl
 rw [eg] at hK
 obtain ⟨A1, c1, rfl, l1, g1⟩ := hK
 have hsz : (Kd.slice 72 k72).sz = 1 := rfl
 rw [hsz] at hc
 have := hc 0 _ rfl
 rw [Int.toNat_natCast, Nat.mul_one, Nat.add_zero] at this
 exact ⟨ad, A1, c1, e, this, l1, g1⟩
theorem flat_succ (l0 : List (List S72)) (i : Nat) (hi : i < l0.length) : (l0.take (i + 1)).flatten = (l0.take i).flatten ++ l0[i]'hi := by
 rw [List.take_succ_eq_append_getElem hi, List.flatten_append]
 simp
theorem flat_le (l0 : List (List S72)) (i : Nat) : (l0.take i).flatten.length ≤ l0.flatten.length := by
 conv => rhs; rw [← List.take_append_drop i l0]
 rw [List.flatten_append, List.length_append]
 omega
def api_Header_42.f (l0 : List (List S72)) : Option (List S72) := if l0.flatten.length < 4398046511104 then some l0.flatten else none
set_option maxHeartbeats 400000 in
set_option maxRecDepth 100000 in
theorem api_Header_42.calls (A0 : Option Addr) (c0 : Nat) (l0 : List (List S72)) (r : List S72) (w : World) (hr0 : Kd.C (Kd.slice 72 k72) w A0 l0.length l0) (hc0 : l0.length ≤ c0) (h : api_Header_42.f l0 = some r) :
  Calls Tryz.prog 42 #[.slice A0 l0.length c0] w fun e w' => ∃ v0_ : Value, e = .returned (v0_) ∧ Kd.R k72 72 w' w.heap.size (fun _ => True) v0_ r ∧ Below w.heap.size w w' := by
 unfold api_Header_42.f at h
 by_cases hl : l0.flatten.length < 4398046511104
 ·rw [if_pos hl] at h
  obtain rfl := Option.some.inj h
  clear h
  have HR0 := Aside0.mk hr0
  have hmax := Kd.C_max hr0
  obtain ⟨tot, htot⟩ : ∃ tot, tot = l0.flatten.length := ⟨_, rfl⟩
  have HT := Aside0.mk htot
  rw [← htot] at hl
  have HG := Aside0.mk (grow_H tot hl w)
  have HL := Aside0.mk hl
  clear hr0 hl htot
  go_enter Tryz.func42, Tryz.ntmps42
  go_wp2
  go_loopg [3, 11] l0.length (fun gk s3 s11 wx => wx = w ∧ ∃ i m : Nat, i + gk = l0.length ∧ s3 = .int .i64 (m : Nat) ∧ s11 = .int .i64 (i : Nat) ∧ Aside0 ((l0.take i).flatten.length = m))
  case atStart => exact ⟨rfl, 0, 0, by omega, rfl, rfl, ⟨by rw [List.take_zero, List.flatten_nil]; rfl⟩⟩
  case round =>
   obtain ⟨hwx, i, m, hig, rfl, rfl, HM0⟩ := hrel
   have hwx2 := hwx.symm
   clear hwx
   subst hwx2
   cases gk with
   | zero =>
    obtain rfl : i = l0.length := by omega
    obtain rfl : tot = m := by rw [HT.out, ← HM0.out, List.take_length]
    clear HM0
    go_wp2_with (go_at_call 96; refine HG.out.mono ?_; rintro e w4 ⟨v4, rfl, hr4, hb4⟩; have HR4 := Aside0.mk hr4; have HB4 := Aside0.mk hb4; clear hr4 hb4)
    go_loopg [6, 27] l0.length (fun gk s6 s27 wx => Aside0 (Below w.heap.size w wx) ∧ ∃ i : Nat, i + gk = l0.length ∧ s27 = .int .i64 (i : Nat) ∧ Aside0 (Kd.R k72 72 wx w.heap.size (fun _ => True) s6 (l0.take i).flatten))
    case atStart =>
     have e0 : (l0.take 0).flatten = [] := by rw [List.take_zero, List.flatten_nil]
     exact ⟨HB4, 0, by omega, rfl, by rw [e0]; exact HR4⟩
    case round =>
     obtain ⟨HB, i, hig, rfl, HO⟩ := hrel
     cases gk with
     | zero =>
      obtain rfl : i = l0.length := by omega
      have ho := HO.out
      rw [List.take_length] at ho
      have HO2 := Aside0.mk ho
      clear ho
      go_wp2
      go_ret
      exact ⟨u6, rfl, HO2.out, HB.out⟩
     | succ gk =>
      have hi : i < l0.length := by omega
      have hiz : (i : Int) < (l0.length : Int) := by omega
      have hi0 : (0 : Int) ≤ (i : Int) := by omega
      obtain ⟨ad, A1, c1, e0, hx, hlc, hC⟩ := row_at HR0.out i hi
      subst e0
      replace hx := pw_cell_below HB.out hx
      have HX := Aside0.mk hC
      have HF := Aside0.mk (flat_succ l0 i hi)
      have hle := flat_le l0 (i + 1)
      rw [HF.out, List.length_append, ← HT.out] at hle
      have hl2 := HL.out
      obtain ⟨pre, hpre⟩ : ∃ pre, pre = (l0.take i).flatten := ⟨_, rfl⟩
      rw [← hpre] at HO HF hle
      clear hC
      obtain ⟨x, hxx⟩ : ∃ x, x = l0[i]'hi := ⟨_, rfl⟩
      rw [← hxx] at hx hlc HX HF hle
      clear hxx hpre
      go_wp2_with (first | ((with_reducible refine gate_builtin (b := .append) (xs := #[.tmp 31, .tmp 32]) rfl ?_); at_builtin; refine Kd.R_append_rows k72 (w0 := w) w.heap.size rfl (.tmp 31) (.tmp 32) 22 72 (.agg #[(.string ⟨#[]⟩), (.string ⟨#[]⟩)]) 32 rfl Tryz.underlying22 info72 rfl (by decide) (by omega) u6 pre x _ _ _ (fun _ => True) (fun _ => False) rfl rfl ?aO ?aR (fun _ _ h => h) (fun _ h => h.elim) ?aF ?aB ?aS ?aL ?_; (case aR => exact Kd.C_below HX.out HB.out); (case aB => exact HB.out); (case aF => exact (fun _ _ => trivial)); (case aO => exact HO.out); (case aS => exact HB.out.size); (case aL => omega); intro v2 w3 ho hb hg hat; have HO2 := Aside0.mk ho; have HB2 := Aside0.mk hb; clear ho hb hg hat))
      go_roundg gk
      case measure => omega
      case rel => exact ⟨HB2, i + 1, by omega, by first | rfl | simp, by rw [HF.out]; exact HO2⟩
   | succ gk =>
    have hi : i < l0.length := by omega
    have hiz : (i : Int) < (l0.length : Int) := by omega
    have hi0 : (0 : Int) ≤ (i : Int) := by omega
    obtain ⟨ad, A1, c1, e0, hx, hlc, hC⟩ := row_at HR0.out i hi
    subst e0
    have HF := Aside0.mk (flat_succ l0 i hi)
    have hle := flat_le l0 (i + 1)
    rw [HF.out, List.length_append, ← HT.out, HM0.out] at hle
    have hl2 := HL.out
    have HM : Aside0 ((l0.take (i + 1)).flatten.length = m + (l0[i]'hi).length) := ⟨by rw [HF.out, List.length_append, HM0.out]⟩
    obtain ⟨q, hq⟩ : ∃ q, q = (l0[i]'hi).length := ⟨_, rfl⟩
    rw [← hq] at hx hle HM
    have hw1 : IntKind.i64.wrap ((m : Int) + (q : Int)) = ((m + q : Nat) : Int) := by rw [wrap_small _ (by omega) (by omega)]; omega
    have hn : ¬ (((m + q : Nat) : Int) < 0) := by omega
    clear hC hlc hq HF HM0
    go_wp2
    go_roundg gk
    case measure => omega
    case rel => exact ⟨rfl, i + 1, m + q, by omega, by first | rfl | simp, by first | rfl | simp, HM⟩
 ·rw [if_neg hl] at h
  cases h

end Go.Proofs.YtjadlnmphcoioaaGreatDoor.X
