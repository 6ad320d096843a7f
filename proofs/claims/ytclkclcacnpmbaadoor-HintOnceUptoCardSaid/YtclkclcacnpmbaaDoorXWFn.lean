/- Layer 10's reader (fields): inner, the walk. -/
import Derived.Test.YtclkclcacnpmbaaDoorXWFm
namespace Go.Proofs.YtclkclcacnpmbaaDoorW.PrintWords
open Go.RowKit

set_option linter.unusedVariables false
set_option maxHeartbeats 4000000 in
set_option maxRecDepth 100000 in
theorem inner_calls {w0 : World} {BR : ByteArray → Int → Option (BareT × Int × Int)} {KR : ByteArray → Int → Option (ByteArray × Int × Int)} {IX : ByteArray → Int → Int} (H : FdHyp w0 BR KR IX)
  (g : Nat) (s : ByteArray) (a : Int) (w : World) (hr : FdAt w g s a) (hw : Below w0.heap.size w0 w) (hg : w0.heap.size ≤ g) (h0 : 0 ≤ a) (h1 : a ≤ (s.size : Int)) (hs : s.size ≤ 281474976710656) (m n : Nat) (R : FR (List ItemT)) (hR : fdInner BR KR IX s m n a [] = some R) :
  Calls Tryd.prog 54 #[.pointer (some ⟨g, 0, none⟩)] w fun x w' => GivesN x w w' g s R := by
 have HH := Aside0.mk H
 have W0 := Aside0.mk (Went.refl w g)
 have HW0 := Aside0.mk hw
 have HG0 := Aside0.mk hg
 have HGL := Aside0.mk hr.lt
 have HP0 : Aside0 (Items w w.heap.size (.slice none 0 0) []) := ⟨Items.nil _ _⟩
 have HE0 := Aside0.mk hR
 have HR0 := Aside0.mk hr
 clear H hw hg hR hr
 go_enter Tryd.func54, Tryd.ntmps54
 go_wp2
 go_loopw [3] (fun v3 wr => ∃ (n : Nat) (a2 : Int) (xs : List ItemT) (A : Option Addr) (cp : Nat), v3 = .slice A xs.length cp ∧ Aside0 (fdInner BR KR IX s m n a2 xs = some R) ∧ Aside0 (FdAt wr g s a2) ∧ Aside0 (Went w wr g) ∧ Aside0 (Items wr w.heap.size (.slice A xs.length cp) xs) ∧ a ≤ a2 ∧ a2 ≤ (s.size : Int) ∧ xs.length ≤ 256) (fun v3 _ => 257 - sliceLen v3)
 case atStart => exact ⟨n, a, [], none, 0, rfl, HE0, HR0, W0, HP0, by omega, h1, by simp⟩
 case round =>
  obtain ⟨n2, a2, xs, A, cp, rfl, HE, HR1, HW1, HP1, ha0, ha1, hpl⟩ := hrel
  clear HE0 HR0 W0 HP0
  obtain ⟨n3, rfl⟩ : ∃ m, n2 = m + 1 := by
   cases n2 with
   | zero => exact absurd HE.out (by simp [fdInner])
   | succ m => exact ⟨m, rfl⟩
  have hE := HE.out
  unfold fdInner at hE
  clear HE
  obtain ⟨b, hb⟩ : ∃ b, tokE (inSet IX ⟨#[32]⟩) s a2 = b := ⟨_, rfl⟩
  have S2 := skip_calls IX HH.out.hI ⟨#[32]⟩ g s a2 wr HR1.out (by omega) (by omega) (by omega)
  have hb1 := tokE_in (inSet IX ⟨#[32]⟩) s (a := a2) (by omega)
  simp only [hb] at hE S2 hb1
  have S2' := Aside0.mk S2
  clear S2 hb
  go_upto_region 3 with (go_at_call 50; refine S2'.out.mono ?_; rintro x w2 ⟨rfl, hr2, hw2⟩; have HR2 := Aside0.mk hr2; have W2 := Aside0.mk (HW1.out.trans hw2); have HP2 := Aside0.mk (HP1.out.went hw2 HGL.out); clear hr2 hw2)
  clear S2' HR1 HW1 HP1
  by_cases hc : isB s b 41 = true
  ·rw [if_pos hc] at hE
   have hE := Option.some.inj hE
   subst hE
   have hlt := isB_lt hc
   have HS := Aside0.mk (is_at HR2.out (by omega) hb1.2 true hc)
   go_wp2_with (go_at_call 53; refine HS.out.mono ?_; rintro x w3 ⟨rfl, hd⟩; have HR3 := Aside0.mk (HR2.out.drawn hd); have W3 := Aside0.mk (W2.out.drawn hd); have HP3 := Aside0.mk (HP2.out.below hd.below); have q1 := HR3.out.c1; have f1 := HR3.out.f1; clear hd)
   go_ret
   exact ⟨_, rfl, HP3.out.far (p := ⟨g, 1, none⟩) HGL.out _, HR3.out.set _, W3.out.set _ _⟩
  ·rw [if_neg hc] at hE
   have HS := Aside0.mk (is_at HR2.out (by omega) hb1.2 false (by simpa using hc))
   clear hc
   by_cases he : b = (s.size : Int)
   ·rw [if_pos he] at hE
    have hE := Option.some.inj hE
    subst hE
    go_upto_region 6 with (go_at_call 53; refine HS.out.mono ?_; rintro x w3 ⟨rfl, hd⟩; have HR3 := Aside0.mk (HR2.out.drawn hd); have W3 := Aside0.mk (W2.out.drawn hd); clear hd)
    have HD := Aside0.mk (done_at HR3.out true (decide_eq_true he))
    go_wp2_with (first
     | (go_at_call 51; refine HD.out.mono ?_; rintro x w4 ⟨rfl, hd⟩; have HR4 := Aside0.mk (HR3.out.drawn hd); have W4 := Aside0.mk (W3.out.drawn hd); have q1 := HR4.out.c1; clear hd)
     | (go_at_call 32; refine (fail_calls _ _ _ _).mono ?_; rintro x w7 ⟨rfl, rfl⟩))
    exact ⟨rfl, (by rw [← he]), W4.out⟩
   ·rw [if_neg he] at hE
    go_upto_region 6 with (go_at_call 53; refine HS.out.mono ?_; rintro x w3 ⟨rfl, hd⟩; have HR3 := Aside0.mk (HR2.out.drawn hd); have W3 := Aside0.mk (W2.out.drawn hd); have HP3 := Aside0.mk (HP2.out.below hd.below); clear hd)
    have HD := Aside0.mk (done_at HR3.out false (decide_eq_false he))
    clear he HS HR2 W2 HP2
    go_upto_region 8 with (go_at_call 51; refine HD.out.mono ?_; rintro x w4 ⟨rfl, hd⟩; have HR4 := Aside0.mk (HR3.out.drawn hd); have W4 := Aside0.mk (W3.out.drawn hd); have HP4 := Aside0.mk (HP3.out.below hd.below); have q1 := HR4.out.c1; clear hd)
    clear HD HR3 W3 HP3
    by_cases hf : xs.length = 256
    ·rw [if_pos hf] at hE
     have hE := Option.some.inj hE
     subst hE
     have hfb : ((xs.length : Int) == 256) = true := by rw [hf]; rfl
     go_wp2_with (go_at_call 32; refine (fail_calls _ _ _ _).mono ?_; rintro x w7 ⟨rfl, rfl⟩)
     exact ⟨rfl, rfl, W4.out⟩
    ·rw [if_neg hf] at hE
     have hfb : ((xs.length : Int) == 256) = false := by rw [beq_eq_false_iff_ne]; omega
     go_upto_region 10 with (fail)
     obtain ⟨I, hI, hE⟩ := Option.bind_eq_some_iff.mp hE
     have HIC := Aside0.mk (item_calls HH.out g s b w4 HR4.out (W4.out.from0 HW0.out HG0.out) HG0.out (by omega) hb1.2 hs m I hI)
     rcases I with f | ⟨⟨B, ps⟩, c⟩
     ·have hE := Option.some.inj hE
      subst hE
      have HIC2 : Aside0 (Calls Tryd.prog 56 #[.pointer (some ⟨g, 0, none⟩)] w4 fun x w' => x = .panicked (wrongF f.1 f.2) ∧ Went w4 w' g) := ⟨HIC.out⟩
      go_wp2_with (go_at_call 56; refine HIC2.out.mono ?_; rintro x w5 ⟨rfl, hw5⟩; have W5 := Aside0.mk (W4.out.trans hw5); clear hw5)
      exact ⟨rfl, rfl, W5.out⟩
     ·have hc1 := HH.out.item_in (by omega) hb1.2 hI
      have HIC2 : Aside0 (Calls Tryd.prog 56 #[.pointer (some ⟨g, 0, none⟩)] w4 fun x w' => ∃ v, x = .returned (.agg #[.int .i64 B.1, .int .i64 B.2.1, .string B.2.2, v]) ∧ Pars w' w4.heap.size v ps ∧ FdAt w' g s c ∧ Went w4 w' g) := ⟨HIC.out⟩
      clear HIC q1
      have hE : (if c = (s.size : Int) then some (.inl (99, c)) else if isB s c 32 = false ∧ isB s c 41 = false then some (.inl (103, c)) else fdInner BR KR IX s m n3 c (xs ++ [(B, ps)])) = some R := hE
      clear hfb
      by_cases he : c = (s.size : Int)
      ·rw [if_pos he] at hE
       have hE := Option.some.inj hE
       subst hE
       go_wp2_with (first
        | (go_at_call 56; refine HIC2.out.mono ?_; rintro x w5 ⟨v5, rfl, hp5, hr5, hw5⟩; obtain ⟨A5, c5, rfl, hc5⟩ := hp5.len; have HR5 := Aside0.mk hr5; have W5 := Aside0.mk (W4.out.trans hw5); have HP5 := Aside0.mk (HP4.out.went hw5 HGL.out); have HN5 : Aside0 (∀ k, (Value.slice A5 ps.length c5).ownBlock = some k → some k ≠ (Value.slice A xs.length cp).ownBlock) := ⟨fun k hk e => by have h1 := own_base hp5 k hk; have h2 := HP4.out.at_ k e.symm; omega⟩; have HQ5 : Aside0 (Pars w5 w.heap.size (.slice A5 ps.length c5) ps) := ⟨own_less hp5 W4.out.keep.1⟩; clear hp5 hr5 hw5)
        | ((with_reducible refine gate_builtin (b := .append) (xs := #[.tmp 36, .tmp 39]) rfl ?_); refine push_item rfl _ _ rfl (.slice A xs.length cp) xs B (.slice A5 ps.length c5) ps rfl rfl HP5.out HQ5.out HN5.out W5.out.keep.1 (by omega) ?_; intro v6 w6 ho6 hg6; obtain ⟨A6, c6, rfl⟩ := ho6.len; have HP6 := Aside0.mk ho6; have HR6 := Aside0.mk (HR5.out.grown hg6 (fun e => by have h2 := HP5.out.at_ g e; have := HGL.out; omega)); have W6 := Aside0.mk (W5.out.grown hg6 (fun q hq => (HP5.out.at_ q hq).1)); clear ho6 hg6)
        | (go_at_call 51; refine (done_at HR6.out true (decide_eq_true he)).mono ?_; rintro x w7 ⟨rfl, hd⟩; have HR7 := Aside0.mk (HR6.out.drawn hd); have W7 := Aside0.mk (W6.out.drawn hd); have HP7 := Aside0.mk (HP6.out.below hd.below); have q1 := HR7.out.c1; clear hd)
        | (go_at_call 32; refine (fail_calls _ _ _ _).mono ?_; rintro x w8 ⟨rfl, rfl⟩))
       exact ⟨rfl, (by rw [← he]), W7.out⟩
      ·rw [if_neg he] at hE
       by_cases hx : isB s c 32 = true
       ·rw [if_neg (fun h => by rw [hx] at h; cases h.1)] at hE
        have HEn := Aside0.mk hE
        go_wp2_with (first
         | (go_at_call 56; refine HIC2.out.mono ?_; rintro x w5 ⟨v5, rfl, hp5, hr5, hw5⟩; obtain ⟨A5, c5, rfl, hc5⟩ := hp5.len; have HR5 := Aside0.mk hr5; have W5 := Aside0.mk (W4.out.trans hw5); have HP5 := Aside0.mk (HP4.out.went hw5 HGL.out); have HN5 : Aside0 (∀ k, (Value.slice A5 ps.length c5).ownBlock = some k → some k ≠ (Value.slice A xs.length cp).ownBlock) := ⟨fun k hk e => by have h1 := own_base hp5 k hk; have h2 := HP4.out.at_ k e.symm; omega⟩; have HQ5 : Aside0 (Pars w5 w.heap.size (.slice A5 ps.length c5) ps) := ⟨own_less hp5 W4.out.keep.1⟩; clear hp5 hr5 hw5)
         | ((with_reducible refine gate_builtin (b := .append) (xs := #[.tmp 36, .tmp 39]) rfl ?_); refine push_item rfl _ _ rfl (.slice A xs.length cp) xs B (.slice A5 ps.length c5) ps rfl rfl HP5.out HQ5.out HN5.out W5.out.keep.1 (by omega) ?_; intro v6 w6 ho6 hg6; obtain ⟨A6, c6, rfl⟩ := ho6.len; have HP6 := Aside0.mk ho6; have HR6 := Aside0.mk (HR5.out.grown hg6 (fun e => by have h2 := HP5.out.at_ g e; have := HGL.out; omega)); have W6 := Aside0.mk (W5.out.grown hg6 (fun q hq => (HP5.out.at_ q hq).1)); clear ho6 hg6)
         | (go_at_call 51; refine (done_at HR6.out false (decide_eq_false he)).mono ?_; rintro x w7 ⟨rfl, hd⟩; have HR7 := Aside0.mk (HR6.out.drawn hd); have W7 := Aside0.mk (W6.out.drawn hd); have HP7 := Aside0.mk (HP6.out.below hd.below); have q1 := HR7.out.c1; clear hd)
         | (go_at_call 53; refine (is_at HR7.out (by omega) hc1.2 true hx).mono ?_; rintro x w8 ⟨rfl, hd⟩; have HR8 := Aside0.mk (HR7.out.drawn hd); have W8 := Aside0.mk (W7.out.drawn hd); have HP8 := Aside0.mk (HP7.out.below hd.below); have q2 := HR8.out.c1; clear hd HR7))
        refine ⟨⟨n3, c, xs ++ [(B, ps)], A6, c6, (by rw [List.length_append]; rfl), HEn, HR8, W8, HP8, by omega, hc1.2, by rw [List.length_append]; show xs.length + 1 ≤ 256; omega⟩, ?_⟩
        show 257 - (xs.length + 1) < 257 - xs.length
        omega
       ·have hx' : isB s c 32 = false := by simpa using hx
        by_cases hy : isB s c 41 = true
        ·rw [if_neg (fun h => by rw [hy] at h; cases h.2)] at hE
         have HEn := Aside0.mk hE
         go_wp2_with (first
          | (go_at_call 56; refine HIC2.out.mono ?_; rintro x w5 ⟨v5, rfl, hp5, hr5, hw5⟩; obtain ⟨A5, c5, rfl, hc5⟩ := hp5.len; have HR5 := Aside0.mk hr5; have W5 := Aside0.mk (W4.out.trans hw5); have HP5 := Aside0.mk (HP4.out.went hw5 HGL.out); have HN5 : Aside0 (∀ k, (Value.slice A5 ps.length c5).ownBlock = some k → some k ≠ (Value.slice A xs.length cp).ownBlock) := ⟨fun k hk e => by have h1 := own_base hp5 k hk; have h2 := HP4.out.at_ k e.symm; omega⟩; have HQ5 : Aside0 (Pars w5 w.heap.size (.slice A5 ps.length c5) ps) := ⟨own_less hp5 W4.out.keep.1⟩; clear hp5 hr5 hw5)
          | ((with_reducible refine gate_builtin (b := .append) (xs := #[.tmp 36, .tmp 39]) rfl ?_); refine push_item rfl _ _ rfl (.slice A xs.length cp) xs B (.slice A5 ps.length c5) ps rfl rfl HP5.out HQ5.out HN5.out W5.out.keep.1 (by omega) ?_; intro v6 w6 ho6 hg6; obtain ⟨A6, c6, rfl⟩ := ho6.len; have HP6 := Aside0.mk ho6; have HR6 := Aside0.mk (HR5.out.grown hg6 (fun e => by have h2 := HP5.out.at_ g e; have := HGL.out; omega)); have W6 := Aside0.mk (W5.out.grown hg6 (fun q hq => (HP5.out.at_ q hq).1)); clear ho6 hg6)
          | (go_at_call 51; refine (done_at HR6.out false (decide_eq_false he)).mono ?_; rintro x w7 ⟨rfl, hd⟩; have HR7 := Aside0.mk (HR6.out.drawn hd); have W7 := Aside0.mk (W6.out.drawn hd); have HP7 := Aside0.mk (HP6.out.below hd.below); have q1 := HR7.out.c1; clear hd)
          | (go_at_call 53; refine (is_at HR7.out (by omega) hc1.2 false hx').mono ?_; rintro x w8 ⟨rfl, hd⟩; have HR8 := Aside0.mk (HR7.out.drawn hd); have W8 := Aside0.mk (W7.out.drawn hd); have HP8 := Aside0.mk (HP7.out.below hd.below); have q2 := HR8.out.c1; clear hd HR7)
          | (go_at_call 53; refine (is_at HR8.out (by omega) hc1.2 true hy).mono ?_; rintro x w9 ⟨rfl, hd⟩; have HR9 := Aside0.mk (HR8.out.drawn hd); have W9 := Aside0.mk (W8.out.drawn hd); have HP9 := Aside0.mk (HP8.out.below hd.below); have q3 := HR9.out.c1; clear hd))
         refine ⟨⟨n3, c, xs ++ [(B, ps)], A6, c6, (by rw [List.length_append]; rfl), HEn, HR9, W9, HP9, by omega, hc1.2, by rw [List.length_append]; show xs.length + 1 ≤ 256; omega⟩, ?_⟩
         show 257 - (xs.length + 1) < 257 - xs.length
         omega
        ·have hy' : isB s c 41 = false := by simpa using hy
         rw [if_pos ⟨hx', hy'⟩] at hE
         have hE := Option.some.inj hE
         subst hE
         go_wp2_with (first
          | (go_at_call 56; refine HIC2.out.mono ?_; rintro x w5 ⟨v5, rfl, hp5, hr5, hw5⟩; obtain ⟨A5, c5, rfl, hc5⟩ := hp5.len; have HR5 := Aside0.mk hr5; have W5 := Aside0.mk (W4.out.trans hw5); have HP5 := Aside0.mk (HP4.out.went hw5 HGL.out); have HN5 : Aside0 (∀ k, (Value.slice A5 ps.length c5).ownBlock = some k → some k ≠ (Value.slice A xs.length cp).ownBlock) := ⟨fun k hk e => by have h1 := own_base hp5 k hk; have h2 := HP4.out.at_ k e.symm; omega⟩; have HQ5 : Aside0 (Pars w5 w.heap.size (.slice A5 ps.length c5) ps) := ⟨own_less hp5 W4.out.keep.1⟩; clear hp5 hr5 hw5)
          | ((with_reducible refine gate_builtin (b := .append) (xs := #[.tmp 36, .tmp 39]) rfl ?_); refine push_item rfl _ _ rfl (.slice A xs.length cp) xs B (.slice A5 ps.length c5) ps rfl rfl HP5.out HQ5.out HN5.out W5.out.keep.1 (by omega) ?_; intro v6 w6 ho6 hg6; obtain ⟨A6, c6, rfl⟩ := ho6.len; have HP6 := Aside0.mk ho6; have HR6 := Aside0.mk (HR5.out.grown hg6 (fun e => by have h2 := HP5.out.at_ g e; have := HGL.out; omega)); have W6 := Aside0.mk (W5.out.grown hg6 (fun q hq => (HP5.out.at_ q hq).1)); clear ho6 hg6)
          | (go_at_call 51; refine (done_at HR6.out false (decide_eq_false he)).mono ?_; rintro x w7 ⟨rfl, hd⟩; have HR7 := Aside0.mk (HR6.out.drawn hd); have W7 := Aside0.mk (W6.out.drawn hd); have HP7 := Aside0.mk (HP6.out.below hd.below); have q1 := HR7.out.c1; clear hd)
          | (go_at_call 53; refine (is_at HR7.out (by omega) hc1.2 false hx').mono ?_; rintro x w8 ⟨rfl, hd⟩; have HR8 := Aside0.mk (HR7.out.drawn hd); have W8 := Aside0.mk (W7.out.drawn hd); have HP8 := Aside0.mk (HP7.out.below hd.below); have q2 := HR8.out.c1; clear hd HR7)
          | (go_at_call 53; refine (is_at HR8.out (by omega) hc1.2 false hy').mono ?_; rintro x w9 ⟨rfl, hd⟩; have HR9 := Aside0.mk (HR8.out.drawn hd); have W9 := Aside0.mk (W8.out.drawn hd); have HP9 := Aside0.mk (HP8.out.below hd.below); have q3 := HR9.out.c1; clear hd)
          | (go_at_call 32; refine (fail_calls _ _ _ _).mono ?_; rintro x w10 ⟨rfl, rfl⟩))
         exact ⟨rfl, rfl, W9.out⟩
end Go.Proofs.YtclkclcacnpmbaaDoorW.PrintWords
