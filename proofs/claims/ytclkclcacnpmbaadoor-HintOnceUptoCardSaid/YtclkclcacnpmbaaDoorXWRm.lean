/- Layer 9's reader: its number, by hand. -/
import Derived.Test.YtclkclcacnpmbaaDoorXWRn
namespace Go.Proofs.YtclkclcacnpmbaaDoorW.PrintWords
open Go.RowKit

def rdNum (s : ByteArray) (sg : Int) : Nat → Int → Int → Int → Int → Int → RR
  | 0, a, n, _, dot, b => rdTold a (sg * n) dot b
  | k + 1, a, n, d, dot, b =>
    if dig (bt s a) = true then
      (if dot < 0 then (if d + 1 > 15 then .inl (a, 92) else rdNum s sg k (a + 1) (10 * n + (bt s a - 48)) (d + 1) dot b)
       else (if b + 1 > 3 then .inl (a, 92) else rdNum s sg k (a + 1) (10 * n + (bt s a - 48)) d dot (b + 1)))
    else if bt s a = 46 ∧ dot < 0 then (if d > 12 then .inl (a, 92) else rdNum s sg k (a + 1) n d a b)
    else rdTold a (sg * n) dot b
def numE (s : ByteArray) (sg a n d dot b : Int) : RR := rdNum s sg ((s.size : Int) - a).toNat a n d dot b
section
variable {s : ByteArray} {sg a n d dot b : Int}
theorem numE_end (h : ¬ a < (s.size : Int)) : numE s sg a n d dot b = rdTold a (sg * n) dot b := by
  unfold numE
  rw [show ((s.size : Int) - a).toNat = 0 by omega]
  rfl
theorem numE_step (h : a < (s.size : Int)) : numE s sg a n d dot b = if dig (bt s a) = true then
      (if dot < 0 then (if d + 1 > 15 then .inl (a, 92) else numE s sg (a + 1) (10 * n + (bt s a - 48)) (d + 1) dot b)
       else (if b + 1 > 3 then .inl (a, 92) else numE s sg (a + 1) (10 * n + (bt s a - 48)) d dot (b + 1)))
    else if bt s a = 46 ∧ dot < 0 then (if d > 12 then .inl (a, 92) else numE s sg (a + 1) n d a b)
    else rdTold a (sg * n) dot b := by
  unfold numE
  rw [show ((s.size : Int) - a).toNat = ((s.size : Int) - (a + 1)).toNat + 1 by omega]
  rfl
end
def rdNumber (s : ByteArray) (at_ : Int) : RR :=
  if bt s at_ = 45 then (if at_ + 1 < (s.size : Int) ∧ dig (bt s (at_ + 1)) = true then numE s (-1) (at_ + 1) 0 0 (-1) 0 else .inl (at_ + 1, 92))
  else numE s 1 at_ 0 0 (-1) 0
set_option maxHeartbeats 4000000 in
set_option maxRecDepth 100000 in
theorem number_calls (g : Nat) (s : ByteArray) (at_ : Int) (w : World) (hr : RdAt w g s at_) (h0 : 0 ≤ at_) (h1 : at_ < (s.size : Int)) (hs : s.size ≤ 9223372036854775000) :
    Calls Tryd.prog 81 #[.pointer (some ⟨g, 0, none⟩)] w fun x w' => Gives x w w' g s (rdNumber s at_) := by
  unfold rdNumber
  have hb := bt_at s at_ (by omega)
  have hi : 0 ≤ at_ ∧ at_ < (s.size : Int) := ⟨h0, h1⟩
  by_cases hm : bt s at_ = 45
  · rw [if_pos hm]
    have hmb : (bt s at_ == 45) = true := by simp [hm]
    clear hm
    by_cases hn : at_ + 1 < (s.size : Int)
    · have hbn := bt_at s (at_ + 1) (by omega)
      have hin : 0 ≤ at_ + 1 ∧ at_ + 1 < (s.size : Int) := ⟨by omega, hn⟩
      have HQn := Aside0.mk (fun w1 (hr1 : RdAt w1 g s (at_ + 1)) => end_quiet hr1 hn)
      by_cases hd : dig (bt s (at_ + 1)) = true
      · rw [if_pos ⟨hn, hd⟩]
        have HDn := Aside0.mk (fun w => digit_quiet hd w)
        obtain ⟨R, hE⟩ : ∃ R, numE s (-1) (at_ + 1) 0 0 (-1) 0 = R := ⟨_, rfl⟩
        rw [hE]
        go_enter Tryd.func81, Tryd.ntmps81
        go_wp2_with (first
          | ((with_reducible refine gate_dst (N := 2) rfl ?_); refine box_event ?hg (N := 2) ?hd (cs := #[.int .i64 0, .int .i64 0, .string ⟨#[]⟩]) (t := 50) ?hr ?_; (case hd => rfl); (case hg => rfl); (case hr => first | (go_simp; done) | (go_simp; rfl)); intro gb hg w1 hbox hb; have W0 := Aside0.mk ((Went.refl w g).more hb); have hr1 := hr.more hb; have q0 := hr1.c0; have q1 := hr1.c1; have f1 := hr1.f1; have HR2 := Aside0.mk hr1; have HG := Aside0.mk (show gb ≠ g from fun e => by have := blk_lt hr; omega); have HGE := Aside0.mk (show w.heap.size ≤ gb by omega); have HX := Aside0.mk hbox; clear hb hbox hg hr1))
        go_quiet (fail)
        go_wp2
        have HRn := Aside0.mk ((HR2.out.more (pw_below_drewN (Below.refl _ _) nq)).set (at_ + 1))
        have W2 := Aside0.mk ((W0.out.drewN nq).set 1 (.int .i64 (at_ + 1)))
        have HX2n : Aside0 (((w1.drewN nq).setCell ⟨g, 1, none⟩ (.int .i64 (at_ + 1))).heap[gb]? = some (.cells #[.int .i64 0, .int .i64 0, .string ⟨#[]⟩] 50 (0, 0))) := ⟨blk_far (p := ⟨g, 1, none⟩) HX.out HG.out _⟩
        clear HR2 W0 HX
        generalize (w1.drewN nq).setCell ⟨g, 1, none⟩ (.int .i64 (at_ + 1)) = w2 at *
        clear q0 q1 f1 hb hi hmb
        have q0 := HRn.out.c0
        have q1 := HRn.out.c1
        have HQ2 := Aside0.mk (HQn.out w2 HRn.out)
        have HD2 := Aside0.mk (HDn.out w2)
        go_quiet (first | (go_at_call 90; exact HQ2.out _) | (go_at_call 80; exact HD2.out _))
        go_wp2
        have HRs := Aside0.mk (HRn.out.more (pw_below_drewN (Below.refl _ _) nq))
        have Ws := Aside0.mk (W2.out.drewN nq)
        have HXs : Aside0 ((w2.drewN nq).heap[gb]? = some (.cells #[.int .i64 0, .int .i64 0, .string ⟨#[]⟩] 50 (0, 0))) := ⟨HX2n.out⟩
        clear q0 q1 hbn hin HRn W2 HX2n
        generalize w2.drewN nq = w3 at *
        go_loopw [4, 5, 6, 7] (fun v4 v5 v6 v7 wr => ∃ a n d dot b : Int, v4 = .int .i64 n ∧ v5 = .int .i64 d ∧ v6 = .int .i64 dot ∧ v7 = .int .i64 b ∧ RdAt wr g s a ∧ Aside0 (Went w wr g) ∧ Aside0 (wr.heap[gb]? = some (.cells #[.int .i64 0, .int .i64 0, .string ⟨#[]⟩] 50 (0, 0))) ∧ at_ + 1 ≤ a ∧ a ≤ (s.size : Int) ∧ 0 ≤ n ∧ 0 ≤ d ∧ d ≤ 15 ∧ 0 ≤ b ∧ b ≤ 3 ∧ (dot < 0 → b = 0) ∧ (¬ dot < 0 → d ≤ 12) ∧ Aside0 (n < pw (d + b)) ∧ Aside0 (numE s (-1) a n d dot b = R)) (fun _ _ _ _ wr => ((s.size : Int) - posOf wr g).toNat)
        case atStart => exact ⟨at_ + 1, 0, 0, -1, 0, rfl, rfl, rfl, rfl, HRs.out, Ws, HXs, by omega, by omega, by omega, by omega, by omega, by omega, by omega, by omega, by omega, ⟨by decide⟩, ⟨hE⟩⟩
        case round =>
          obtain ⟨a, n, d, dot, b, rfl, rfl, rfl, rfl, hr2, HW, HX2, ha0, ha1, hn0, hd0, hd15, hb0, hb3, hdb, hdd, HP, HE⟩ := hrel
          clear HRs Ws HXs hE
          have hpos := hr2.pos
          have HR := Aside0.mk hr2
          have q0 := hr2.c0
          have q1 := hr2.c1
          have f1 := hr2.f1
          have hnp := HP.out
          have hp15 := pw_le (k := d + b) (by omega)
          have hn15 : n < 1000000000000000 := by omega
          by_cases hlt : a < (s.size : Int)
          · have hq := end_calls g s a wr hr2
            rw [show decide (a ≥ (s.size : Int)) = false from decide_eq_false (by omega)] at hq
            have HQ := Aside0.mk (hq.mono fun _ _ ⟨he, ⟨h⟩⟩ => (⟨he, h⟩ : _ ∧ ∃ n, _))
            clear hr2 hq
            have hi : 0 ≤ a ∧ a < (s.size : Int) := ⟨by omega, hlt⟩
            have hb := bt_at s a (by omega)
            have HE1 := (numE_step hlt).symm.trans HE.out
            clear HE
            have HD := Aside0.mk (fun w => digit_calls (bt s a) w)
            by_cases hdg : dig (bt s a) = true
            · rw [if_pos hdg] at HE1
              rw [hdg] at HD
              have hcd := dig_iff.mp hdg
              have hw8 : (bt s a - 48) % 256 = bt s a - 48 := by omega
              clear hdg
              by_cases hdot : dot < 0
              · rw [if_pos hdot] at HE1
                by_cases hmo : d + 1 > 15
                · rw [if_pos hmo] at HE1
                  subst HE1
                  clear hnp hp15 HP
                  generalize bt s a = c at *
                  go_wp2_with (first | (go_at_call 90; refine HQ.out.mono ?_; rintro e w' ⟨rfl, ⟨nd, rfl⟩⟩; have HRa := Aside0.mk (HR.out.more (pw_below_drewN (Below.refl _ _) nd)); have HWa := Aside0.mk (HW.out.drewN nd); have HXa : Aside0 ((wr.drewN nd).heap[gb]? = some (.cells #[.int .i64 0, .int .i64 0, .string ⟨#[]⟩] 50 (0, 0))) := ⟨HX2.out⟩; clear HR HW HX2 HQ q0 q1 f1; generalize wr.drewN nd = w4 at *; have q0 := HRa.out.c0; have q1 := HRa.out.c1; have f1 := HRa.out.f1) | (go_at_call 80; refine (HD.out _).mono ?_; rintro e w' ⟨rfl, rfl⟩) | (go_at_call 89; refine (stop_calls _ _ _ _).mono ?_; rintro e w5 ⟨rfl, rfl⟩))
                  go_quiet (fail)
                  go_wp2_with (first | (go_at_call 80; refine (HD.out _).mono ?_; rintro e w' ⟨rfl, rfl⟩) | (go_at_call 89; refine (stop_calls _ _ _ _).mono ?_; rintro e w5 ⟨rfl, rfl⟩))
                  exact ⟨rfl, rfl, HWa.out.drewN _⟩
                · rw [if_neg hmo] at HE1
                  have HE2 := Aside0.mk HE1
                  have HP2 : Aside0 (10 * n + (bt s a - 48) < pw (d + 1 + b)) := ⟨by rw [show d + 1 + b = d + b + 1 by omega, pw_step (by omega)]; omega⟩
                  clear hnp hp15 HP HE1
                  generalize bt s a = c at *
                  go_wp2_with (first | (go_at_call 90; refine HQ.out.mono ?_; rintro e w' ⟨rfl, ⟨nd, rfl⟩⟩; have HRa := Aside0.mk (HR.out.more (pw_below_drewN (Below.refl _ _) nd)); have HWa := Aside0.mk (HW.out.drewN nd); have HXa : Aside0 ((wr.drewN nd).heap[gb]? = some (.cells #[.int .i64 0, .int .i64 0, .string ⟨#[]⟩] 50 (0, 0))) := ⟨HX2.out⟩; clear HR HW HX2 HQ q0 q1 f1; generalize wr.drewN nd = w4 at *; have q0 := HRa.out.c0; have q1 := HRa.out.c1; have f1 := HRa.out.f1) | (go_at_call 80; refine (HD.out _).mono ?_; rintro e w' ⟨rfl, rfl⟩) | (go_at_call 89; refine (stop_calls _ _ _ _).mono ?_; rintro e w5 ⟨rfl, rfl⟩))
                  go_quiet (fail)
                  go_wp2_with (first | (go_at_call 80; refine (HD.out _).mono ?_; rintro e w' ⟨rfl, rfl⟩))
                  exact ⟨⟨a + 1, _, d + 1, dot, b, rfl, by first | rfl | go_num, by first | rfl | go_num, by first | rfl | go_num, (HRa.out.more (pw_below_drewN (Below.refl _ _) _)).set _, ⟨(HWa.out.drewN _).set _ _⟩, ⟨blk_far (p := ⟨g, 1, none⟩) HXa.out HG.out _⟩, by omega, by omega, by omega, by omega, by omega, by omega, by omega, by omega, by omega, HP2, HE2⟩, by rw [hpos, ((HRa.out.more (pw_below_drewN (Below.refl _ _) _)).set (a + 1)).pos]; omega⟩

              · rw [if_neg hdot] at HE1
                by_cases hmo : b + 1 > 3
                · rw [if_pos hmo] at HE1
                  subst HE1
                  clear hnp hp15 HP
                  generalize bt s a = c at *
                  go_wp2_with (first | (go_at_call 90; refine HQ.out.mono ?_; rintro e w' ⟨rfl, ⟨nd, rfl⟩⟩; have HRa := Aside0.mk (HR.out.more (pw_below_drewN (Below.refl _ _) nd)); have HWa := Aside0.mk (HW.out.drewN nd); have HXa : Aside0 ((wr.drewN nd).heap[gb]? = some (.cells #[.int .i64 0, .int .i64 0, .string ⟨#[]⟩] 50 (0, 0))) := ⟨HX2.out⟩; clear HR HW HX2 HQ q0 q1 f1; generalize wr.drewN nd = w4 at *; have q0 := HRa.out.c0; have q1 := HRa.out.c1; have f1 := HRa.out.f1) | (go_at_call 80; refine (HD.out _).mono ?_; rintro e w' ⟨rfl, rfl⟩) | (go_at_call 89; refine (stop_calls _ _ _ _).mono ?_; rintro e w5 ⟨rfl, rfl⟩))
                  go_quiet (fail)
                  go_wp2_with (first | (go_at_call 80; refine (HD.out _).mono ?_; rintro e w' ⟨rfl, rfl⟩) | (go_at_call 89; refine (stop_calls _ _ _ _).mono ?_; rintro e w5 ⟨rfl, rfl⟩))
                  exact ⟨rfl, rfl, HWa.out.drewN _⟩
                · rw [if_neg hmo] at HE1
                  have HE2 := Aside0.mk HE1
                  have HP2 : Aside0 (10 * n + (bt s a - 48) < pw (d + (b + 1))) := ⟨by rw [show d + (b + 1) = d + b + 1 by omega, pw_step (by omega)]; omega⟩
                  clear hnp hp15 HP HE1
                  generalize bt s a = c at *
                  go_wp2_with (first | (go_at_call 90; refine HQ.out.mono ?_; rintro e w' ⟨rfl, ⟨nd, rfl⟩⟩; have HRa := Aside0.mk (HR.out.more (pw_below_drewN (Below.refl _ _) nd)); have HWa := Aside0.mk (HW.out.drewN nd); have HXa : Aside0 ((wr.drewN nd).heap[gb]? = some (.cells #[.int .i64 0, .int .i64 0, .string ⟨#[]⟩] 50 (0, 0))) := ⟨HX2.out⟩; clear HR HW HX2 HQ q0 q1 f1; generalize wr.drewN nd = w4 at *; have q0 := HRa.out.c0; have q1 := HRa.out.c1; have f1 := HRa.out.f1) | (go_at_call 80; refine (HD.out _).mono ?_; rintro e w' ⟨rfl, rfl⟩) | (go_at_call 89; refine (stop_calls _ _ _ _).mono ?_; rintro e w5 ⟨rfl, rfl⟩))
                  go_quiet (fail)
                  go_wp2_with (first | (go_at_call 80; refine (HD.out _).mono ?_; rintro e w' ⟨rfl, rfl⟩))
                  exact ⟨⟨a + 1, _, d, dot, b + 1, rfl, by first | rfl | go_num, by first | rfl | go_num, by first | rfl | go_num, (HRa.out.more (pw_below_drewN (Below.refl _ _) _)).set _, ⟨(HWa.out.drewN _).set _ _⟩, ⟨blk_far (p := ⟨g, 1, none⟩) HXa.out HG.out _⟩, by omega, by omega, by omega, by omega, by omega, by omega, by omega, by omega, by omega, HP2, HE2⟩, by rw [hpos, ((HRa.out.more (pw_below_drewN (Below.refl _ _) _)).set (a + 1)).pos]; omega⟩

            · rw [if_neg hdg] at HE1
              rw [show dig (bt s a) = false by simpa using hdg] at HD
              clear hdg
              by_cases h46 : bt s a = 46
              · have hb46 : (bt s a == 46) = true := by simp [h46]
                by_cases hdot : dot < 0
                · rw [if_pos ⟨h46, hdot⟩] at HE1
                  by_cases hmo : d > 12
                  · rw [if_pos hmo] at HE1
                    subst HE1
                    clear hnp hp15 HP h46
                    generalize bt s a = c at *
                    go_wp2_with (first | (go_at_call 90; refine HQ.out.mono ?_; rintro e w' ⟨rfl, ⟨nd, rfl⟩⟩; have HRa := Aside0.mk (HR.out.more (pw_below_drewN (Below.refl _ _) nd)); have HWa := Aside0.mk (HW.out.drewN nd); have HXa : Aside0 ((wr.drewN nd).heap[gb]? = some (.cells #[.int .i64 0, .int .i64 0, .string ⟨#[]⟩] 50 (0, 0))) := ⟨HX2.out⟩; clear HR HW HX2 HQ q0 q1 f1; generalize wr.drewN nd = w4 at *; have q0 := HRa.out.c0; have q1 := HRa.out.c1; have f1 := HRa.out.f1) | (go_at_call 80; refine (HD.out _).mono ?_; rintro e w' ⟨rfl, rfl⟩) | (go_at_call 89; refine (stop_calls _ _ _ _).mono ?_; rintro e w5 ⟨rfl, rfl⟩))
                    go_quiet (fail)
                    go_wp2_with (first | (go_at_call 80; refine (HD.out _).mono ?_; rintro e w' ⟨rfl, rfl⟩) | (go_at_call 89; refine (stop_calls _ _ _ _).mono ?_; rintro e w5 ⟨rfl, rfl⟩))
                    exact ⟨rfl, rfl, HWa.out.drewN _⟩
                  · rw [if_neg hmo] at HE1
                    have HE2 := Aside0.mk HE1
                    have HP2 := HP
                    clear hnp hp15 HP HE1 h46
                    generalize bt s a = c at *
                    go_wp2_with (first | (go_at_call 90; refine HQ.out.mono ?_; rintro e w' ⟨rfl, ⟨nd, rfl⟩⟩; have HRa := Aside0.mk (HR.out.more (pw_below_drewN (Below.refl _ _) nd)); have HWa := Aside0.mk (HW.out.drewN nd); have HXa : Aside0 ((wr.drewN nd).heap[gb]? = some (.cells #[.int .i64 0, .int .i64 0, .string ⟨#[]⟩] 50 (0, 0))) := ⟨HX2.out⟩; clear HR HW HX2 HQ q0 q1 f1; generalize wr.drewN nd = w4 at *; have q0 := HRa.out.c0; have q1 := HRa.out.c1; have f1 := HRa.out.f1) | (go_at_call 80; refine (HD.out _).mono ?_; rintro e w' ⟨rfl, rfl⟩) | (go_at_call 89; refine (stop_calls _ _ _ _).mono ?_; rintro e w5 ⟨rfl, rfl⟩))
                    go_quiet (fail)
                    go_wp2_with (first | (go_at_call 80; refine (HD.out _).mono ?_; rintro e w' ⟨rfl, rfl⟩))
                    exact ⟨⟨a + 1, n, d, a, b, rfl, by first | rfl | go_num, by first | rfl | go_num, by first | rfl | go_num, (HRa.out.more (pw_below_drewN (Below.refl _ _) _)).set _, ⟨(HWa.out.drewN _).set _ _⟩, ⟨blk_far (p := ⟨g, 1, none⟩) HXa.out HG.out _⟩, by omega, by omega, by omega, by omega, by omega, by omega, by omega, by omega, by omega, HP2, HE2⟩, by rw [hpos, ((HRa.out.more (pw_below_drewN (Below.refl _ _) _)).set (a + 1)).pos]; omega⟩

                · rw [if_neg fun h => hdot h.2] at HE1
                  clear hnp hp15 HP h46
                  generalize bt s a = c at *
                  rw [show (-1 : Int) * n = (-n) by omega] at HE1
                  cases hrt : rdTold a (-n) dot b with
                  | inl f =>
                    rw [hrt] at HE1
                    subst HE1
                    have HT := Aside0.mk (fun w1 (hr1 : RdAt w1 g s a) => (told_calls g s a (-n) dot b w1 hr1 hb0 hb3 (by omega)).mono (fun x w' hG => (by rw [hrt] at hG; exact hG : x = .panicked (fault f.1 f.2) ∧ Went w1 w' g)))
                    clear hrt
                    obtain ⟨f1_, f2_⟩ := f
                    go_wp2_with (first | (go_at_call 90; refine HQ.out.mono ?_; rintro e w' ⟨rfl, ⟨nd, rfl⟩⟩; have HRa := Aside0.mk (HR.out.more (pw_below_drewN (Below.refl _ _) nd)); have HWa := Aside0.mk (HW.out.drewN nd); have HXa : Aside0 ((wr.drewN nd).heap[gb]? = some (.cells #[.int .i64 0, .int .i64 0, .string ⟨#[]⟩] 50 (0, 0))) := ⟨HX2.out⟩; clear HR HW HX2 HQ q0 q1 f1; generalize wr.drewN nd = w4 at *; have q0 := HRa.out.c0; have q1 := HRa.out.c1; have f1 := HRa.out.f1))
                    go_quiet (fail)
                    have HRb := Aside0.mk (HRa.out.more (pw_below_drewN (Below.refl _ _) nq))
                    have HWb := Aside0.mk (HWa.out.drewN nq)
                    have HXb : Aside0 ((w4.drewN nq).heap[gb]? = some (.cells #[.int .i64 0, .int .i64 0, .string ⟨#[]⟩] 50 (0, 0))) := ⟨HXa.out⟩
                    clear q0 q1 f1 HRa HWa HXa
                    generalize w4.drewN nq = w7 at *
                    go_wp2_with (first | (go_at_call 80; refine (HD.out _).mono ?_; rintro e w' ⟨rfl, rfl⟩) | (go_at_call 91; refine (HT.out _ HRb.out).mono ?_; rintro e w6 ⟨rfl, W6⟩; have HW6 := Aside0.mk (HWb.out.trans W6)))
                    exact ⟨rfl, rfl, HW6.out⟩
                  | inr v =>
                    rw [hrt] at HE1
                    subst HE1
                    obtain ⟨⟨v0, v1, v2⟩, va⟩ := v
                    have HT := Aside0.mk (fun w1 (hr1 : RdAt w1 g s a) => (told_calls g s a (-n) dot b w1 hr1 hb0 hb3 (by omega)).mono (fun x w' hG => (by rw [hrt] at hG; exact hG : x = .returned (bareV (v0, v1, v2)) ∧ RdAt w' g s va ∧ Went w1 w' g)))
                    clear hrt
                    unfold bareV at HT
                    go_wp2_with (first | (go_at_call 90; refine HQ.out.mono ?_; rintro e w' ⟨rfl, ⟨nd, rfl⟩⟩; have HRa := Aside0.mk (HR.out.more (pw_below_drewN (Below.refl _ _) nd)); have HWa := Aside0.mk (HW.out.drewN nd); have HXa : Aside0 ((wr.drewN nd).heap[gb]? = some (.cells #[.int .i64 0, .int .i64 0, .string ⟨#[]⟩] 50 (0, 0))) := ⟨HX2.out⟩; clear HR HW HX2 HQ q0 q1 f1; generalize wr.drewN nd = w4 at *; have q0 := HRa.out.c0; have q1 := HRa.out.c1; have f1 := HRa.out.f1))
                    go_quiet (fail)
                    have HRb := Aside0.mk (HRa.out.more (pw_below_drewN (Below.refl _ _) nq))
                    have HWb := Aside0.mk (HWa.out.drewN nq)
                    have HXb : Aside0 ((w4.drewN nq).heap[gb]? = some (.cells #[.int .i64 0, .int .i64 0, .string ⟨#[]⟩] 50 (0, 0))) := ⟨HXa.out⟩
                    clear q0 q1 f1 HRa HWa HXa
                    generalize w4.drewN nq = w7 at *
                    go_wp2_with (first | (go_at_call 80; refine (HD.out _).mono ?_; rintro e w' ⟨rfl, rfl⟩) | (go_at_call 91; refine (HT.out _ HRb.out).mono ?_; rintro e w6 ⟨rfl, hr6, W6⟩; have HR6 := Aside0.mk hr6; have HW6 := Aside0.mk (HWb.out.trans W6); have hx6 := W6.keep.blk HXb.out HG.out (by simp); have hx0 : w6.cell? ⟨gb, 0, none⟩ = some (.int .i64 0) := (blk_cell hx6 0).trans rfl; have hx1 : w6.cell? ⟨gb, 1, none⟩ = some (.int .i64 0) := (blk_cell hx6 1).trans rfl; have hx2 : w6.cell? ⟨gb, 2, none⟩ = some (.string ⟨#[]⟩) := (blk_cell hx6 2).trans rfl; have fx0 := blk_frozen hx6 0; have fx1 := blk_frozen hx6 1; have fx2 := blk_frozen hx6 2; clear hr6 W6 hx6))
                    (try simp only [Exit.inBlock, Exit.then])
                    refine bodyPost_ret (v := bareV (v0, v1, v2)) (by simp [results, Tryd.results81, go_sem, bareV, hx0, hx1, hx2]; try rfl) rfl ?_
                    exact ⟨rfl, HR6.out.far3 HG.out _ _ _, HW6.out.far3 HGE.out _ _ _⟩
              · rw [if_neg fun h => h46 h.1] at HE1
                have hb46 : (bt s a == 46) = false := by simp [h46]
                clear hnp hp15 HP h46
                generalize bt s a = c at *
                rw [show (-1 : Int) * n = (-n) by omega] at HE1
                cases hrt : rdTold a (-n) dot b with
                | inl f =>
                  rw [hrt] at HE1
                  subst HE1
                  have HT := Aside0.mk (fun w1 (hr1 : RdAt w1 g s a) => (told_calls g s a (-n) dot b w1 hr1 hb0 hb3 (by omega)).mono (fun x w' hG => (by rw [hrt] at hG; exact hG : x = .panicked (fault f.1 f.2) ∧ Went w1 w' g)))
                  clear hrt
                  obtain ⟨f1_, f2_⟩ := f
                  go_wp2_with (first | (go_at_call 90; refine HQ.out.mono ?_; rintro e w' ⟨rfl, ⟨nd, rfl⟩⟩; have HRa := Aside0.mk (HR.out.more (pw_below_drewN (Below.refl _ _) nd)); have HWa := Aside0.mk (HW.out.drewN nd); have HXa : Aside0 ((wr.drewN nd).heap[gb]? = some (.cells #[.int .i64 0, .int .i64 0, .string ⟨#[]⟩] 50 (0, 0))) := ⟨HX2.out⟩; clear HR HW HX2 HQ q0 q1 f1; generalize wr.drewN nd = w4 at *; have q0 := HRa.out.c0; have q1 := HRa.out.c1; have f1 := HRa.out.f1))
                  go_quiet (fail)
                  have HRb := Aside0.mk (HRa.out.more (pw_below_drewN (Below.refl _ _) nq))
                  have HWb := Aside0.mk (HWa.out.drewN nq)
                  have HXb : Aside0 ((w4.drewN nq).heap[gb]? = some (.cells #[.int .i64 0, .int .i64 0, .string ⟨#[]⟩] 50 (0, 0))) := ⟨HXa.out⟩
                  clear q0 q1 f1 HRa HWa HXa
                  generalize w4.drewN nq = w7 at *
                  go_wp2_with (first | (go_at_call 80; refine (HD.out _).mono ?_; rintro e w' ⟨rfl, rfl⟩) | (go_at_call 91; refine (HT.out _ HRb.out).mono ?_; rintro e w6 ⟨rfl, W6⟩; have HW6 := Aside0.mk (HWb.out.trans W6)))
                  exact ⟨rfl, rfl, HW6.out⟩
                | inr v =>
                  rw [hrt] at HE1
                  subst HE1
                  obtain ⟨⟨v0, v1, v2⟩, va⟩ := v
                  have HT := Aside0.mk (fun w1 (hr1 : RdAt w1 g s a) => (told_calls g s a (-n) dot b w1 hr1 hb0 hb3 (by omega)).mono (fun x w' hG => (by rw [hrt] at hG; exact hG : x = .returned (bareV (v0, v1, v2)) ∧ RdAt w' g s va ∧ Went w1 w' g)))
                  clear hrt
                  unfold bareV at HT
                  go_wp2_with (first | (go_at_call 90; refine HQ.out.mono ?_; rintro e w' ⟨rfl, ⟨nd, rfl⟩⟩; have HRa := Aside0.mk (HR.out.more (pw_below_drewN (Below.refl _ _) nd)); have HWa := Aside0.mk (HW.out.drewN nd); have HXa : Aside0 ((wr.drewN nd).heap[gb]? = some (.cells #[.int .i64 0, .int .i64 0, .string ⟨#[]⟩] 50 (0, 0))) := ⟨HX2.out⟩; clear HR HW HX2 HQ q0 q1 f1; generalize wr.drewN nd = w4 at *; have q0 := HRa.out.c0; have q1 := HRa.out.c1; have f1 := HRa.out.f1))
                  go_quiet (fail)
                  have HRb := Aside0.mk (HRa.out.more (pw_below_drewN (Below.refl _ _) nq))
                  have HWb := Aside0.mk (HWa.out.drewN nq)
                  have HXb : Aside0 ((w4.drewN nq).heap[gb]? = some (.cells #[.int .i64 0, .int .i64 0, .string ⟨#[]⟩] 50 (0, 0))) := ⟨HXa.out⟩
                  clear q0 q1 f1 HRa HWa HXa
                  generalize w4.drewN nq = w7 at *
                  go_wp2_with (first | (go_at_call 80; refine (HD.out _).mono ?_; rintro e w' ⟨rfl, rfl⟩) | (go_at_call 91; refine (HT.out _ HRb.out).mono ?_; rintro e w6 ⟨rfl, hr6, W6⟩; have HR6 := Aside0.mk hr6; have HW6 := Aside0.mk (HWb.out.trans W6); have hx6 := W6.keep.blk HXb.out HG.out (by simp); have hx0 : w6.cell? ⟨gb, 0, none⟩ = some (.int .i64 0) := (blk_cell hx6 0).trans rfl; have hx1 : w6.cell? ⟨gb, 1, none⟩ = some (.int .i64 0) := (blk_cell hx6 1).trans rfl; have hx2 : w6.cell? ⟨gb, 2, none⟩ = some (.string ⟨#[]⟩) := (blk_cell hx6 2).trans rfl; have fx0 := blk_frozen hx6 0; have fx1 := blk_frozen hx6 1; have fx2 := blk_frozen hx6 2; clear hr6 W6 hx6))
                  (try simp only [Exit.inBlock, Exit.then])
                  refine bodyPost_ret (v := bareV (v0, v1, v2)) (by simp [results, Tryd.results81, go_sem, bareV, hx0, hx1, hx2]; try rfl) rfl ?_
                  exact ⟨rfl, HR6.out.far3 HG.out _ _ _, HW6.out.far3 HGE.out _ _ _⟩
          · have hq := end_calls g s a wr hr2
            rw [show decide (a ≥ (s.size : Int)) = true from decide_eq_true (by omega)] at hq
            have HQ := Aside0.mk (hq.mono fun _ _ ⟨he, ⟨h⟩⟩ => (⟨he, h⟩ : _ ∧ ∃ n, _))
            clear hr2 hq
            have HE1 := (numE_end hlt).symm.trans HE.out
            clear HE hnp hp15 HP
            rw [show (-1 : Int) * n = (-n) by omega] at HE1
            cases hrt : rdTold a (-n) dot b with
            | inl f =>
              rw [hrt] at HE1
              subst HE1
              have HT := Aside0.mk (fun w1 (hr1 : RdAt w1 g s a) => (told_calls g s a (-n) dot b w1 hr1 hb0 hb3 (by omega)).mono (fun x w' hG => (by rw [hrt] at hG; exact hG : x = .panicked (fault f.1 f.2) ∧ Went w1 w' g)))
              clear hrt
              obtain ⟨f1_, f2_⟩ := f
              go_wp2_with (first | (go_at_call 90; refine HQ.out.mono ?_; rintro e w' ⟨rfl, ⟨nd, rfl⟩⟩; have HRa := Aside0.mk (HR.out.more (pw_below_drewN (Below.refl _ _) nd)); have HWa := Aside0.mk (HW.out.drewN nd); have HXa : Aside0 ((wr.drewN nd).heap[gb]? = some (.cells #[.int .i64 0, .int .i64 0, .string ⟨#[]⟩] 50 (0, 0))) := ⟨HX2.out⟩; clear HR HW HX2 HQ q0 q1 f1; generalize wr.drewN nd = w4 at *; have q0 := HRa.out.c0; have q1 := HRa.out.c1; have f1 := HRa.out.f1) | (go_at_call 91; refine (HT.out _ HRa.out).mono ?_; rintro e w6 ⟨rfl, W6⟩; have HW6 := Aside0.mk (HWa.out.trans W6)))
              exact ⟨rfl, rfl, HW6.out⟩
            | inr v =>
              rw [hrt] at HE1
              subst HE1
              obtain ⟨⟨v0, v1, v2⟩, va⟩ := v
              have HT := Aside0.mk (fun w1 (hr1 : RdAt w1 g s a) => (told_calls g s a (-n) dot b w1 hr1 hb0 hb3 (by omega)).mono (fun x w' hG => (by rw [hrt] at hG; exact hG : x = .returned (bareV (v0, v1, v2)) ∧ RdAt w' g s va ∧ Went w1 w' g)))
              clear hrt
              unfold bareV at HT
              go_wp2_with (first | (go_at_call 90; refine HQ.out.mono ?_; rintro e w' ⟨rfl, ⟨nd, rfl⟩⟩; have HRa := Aside0.mk (HR.out.more (pw_below_drewN (Below.refl _ _) nd)); have HWa := Aside0.mk (HW.out.drewN nd); have HXa : Aside0 ((wr.drewN nd).heap[gb]? = some (.cells #[.int .i64 0, .int .i64 0, .string ⟨#[]⟩] 50 (0, 0))) := ⟨HX2.out⟩; clear HR HW HX2 HQ q0 q1 f1; generalize wr.drewN nd = w4 at *; have q0 := HRa.out.c0; have q1 := HRa.out.c1; have f1 := HRa.out.f1) | (go_at_call 91; refine (HT.out _ HRa.out).mono ?_; rintro e w6 ⟨rfl, hr6, W6⟩; have HR6 := Aside0.mk hr6; have HW6 := Aside0.mk (HWa.out.trans W6); have hx6 := W6.keep.blk HXa.out HG.out (by simp); have hx0 : w6.cell? ⟨gb, 0, none⟩ = some (.int .i64 0) := (blk_cell hx6 0).trans rfl; have hx1 : w6.cell? ⟨gb, 1, none⟩ = some (.int .i64 0) := (blk_cell hx6 1).trans rfl; have hx2 : w6.cell? ⟨gb, 2, none⟩ = some (.string ⟨#[]⟩) := (blk_cell hx6 2).trans rfl; have fx0 := blk_frozen hx6 0; have fx1 := blk_frozen hx6 1; have fx2 := blk_frozen hx6 2; clear hr6 W6 hx6))
              (try simp only [Exit.inBlock, Exit.then])
              refine bodyPost_ret (v := bareV (v0, v1, v2)) (by simp [results, Tryd.results81, go_sem, bareV, hx0, hx1, hx2]; try rfl) rfl ?_
              exact ⟨rfl, HR6.out.far3 HG.out _ _ _, HW6.out.far3 HGE.out _ _ _⟩
      · rw [if_neg fun h => hd h.2]
        have HDn := Aside0.mk (fun w => digit_quiet (show dig (bt s (at_ + 1)) = false by simpa using hd) w)
        clear hd
        go_enter Tryd.func81, Tryd.ntmps81
        go_wp2_with (first
          | ((with_reducible refine gate_dst (N := 2) rfl ?_); refine box_event ?hg (N := 2) ?hd (cs := #[.int .i64 0, .int .i64 0, .string ⟨#[]⟩]) (t := 50) ?hr ?_; (case hd => rfl); (case hg => rfl); (case hr => first | (go_simp; done) | (go_simp; rfl)); intro gb hg w1 hbox hb; have W0 := Aside0.mk ((Went.refl w g).more hb); have hr1 := hr.more hb; have q0 := hr1.c0; have q1 := hr1.c1; have f1 := hr1.f1; have HR2 := Aside0.mk hr1; have HG := Aside0.mk (show gb ≠ g from fun e => by have := blk_lt hr; omega); have HGE := Aside0.mk (show w.heap.size ≤ gb by omega); have HX := Aside0.mk hbox; clear hb hbox hg hr1))
        go_quiet (fail)
        go_wp2
        have HRn := Aside0.mk ((HR2.out.more (pw_below_drewN (Below.refl _ _) nq)).set (at_ + 1))
        have W2 := Aside0.mk ((W0.out.drewN nq).set 1 (.int .i64 (at_ + 1)))
        have HX2n : Aside0 (((w1.drewN nq).setCell ⟨g, 1, none⟩ (.int .i64 (at_ + 1))).heap[gb]? = some (.cells #[.int .i64 0, .int .i64 0, .string ⟨#[]⟩] 50 (0, 0))) := ⟨blk_far (p := ⟨g, 1, none⟩) HX.out HG.out _⟩
        clear HR2 W0 HX
        generalize (w1.drewN nq).setCell ⟨g, 1, none⟩ (.int .i64 (at_ + 1)) = w2 at *
        clear q0 q1 f1 hb hi hmb
        have q0 := HRn.out.c0
        have q1 := HRn.out.c1
        have HQ2 := Aside0.mk (HQn.out w2 HRn.out)
        have HD2 := Aside0.mk (HDn.out w2)
        go_quiet (first | (go_at_call 90; exact HQ2.out _) | (go_at_call 80; exact HD2.out _))
        go_wp2_with (first | (go_at_call 89; refine (stop_calls _ _ _ _).mono ?_; rintro e w5 ⟨rfl, rfl⟩))
        exact ⟨rfl, rfl, W2.out.drewN _⟩
    · rw [if_neg fun h => hn h.1]
      have HQn := Aside0.mk (fun w1 (hr1 : RdAt w1 g s (at_ + 1)) => end_quiet' hr1 hn)
      go_enter Tryd.func81, Tryd.ntmps81
      go_wp2_with (first
        | ((with_reducible refine gate_dst (N := 2) rfl ?_); refine box_event ?hg (N := 2) ?hd (cs := #[.int .i64 0, .int .i64 0, .string ⟨#[]⟩]) (t := 50) ?hr ?_; (case hd => rfl); (case hg => rfl); (case hr => first | (go_simp; done) | (go_simp; rfl)); intro gb hg w1 hbox hb; have W0 := Aside0.mk ((Went.refl w g).more hb); have hr1 := hr.more hb; have q0 := hr1.c0; have q1 := hr1.c1; have f1 := hr1.f1; have HR2 := Aside0.mk hr1; have HG := Aside0.mk (show gb ≠ g from fun e => by have := blk_lt hr; omega); have HGE := Aside0.mk (show w.heap.size ≤ gb by omega); have HX := Aside0.mk hbox; clear hb hbox hg hr1))
      go_quiet (fail)
      go_wp2
      have HRn := Aside0.mk ((HR2.out.more (pw_below_drewN (Below.refl _ _) nq)).set (at_ + 1))
      have W2 := Aside0.mk ((W0.out.drewN nq).set 1 (.int .i64 (at_ + 1)))
      have HX2n : Aside0 (((w1.drewN nq).setCell ⟨g, 1, none⟩ (.int .i64 (at_ + 1))).heap[gb]? = some (.cells #[.int .i64 0, .int .i64 0, .string ⟨#[]⟩] 50 (0, 0))) := ⟨blk_far (p := ⟨g, 1, none⟩) HX.out HG.out _⟩
      clear HR2 W0 HX
      generalize (w1.drewN nq).setCell ⟨g, 1, none⟩ (.int .i64 (at_ + 1)) = w2 at *
      clear q0 q1 f1 hb hi hmb
      have q0 := HRn.out.c0
      have q1 := HRn.out.c1
      have HQ2 := Aside0.mk (HQn.out w2 HRn.out)
      go_quiet (first | (go_at_call 90; exact HQ2.out _))
      go_wp2_with (first | (go_at_call 89; refine (stop_calls _ _ _ _).mono ?_; rintro e w5 ⟨rfl, rfl⟩))
      exact ⟨rfl, rfl, W2.out.drewN _⟩
  · rw [if_neg hm]
    have hmb : (bt s at_ == 45) = false := by simp [hm]
    clear hm
    obtain ⟨R, hE⟩ : ∃ R, numE s 1 at_ 0 0 (-1) 0 = R := ⟨_, rfl⟩
    rw [hE]
    go_enter Tryd.func81, Tryd.ntmps81
    go_wp2_with (first
      | ((with_reducible refine gate_dst (N := 2) rfl ?_); refine box_event ?hg (N := 2) ?hd (cs := #[.int .i64 0, .int .i64 0, .string ⟨#[]⟩]) (t := 50) ?hr ?_; (case hd => rfl); (case hg => rfl); (case hr => first | (go_simp; done) | (go_simp; rfl)); intro gb hg w1 hbox hb; have W0 := Aside0.mk ((Went.refl w g).more hb); have hr1 := hr.more hb; have q0 := hr1.c0; have q1 := hr1.c1; have f1 := hr1.f1; have HR2 := Aside0.mk hr1; have HG := Aside0.mk (show gb ≠ g from fun e => by have := blk_lt hr; omega); have HGE := Aside0.mk (show w.heap.size ≤ gb by omega); have HX := Aside0.mk hbox; clear hb hbox hg hr1))
    go_quiet (fail)
    go_wp2
    have HRs := Aside0.mk (HR2.out.more (pw_below_drewN (Below.refl _ _) nq))
    have Ws := Aside0.mk (W0.out.drewN nq)
    have HXs : Aside0 ((w1.drewN nq).heap[gb]? = some (.cells #[.int .i64 0, .int .i64 0, .string ⟨#[]⟩] 50 (0, 0))) := ⟨HX.out⟩
    clear q0 q1 f1 hb hi hmb HR2 W0 HX
    generalize w1.drewN nq = w2 at *
    go_loopw [4, 5, 6, 7] (fun v4 v5 v6 v7 wr => ∃ a n d dot b : Int, v4 = .int .i64 n ∧ v5 = .int .i64 d ∧ v6 = .int .i64 dot ∧ v7 = .int .i64 b ∧ RdAt wr g s a ∧ Aside0 (Went w wr g) ∧ Aside0 (wr.heap[gb]? = some (.cells #[.int .i64 0, .int .i64 0, .string ⟨#[]⟩] 50 (0, 0))) ∧ at_ ≤ a ∧ a ≤ (s.size : Int) ∧ 0 ≤ n ∧ 0 ≤ d ∧ d ≤ 15 ∧ 0 ≤ b ∧ b ≤ 3 ∧ (dot < 0 → b = 0) ∧ (¬ dot < 0 → d ≤ 12) ∧ Aside0 (n < pw (d + b)) ∧ Aside0 (numE s (1) a n d dot b = R)) (fun _ _ _ _ wr => ((s.size : Int) - posOf wr g).toNat)
    case atStart => exact ⟨at_, 0, 0, -1, 0, rfl, rfl, rfl, rfl, HRs.out, Ws, HXs, by omega, by omega, by omega, by omega, by omega, by omega, by omega, by omega, by omega, ⟨by decide⟩, ⟨hE⟩⟩
    case round =>
      obtain ⟨a, n, d, dot, b, rfl, rfl, rfl, rfl, hr2, HW, HX2, ha0, ha1, hn0, hd0, hd15, hb0, hb3, hdb, hdd, HP, HE⟩ := hrel
      clear HRs Ws HXs hE
      have hpos := hr2.pos
      have HR := Aside0.mk hr2
      have q0 := hr2.c0
      have q1 := hr2.c1
      have f1 := hr2.f1
      have hnp := HP.out
      have hp15 := pw_le (k := d + b) (by omega)
      have hn15 : n < 1000000000000000 := by omega
      by_cases hlt : a < (s.size : Int)
      · have hq := end_calls g s a wr hr2
        rw [show decide (a ≥ (s.size : Int)) = false from decide_eq_false (by omega)] at hq
        have HQ := Aside0.mk (hq.mono fun _ _ ⟨he, ⟨h⟩⟩ => (⟨he, h⟩ : _ ∧ ∃ n, _))
        clear hr2 hq
        have hi : 0 ≤ a ∧ a < (s.size : Int) := ⟨by omega, hlt⟩
        have hb := bt_at s a (by omega)
        have HE1 := (numE_step hlt).symm.trans HE.out
        clear HE
        have HD := Aside0.mk (fun w => digit_calls (bt s a) w)
        by_cases hdg : dig (bt s a) = true
        · rw [if_pos hdg] at HE1
          rw [hdg] at HD
          have hcd := dig_iff.mp hdg
          have hw8 : (bt s a - 48) % 256 = bt s a - 48 := by omega
          clear hdg
          by_cases hdot : dot < 0
          · rw [if_pos hdot] at HE1
            by_cases hmo : d + 1 > 15
            · rw [if_pos hmo] at HE1
              subst HE1
              clear hnp hp15 HP
              generalize bt s a = c at *
              go_wp2_with (first | (go_at_call 90; refine HQ.out.mono ?_; rintro e w' ⟨rfl, ⟨nd, rfl⟩⟩; have HRa := Aside0.mk (HR.out.more (pw_below_drewN (Below.refl _ _) nd)); have HWa := Aside0.mk (HW.out.drewN nd); have HXa : Aside0 ((wr.drewN nd).heap[gb]? = some (.cells #[.int .i64 0, .int .i64 0, .string ⟨#[]⟩] 50 (0, 0))) := ⟨HX2.out⟩; clear HR HW HX2 HQ q0 q1 f1; generalize wr.drewN nd = w4 at *; have q0 := HRa.out.c0; have q1 := HRa.out.c1; have f1 := HRa.out.f1) | (go_at_call 80; refine (HD.out _).mono ?_; rintro e w' ⟨rfl, rfl⟩) | (go_at_call 89; refine (stop_calls _ _ _ _).mono ?_; rintro e w5 ⟨rfl, rfl⟩))
              go_quiet (fail)
              go_wp2_with (first | (go_at_call 80; refine (HD.out _).mono ?_; rintro e w' ⟨rfl, rfl⟩) | (go_at_call 89; refine (stop_calls _ _ _ _).mono ?_; rintro e w5 ⟨rfl, rfl⟩))
              exact ⟨rfl, rfl, HWa.out.drewN _⟩
            · rw [if_neg hmo] at HE1
              have HE2 := Aside0.mk HE1
              have HP2 : Aside0 (10 * n + (bt s a - 48) < pw (d + 1 + b)) := ⟨by rw [show d + 1 + b = d + b + 1 by omega, pw_step (by omega)]; omega⟩
              clear hnp hp15 HP HE1
              generalize bt s a = c at *
              go_wp2_with (first | (go_at_call 90; refine HQ.out.mono ?_; rintro e w' ⟨rfl, ⟨nd, rfl⟩⟩; have HRa := Aside0.mk (HR.out.more (pw_below_drewN (Below.refl _ _) nd)); have HWa := Aside0.mk (HW.out.drewN nd); have HXa : Aside0 ((wr.drewN nd).heap[gb]? = some (.cells #[.int .i64 0, .int .i64 0, .string ⟨#[]⟩] 50 (0, 0))) := ⟨HX2.out⟩; clear HR HW HX2 HQ q0 q1 f1; generalize wr.drewN nd = w4 at *; have q0 := HRa.out.c0; have q1 := HRa.out.c1; have f1 := HRa.out.f1) | (go_at_call 80; refine (HD.out _).mono ?_; rintro e w' ⟨rfl, rfl⟩) | (go_at_call 89; refine (stop_calls _ _ _ _).mono ?_; rintro e w5 ⟨rfl, rfl⟩))
              go_quiet (fail)
              go_wp2_with (first | (go_at_call 80; refine (HD.out _).mono ?_; rintro e w' ⟨rfl, rfl⟩))
              exact ⟨⟨a + 1, _, d + 1, dot, b, rfl, by first | rfl | go_num, by first | rfl | go_num, by first | rfl | go_num, (HRa.out.more (pw_below_drewN (Below.refl _ _) _)).set _, ⟨(HWa.out.drewN _).set _ _⟩, ⟨blk_far (p := ⟨g, 1, none⟩) HXa.out HG.out _⟩, by omega, by omega, by omega, by omega, by omega, by omega, by omega, by omega, by omega, HP2, HE2⟩, by rw [hpos, ((HRa.out.more (pw_below_drewN (Below.refl _ _) _)).set (a + 1)).pos]; omega⟩

          · rw [if_neg hdot] at HE1
            by_cases hmo : b + 1 > 3
            · rw [if_pos hmo] at HE1
              subst HE1
              clear hnp hp15 HP
              generalize bt s a = c at *
              go_wp2_with (first | (go_at_call 90; refine HQ.out.mono ?_; rintro e w' ⟨rfl, ⟨nd, rfl⟩⟩; have HRa := Aside0.mk (HR.out.more (pw_below_drewN (Below.refl _ _) nd)); have HWa := Aside0.mk (HW.out.drewN nd); have HXa : Aside0 ((wr.drewN nd).heap[gb]? = some (.cells #[.int .i64 0, .int .i64 0, .string ⟨#[]⟩] 50 (0, 0))) := ⟨HX2.out⟩; clear HR HW HX2 HQ q0 q1 f1; generalize wr.drewN nd = w4 at *; have q0 := HRa.out.c0; have q1 := HRa.out.c1; have f1 := HRa.out.f1) | (go_at_call 80; refine (HD.out _).mono ?_; rintro e w' ⟨rfl, rfl⟩) | (go_at_call 89; refine (stop_calls _ _ _ _).mono ?_; rintro e w5 ⟨rfl, rfl⟩))
              go_quiet (fail)
              go_wp2_with (first | (go_at_call 80; refine (HD.out _).mono ?_; rintro e w' ⟨rfl, rfl⟩) | (go_at_call 89; refine (stop_calls _ _ _ _).mono ?_; rintro e w5 ⟨rfl, rfl⟩))
              exact ⟨rfl, rfl, HWa.out.drewN _⟩
            · rw [if_neg hmo] at HE1
              have HE2 := Aside0.mk HE1
              have HP2 : Aside0 (10 * n + (bt s a - 48) < pw (d + (b + 1))) := ⟨by rw [show d + (b + 1) = d + b + 1 by omega, pw_step (by omega)]; omega⟩
              clear hnp hp15 HP HE1
              generalize bt s a = c at *
              go_wp2_with (first | (go_at_call 90; refine HQ.out.mono ?_; rintro e w' ⟨rfl, ⟨nd, rfl⟩⟩; have HRa := Aside0.mk (HR.out.more (pw_below_drewN (Below.refl _ _) nd)); have HWa := Aside0.mk (HW.out.drewN nd); have HXa : Aside0 ((wr.drewN nd).heap[gb]? = some (.cells #[.int .i64 0, .int .i64 0, .string ⟨#[]⟩] 50 (0, 0))) := ⟨HX2.out⟩; clear HR HW HX2 HQ q0 q1 f1; generalize wr.drewN nd = w4 at *; have q0 := HRa.out.c0; have q1 := HRa.out.c1; have f1 := HRa.out.f1) | (go_at_call 80; refine (HD.out _).mono ?_; rintro e w' ⟨rfl, rfl⟩) | (go_at_call 89; refine (stop_calls _ _ _ _).mono ?_; rintro e w5 ⟨rfl, rfl⟩))
              go_quiet (fail)
              go_wp2_with (first | (go_at_call 80; refine (HD.out _).mono ?_; rintro e w' ⟨rfl, rfl⟩))
              exact ⟨⟨a + 1, _, d, dot, b + 1, rfl, by first | rfl | go_num, by first | rfl | go_num, by first | rfl | go_num, (HRa.out.more (pw_below_drewN (Below.refl _ _) _)).set _, ⟨(HWa.out.drewN _).set _ _⟩, ⟨blk_far (p := ⟨g, 1, none⟩) HXa.out HG.out _⟩, by omega, by omega, by omega, by omega, by omega, by omega, by omega, by omega, by omega, HP2, HE2⟩, by rw [hpos, ((HRa.out.more (pw_below_drewN (Below.refl _ _) _)).set (a + 1)).pos]; omega⟩

        · rw [if_neg hdg] at HE1
          rw [show dig (bt s a) = false by simpa using hdg] at HD
          clear hdg
          by_cases h46 : bt s a = 46
          · have hb46 : (bt s a == 46) = true := by simp [h46]
            by_cases hdot : dot < 0
            · rw [if_pos ⟨h46, hdot⟩] at HE1
              by_cases hmo : d > 12
              · rw [if_pos hmo] at HE1
                subst HE1
                clear hnp hp15 HP h46
                generalize bt s a = c at *
                go_wp2_with (first | (go_at_call 90; refine HQ.out.mono ?_; rintro e w' ⟨rfl, ⟨nd, rfl⟩⟩; have HRa := Aside0.mk (HR.out.more (pw_below_drewN (Below.refl _ _) nd)); have HWa := Aside0.mk (HW.out.drewN nd); have HXa : Aside0 ((wr.drewN nd).heap[gb]? = some (.cells #[.int .i64 0, .int .i64 0, .string ⟨#[]⟩] 50 (0, 0))) := ⟨HX2.out⟩; clear HR HW HX2 HQ q0 q1 f1; generalize wr.drewN nd = w4 at *; have q0 := HRa.out.c0; have q1 := HRa.out.c1; have f1 := HRa.out.f1) | (go_at_call 80; refine (HD.out _).mono ?_; rintro e w' ⟨rfl, rfl⟩) | (go_at_call 89; refine (stop_calls _ _ _ _).mono ?_; rintro e w5 ⟨rfl, rfl⟩))
                go_quiet (fail)
                go_wp2_with (first | (go_at_call 80; refine (HD.out _).mono ?_; rintro e w' ⟨rfl, rfl⟩) | (go_at_call 89; refine (stop_calls _ _ _ _).mono ?_; rintro e w5 ⟨rfl, rfl⟩))
                exact ⟨rfl, rfl, HWa.out.drewN _⟩
              · rw [if_neg hmo] at HE1
                have HE2 := Aside0.mk HE1
                have HP2 := HP
                clear hnp hp15 HP HE1 h46
                generalize bt s a = c at *
                go_wp2_with (first | (go_at_call 90; refine HQ.out.mono ?_; rintro e w' ⟨rfl, ⟨nd, rfl⟩⟩; have HRa := Aside0.mk (HR.out.more (pw_below_drewN (Below.refl _ _) nd)); have HWa := Aside0.mk (HW.out.drewN nd); have HXa : Aside0 ((wr.drewN nd).heap[gb]? = some (.cells #[.int .i64 0, .int .i64 0, .string ⟨#[]⟩] 50 (0, 0))) := ⟨HX2.out⟩; clear HR HW HX2 HQ q0 q1 f1; generalize wr.drewN nd = w4 at *; have q0 := HRa.out.c0; have q1 := HRa.out.c1; have f1 := HRa.out.f1) | (go_at_call 80; refine (HD.out _).mono ?_; rintro e w' ⟨rfl, rfl⟩) | (go_at_call 89; refine (stop_calls _ _ _ _).mono ?_; rintro e w5 ⟨rfl, rfl⟩))
                go_quiet (fail)
                go_wp2_with (first | (go_at_call 80; refine (HD.out _).mono ?_; rintro e w' ⟨rfl, rfl⟩))
                exact ⟨⟨a + 1, n, d, a, b, rfl, by first | rfl | go_num, by first | rfl | go_num, by first | rfl | go_num, (HRa.out.more (pw_below_drewN (Below.refl _ _) _)).set _, ⟨(HWa.out.drewN _).set _ _⟩, ⟨blk_far (p := ⟨g, 1, none⟩) HXa.out HG.out _⟩, by omega, by omega, by omega, by omega, by omega, by omega, by omega, by omega, by omega, HP2, HE2⟩, by rw [hpos, ((HRa.out.more (pw_below_drewN (Below.refl _ _) _)).set (a + 1)).pos]; omega⟩

            · rw [if_neg fun h => hdot h.2] at HE1
              clear hnp hp15 HP h46
              generalize bt s a = c at *
              rw [show (1 : Int) * n = n by omega] at HE1
              cases hrt : rdTold a n dot b with
              | inl f =>
                rw [hrt] at HE1
                subst HE1
                have HT := Aside0.mk (fun w1 (hr1 : RdAt w1 g s a) => (told_calls g s a n dot b w1 hr1 hb0 hb3 (by omega)).mono (fun x w' hG => (by rw [hrt] at hG; exact hG : x = .panicked (fault f.1 f.2) ∧ Went w1 w' g)))
                clear hrt
                obtain ⟨f1_, f2_⟩ := f
                go_wp2_with (first | (go_at_call 90; refine HQ.out.mono ?_; rintro e w' ⟨rfl, ⟨nd, rfl⟩⟩; have HRa := Aside0.mk (HR.out.more (pw_below_drewN (Below.refl _ _) nd)); have HWa := Aside0.mk (HW.out.drewN nd); have HXa : Aside0 ((wr.drewN nd).heap[gb]? = some (.cells #[.int .i64 0, .int .i64 0, .string ⟨#[]⟩] 50 (0, 0))) := ⟨HX2.out⟩; clear HR HW HX2 HQ q0 q1 f1; generalize wr.drewN nd = w4 at *; have q0 := HRa.out.c0; have q1 := HRa.out.c1; have f1 := HRa.out.f1))
                go_quiet (fail)
                have HRb := Aside0.mk (HRa.out.more (pw_below_drewN (Below.refl _ _) nq))
                have HWb := Aside0.mk (HWa.out.drewN nq)
                have HXb : Aside0 ((w4.drewN nq).heap[gb]? = some (.cells #[.int .i64 0, .int .i64 0, .string ⟨#[]⟩] 50 (0, 0))) := ⟨HXa.out⟩
                clear q0 q1 f1 HRa HWa HXa
                generalize w4.drewN nq = w7 at *
                go_wp2_with (first | (go_at_call 80; refine (HD.out _).mono ?_; rintro e w' ⟨rfl, rfl⟩) | (go_at_call 91; refine (HT.out _ HRb.out).mono ?_; rintro e w6 ⟨rfl, W6⟩; have HW6 := Aside0.mk (HWb.out.trans W6)))
                exact ⟨rfl, rfl, HW6.out⟩
              | inr v =>
                rw [hrt] at HE1
                subst HE1
                obtain ⟨⟨v0, v1, v2⟩, va⟩ := v
                have HT := Aside0.mk (fun w1 (hr1 : RdAt w1 g s a) => (told_calls g s a n dot b w1 hr1 hb0 hb3 (by omega)).mono (fun x w' hG => (by rw [hrt] at hG; exact hG : x = .returned (bareV (v0, v1, v2)) ∧ RdAt w' g s va ∧ Went w1 w' g)))
                clear hrt
                unfold bareV at HT
                go_wp2_with (first | (go_at_call 90; refine HQ.out.mono ?_; rintro e w' ⟨rfl, ⟨nd, rfl⟩⟩; have HRa := Aside0.mk (HR.out.more (pw_below_drewN (Below.refl _ _) nd)); have HWa := Aside0.mk (HW.out.drewN nd); have HXa : Aside0 ((wr.drewN nd).heap[gb]? = some (.cells #[.int .i64 0, .int .i64 0, .string ⟨#[]⟩] 50 (0, 0))) := ⟨HX2.out⟩; clear HR HW HX2 HQ q0 q1 f1; generalize wr.drewN nd = w4 at *; have q0 := HRa.out.c0; have q1 := HRa.out.c1; have f1 := HRa.out.f1))
                go_quiet (fail)
                have HRb := Aside0.mk (HRa.out.more (pw_below_drewN (Below.refl _ _) nq))
                have HWb := Aside0.mk (HWa.out.drewN nq)
                have HXb : Aside0 ((w4.drewN nq).heap[gb]? = some (.cells #[.int .i64 0, .int .i64 0, .string ⟨#[]⟩] 50 (0, 0))) := ⟨HXa.out⟩
                clear q0 q1 f1 HRa HWa HXa
                generalize w4.drewN nq = w7 at *
                go_wp2_with (first | (go_at_call 80; refine (HD.out _).mono ?_; rintro e w' ⟨rfl, rfl⟩) | (go_at_call 91; refine (HT.out _ HRb.out).mono ?_; rintro e w6 ⟨rfl, hr6, W6⟩; have HR6 := Aside0.mk hr6; have HW6 := Aside0.mk (HWb.out.trans W6); have hx6 := W6.keep.blk HXb.out HG.out (by simp); have hx0 : w6.cell? ⟨gb, 0, none⟩ = some (.int .i64 0) := (blk_cell hx6 0).trans rfl; have hx1 : w6.cell? ⟨gb, 1, none⟩ = some (.int .i64 0) := (blk_cell hx6 1).trans rfl; have hx2 : w6.cell? ⟨gb, 2, none⟩ = some (.string ⟨#[]⟩) := (blk_cell hx6 2).trans rfl; have fx0 := blk_frozen hx6 0; have fx1 := blk_frozen hx6 1; have fx2 := blk_frozen hx6 2; clear hr6 W6 hx6))
                (try simp only [Exit.inBlock, Exit.then])
                refine bodyPost_ret (v := bareV (v0, v1, v2)) (by simp [results, Tryd.results81, go_sem, bareV, hx0, hx1, hx2]; try rfl) rfl ?_
                exact ⟨rfl, HR6.out.far3 HG.out _ _ _, HW6.out.far3 HGE.out _ _ _⟩
          · rw [if_neg fun h => h46 h.1] at HE1
            have hb46 : (bt s a == 46) = false := by simp [h46]
            clear hnp hp15 HP h46
            generalize bt s a = c at *
            rw [show (1 : Int) * n = n by omega] at HE1
            cases hrt : rdTold a n dot b with
            | inl f =>
              rw [hrt] at HE1
              subst HE1
              have HT := Aside0.mk (fun w1 (hr1 : RdAt w1 g s a) => (told_calls g s a n dot b w1 hr1 hb0 hb3 (by omega)).mono (fun x w' hG => (by rw [hrt] at hG; exact hG : x = .panicked (fault f.1 f.2) ∧ Went w1 w' g)))
              clear hrt
              obtain ⟨f1_, f2_⟩ := f
              go_wp2_with (first | (go_at_call 90; refine HQ.out.mono ?_; rintro e w' ⟨rfl, ⟨nd, rfl⟩⟩; have HRa := Aside0.mk (HR.out.more (pw_below_drewN (Below.refl _ _) nd)); have HWa := Aside0.mk (HW.out.drewN nd); have HXa : Aside0 ((wr.drewN nd).heap[gb]? = some (.cells #[.int .i64 0, .int .i64 0, .string ⟨#[]⟩] 50 (0, 0))) := ⟨HX2.out⟩; clear HR HW HX2 HQ q0 q1 f1; generalize wr.drewN nd = w4 at *; have q0 := HRa.out.c0; have q1 := HRa.out.c1; have f1 := HRa.out.f1))
              go_quiet (fail)
              have HRb := Aside0.mk (HRa.out.more (pw_below_drewN (Below.refl _ _) nq))
              have HWb := Aside0.mk (HWa.out.drewN nq)
              have HXb : Aside0 ((w4.drewN nq).heap[gb]? = some (.cells #[.int .i64 0, .int .i64 0, .string ⟨#[]⟩] 50 (0, 0))) := ⟨HXa.out⟩
              clear q0 q1 f1 HRa HWa HXa
              generalize w4.drewN nq = w7 at *
              go_wp2_with (first | (go_at_call 80; refine (HD.out _).mono ?_; rintro e w' ⟨rfl, rfl⟩) | (go_at_call 91; refine (HT.out _ HRb.out).mono ?_; rintro e w6 ⟨rfl, W6⟩; have HW6 := Aside0.mk (HWb.out.trans W6)))
              exact ⟨rfl, rfl, HW6.out⟩
            | inr v =>
              rw [hrt] at HE1
              subst HE1
              obtain ⟨⟨v0, v1, v2⟩, va⟩ := v
              have HT := Aside0.mk (fun w1 (hr1 : RdAt w1 g s a) => (told_calls g s a n dot b w1 hr1 hb0 hb3 (by omega)).mono (fun x w' hG => (by rw [hrt] at hG; exact hG : x = .returned (bareV (v0, v1, v2)) ∧ RdAt w' g s va ∧ Went w1 w' g)))
              clear hrt
              unfold bareV at HT
              go_wp2_with (first | (go_at_call 90; refine HQ.out.mono ?_; rintro e w' ⟨rfl, ⟨nd, rfl⟩⟩; have HRa := Aside0.mk (HR.out.more (pw_below_drewN (Below.refl _ _) nd)); have HWa := Aside0.mk (HW.out.drewN nd); have HXa : Aside0 ((wr.drewN nd).heap[gb]? = some (.cells #[.int .i64 0, .int .i64 0, .string ⟨#[]⟩] 50 (0, 0))) := ⟨HX2.out⟩; clear HR HW HX2 HQ q0 q1 f1; generalize wr.drewN nd = w4 at *; have q0 := HRa.out.c0; have q1 := HRa.out.c1; have f1 := HRa.out.f1))
              go_quiet (fail)
              have HRb := Aside0.mk (HRa.out.more (pw_below_drewN (Below.refl _ _) nq))
              have HWb := Aside0.mk (HWa.out.drewN nq)
              have HXb : Aside0 ((w4.drewN nq).heap[gb]? = some (.cells #[.int .i64 0, .int .i64 0, .string ⟨#[]⟩] 50 (0, 0))) := ⟨HXa.out⟩
              clear q0 q1 f1 HRa HWa HXa
              generalize w4.drewN nq = w7 at *
              go_wp2_with (first | (go_at_call 80; refine (HD.out _).mono ?_; rintro e w' ⟨rfl, rfl⟩) | (go_at_call 91; refine (HT.out _ HRb.out).mono ?_; rintro e w6 ⟨rfl, hr6, W6⟩; have HR6 := Aside0.mk hr6; have HW6 := Aside0.mk (HWb.out.trans W6); have hx6 := W6.keep.blk HXb.out HG.out (by simp); have hx0 : w6.cell? ⟨gb, 0, none⟩ = some (.int .i64 0) := (blk_cell hx6 0).trans rfl; have hx1 : w6.cell? ⟨gb, 1, none⟩ = some (.int .i64 0) := (blk_cell hx6 1).trans rfl; have hx2 : w6.cell? ⟨gb, 2, none⟩ = some (.string ⟨#[]⟩) := (blk_cell hx6 2).trans rfl; have fx0 := blk_frozen hx6 0; have fx1 := blk_frozen hx6 1; have fx2 := blk_frozen hx6 2; clear hr6 W6 hx6))
              (try simp only [Exit.inBlock, Exit.then])
              refine bodyPost_ret (v := bareV (v0, v1, v2)) (by simp [results, Tryd.results81, go_sem, bareV, hx0, hx1, hx2]; try rfl) rfl ?_
              exact ⟨rfl, HR6.out.far3 HG.out _ _ _, HW6.out.far3 HGE.out _ _ _⟩
      · have hq := end_calls g s a wr hr2
        rw [show decide (a ≥ (s.size : Int)) = true from decide_eq_true (by omega)] at hq
        have HQ := Aside0.mk (hq.mono fun _ _ ⟨he, ⟨h⟩⟩ => (⟨he, h⟩ : _ ∧ ∃ n, _))
        clear hr2 hq
        have HE1 := (numE_end hlt).symm.trans HE.out
        clear HE hnp hp15 HP
        rw [show (1 : Int) * n = n by omega] at HE1
        cases hrt : rdTold a n dot b with
        | inl f =>
          rw [hrt] at HE1
          subst HE1
          have HT := Aside0.mk (fun w1 (hr1 : RdAt w1 g s a) => (told_calls g s a n dot b w1 hr1 hb0 hb3 (by omega)).mono (fun x w' hG => (by rw [hrt] at hG; exact hG : x = .panicked (fault f.1 f.2) ∧ Went w1 w' g)))
          clear hrt
          obtain ⟨f1_, f2_⟩ := f
          go_wp2_with (first | (go_at_call 90; refine HQ.out.mono ?_; rintro e w' ⟨rfl, ⟨nd, rfl⟩⟩; have HRa := Aside0.mk (HR.out.more (pw_below_drewN (Below.refl _ _) nd)); have HWa := Aside0.mk (HW.out.drewN nd); have HXa : Aside0 ((wr.drewN nd).heap[gb]? = some (.cells #[.int .i64 0, .int .i64 0, .string ⟨#[]⟩] 50 (0, 0))) := ⟨HX2.out⟩; clear HR HW HX2 HQ q0 q1 f1; generalize wr.drewN nd = w4 at *; have q0 := HRa.out.c0; have q1 := HRa.out.c1; have f1 := HRa.out.f1) | (go_at_call 91; refine (HT.out _ HRa.out).mono ?_; rintro e w6 ⟨rfl, W6⟩; have HW6 := Aside0.mk (HWa.out.trans W6)))
          exact ⟨rfl, rfl, HW6.out⟩
        | inr v =>
          rw [hrt] at HE1
          subst HE1
          obtain ⟨⟨v0, v1, v2⟩, va⟩ := v
          have HT := Aside0.mk (fun w1 (hr1 : RdAt w1 g s a) => (told_calls g s a n dot b w1 hr1 hb0 hb3 (by omega)).mono (fun x w' hG => (by rw [hrt] at hG; exact hG : x = .returned (bareV (v0, v1, v2)) ∧ RdAt w' g s va ∧ Went w1 w' g)))
          clear hrt
          unfold bareV at HT
          go_wp2_with (first | (go_at_call 90; refine HQ.out.mono ?_; rintro e w' ⟨rfl, ⟨nd, rfl⟩⟩; have HRa := Aside0.mk (HR.out.more (pw_below_drewN (Below.refl _ _) nd)); have HWa := Aside0.mk (HW.out.drewN nd); have HXa : Aside0 ((wr.drewN nd).heap[gb]? = some (.cells #[.int .i64 0, .int .i64 0, .string ⟨#[]⟩] 50 (0, 0))) := ⟨HX2.out⟩; clear HR HW HX2 HQ q0 q1 f1; generalize wr.drewN nd = w4 at *; have q0 := HRa.out.c0; have q1 := HRa.out.c1; have f1 := HRa.out.f1) | (go_at_call 91; refine (HT.out _ HRa.out).mono ?_; rintro e w6 ⟨rfl, hr6, W6⟩; have HR6 := Aside0.mk hr6; have HW6 := Aside0.mk (HWa.out.trans W6); have hx6 := W6.keep.blk HXa.out HG.out (by simp); have hx0 : w6.cell? ⟨gb, 0, none⟩ = some (.int .i64 0) := (blk_cell hx6 0).trans rfl; have hx1 : w6.cell? ⟨gb, 1, none⟩ = some (.int .i64 0) := (blk_cell hx6 1).trans rfl; have hx2 : w6.cell? ⟨gb, 2, none⟩ = some (.string ⟨#[]⟩) := (blk_cell hx6 2).trans rfl; have fx0 := blk_frozen hx6 0; have fx1 := blk_frozen hx6 1; have fx2 := blk_frozen hx6 2; clear hr6 W6 hx6))
          (try simp only [Exit.inBlock, Exit.then])
          refine bodyPost_ret (v := bareV (v0, v1, v2)) (by simp [results, Tryd.results81, go_sem, bareV, hx0, hx1, hx2]; try rfl) rfl ?_
          exact ⟨rfl, HR6.out.far3 HG.out _ _ _, HW6.out.far3 HGE.out _ _ _⟩
end Go.Proofs.YtclkclcacnpmbaaDoorW.PrintWords
