/- What the replacer's table does to a text. -/
import Derived.Test.YtkbmbancfbfddaaGreatDoorXWRplb
import Derived.Deep.RegionHeldLaw
import Derived.Laws.CopyOwn
namespace Go.Proofs.YtkbmbancfbfddaaGreatDoorW.PrintWords
open Go.RowKit

def escN : List Int → Nat
  | [] => 0
  | c :: t => (if c = 34 ∨ c = 92 then 1 else 0) + escN t
theorem esc_length : ∀ l : List Int, (esc l).length = l.length + escN l
  | [] => rfl
  | c :: t => by
    have ih := esc_length t
    unfold esc escN
    split <;> (simp only [List.length_cons, ih]; omega)
theorem escN_append : ∀ l m : List Int, escN (l ++ m) = escN l + escN m
  | [], m => by simp [escN]
  | c :: t, m => by
    have ih := escN_append t m
    simp only [List.cons_append, escN, ih]
    omega
theorem esc_append : ∀ l m : List Int, esc (l ++ m) = esc l ++ esc m
  | [], m => rfl
  | c :: t, m => by
    have ih := esc_append t m
    simp only [List.cons_append, esc, ih]
    split <;> rfl
theorem escN_le : ∀ l : List Int, escN l ≤ l.length
  | [] => Nat.le_refl _
  | c :: t => by
    have ih := escN_le t
    simp only [escN, List.length_cons]
    split <;> omega
theorem take_more (s : ByteArray) (i : Nat) (h : i < s.size) : (bytesOf s).take (i + 1) = (bytesOf s).take i ++ [bt s (i : Int)] := by
  have hl := bytesOf_length s
  rw [List.take_succ_eq_append_getElem (by omega)]
  congr 2
  unfold bt
  rw [dif_pos (by rw [Int.toNat_natCast]; exact h)]
  simp only [bytesOf, List.getElem_map, Int.toNat_natCast]
  rfl
theorem escN_more (s : ByteArray) (i : Nat) (h : i < s.size) : escN ((bytesOf s).take (i + 1)) = escN ((bytesOf s).take i) + (if bt s (i : Int) = 34 ∨ bt s (i : Int) = 92 then 1 else 0) := by
  rw [take_more s i h, escN_append]
  simp [escN]
theorem old2_of {w : World} {b : Nat} {ok : Nat → Prop} {v : Value} (h : Kd.R Kd.string 9 w b ok v [⟨#[92]⟩, ⟨#[34]⟩]) : ∃ (o c : Nat), v = .slice (some ⟨o, 0, none⟩) 2 c ∧ w.cell? ⟨o, 0, none⟩ = some (.string ⟨#[92]⟩) ∧ w.cell? ⟨o, 1, none⟩ = some (.string ⟨#[34]⟩) := by
  have ho := Kd.own_of_R h
  rcases ho.2 with ⟨_, h0⟩ | ⟨k, cap, cur, rfl, _⟩
  · simp at h0
  · exact ⟨k, cap, rfl, ho.cells (g := k) rfl 0 _ (by simp [encs]), ho.cells (g := k) rfl 1 _ (by simp [encs])⟩
theorem esc_id : ∀ l : List Int, escN l = 0 → esc l = l
  | [], _ => rfl
  | c :: t, h => by
    unfold escN at h
    unfold esc
    by_cases hc : c = 34 ∨ c = 92
    · rw [if_pos hc] at h; omega
    · rw [if_neg hc, esc_id t (by omega)]
theorem str_bytesOf_w (s : ByteArray) : strOfNums (bytesOf s) = s := by
  apply ByteArray.ext
  apply Array.ext'
  rw [strOfNums_data]
  unfold bytesOf
  rw [List.map_map]
  apply List.ext_getElem
  · simp
  · intro i h1 h2
    simp
section
variable {P : Program} {ops : Array Oper} {rest : List Oper} {o : Oper} {a : Act} {Q : Exit → Act → World → Prop}
theorem M_make {W : World} (e : Nat) (hgd : o.guard = none) {N : Tmp} (_hd : o.dst = some N) (t : TypeId) (x y : Operand) (ho : o.op = .makeSlice t x y) (m : Nat) (hx : a.eval x = .int .i64 (m : Int)) (hy : a.eval y = .int .i64 (m : Int))
    (ht : P.underlying t = some (.slice e)) (hinfo : (P.info? e).map (fun i => (i.zero, i.size, i.bytes)) = some (some (.int .u8 0), 1, 1)) (hm : m ≤ 281474976710656)
    (h : ∀ g w1, g = W.heap.size → w1.heap[g]? = some (.cells (nums .u8 (List.replicate m 0)).toArray e (0, 0)) → Below W.heap.size W w1 → wpList P ops Q rest (a.put o.dst (.slice (some ⟨g, 0, none⟩) m m)) w1) : wpList P ops Q (o :: rest) a W := by
  have hr := print_make (P := P) t e .u8 1 ht hinfo (by decide) m (by omega) W
  have hl : madeCells #[Value.int .u8 0] m = (nums .u8 (List.replicate m 0)).toArray := by
    apply Array.ext'
    apply List.ext_getElem
    · simp [nums, madeCells]
    · intro i h1 h2
      simp [nums, madeCells, Nat.mod_one]
  rw [hl] at hr
  exact Kd.event_run hgd (v := .slice (some ⟨W.heap.size, 0, none⟩) m m) (w1 := W.alloc (.cells (nums .u8 (List.replicate m 0)).toArray e (0, 0))) (by simp [execOp, ho, hx, hy, hr]) (h _ _ rfl (blk_new W _) (below_alloc (Below.refl _ _) _))
end
theorem put_next (L : List Int) (n : Nat) (c : Int) (h : L.length < n) : (nums .u8 (L ++ List.replicate (n - L.length) 0)).toArray.setIfInBounds L.length (.int .u8 c) = (nums .u8 ((L ++ [c]) ++ List.replicate (n - (L ++ [c]).length) 0)).toArray := by
  apply Array.ext'
  rw [show n - L.length = (n - (L ++ [c]).length) + 1 by rw [List.length_append]; simp only [List.length_cons, List.length_nil]; omega, List.replicate_succ]
  simp only [nums, Array.toList_setIfInBounds, List.map_append, List.map_cons, List.map_nil]
  rw [List.set_append_right _ _ (by simp)]
  simp
theorem splice_next (L : List Int) (n : Nat) (x y : Int) (h : L.length + 2 ≤ n) : splice (nums .u8 (L ++ List.replicate (n - L.length) 0)) L.length [.int .u8 x, .int .u8 y] = nums .u8 ((L ++ [x, y]) ++ List.replicate (n - (L ++ [x, y]).length) 0) := by
  rw [show n - L.length = (n - (L ++ [x, y]).length) + 1 + 1 by rw [List.length_append]; simp only [List.length_cons, List.length_nil]; omega, List.replicate_succ, List.replicate_succ]
  simp only [splice, nums, List.map_append, List.map_cons, List.map_nil, List.map_replicate]
  rw [List.drop_append, List.take_left' (by simp)]
  simp
theorem count_esc (s : ByteArray) : Lib.countByte s.data.toList 92 + Lib.countByte s.data.toList 34 = escN (bytesOf s) := by
  unfold bytesOf Lib.countByte
  induction s.data.toList with
  | nil => rfl
  | cons c t ih =>
    simp only [List.map_cons, escN, List.count_cons]
    rw [← ih]
    by_cases h1 : c = 92
    · subst h1
      simp
      omega
    · by_cases h2 : c = 34
      · subst h2
        simp
        omega
      · have e1 : ¬ ((c.toNat : Int) = 34 ∨ (c.toNat : Int) = 92) := fun h => h.elim (fun h => h2 (UInt8.toNat_inj.mp (by show c.toNat = 34; omega))) (fun h => h1 (UInt8.toNat_inj.mp (by show c.toNat = 92; omega)))
        rw [if_neg e1]
        simp [h1, h2]
set_option maxHeartbeats 4000000 in
set_option maxRecDepth 100000 in
theorem bsr_calls (base b : Nat) (d m : Int) (q g1 c1 g2 c2 : Nat) (tr : Value) (s : ByteArray) (w : World) (hs : s.size ≤ 1000000000000) (hB : Built w base b d m q g1 c1 g2 c2 tr) :
    Calls Tryz.prog 174 #[.pointer (some ⟨q, 0, none⟩), .string s] w fun e w' => e = .returned (.string (strOfNums (esc (bytesOf s)))) ∧ Below w.heap.size w w' := by
  obtain ⟨r, c3, rfl, hr0, hr1⟩ := old2_of hB.txt
  have HQ := Aside0.mk hB.bsr
  have HM1 := Aside0.mk hB.m1
  have HM2 := Aside0.mk hB.m2
  have HT0 := Aside0.mk hr0
  have HT1 := Aside0.mk hr1
  have HB := Aside0.mk (Below.refl w.heap.size w)
  have k256 := hB.bsr.last
  have hne := slice_ne_nil Tryz.prog 59 5 Tryz.underlying59
  clear hB hr0 hr1
  go_enter Tryz.func174, Tryz.ntmps174
  go_upto_if 26 with (fail)
  go_cut [5, 6] (fun v5 v6 wc => v5 = .int .i64 ((s.size : Int) + (escN (bytesOf s) : Int)) ∧ v6 = .bool (decide (0 < escN (bytesOf s))) ∧ Aside0 (Below w.heap.size w wc))
  case first =>
    have hsum := count_esc s
    have hcle := escN_le (bytesOf s)
    rw [bytesOf_length] at hcle
    by_cases h16 : 16 ≤ s.size
    · have h16' : (16 : Int) ≤ (s.size : Int) := by omega
      rw [decide_eq_true h16']
      obtain ⟨tb, htb⟩ : ∃ x, x = (⟨#[92]⟩ : ByteArray) := ⟨_, rfl⟩
      obtain ⟨tq, htq⟩ : ∃ x, x = (⟨#[34]⟩ : ByteArray) := ⟨_, rfl⟩
      have hzb : tb.size = 1 := by rw [htb]; rfl
      have hzq : tq.size = 1 := by rw [htq]; rfl
      have hvb : (tb[0]'(by omega)).toNat = 92 := by subst htb; rfl
      have hvq : (tq[0]'(by omega)).toNat = 34 := by subst htq; rfl
      have hlb : (0 : Int) < (tb.size : Int) := by omega
      have hlq : (0 : Int) < (tq.size : Int) := by omega
      have hC1 := fun w => Tryz.strings_Count_one s 92 w
      have hC2 := fun w => Tryz.strings_Count_one s 34 w
      rw [← htb] at hC1
      rw [← htq] at hC2
      have HT0' := HT0.out
      have HT1' := HT1.out
      rw [← htb] at HT0'
      rw [← htq] at HT1'
      have HT0b := Aside0.mk HT0'
      have HT1b := Aside0.mk HT1'
      clear HT0' HT1' htb htq
      generalize Lib.countByte s.data.toList 92 = n1 at *
      generalize Lib.countByte s.data.toList 34 = n2 at *
      have HC1 := Aside0.mk hC1
      have HC2 := Aside0.mk hC2
      clear hC1 hC2
      go_wp2
      go_loopg [5, 6, 8, 9, 32] 2 (fun kq v5 v6 _ _ v32 w' => Aside0 (Below w.heap.size w w') ∧
        ((kq = 2 ∧ v32 = .int .i64 0 ∧ v5 = .int .i64 (s.size : Int) ∧ v6 = .bool false) ∨
         (kq = 1 ∧ v32 = .int .i64 1 ∧ v5 = .int .i64 ((s.size : Int) + (n1 : Int)) ∧ v6 = .bool (decide (0 < n1))) ∨
         (kq = 0 ∧ v32 = .int .i64 2 ∧ v5 = .int .i64 ((s.size : Int) + (escN (bytesOf s) : Int)) ∧ v6 = .bool (decide (0 < escN (bytesOf s))))))
      case atStart => exact ⟨HB, .inl ⟨rfl, rfl, rfl, rfl⟩⟩
      case round =>
        clear h16' h16
        obtain ⟨HW, hr⟩ := hrel
        have q0 := rcell_more HW.out HT0b.out
        have q1 := rcell_more HW.out HT1b.out
        have hc1 := rcell_more HW.out (HQ.out.cell (tb[0]'(by omega)).toNat (by omega))
        have hc2 := rcell_more HW.out (HQ.out.cell (tq[0]'(by omega)).toNat (by omega))
        rw [if_neg (by omega), if_pos hvb] at hc1
        rw [if_pos hvq] at hc2
        have hbI : ((tb[0]'(by omega)).toNat : Int) < 256 := by omega
        have hqI : ((tq[0]'(by omega)).toNat : Int) < 256 := by omega
        clear hvb hvq
        have k256' := rcell_more HW.out k256
        rcases hr with ⟨rfl, rfl, rfl, rfl⟩ | ⟨rfl, rfl, rfl, rfl⟩ | ⟨rfl, rfl, rfl, rfl⟩
        · have hw5 : IntKind.i64.wrap ((s.size : Int) + (n1 : Int)) = (s.size : Int) + (n1 : Int) := wrap_small _ (by omega) (by omega)
          have hw6 : IntKind.i64.wrap (n1 : Int) = (n1 : Int) := wrap_small _ (by omega) (by omega)
          by_cases hz : n1 = 0
          · subst hz
            have HCz : Aside0 (∀ w : World, Calls Tryz.prog 176 #[.string s, .string tb] w fun e w' => e = .returned (.int .i64 0) ∧ w' = w) := ⟨HC1.out⟩
            go_wp2_with (go_at_call 176; refine (HCz.out _).mono ?_; rintro e w' ⟨rfl, hw⟩; rw [hw])
            go_roundg 1
            case measure => omega
            case rel => exact ⟨HW, .inr (.inl ⟨rfl, rfl, by simp, by simp⟩)⟩
          · have hz' : ((n1 : Int) != 0) = true := by simp [hz]
            have hzi : ¬ ((n1 : Int) = 0) := by omega
            go_wp2_with (go_at_call 176; refine (HC1.out _).mono ?_; rintro e w' ⟨rfl, hw⟩; rw [hw])
            go_quiet (fail)
            go_wp2
            go_roundg 1
            case measure => omega
            case rel => exact ⟨⟨pw_below_drewN HW.out nq⟩, .inr (.inl ⟨rfl, rfl, rfl, by rw [decide_eq_true (by omega)]⟩)⟩
        · have hw5 : IntKind.i64.wrap ((s.size : Int) + (n1 : Int) + (n2 : Int)) = (s.size : Int) + (escN (bytesOf s) : Int) := by rw [wrap_small _ (by omega) (by omega)]; omega
          have hw6 : IntKind.i64.wrap (n2 : Int) = (n2 : Int) := wrap_small _ (by omega) (by omega)
          by_cases hz : n2 = 0
          · subst hz
            have HCz : Aside0 (∀ w : World, Calls Tryz.prog 176 #[.string s, .string tq] w fun e w' => e = .returned (.int .i64 0) ∧ w' = w) := ⟨HC2.out⟩
            go_wp2_with (go_at_call 176; refine (HCz.out _).mono ?_; rintro e w' ⟨rfl, hw⟩; rw [hw])
            go_roundg 0
            case measure => omega
            case rel => exact ⟨HW, .inr (.inr ⟨rfl, rfl, by rw [← hsum]; simp, by rw [← hsum]; simp⟩)⟩
          · have hz' : ((n2 : Int) != 0) = true := by simp [hz]
            have hzi : ¬ ((n2 : Int) = 0) := by omega
            go_wp2_with (go_at_call 176; refine (HC2.out _).mono ?_; rintro e w' ⟨rfl, hw⟩; rw [hw])
            go_quiet (fail)
            go_wp2
            go_roundg 0
            case measure => omega
            case rel => exact ⟨⟨pw_below_drewN HW.out nq⟩, .inr (.inr ⟨rfl, rfl, rfl, by rw [decide_eq_true (by omega)]⟩)⟩
        · go_wp2
          go_meet
          exact ⟨rfl, rfl, HW⟩
    · have h16' : ¬ ((16 : Int) ≤ (s.size : Int)) := by omega
      go_wp2
      go_loopg [5, 6, 10] s.size (fun kq v5 v6 v10 w' => ∃ i : Nat, i + kq = s.size ∧ v10 = .int .i64 (i : Int) ∧ v5 = .int .i64 ((s.size : Int) + (escN ((bytesOf s).take i) : Int)) ∧ v6 = .bool (decide (0 < escN ((bytesOf s).take i))) ∧ Aside0 (Below w.heap.size w w'))
      case atStart => exact ⟨0, by omega, rfl, by simp [escN], by simp [escN], HB⟩
      case round =>
        obtain ⟨i, hik, rfl, rfl, rfl, HW⟩ := hrel
        have hle := escN_le ((bytesOf s).take i)
        rw [List.length_take] at hle
        by_cases hlt : i < s.size
        · have hi : 0 ≤ (i : Int) ∧ (i : Int) < (s.size : Int) := ⟨by omega, by omega⟩
          have hbt : bt s (i : Int) = ((s[i]'hlt).toNat : Int) := by
            unfold bt
            rw [dif_pos (by rw [Int.toNat_natCast]; exact hlt)]
            simp only [Int.toNat_natCast]
          have hmo := escN_more s i hlt
          have hn : (s[i]'hlt).toNat < 256 := (s[i]'hlt).toNat_lt
          rw [hbt] at hmo
          have hw1 : IntKind.i64.wrap ((i : Int) + 1) = ((i + 1 : Nat) : Int) := by rw [wrap_small _ (by omega) (by omega)]; omega
          have hw5 : IntKind.i64.wrap ((s.size : Int) + (escN ((bytesOf s).take i) : Int) + 1) = (s.size : Int) + ((escN ((bytesOf s).take i) + 1 : Nat) : Int) := by rw [wrap_small _ (by omega) (by omega)]; omega
          have hc := rcell_more HW.out (HQ.out.cell (s[i]'hlt).toNat hn)
          have hnI : ((s[i]'hlt).toNat : Int) < 256 := by omega
          clear hbt
          by_cases h34 : (s[i]'hlt).toNat = 34
          · rw [if_pos h34] at hc
            rw [if_pos (by omega)] at hmo
            clear h34
            generalize escN ((bytesOf s).take i) = N at *
            go_wp2
            go_roundg (s.size - (i + 1))
            case measure => omega
            case rel => exact ⟨i + 1, by omega, by simp; try omega, by rw [hmo]; simp; try omega, by rw [hmo]; simp; try omega, HW⟩
          · by_cases h92 : (s[i]'hlt).toNat = 92
            · rw [if_neg h34, if_pos h92] at hc
              rw [if_pos (by omega)] at hmo
              clear h34 h92
              generalize escN ((bytesOf s).take i) = N at *
              go_wp2
              go_roundg (s.size - (i + 1))
              case measure => omega
              case rel => exact ⟨i + 1, by omega, by simp; try omega, by rw [hmo]; simp; try omega, by rw [hmo]; simp; try omega, HW⟩
            · rw [if_neg h34, if_neg h92] at hc
              rw [if_neg (by omega)] at hmo
              clear h34 h92
              generalize escN ((bytesOf s).take i) = N at *
              go_wp2
              go_roundg (s.size - (i + 1))
              case measure => omega
              case rel => exact ⟨i + 1, by omega, by simp; try omega, by rw [hmo]; simp; try omega, by rw [hmo]; simp; try omega, HW⟩
        · obtain rfl : i = s.size := by omega
          have hlt' : ¬ ((s.size : Int) < (s.size : Int)) := by omega
          rw [List.take_of_length_le (by rw [bytesOf_length]; exact Nat.le_refl _)]
          go_wp2
          go_meet
          exact ⟨rfl, rfl, HW⟩
  case rest =>
    obtain ⟨rfl, rfl, HW⟩ := hcut
    have hcle := escN_le (bytesOf s)
    rw [bytesOf_length] at hcle
    by_cases hz : escN (bytesOf s) = 0
    · rw [show decide (0 < escN (bytesOf s)) = false by simp [hz]]
      have he := esc_id _ hz
      go_wp2
      go_ret
      exact ⟨by rw [he, str_bytesOf_w]; rfl, HW.out⟩
    · rw [show decide (0 < escN (bytesOf s)) = true by simp; omega, ← Int.natCast_add]
      have hlen := esc_length (bytesOf s)
      rw [bytesOf_length] at hlen
      have hinfo5 : (Tryz.prog.info? 5).map (fun i => (i.zero, i.size, i.bytes)) = some (some (.int .u8 0), 1, 1) := by kernel_rfl
      obtain ⟨n, hn⟩ : ∃ n, n = s.size + escN (bytesOf s) := ⟨_, rfl⟩
      rw [← hn]
      have hnle : n ≤ 2000000000000 := by omega
      have hnl : (esc (bytesOf s)).length = n := by omega
      clear hlen hz hcle hn
      go_wp2_with (first
        | ((with_reducible refine gate_dst (N := 85) rfl ?_); refine M_make 5 rfl (N := 85) rfl 59 _ _ rfl n rfl rfl Tryz.underlying59 hinfo5 (by omega) ?_; intro gb w1 hg hblk hb1; have HX := Aside0.mk hblk; have HW1 := Aside0.mk (below_thenB HW.out HW.out.size hb1); have HG := Aside0.mk (show w.heap.size ≤ gb from Nat.le_trans HW.out.size (Nat.le_of_eq hg.symm)); have HWW := Aside0.mk hb1; clear hg hblk hb1))
      go_loopg [13, 14] s.size (fun kq v13 v14 w' => ∃ i : Nat, i + kq = s.size ∧ v14 = .int .i64 (i : Int) ∧ v13 = .int .i64 ((esc ((bytesOf s).take i)).length : Int) ∧ Aside0 (w'.heap[gb]? = some (.cells (nums .u8 (esc ((bytesOf s).take i) ++ List.replicate (n - (esc ((bytesOf s).take i)).length) 0)).toArray 5 (0, 0))) ∧ Aside0 (Below w.heap.size w w'))
      case atStart => exact ⟨0, by omega, rfl, by simp [esc], ⟨by simp only [List.take_zero, esc, List.length_nil, Nat.sub_zero, List.nil_append]; exact HX.out⟩, HW1⟩
      case round =>
        obtain ⟨i, hik, rfl, rfl, HK, HW2⟩ := hrel
        by_cases hlt : i < s.size
        · have hi : 0 ≤ (i : Int) ∧ (i : Int) < (s.size : Int) := ⟨by omega, by omega⟩
          have hbt : bt s (i : Int) = ((s[i]'hlt).toNat : Int) := by
            unfold bt
            rw [dif_pos (by rw [Int.toNat_natCast]; exact hlt)]
            simp only [Int.toNat_natCast]
          have hbn : (s[i]'hlt).toNat < 256 := (s[i]'hlt).toNat_lt
          have hnI : ((s[i]'hlt).toNat : Int) < 256 := by omega
          have hmo : esc ((bytesOf s).take (i + 1)) = esc ((bytesOf s).take i) ++ (if ((s[i]'hlt).toNat : Int) = 34 ∨ ((s[i]'hlt).toNat : Int) = 92 then [92, ((s[i]'hlt).toNat : Int)] else [((s[i]'hlt).toNat : Int)]) := by
            rw [take_more s i hlt, esc_append, hbt]
            simp only [esc]
          have hpre : esc (bytesOf s) = esc ((bytesOf s).take (i + 1)) ++ esc ((bytesOf s).drop (i + 1)) := by rw [← esc_append, List.take_append_drop]
          have hll := congrArg List.length hpre
          rw [hnl, List.length_append] at hll
          have hw1 : IntKind.i64.wrap ((i : Int) + 1) = ((i + 1 : Nat) : Int) := by rw [wrap_small _ (by omega) (by omega)]; omega
          have hc := rcell_more HW2.out (HQ.out.cell (s[i]'hlt).toNat hbn)
          have HMm1 := Aside0.mk (HM1.out.move (HW2.out.block g1 HM1.out.lt))
          have HMm2 := Aside0.mk (HM2.out.move (HW2.out.block g2 HM2.out.lt))
          clear hpre hbt
          by_cases h34 : (s[i]'hlt).toNat = 34
          · rw [if_pos h34] at hc
            rw [if_pos (by omega), show ((s[i]'hlt).toNat : Int) = 34 by omega] at hmo
            rw [hmo, List.length_append] at hll
            simp only [List.length_cons, List.length_nil] at hll
            generalize esc ((bytesOf s).take i) = L at *
            have hL : L.length + 2 ≤ n := by omega
            have h34b := Aside0.mk h34
            have hw13 : IntKind.i64.wrap ((L.length : Int) + 2) = ((L.length + 2 : Nat) : Int) := by rw [wrap_small _ (by omega) (by omega)]; omega
            clear h34 hll
            have hsz5 : (Tryz.prog.info? 5).map (·.size) = some 1 := by kernel_rfl
            have hm0 : wr.cell? ⟨g1, 0, none⟩ = some (.int .u8 92) := (HMm1.out.get 0 (by decide)).1
            have hm1 : wr.cell? ⟨g1, 1, none⟩ = some (.int .u8 34) := (HMm1.out.get 1 (by decide)).1
            have hj : (0 : Int) ≤ (L.length : Int) ∧ (L.length : Int) ≤ (n : Int) := ⟨by omega, by omega⟩
            have hfit : L.length + 2 ≤ (nums .u8 (L ++ List.replicate (n - L.length) 0)).length := by simp [nums]; omega
            have hmin : ([Value.int .u8 92, Value.int .u8 34] : List Value).length = Nat.min 2 (n - L.length) := by
              exact (Nat.min_eq_left (show 2 ≤ n - L.length by omega)).symm
            have hcopy : ∀ j v, ([Value.int .u8 92, Value.int .u8 34] : List Value)[j]? = some v → wr.cell? ((⟨g1, 0, none⟩ : Addr).add j) = some v := by
              intro j v hv
              rcases j with _ | _ | j
              · obtain rfl := Option.some.inj hv; exact hm0
              · obtain rfl := Option.some.inj hv; exact hm1
              · simp at hv
            have HWM : Aside0 (wrap64 ((L.length : Int) + ((Nat.min 2 (n - L.length) : Nat) : Int)) = ((L.length + 2 : Nat) : Int)) := ⟨by rw [show Nat.min 2 (n - L.length) = 2 from Nat.min_eq_left (show 2 ≤ n - L.length by omega)]; unfold wrap64; omega⟩
            have hcw := hc
            go_wp2
            go_region_held_law (fun w' => w'.cell? ⟨q, (s[i]'hlt).toNat, none⟩ = some (.slice (some ⟨g1, 0, none⟩) 2 c1)) (first | exact hc | exact hcw)
              ((refine step_copy_splice rfl (.tmp 105) (.tmp 111) 59 59 rfl 5 Tryz.underlying59 hsz5 (some ⟨gb, L.length, none⟩) (some ⟨g1, 0, none⟩) (n - L.length) (n - L.length) 2 c1 (by simp [Act.eval]; omega) rfl gb L.length _ 5 HK.out [.int .u8 92, .int .u8 34] hmin (fun _ => ⟨rfl, _, rfl, hcopy⟩) hfit (by decide) w.heap.size w HW2.out.drew HG.out ?_; intro w3 hg3 hb3; have hg4 : w3.heap[gb]? = _ := hg3; rw [splice_next L n _ _ hL] at hg4; have HK3 := Aside0.mk hg4; have HW3 := Aside0.mk hb3; have hcw := rcell_more hb3 (HQ.out.cell (s[i]'hlt).toNat hbn); rw [if_pos h34b.out] at hcw; clear hg3 hg4 hb3))
            go_wp2
            go_roundg (s.size - (i + 1))
            case measure => omega
            case rel => exact ⟨i + 1, by omega, by simp, by rw [hmo]; exact congrArg (Value.int .i64) (HWM.out.trans (by simp)), ⟨by rw [hmo]; exact HK3.out⟩, HW3⟩
          · by_cases h92 : (s[i]'hlt).toNat = 92
            · rw [if_neg h34, if_pos h92] at hc
              rw [if_pos (by omega), show ((s[i]'hlt).toNat : Int) = 92 by omega] at hmo
              rw [hmo, List.length_append] at hll
              simp only [List.length_cons, List.length_nil] at hll
              generalize esc ((bytesOf s).take i) = L at *
              have hL : L.length + 2 ≤ n := by omega
              have h34b := Aside0.mk h34
              have h92b := Aside0.mk h92
              have hw13 : IntKind.i64.wrap ((L.length : Int) + 2) = ((L.length + 2 : Nat) : Int) := by rw [wrap_small _ (by omega) (by omega)]; omega
              clear h34 h92 hll
              have hsz5 : (Tryz.prog.info? 5).map (·.size) = some 1 := by kernel_rfl
              have hm0 : wr.cell? ⟨g2, 0, none⟩ = some (.int .u8 92) := (HMm2.out.get 0 (by decide)).1
              have hm1 : wr.cell? ⟨g2, 1, none⟩ = some (.int .u8 92) := (HMm2.out.get 1 (by decide)).1
              have hj : (0 : Int) ≤ (L.length : Int) ∧ (L.length : Int) ≤ (n : Int) := ⟨by omega, by omega⟩
              have hfit : L.length + 2 ≤ (nums .u8 (L ++ List.replicate (n - L.length) 0)).length := by simp [nums]; omega
              have hmin : ([Value.int .u8 92, Value.int .u8 92] : List Value).length = Nat.min 2 (n - L.length) := by
                exact (Nat.min_eq_left (show 2 ≤ n - L.length by omega)).symm
              have hcopy : ∀ j v, ([Value.int .u8 92, Value.int .u8 92] : List Value)[j]? = some v → wr.cell? ((⟨g2, 0, none⟩ : Addr).add j) = some v := by
                intro j v hv
                rcases j with _ | _ | j
                · obtain rfl := Option.some.inj hv; exact hm0
                · obtain rfl := Option.some.inj hv; exact hm1
                · simp at hv
              have HWM : Aside0 (wrap64 ((L.length : Int) + ((Nat.min 2 (n - L.length) : Nat) : Int)) = ((L.length + 2 : Nat) : Int)) := ⟨by rw [show Nat.min 2 (n - L.length) = 2 from Nat.min_eq_left (show 2 ≤ n - L.length by omega)]; unfold wrap64; omega⟩
              have hcw := hc
              go_wp2
              go_region_held_law (fun w' => w'.cell? ⟨q, (s[i]'hlt).toNat, none⟩ = some (.slice (some ⟨g2, 0, none⟩) 2 c2)) (first | exact hc | exact hcw)
                ((refine step_copy_splice rfl (.tmp 105) (.tmp 111) 59 59 rfl 5 Tryz.underlying59 hsz5 (some ⟨gb, L.length, none⟩) (some ⟨g2, 0, none⟩) (n - L.length) (n - L.length) 2 c2 (by simp [Act.eval]; omega) rfl gb L.length _ 5 HK.out [.int .u8 92, .int .u8 92] hmin (fun _ => ⟨rfl, _, rfl, hcopy⟩) hfit (by decide) w.heap.size w HW2.out.drew HG.out ?_; intro w3 hg3 hb3; have hg4 : w3.heap[gb]? = _ := hg3; rw [splice_next L n _ _ hL] at hg4; have HK3 := Aside0.mk hg4; have HW3 := Aside0.mk hb3; have hcw := rcell_more hb3 (HQ.out.cell (s[i]'hlt).toNat hbn); rw [if_neg h34b.out, if_pos h92b.out] at hcw; clear hg3 hg4 hb3))
              go_wp2
              go_roundg (s.size - (i + 1))
              case measure => omega
              case rel => exact ⟨i + 1, by omega, by simp, by rw [hmo]; exact congrArg (Value.int .i64) (HWM.out.trans (by simp)), ⟨by rw [hmo]; exact HK3.out⟩, HW3⟩
            · rw [if_neg h34, if_neg h92] at hc
              rw [if_neg (by omega)] at hmo
              rw [hmo, List.length_append] at hll
              simp only [List.length_cons, List.length_nil] at hll
              generalize esc ((bytesOf s).take i) = L at *
              have hL : L.length < n := by omega
              have hw13 : IntKind.i64.wrap ((L.length : Int) + 1) = ((L.length + 1 : Nat) : Int) := by rw [wrap_small _ (by omega) (by omega)]; omega
              have hx0 : wr.cell? ⟨gb, L.length, none⟩ = some (.int .u8 0) := by
                rw [blk_cell HK.out]
                simp [nums, show 0 < n - L.length by omega]
              have hx1 := blk_frozen HK.out L.length
              have hj : (0 : Int) ≤ (L.length : Int) ∧ (L.length : Int) < (n : Int) := ⟨by omega, by omega⟩
              clear h34 h92
              go_wp2
              go_roundg (s.size - (i + 1))
              case measure => omega
              case rel => exact ⟨i + 1, by omega, by simp, by rw [hmo]; simp, ⟨by rw [hmo]; exact blk_put HK.out L.length _ (put_next L n _ hL)⟩, ⟨HW2.out.setCell HG.out _⟩⟩
        · obtain rfl : i = s.size := by omega
          have hlt' : ¬ ((s.size : Int) < (s.size : Int)) := by omega
          rw [List.take_of_length_le (by rw [bytesOf_length]; exact Nat.le_refl _)] at HK
          have HK2 := HK.out
          rw [hnl, Nat.sub_self, List.replicate_zero, List.append_nil] at HK2
          have hcv : (convert 59 9 (.slice (some ⟨gb, 0, none⟩) n n)).run Tryz.prog wr = .ok (.string (strOfNums (esc (bytesOf s)))) wr := run_convert_bytes_arg wr 59 5 Tryz.underlying59 Tryz.underlying5 gb 0 n n (esc (bytesOf s)) hnl (fun j hj => by
            rw [Nat.zero_add, (blk_cell HK2 j)]
            simp [nums, List.getElem?_eq_getElem (by omega : j < (esc (bytesOf s)).length), List.getD_eq_getElem?_getD]) 9 Tryz.underlying9
          clear HK HK2
          go_wp2
          go_ret
          exact ⟨rfl, HW2.out⟩
theorem replace_whole (base b : Nat) (v : Value) (s : ByteArray) (w : World) (hs : s.size ≤ 1000000000000) (hb : RplAt w b 0 0 .nilIface v) (hR : Kd.R Kd.string 9 w base (fun k => k ≠ b) v rplTexts) :
    Calls Tryz.prog 28 #[.pointer (some ⟨b, 0, none⟩), .string s] w fun e w' => e = .returned (.string (strOfNums (esc (bytesOf s)))) ∧ (∀ (B : Nat) (w0 : World), Below B w0 w → B ≤ b → B ≤ w.heap.size → Below B w0 w') :=
  replace_calls (fun base b d m q g1 c1 g2 c2 tr s w h1 h2 => bsr_calls base b d m q g1 c1 g2 c2 tr s w h1 h2) base b v s w hs hb hR
end Go.Proofs.YtkbmbancfbfddaaGreatDoorW.PrintWords
