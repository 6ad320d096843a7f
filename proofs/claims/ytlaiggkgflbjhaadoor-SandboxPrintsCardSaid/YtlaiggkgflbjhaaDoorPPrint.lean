/- What sandbox.Print computes: of the sets of tokens that take off just what is off a shortest one's names. -/
import Derived.Test.YtlaiggkgflbjhaaDoorPParse
import Derived.Test.YtlaiggkgflbjhaaDoorX3
namespace Go.Proofs.YtlaiggkgflbjhaaDoor.Pure
open Go.RowKit Go.Proofs.YtlaiggkgflbjhaaDoor.X Go.Proofs.YtlaiggkgflbjhaaDoorW.PrintWords Go.Proofs.YtlaiggkgflbjhaaDoorW.PrintLast Go.Proofs.YtlaiggkgflbjhaaDoorW.PrintMore

/-! Sets of tokens, as numbers -/
theorem all14 {p : Nat → Prop} [DecidablePred p] (h : ∀ a : Fin 128, ∀ b : Fin 128, p (a.val * 128 + b.val)) {x : Nat} (hx : x < 16384) : p x := by
  have := h ⟨x / 128, by omega⟩ ⟨x % 128, by omega⟩
  simp only [] at this
  rwa [show x / 128 * 128 + x % 128 = x by omega] at this
def pcn : Nat → Nat → Nat
  | 0, _ => 0
  | n + 1, s => s % 2 + pcn n (s / 2)
theorem and_one {x : Nat} (hx : x < 16384) : Go.bits .and .i64 (x : Int) 1 = ((x % 2 : Nat) : Int) := all14 (p := fun x => Go.bits .and .i64 (x : Int) 1 = ((x % 2 : Nat) : Int)) (by decide +kernel) hx
theorem ones {x : Nat} (hx : x < 16384) : bits_OnesCount.f (x : Int) = some ((pcn 14 x : Nat) : Int) := all14 (p := fun x => bits_OnesCount.f (x : Int) = some ((pcn 14 x : Nat) : Int)) (by decide +kernel) hx
theorem pcn_le : ∀ n s : Nat, pcn n s ≤ n
  | 0, _ => Nat.le_refl _
  | n + 1, s => by
    have := pcn_le n (s / 2)
    rw [pcn]
    omega
theorem pcn_zero : ∀ n : Nat, pcn n 0 = 0
  | 0 => rfl
  | n + 1 => by rw [pcn, Nat.zero_div, pcn_zero n]
theorem pcn_more : ∀ n m s : Nat, n ≤ m → s < 2 ^ n → pcn m s = pcn n s
  | 0, m, s, _, h => by
    obtain rfl : s = 0 := by rw [Nat.pow_zero] at h; omega
    rw [pcn_zero]
    rfl
  | n + 1, 0, _, h, _ => absurd h (by omega)
  | n + 1, m + 1, s, h, hs => by
    rw [Nat.pow_succ] at hs
    rw [pcn, pcn, pcn_more n m (s / 2) (by omega) (by omega)]
theorem shr_nat (s i : Nat) (hi : i < 64) : shr .i64 (s : Int) (i : Int) = ((s / 2 ^ i : Nat) : Int) := by
  unfold shr
  rw [Int.toNat_natCast, show min i IntKind.i64.bits = i from Nat.min_eq_left (by show i ≤ 64; omega), Int.natCast_ediv, Int.natCast_pow]
  rfl
theorem better_f {a n : Nat} (ha : a < 16384) (hn : n < 16384) : ∃ t, sandbox_better.f (a : Int) (n : Int) = some t ∧ (t = true → pcn 14 a ≤ pcn 14 n) ∧ (t = false → pcn 14 n ≤ pcn 14 a) := by
  have ua : IntKind.u64.wrap (a : Int) = (a : Int) := by show (a : Int) % 18446744073709551616 = a; omega
  have un : IntKind.u64.wrap (n : Int) = (n : Int) := by show (n : Int) % 18446744073709551616 = n; omega
  have la := pcn_le 14 a
  have ln := pcn_le 14 n
  have hw : wrap64 (((pcn 14 a : Nat) : Int) - ((pcn 14 n : Nat) : Int)) = ((pcn 14 a : Nat) : Int) - ((pcn 14 n : Nat) : Int) := by unfold wrap64; omega
  rw [sandbox_better.f, ua, un, ones ha, ones hn, Option.bind_some, Option.bind_some, hw]
  by_cases h : ((pcn 14 a : Nat) : Int) - ((pcn 14 n : Nat) : Int) = 0
  · rw [if_pos h]
    exact ⟨_, rfl, fun _ => by omega, fun _ => by omega⟩
  · rw [if_neg h]
    refine ⟨_, rfl, fun k => ?_, fun k => ?_⟩
    · have := of_decide_eq_true k; omega
    · have := of_decide_eq_false k; omega
def sel : List STok → Nat → List STok
  | [], _ => []
  | a :: t, s => if s % 2 = 1 then a :: sel t (s / 2) else sel t (s / 2)
theorem sel_len : ∀ (l : List STok) (s : Nat), (sel l s).length = pcn l.length s
  | [], _ => rfl
  | a :: t, s => by
    rw [sel, List.length_cons, pcn]
    split
    · rename_i h
      rw [List.length_cons, sel_len t, h, Nat.add_comm]
    · rw [sel_len t, show s % 2 = 0 by omega, Nat.zero_add]
theorem sel_mem : ∀ (l : List STok) (s : Nat), ∀ t ∈ sel l s, t ∈ l
  | [], _ => fun t h => h
  | a :: l, s => fun t h => by
    rw [sel] at h
    split at h
    · rcases List.mem_cons.1 h with rfl | h
      · simp
      · exact List.mem_cons_of_mem a (sel_mem l _ t h)
    · exact List.mem_cons_of_mem a (sel_mem l _ t h)
/-- Every choice of tokens is a set's. -/
theorem sel_filter (p : STok → Bool) : ∀ l : List STok, ∃ s : Nat, s < 2 ^ l.length ∧ sel l s = l.filter p
  | [] => ⟨0, by decide, rfl⟩
  | a :: l => by
    obtain ⟨s, h1, h2⟩ := sel_filter p l
    rw [List.length_cons, Nat.pow_succ]
    by_cases h : p a = true
    · refine ⟨2 * s + 1, by omega, ?_⟩
      rw [sel, if_pos (by omega), show (2 * s + 1) / 2 = s by omega, h2, List.filter_cons_of_pos h]
    · refine ⟨2 * s, by omega, ?_⟩
      rw [sel, if_neg (by omega), show (2 * s) / 2 = s by omega, h2, List.filter_cons_of_neg h]
def orF (l : List STok) (m : Nat) : Nat := l.foldl (fun m t => m ||| t.f1.toNat) m
def Good (l : List STok) : Prop := ∀ t ∈ l, 0 ≤ t.f1 ∧ t.f1 < 32768
theorem orF_bit (i : Nat) : ∀ (l : List STok) (m : Nat), (orF l m).testBit i = (m.testBit i || l.any fun t => t.f1.toNat.testBit i)
  | [], m => by rw [List.any_nil, Bool.or_false]; rfl
  | t :: l, m => by
    rw [List.any_cons, ← Bool.or_assoc, ← Nat.testBit_or, ← orF_bit i l]
    rfl
theorem orF_lt (l : List STok) (h : Good l) : ∀ m : Nat, m < 32768 → orF l m < 32768 := by
  induction l with
  | nil => exact fun m hm => hm
  | cons t l ih =>
    intro m hm
    have ht := h t (by simp)
    exact ih (fun t h' => h t (List.mem_cons_of_mem _ h')) _ (Nat.or_lt_two_pow (n := 15) hm (by omega))

/-! The sums of all sets -/
theorem print_l2 (off : Nat) (l : List STok) (hl : l.length ≤ 14) (hg : Good l) (b P x41 : Int) (s : Nat) (hs : s < 16384) (R : ByteArray × Int) (d : Nat) : ∀ (i v : Nat), i + d = l.length → v < 32768 →
    Ev (fun k => if ((orF (sel (l.drop i) (s / 2 ^ i)) v : Nat) : Int) = (off : Int) then (if b < 0 then (sandbox_Print.l1 k (off : Int) l (s : Int) P (wrap64 (x41 + 1))) else ((sandbox_better.f (s : Int) b).bind fun t112 => (if t112 = true then (sandbox_Print.l1 k (off : Int) l (s : Int) P (wrap64 (x41 + 1))) else (sandbox_Print.l1 k (off : Int) l b P (wrap64 (x41 + 1)))))) else (sandbox_Print.l1 k (off : Int) l b P (wrap64 (x41 + 1)))) R →
    Ev (fun k => sandbox_Print.l2 k (off : Int) l b (s : Int) (v : Int) P x41 l (l.length : Int) (i : Int)) R := by
  induction d with
  | zero =>
    intro i v hi hv h
    rw [List.drop_of_length_le (by omega), sel] at h
    refine Ev.step (fun k => ?_) h
    rw [sandbox_Print.l2, if_neg (by omega)]
    rfl
  | succ d ih =>
    intro i v hi hv h
    have hw : wrap64 ((i : Int) + 1) = ((i + 1 : Nat) : Int) := by unfold wrap64; omega
    have hil : i < l.length := by omega
    have hx : rd_Tok l (i : Int) = l.getD i zTok := by unfold rd_Tok; rw [Int.toNat_natCast]
    have hm : l.getD i zTok ∈ l := by
      rw [List.getD_eq_getElem?_getD, List.getElem?_eq_getElem hil]
      exact List.getElem_mem hil
    have ht := hg _ hm
    have hq : s / 2 ^ i < 16384 := Nat.lt_of_le_of_lt (Nat.div_le_self _ _) hs
    have hdd : s / 2 ^ i / 2 = s / 2 ^ (i + 1) := by rw [Nat.div_div_eq_div_mul, Nat.pow_succ]
    rw [drop_at zTok hil, sel, hdd] at h
    by_cases hb : s / 2 ^ i % 2 = 1
    · rw [if_pos hb] at h
      refine Ev.step (fun k => ?_) (ih (i + 1) (v ||| (l.getD i zTok).f1.toNat) (by omega) (Nat.or_lt_two_pow (n := 15) hv (by omega)) h)
      have ho : Go.bits .or .u32 (v : Int) (l.getD i zTok).f1 = ((v ||| (l.getD i zTok).f1.toNat : Nat) : Int) := by
        rw [← u32_or_nat v (l.getD i zTok).f1.toNat (by omega) (by omega), Int.toNat_of_nonneg ht.1]
      rw [sandbox_Print.l2, if_pos (by omega), if_pos (by omega), if_pos (by omega), shr_nat s i (by omega), and_one hq, if_pos (by rw [hb]; rfl), hx, ho, hw]
    · rw [if_neg hb] at h
      refine Ev.step (fun k => ?_) (ih (i + 1) v (by omega) hv h)
      rw [sandbox_Print.l2, if_pos (by omega), if_pos (by omega), if_pos (by omega), shr_nat s i (by omega), and_one hq, if_neg (by omega), hw]
/-- The best of the sets below s. -/
def Best (off : Nat) (l : List STok) (s : Nat) (b : Int) : Prop := (b = -1 ∧ ∀ s', s' < s → orF (sel l s') 0 ≠ off) ∨ ∃ n : Nat, b = n ∧ n < s ∧ orF (sel l n) 0 = off ∧ ∀ s', s' < s → orF (sel l s') 0 = off → pcn 14 n ≤ pcn 14 s'
theorem print_l1 (off : Nat) (l : List STok) (hl : l.length ≤ 14) (hg : Good l) (P : Nat) (hP : P ≤ 16384) (d : Nat) : ∀ (s : Nat) (b : Int), s + d = P → Best off l s b →
    ∃ b', Best off l P b' ∧ ∀ R, Ev (fun k => sandbox_Print.l1 k (off : Int) l b' (P : Int) (P : Int)) R → Ev (fun k => sandbox_Print.l1 k (off : Int) l b (P : Int) (s : Int)) R := by
  induction d with
  | zero =>
    intro s b hs hb
    obtain rfl : s = P := by omega
    exact ⟨b, hb, fun R h => h⟩
  | succ d ih =>
    intro s b hs hb
    have hw : wrap64 ((s : Int) + 1) = ((s + 1 : Nat) : Int) := by unfold wrap64; omega
    have enter : ∀ R, Ev (fun k => if ((orF (sel l s) 0 : Nat) : Int) = (off : Int) then (if b < 0 then (sandbox_Print.l1 k (off : Int) l (s : Int) (P : Int) ((s + 1 : Nat) : Int)) else ((sandbox_better.f (s : Int) b).bind fun t112 => (if t112 = true then (sandbox_Print.l1 k (off : Int) l (s : Int) (P : Int) ((s + 1 : Nat) : Int)) else (sandbox_Print.l1 k (off : Int) l b (P : Int) ((s + 1 : Nat) : Int))))) else (sandbox_Print.l1 k (off : Int) l b (P : Int) ((s + 1 : Nat) : Int))) R → Ev (fun k => sandbox_Print.l1 k (off : Int) l b (P : Int) (s : Int)) R := fun R h => by
      refine Ev.step (f := fun k => sandbox_Print.l2 k (off : Int) l b (s : Int) ((0 : Nat) : Int) (P : Int) (s : Int) l (l.length : Int) ((0 : Nat) : Int)) (fun k => ?_) (print_l2 off l hl hg b _ _ s (by omega) R l.length 0 0 (by omega) (by omega) ?_)
      · rw [sandbox_Print.l1, if_pos (by omega)]
        rfl
      · rw [List.drop_zero, Nat.pow_zero, Nat.div_one, hw]
        exact h
    by_cases he : orF (sel l s) 0 = off
    · rcases hb with ⟨rfl, hn⟩ | ⟨n, rfl, hn, hv, hbest⟩
      · obtain ⟨b', h1, h2⟩ := ih (s + 1) (s : Int) (by omega) (.inr ⟨s, rfl, by omega, he, fun s' hs' hv' => by
          rcases Nat.lt_or_ge s' s with h1 | h1
          · exact absurd hv' (hn s' h1)
          · obtain rfl : s' = s := by omega
            exact Nat.le_refl _⟩)
        exact ⟨b', h1, fun R h => enter R (Ev.congr (fun k => if_pos (by rw [he])) (Ev.congr (fun k => if_pos (by omega)) (h2 R h)))⟩
      · obtain ⟨t, h1, h2, h3⟩ := better_f (show s < 16384 by omega) (show n < 16384 by omega)
        cases t
        · obtain ⟨b', h5, h6⟩ := ih (s + 1) (n : Int) (by omega) (.inr ⟨n, rfl, by omega, hv, fun s' hs' hv' => by
            rcases Nat.lt_or_ge s' s with h4 | h4
            · exact hbest s' h4 hv'
            · obtain rfl : s' = s := by omega
              exact h3 rfl⟩)
          exact ⟨b', h5, fun R h => enter R (Ev.congr (fun k => if_pos (by rw [he])) (Ev.congr (fun k => if_neg (by omega)) (Ev.congr (fun k => by rw [h1, Option.bind_some]; exact if_neg (by decide)) (h6 R h))))⟩
        · obtain ⟨b', h5, h6⟩ := ih (s + 1) (s : Int) (by omega) (.inr ⟨s, rfl, by omega, he, fun s' hs' hv' => by
            rcases Nat.lt_or_ge s' s with h4 | h4
            · exact Nat.le_trans (h2 rfl) (hbest s' h4 hv')
            · obtain rfl : s' = s := by omega
              exact Nat.le_refl _⟩)
          exact ⟨b', h5, fun R h => enter R (Ev.congr (fun k => if_pos (by rw [he])) (Ev.congr (fun k => if_neg (by omega)) (Ev.congr (fun k => by rw [h1, Option.bind_some]; exact if_pos rfl) (h6 R h))))⟩
    · obtain ⟨b', h5, h6⟩ := ih (s + 1) b (by omega) (by
        rcases hb with ⟨rfl, hn⟩ | ⟨n, rfl, hn, hv, hbest⟩
        · refine .inl ⟨rfl, fun s' hs' => ?_⟩
          rcases Nat.lt_or_ge s' s with h1 | h1
          · exact hn s' h1
          · obtain rfl : s' = s := by omega
            exact he
        · refine .inr ⟨n, rfl, by omega, hv, fun s' hs' hv' => ?_⟩
          rcases Nat.lt_or_ge s' s with h4 | h4
          · exact hbest s' h4 hv'
          · obtain rfl : s' = s := by omega
            exact absurd hv' he)
      exact ⟨b', h5, fun R h => enter R (Ev.congr (fun k => if_neg (by omega)) (h6 R h))⟩

/-! The names of the best -/
theorem print_l3 (l : List STok) (hl : l.length ≤ 14) (s : Nat) (hs : s < 16384) (t : ByteArray) (d : Nat) : ∀ (i : Nat) (acc : List ByteArray), i + d = l.length → acc.length ≤ i →
    strings_Join.f (acc ++ (sel (l.drop i) (s / 2 ^ i)).map (·.f0)) (⟨#[32]⟩ : ByteArray) = some t →
    Ev (fun k => sandbox_Print.l3 k (s : Int) acc l (l.length : Int) (i : Int)) (t, 0) := by
  induction d with
  | zero =>
    intro i acc hi ha h
    rw [List.drop_of_length_le (by omega), sel, List.map_nil, List.append_nil] at h
    refine Ev.step (f := fun _ => some (t, 0)) (fun k => ?_) (Ev.now _)
    rw [sandbox_Print.l3, if_neg (by omega), h, Option.bind_some]
  | succ d ih =>
    intro i acc hi ha h
    have hw : wrap64 ((i : Int) + 1) = ((i + 1 : Nat) : Int) := by unfold wrap64; omega
    have hil : i < l.length := by omega
    have hx : rd_Tok l (i : Int) = l.getD i zTok := by unfold rd_Tok; rw [Int.toNat_natCast]
    have hq : s / 2 ^ i < 16384 := Nat.lt_of_le_of_lt (Nat.div_le_self _ _) hs
    have hdd : s / 2 ^ i / 2 = s / 2 ^ (i + 1) := by rw [Nat.div_div_eq_div_mul, Nat.pow_succ]
    rw [drop_at zTok hil, sel, hdd] at h
    by_cases hb : s / 2 ^ i % 2 = 1
    · rw [if_pos hb, List.map_cons, show ∀ (a : List ByteArray) (b : ByteArray) (c : List ByteArray), a ++ b :: c = (a ++ [b]) ++ c from fun a b c => by simp] at h
      refine Ev.step (fun k => ?_) (ih (i + 1) _ (by omega) (by rw [List.length_append, List.length_singleton]; omega) h)
      rw [sandbox_Print.l3, if_pos (by omega), if_pos (by omega), if_pos (by omega), shr_nat s i (by omega), and_one hq, if_pos (by rw [hb]; rfl), if_pos (by omega), hx, hw]
    · rw [if_neg hb] at h
      refine Ev.step (fun k => ?_) (ih (i + 1) acc (by omega) (by omega) h)
      rw [sandbox_Print.l3, if_pos (by omega), if_pos (by omega), if_pos (by omega), shr_nat s i (by omega), and_one hq, if_neg (by omega), hw]

/-! The tokens that may be taken -/
def mayB (off : Nat) (t : STok) : Bool := decide (an t.f1.toNat off = 0)
def may (off : Nat) : List STok := tokS.filter (mayB off)
theorem tokS_len : tokS.length = 14 := by decide +kernel
theorem tokS_good : Good tokS := by
  have h : (tokS.all fun t => decide (0 ≤ t.f1 ∧ t.f1 < 32768)) = true := by decide +kernel
  exact fun t ht => of_decide_eq_true (List.all_eq_true.1 h t ht)
theorem may_good (off : Nat) : Good (may off) := fun t ht => tokS_good t (List.mem_filter.1 ht).1
theorem may_len (off : Nat) : (may off).length ≤ 14 := by
  have := List.length_filter_le (mayB off) tokS
  rw [tokS_len] at this
  exact this
theorem shl_one (m : Nat) (hm : m ≤ 14) : shl .i64 1 (m : Int) = ((2 ^ m : Nat) : Int) := by
  have h : ∀ j : Fin 15, shl .i64 1 (j.val : Int) = ((2 ^ j.val : Nat) : Int) := by decide +kernel
  exact h ⟨m, by omega⟩
theorem print_l0 (off : Nat) (ho : off < 4294967296) (R : ByteArray × Int) (d : Nat) : ∀ (i : Nat) (acc : List STok), i + d = 14 → acc.length ≤ i →
    Ev (fun k => sandbox_Print.l1 k (off : Int) (acc ++ (tokS.drop i).filter (mayB off)) (-1) (shl .i64 1 ((acc ++ (tokS.drop i).filter (mayB off)).length : Int)) 0) R →
    Ev (fun k => sandbox_Print.l0 k (off : Int) acc tokS (i : Int)) R := by
  have hlen := tokS_len
  induction d with
  | zero =>
    intro i acc hi ha h
    rw [List.drop_of_length_le (by omega), List.filter_nil, List.append_nil] at h
    refine Ev.step (fun k => ?_) h
    rw [sandbox_Print.l0, if_neg (by omega)]
  | succ d ih =>
    intro i acc hi ha h
    have hw : wrap64 ((i : Int) + 1) = ((i + 1 : Nat) : Int) := by unfold wrap64; omega
    have hil : i < tokS.length := by omega
    have hx : rd_Tok tokS (i : Int) = tokS.getD i zTok := by unfold rd_Tok; rw [Int.toNat_natCast]
    have hm : tokS.getD i zTok ∈ tokS := by
      rw [List.getD_eq_getElem?_getD, List.getElem?_eq_getElem hil]
      exact List.getElem_mem hil
    have ht := tokS_good _ hm
    have ha32 : Go.bits .andNot .u32 (tokS.getD i zTok).f1 (off : Int) = ((an (tokS.getD i zTok).f1.toNat off : Nat) : Int) := by
      rw [← an_u32 _ off (by omega) ho, Int.toNat_of_nonneg ht.1]
    rw [drop_at zTok hil] at h
    by_cases hb : an (tokS.getD i zTok).f1.toNat off = 0
    · rw [List.filter_cons_of_pos (show mayB off (tokS.getD i zTok) = true from decide_eq_true hb), show ∀ (a : List STok) (b : STok) (c : List STok), a ++ b :: c = (a ++ [b]) ++ c from fun a b c => by simp] at h
      refine Ev.step (fun k => ?_) (ih (i + 1) _ (by omega) (by rw [List.length_append, List.length_singleton]; omega) h)
      rw [sandbox_Print.l0, if_pos (by omega), if_pos (by omega), if_pos (by omega), hx, ha32, if_pos (by rw [hb]; rfl), if_pos (by omega), hw]
    · rw [List.filter_cons_of_neg (by unfold mayB; rw [decide_eq_true_eq]; exact hb)] at h
      refine Ev.step (fun k => ?_) (ih (i + 1) acc (by omega) (by omega) h)
      rw [sandbox_Print.l0, if_pos (by omega), if_pos (by omega), if_pos (by omega), hx, ha32, if_neg (by omega), hw]

/-! Print -/
def sp1 : ByteArray := ⟨#[32]⟩
def joined (l : List STok) : ByteArray := ⟨(strings_Join.text (l.map (·.f0)) sp1).toArray⟩
theorem tail_len (l : List (List UInt8)) (h : ∀ x ∈ l, x.length ≤ 100) : (Lib.joinTail [32] l).length ≤ 101 * l.length := by
  induction l with
  | nil => exact Nat.le_refl _
  | cons x t ih =>
    have h1 := h x (by simp)
    have h2 := ih fun y hy => h y (List.mem_cons_of_mem x hy)
    unfold Lib.joinTail at h2 ⊢
    simp only [List.map_cons, List.flatten_cons, List.length_append, List.length_cons, List.length_nil]
    omega
theorem tok_short : ∀ t ∈ tokS, t.f0.data.toList.length ≤ 100 := by
  have h : (tokS.all fun t => decide (t.f0.data.toList.length ≤ 100)) = true := by decide +kernel
  exact fun t ht => of_decide_eq_true (List.all_eq_true.1 h t ht)
theorem join_ok (l : List STok) (hl : l.length ≤ 14) (hm : ∀ t ∈ l, t ∈ tokS) : (strings_Join.text (l.map (·.f0)) sp1).length ≤ 1514 ∧ strings_Join.f (l.map (·.f0)) (⟨#[32]⟩ : ByteArray) = some (joined l) := by
  have hlen : (strings_Join.text (l.map (·.f0)) sp1).length ≤ 1514 := by
    unfold strings_Join.text
    cases l with
    | nil => exact Nat.zero_le _
    | cons a t =>
      have h0 := tok_short a (hm a (by simp))
      have h1 := tail_len ((t.map (·.f0)).map (·.data.toList)) (fun x hx => by
        rw [List.map_map] at hx
        obtain ⟨y, hy, rfl⟩ := List.mem_map.1 hx
        exact tok_short y (hm y (List.mem_cons_of_mem a hy)))
      rw [List.map_cons, List.map_cons, Lib.join_cons, List.length_append]
      rw [List.length_map, List.length_map] at h1
      rw [List.length_cons] at hl
      rw [show sp1.data.toList = [32] from rfl]
      omega
  refine ⟨hlen, ?_⟩
  have h2 : (strings_Join.text (l.map (·.f0)) (⟨#[32]⟩ : ByteArray)).length ≤ 1514 := hlen
  unfold strings_Join.f
  rw [if_pos ⟨by rw [List.length_map]; omega, by omega⟩]
  rfl
theorem check_of (x : Nat) (hx : x < 4294967296) : sandbox_Check.f (x : Int) = if an x 65535 = 0 then some 0 else some 171 := by
  have h := an_u32 x 65535 hx (by omega)
  rw [show ((65535 : Nat) : Int) = 65535 from rfl] at h
  rw [sandbox_Check.f, h]
  by_cases h0 : an x 65535 = 0
  · rw [if_pos h0, if_pos (by omega)]
  · rw [if_neg h0, if_neg (by omega)]
theorem print_f (f : Nat) (hf : f < 4294967296) :
    (an f 65535 ≠ 0 ∧ Ev (fun k => sandbox_Print.f k (f : Int)) ((⟨#[]⟩ : ByteArray), 171)) ∨
    (an f 65535 = 0 ∧ (∀ s, s < 2 ^ (may (an 65535 f)).length → orF (sel (may (an 65535 f)) s) 0 ≠ an 65535 f) ∧ Ev (fun k => sandbox_Print.f k (f : Int)) ((⟨#[]⟩ : ByteArray), 1)) ∨
    (an f 65535 = 0 ∧ ∃ n : Nat, n < 2 ^ (may (an 65535 f)).length ∧ orF (sel (may (an 65535 f)) n) 0 = an 65535 f ∧ (∀ s, s < 2 ^ (may (an 65535 f)).length → orF (sel (may (an 65535 f)) s) 0 = an 65535 f → (sel (may (an 65535 f)) n).length ≤ (sel (may (an 65535 f)) s).length) ∧ Ev (fun k => sandbox_Print.f k (f : Int)) (joined (sel (may (an 65535 f)) n), 0)) := by
  by_cases h0 : an f 65535 = 0
  · have hc := check_of f hf
    rw [if_pos h0] at hc
    have hoff := an_le 65535 f
    have h65 : Go.bits .andNot .u32 65535 (f : Int) = ((an 65535 f : Nat) : Int) := an_u32 65535 f (by omega) hf
    have hml := may_len (an 65535 f)
    have hg := may_good (an 65535 f)
    have hP : 2 ^ (may (an 65535 f)).length ≤ 16384 := Nat.pow_le_pow_right (n := 2) (by omega) hml
    have start : ∀ R, Ev (fun k => sandbox_Print.l1 k ((an 65535 f : Nat) : Int) (may (an 65535 f)) (-1) ((2 ^ (may (an 65535 f)).length : Nat) : Int) ((0 : Nat) : Int)) R → Ev (fun k => sandbox_Print.f k (f : Int)) R := fun R hR => by
      have h1 : Ev (fun k => sandbox_Print.l0 k ((an 65535 f : Nat) : Int) [] tokS ((0 : Nat) : Int)) R := print_l0 (an 65535 f) (by omega) R 14 0 [] (by omega) (Nat.le_refl _) (by
        rw [List.nil_append, List.drop_zero]
        show Ev (fun k => sandbox_Print.l1 k ((an 65535 f : Nat) : Int) (may (an 65535 f)) (-1) (shl .i64 1 ((may (an 65535 f)).length : Int)) 0) R
        rw [shl_one _ hml]
        exact hR)
      refine Ev.congr (fun k => ?_) h1
      show (sandbox_Check.f (f : Int)).bind _ = _
      rw [hc, Option.bind_some, if_pos rfl, h65]
      rfl
    obtain ⟨b, hb, hgo⟩ := print_l1 (an 65535 f) (may (an 65535 f)) hml hg _ hP _ 0 (-1) (Nat.zero_add _) (.inl ⟨rfl, fun s' hs' => by omega⟩)
    rcases hb with ⟨rfl, hn⟩ | ⟨n, rfl, hn, hv, hbest⟩
    · refine .inr (.inl ⟨h0, hn, start _ (hgo _ ?_)⟩)
      refine Ev.step (f := fun _ => some ((⟨#[]⟩ : ByteArray), 1)) (fun k => ?_) (Ev.now _)
      rw [sandbox_Print.l1, if_neg (by omega), if_pos (by omega)]
    · refine .inr (.inr ⟨h0, n, hn, hv, fun s hs hvs => ?_, start _ (hgo _ ?_)⟩)
      · rw [sel_len, sel_len, ← pcn_more _ 14 n hml hn, ← pcn_more _ 14 s hml hs]
        exact hbest s hs hvs
      · have hj := join_ok (sel (may (an 65535 f)) n) (by rw [sel_len]; exact Nat.le_trans (pcn_le _ _) hml) (fun t ht => (List.mem_filter.1 (sel_mem _ n t ht)).1)
        have h3 := print_l3 (may (an 65535 f)) hml n (by omega) (joined (sel (may (an 65535 f)) n)) (may (an 65535 f)).length 0 [] (by omega) (Nat.le_refl _) (by
          rw [List.nil_append, List.drop_zero, Nat.pow_zero, Nat.div_one]
          exact hj.2)
        refine Ev.step (fun k => ?_) h3
        rw [sandbox_Print.l1, if_neg (by omega), if_neg (by omega)]
        rfl
  · have hc := check_of f hf
    rw [if_neg h0] at hc
    refine .inl ⟨h0, Ev.congr (fun k => ?_) (Ev.now _)⟩
    show (sandbox_Check.f (f : Int)).bind _ = _
    rw [hc, Option.bind_some, if_neg (by decide)]
end Go.Proofs.YtlaiggkgflbjhaaDoor.Pure
