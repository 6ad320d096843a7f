/- Of the shortest sets of tokens that take off just what is off the first in order: what sandbox.Print finds by comparing all of them, and what a search in depth finds. -/
import Derived.Test.YtlaiggkgflbjhaaDoorPPrint
namespace Go.Proofs.YtlaiggkgflbjhaaDoor.Pure
open Go.RowKit Go.Proofs.YtlaiggkgflbjhaaDoor.X Go.Proofs.YtlaiggkgflbjhaaDoorW.PrintWords Go.Proofs.YtlaiggkgflbjhaaDoorW.PrintLast Go.Proofs.YtlaiggkgflbjhaaDoorW.PrintMore

/-! The lowest bit at which two sets part -/
def lb : Nat → Nat → Nat
  | 0, _ => 0
  | m + 1, x => if x % 2 = 1 then 1 else 2 * lb m (x / 2)
def lx : Nat → Nat → Nat → Bool
  | 0, _, _ => false
  | m + 1, a, b => if a % 2 = b % 2 then lx m (a / 2) (b / 2) else decide (a % 2 = 1)
theorem lb_lt : ∀ m x : Nat, lb m x < 2 ^ m
  | 0, _ => by rw [lb]; omega
  | m + 1, x => by
    have := lb_lt m (x / 2)
    rw [lb, Nat.pow_succ]
    split <;> omega
theorem and_even (a y : Nat) : a &&& (2 * y) = 2 * (a / 2 &&& y) := by
  have h1 : (a &&& (2 * y)) % 2 ≠ 1 := fun k => by
    have := (Nat.and_mod_two_eq_one.1 k).2
    omega
  have h2 : (a &&& (2 * y)) / 2 = a / 2 &&& y := by rw [Nat.and_div_two, show 2 * y / 2 = y by omega]
  omega
theorem lb_lx : ∀ m a b : Nat, decide (a &&& lb m (a ^^^ b) ≠ 0) = lx m a b
  | 0, a, b => by rw [lb, Nat.and_zero, lx]; rfl
  | m + 1, a, b => by
    have hx := @Nat.xor_mod_two_eq_one a b
    rw [lb, lx]
    by_cases h : a % 2 = b % 2
    · rw [if_neg (fun k => by have := hx.1 k; omega), if_pos h, and_even, Nat.xor_div_two, ← lb_lx m (a / 2) (b / 2)]
      by_cases h0 : a / 2 &&& lb m (a / 2 ^^^ b / 2) = 0
      · rw [h0]
      · rw [decide_eq_true h0, decide_eq_true (show 2 * (a / 2 &&& lb m (a / 2 ^^^ b / 2)) ≠ 0 by omega)]
    · rw [if_pos (hx.2 (by omega)), if_neg h, Nat.and_one_is_mod]
      by_cases h1 : a % 2 = 1
      · rw [decide_eq_true h1, decide_eq_true (by omega)]
      · rw [decide_eq_false h1, decide_eq_false (by omega)]
theorem lx_self : ∀ m a : Nat, lx m a a = false
  | 0, _ => rfl
  | m + 1, a => by rw [lx, if_pos rfl, lx_self m]
theorem lx_asymm : ∀ m a b : Nat, lx m a b = true → lx m b a = false
  | 0, _, _, h => by cases h
  | m + 1, a, b, h => by
    rw [lx] at h ⊢
    by_cases e : a % 2 = b % 2
    · rw [if_pos e] at h
      rw [if_pos e.symm]
      exact lx_asymm m _ _ h
    · rw [if_neg e] at h
      have := of_decide_eq_true h
      rw [if_neg (fun k => e k.symm), decide_eq_false (by omega)]
theorem lx_trans : ∀ m a b c : Nat, lx m a b = true → lx m b c = true → lx m a c = true
  | 0, _, _, _, h, _ => by cases h
  | m + 1, a, b, c, h, k => by
    rw [lx] at h k ⊢
    by_cases e : a % 2 = b % 2
    · rw [if_pos e] at h
      by_cases e2 : b % 2 = c % 2
      · rw [if_pos e2] at k
        rw [if_pos (e.trans e2)]
        exact lx_trans m _ _ _ h k
      · rw [if_neg e2] at k
        have := of_decide_eq_true k
        rw [if_neg (by omega), decide_eq_true (by omega)]
    · rw [if_neg e] at h
      have h1 := of_decide_eq_true h
      by_cases e2 : b % 2 = c % 2
      · rw [if_neg (by omega), decide_eq_true h1]
      · rw [if_neg e2] at k
        have h2 := of_decide_eq_true k
        omega
theorem lx_total : ∀ m a b : Nat, a < 2 ^ m → b < 2 ^ m → a ≠ b → lx m a b = true ∨ lx m b a = true
  | 0, a, b, ha, hb, hn => by rw [Nat.pow_zero] at ha hb; omega
  | m + 1, a, b, ha, hb, hn => by
    rw [Nat.pow_succ] at ha hb
    rw [lx, lx]
    by_cases e : a % 2 = b % 2
    · rw [if_pos e, if_pos e.symm]
      exact lx_total m _ _ (by omega) (by omega) (by omega)
    · rw [if_neg e, if_neg (fun k => e k.symm)]
      rcases Nat.mod_two_eq_zero_or_one a with h | h
      · exact .inr (decide_eq_true (by omega))
      · exact .inl (decide_eq_true h)
theorem lx_more : ∀ n m a b : Nat, n ≤ m → a < 2 ^ n → b < 2 ^ n → lx m a b = lx n a b
  | 0, m, a, b, _, ha, hb => by
    rw [Nat.pow_zero] at ha hb
    obtain rfl : a = 0 := by omega
    obtain rfl : b = 0 := by omega
    rw [lx_self, lx_self]
  | n + 1, 0, _, _, h, _, _ => absurd h (by omega)
  | n + 1, m + 1, a, b, h, ha, hb => by
    rw [Nat.pow_succ] at ha hb
    rw [lx, lx, lx_more n m _ _ (by omega) (by omega) (by omega)]

/-! better, whole -/
def lt (a n : Nat) : Bool := decide (pcn 14 a < pcn 14 n) || (decide (pcn 14 a = pcn 14 n) && lx 14 a n)
theorem low_bit {x : Nat} (hx : x < 16384) : Go.bits .and .i64 (x : Int) (wrap64 (-(x : Int))) = ((lb 14 x : Nat) : Int) := all14 (p := fun x => Go.bits .and .i64 (x : Int) (wrap64 (-(x : Int))) = ((lb 14 x : Nat) : Int)) (by decide +kernel) hx
theorem i64_and_nat (a b : Nat) (ha : a < 9223372036854775808) (hb : b < 9223372036854775808) : Go.bits .and .i64 (a : Int) (b : Int) = ((a &&& b : Nat) : Int) := by
  have hx : a &&& b < 2 ^ 63 := Nat.and_lt_two_pow _ (by omega)
  show IntKind.i64.wrap ((BitVec.ofInt 64 (a : Int) &&& BitVec.ofInt 64 (b : Int)).toNat : Int) = _
  rw [BitVec.toNat_and, ofInt_u64 a (by omega), ofInt_u64 b (by omega), i64_w]
  exact w64 (by omega) (by omega)
theorem i64_xor_nat (a b : Nat) (ha : a < 9223372036854775808) (hb : b < 9223372036854775808) : Go.bits .xor .i64 (a : Int) (b : Int) = ((a ^^^ b : Nat) : Int) := by
  have hx : a ^^^ b < 2 ^ 63 := Nat.xor_lt_two_pow (by omega) (by omega)
  show IntKind.i64.wrap ((BitVec.ofInt 64 (a : Int) ^^^ BitVec.ofInt 64 (b : Int)).toNat : Int) = _
  rw [BitVec.toNat_xor, ofInt_u64 a (by omega), ofInt_u64 b (by omega), i64_w]
  exact w64 (by omega) (by omega)
theorem better_lt {a n : Nat} (ha : a < 16384) (hn : n < 16384) : sandbox_better.f (a : Int) (n : Int) = some (lt a n) := by
  have ua : IntKind.u64.wrap (a : Int) = (a : Int) := by show (a : Int) % 18446744073709551616 = a; omega
  have un : IntKind.u64.wrap (n : Int) = (n : Int) := by show (n : Int) % 18446744073709551616 = n; omega
  have la := pcn_le 14 a
  have ln := pcn_le 14 n
  have hxl : a ^^^ n < 16384 := Nat.xor_lt_two_pow (n := 14) ha hn
  have hlb := lb_lt 14 (a ^^^ n)
  have hw : wrap64 (((pcn 14 a : Nat) : Int) - ((pcn 14 n : Nat) : Int)) = ((pcn 14 a : Nat) : Int) - ((pcn 14 n : Nat) : Int) := by unfold wrap64; omega
  rw [sandbox_better.f, ua, un, ones ha, ones hn, Option.bind_some, Option.bind_some, hw, i64_xor_nat a n (by omega) (by omega), low_bit hxl, i64_and_nat a _ (by omega) (by omega)]
  unfold lt
  by_cases h : ((pcn 14 a : Nat) : Int) - ((pcn 14 n : Nat) : Int) = 0
  · rw [if_pos h, decide_eq_false (show ¬ pcn 14 a < pcn 14 n by omega), decide_eq_true (show pcn 14 a = pcn 14 n by omega), Bool.false_or, Bool.true_and, ← lb_lx]
    congr 1
    by_cases h0 : a &&& lb 14 (a ^^^ n) = 0
    · rw [h0]; rfl
    · rw [decide_eq_true h0]
      exact bne_iff_ne.2 (by omega)
  · rw [if_neg h]
    by_cases h1 : pcn 14 a < pcn 14 n
    · rw [decide_eq_true h1, decide_eq_true (by omega)]
      rfl
    · rw [decide_eq_false h1, decide_eq_false (by omega), decide_eq_false (show ¬ pcn 14 a = pcn 14 n by omega)]
      rfl
theorem lt_trans' {a b c : Nat} (h : lt a b = true) (k : lt b c = true) : lt a c = true := by
  unfold lt at *
  simp only [Bool.or_eq_true, Bool.and_eq_true, decide_eq_true_eq] at *
  rcases h with h | ⟨h, h2⟩
  · rcases k with k | ⟨k, k2⟩
    · exact .inl (by omega)
    · exact .inl (by omega)
  · rcases k with k | ⟨k, k2⟩
    · exact .inl (by omega)
    · exact .inr ⟨by omega, lx_trans 14 _ _ _ h2 k2⟩
theorem lt_total' {a b : Nat} (ha : a < 16384) (hb : b < 16384) (hn : a ≠ b) : lt a b = true ∨ lt b a = true := by
  unfold lt
  simp only [Bool.or_eq_true, Bool.and_eq_true, decide_eq_true_eq]
  rcases Nat.lt_trichotomy (pcn 14 a) (pcn 14 b) with h | h | h
  · exact .inl (.inl h)
  · rcases lx_total 14 a b ha hb hn with k | k
    · exact .inl (.inr ⟨h, k⟩)
    · exact .inr (.inr ⟨h.symm, k⟩)
  · exact .inr (.inl h)

/-! The first of all -/
def First (off : Nat) (l : List STok) (s : Nat) (b : Int) : Prop := (b = -1 ∧ ∀ s', s' < s → orF (sel l s') 0 ≠ off) ∨ ∃ n : Nat, b = n ∧ n < s ∧ orF (sel l n) 0 = off ∧ ∀ s', s' < s → orF (sel l s') 0 = off → s' = n ∨ lt n s' = true
theorem first_l1 (off : Nat) (l : List STok) (hl : l.length ≤ 14) (hg : Good l) (P : Nat) (hP : P ≤ 16384) (d : Nat) : ∀ (s : Nat) (b : Int), s + d = P → First off l s b →
    ∃ b', First off l P b' ∧ ∀ R, Ev (fun k => sandbox_Print.l1 k (off : Int) l b' (P : Int) (P : Int)) R → Ev (fun k => sandbox_Print.l1 k (off : Int) l b (P : Int) (s : Int)) R := by
  induction d with
  | zero =>
    intro s b hs hb
    obtain rfl : s = P := by omega
    exact ⟨b, hb, fun R h => h⟩
  | succ d ih =>
    intro s b hs hb
    have hw : wrap64 ((s : Int) + 1) = ((s + 1 : Nat) : Int) := by unfold wrap64; omega
    have enter : ∀ R, Ev (fun k => if ((orF (sel l s) 0 : Nat) : Int) = (off : Int) then (if b < 0 then (sandbox_Print.l1 k (off : Int) l (s : Int) (P : Int) ((s + 1 : Nat) : Int)) else ((sandbox_better.f (s : Int) b).bind fun t112 => (if t112 = true then (sandbox_Print.l1 k (off : Int) l (s : Int) (P : Int) ((s + 1 : Nat) : Int)) else (sandbox_Print.l1 k (off : Int) l b (P : Int) ((s + 1 : Nat) : Int))))) else (sandbox_Print.l1 k (off : Int) l b (P : Int) ((s + 1 : Nat) : Int))) R → Ev (fun k => sandbox_Print.l1 k (off : Int) l b (P : Int) (s : Int)) R := fun R h => by
      refine Ev.step (f := fun k => sandbox_Print.l2 k (off : Int) l b (s : Int) ((0 : Nat) : Int) (P : Int) (s : Int) l (l.length : Int) ((0 : Nat) : Int)) (fun k => ?_) (print_l2 off l hl hg b _ _ s (by omega) R l.length 0 0 (by omega) (by omega) ?_)
      · rw [sandbox_Print.l1, if_pos (by omega)]
        rfl
      · rw [List.drop_zero, Nat.pow_zero, Nat.div_one, hw]
        exact h
    by_cases he : orF (sel l s) 0 = off
    · rcases hb with ⟨rfl, hn⟩ | ⟨n, rfl, hn, hv, hbest⟩
      · obtain ⟨b', h1, h2⟩ := ih (s + 1) (s : Int) (by omega) (.inr ⟨s, rfl, by omega, he, fun s' hs' hv' => by
          rcases Nat.lt_or_ge s' s with h1 | h1
          · exact absurd hv' (hn s' h1)
          · exact .inl (by omega)⟩)
        exact ⟨b', h1, fun R h => enter R (Ev.congr (fun k => if_pos (by rw [he])) (Ev.congr (fun k => if_pos (by omega)) (h2 R h)))⟩
      · have hbt := better_lt (show s < 16384 by omega) (show n < 16384 by omega)
        cases ht : lt s n
        · rw [ht] at hbt
          obtain ⟨b', h5, h6⟩ := ih (s + 1) (n : Int) (by omega) (.inr ⟨n, rfl, by omega, hv, fun s' hs' hv' => by
            rcases Nat.lt_or_ge s' s with h4 | h4
            · exact hbest s' h4 hv'
            · obtain rfl : s' = s := by omega
              rcases lt_total' (show s' < 16384 by omega) (show n < 16384 by omega) (by omega) with k | k
              · rw [ht] at k
                cases k
              · exact .inr k⟩)
          exact ⟨b', h5, fun R h => enter R (Ev.congr (fun k => if_pos (by rw [he])) (Ev.congr (fun k => if_neg (by omega)) (Ev.congr (fun k => by rw [hbt, Option.bind_some]; exact if_neg (by decide)) (h6 R h))))⟩
        · rw [ht] at hbt
          obtain ⟨b', h5, h6⟩ := ih (s + 1) (s : Int) (by omega) (.inr ⟨s, rfl, by omega, he, fun s' hs' hv' => by
            rcases Nat.lt_or_ge s' s with h4 | h4
            · rcases hbest s' h4 hv' with rfl | k
              · exact .inr ht
              · exact .inr (lt_trans' ht k)
            · exact .inl (by omega)⟩)
          exact ⟨b', h5, fun R h => enter R (Ev.congr (fun k => if_pos (by rw [he])) (Ev.congr (fun k => if_neg (by omega)) (Ev.congr (fun k => by rw [hbt, Option.bind_some]; exact if_pos rfl) (h6 R h))))⟩
    · obtain ⟨b', h5, h6⟩ := ih (s + 1) b (by omega) (by
        rcases hb with ⟨rfl, hn⟩ | ⟨n, rfl, hn, hv, hbest⟩
        · refine .inl ⟨rfl, fun s' hs' => ?_⟩
          rcases Nat.lt_or_ge s' s with h1 | h1
          · exact hn s' h1
          · obtain rfl : s' = s := by omega
            exact he
        · refine .inr ⟨n, rfl, by omega, hv, fun s' hs' hv' => ?_⟩
          rcases Nat.lt_or_ge s' s with h4 | h4
          · exact hbest s' h4 hv'
          · obtain rfl : s' = s := by omega
            exact absurd hv' he)
      exact ⟨b', h5, fun R h => enter R (Ev.congr (fun k => if_neg (by omega)) (h6 R h))⟩

/-! The search in depth -/
def fs (off : Nat) : Nat → List STok → Nat → Option Nat
  | 0, _, v => if v = off then some 0 else none
  | _ + 1, [], _ => none
  | n + 1, t :: l, v => match fs off n l (v ||| t.f1.toNat) with
    | some s => some (2 * s + 1)
    | none => (fs off (n + 1) l v).map (2 * ·)
theorem sel_zero : ∀ l : List STok, sel l 0 = []
  | [] => rfl
  | a :: t => by rw [sel, if_neg (by omega), Nat.zero_div, sel_zero t]
theorem pc_zero : ∀ m s : Nat, s < 2 ^ m → pcn m s = 0 → s = 0
  | 0, s, h, _ => by rw [Nat.pow_zero] at h; omega
  | m + 1, s, h, k => by
    rw [Nat.pow_succ] at h
    rw [pcn] at k
    have := pc_zero m (s / 2) (by omega) (by omega)
    omega
theorem fs_none (off : Nat) : ∀ (l : List STok) (n v : Nat), fs off n l v = none → ∀ s', s' < 2 ^ l.length → orF (sel l s') v = off → pcn l.length s' ≠ n := by
  intro l
  induction l with
  | nil =>
    intro n v h s' hs' hv hp
    cases n with
    | zero =>
      rw [fs] at h
      split at h
      · cases h
      · rename_i e
        exact e hv
    | succ n => cases hp
  | cons t l ih =>
    intro n v h s' hs' hv hp
    rw [List.length_cons, Nat.pow_succ] at hs'
    rw [List.length_cons] at hp
    cases n with
    | zero =>
      rw [fs] at h
      split at h
      · cases h
      · rename_i e
        obtain rfl := pc_zero _ s' (by rw [Nat.pow_succ]; exact hs') hp
        rw [sel_zero] at hv
        exact e hv
    | succ n =>
      rw [fs] at h
      cases h1 : fs off n l (v ||| t.f1.toNat) with
      | some r => rw [h1] at h; cases h
      | none =>
        rw [h1] at h
        have h2 := Option.map_eq_none_iff.1 h
        rw [pcn] at hp
        by_cases ho : s' % 2 = 1
        · rw [sel, if_pos ho] at hv
          exact ih n _ h1 (s' / 2) (by omega) hv (by omega)
        · rw [sel, if_neg ho] at hv
          exact ih (n + 1) v h2 (s' / 2) (by omega) hv (by omega)
theorem fs_some (off : Nat) : ∀ (l : List STok) (n v s : Nat), fs off n l v = some s → s < 2 ^ l.length ∧ orF (sel l s) v = off ∧ pcn l.length s = n ∧ ∀ s', s' < 2 ^ l.length → orF (sel l s') v = off → pcn l.length s' = n → s' = s ∨ lx l.length s s' = true := by
  intro l
  induction l with
  | nil =>
    intro n v s h
    cases n with
    | zero =>
      rw [fs] at h
      split at h
      · rename_i e
        obtain rfl := Option.some.inj h
        exact ⟨by decide, e, rfl, fun s' hs' _ _ => .inl (by rw [List.length_nil, Nat.pow_zero] at hs'; omega)⟩
      · cases h
    | succ n => cases h
  | cons t l ih =>
    intro n v s h
    rw [List.length_cons, Nat.pow_succ]
    cases n with
    | zero =>
      rw [fs] at h
      split at h
      · rename_i e
        obtain rfl := Option.some.inj h
        refine ⟨by have := Nat.two_pow_pos l.length; omega, by rw [sel_zero]; exact e, pcn_zero _, fun s' hs' _ hp => .inl ?_⟩
        exact pc_zero (l.length + 1) s' (by rw [Nat.pow_succ]; exact hs') hp
      · cases h
    | succ n =>
      rw [fs] at h
      cases h1 : fs off n l (v ||| t.f1.toNat) with
      | some r =>
        rw [h1] at h
        obtain rfl := Option.some.inj h
        obtain ⟨a1, a2, a3, a4⟩ := ih n _ r h1
        refine ⟨by omega, ?_, ?_, fun s' hs' hv hp => ?_⟩
        · rw [sel, if_pos (by omega), show (2 * r + 1) / 2 = r by omega]
          exact a2
        · rw [pcn, show (2 * r + 1) / 2 = r by omega, a3]
          omega
        · rw [lx, show (2 * r + 1) / 2 = r by omega]
          by_cases ho : s' % 2 = 1
          · rw [sel, if_pos ho] at hv
            rw [pcn, ho] at hp
            rcases a4 (s' / 2) (by omega) hv (by omega) with e | e
            · exact .inl (by omega)
            · rw [if_pos (by omega)]
              exact .inr e
          · rw [if_neg (by omega)]
            exact .inr (decide_eq_true (by omega))
      | none =>
        rw [h1] at h
        obtain ⟨r, h2, rfl⟩ := Option.map_eq_some_iff.1 h
        obtain ⟨a1, a2, a3, a4⟩ := ih (n + 1) v r h2
        have none' := fs_none off l n _ h1
        refine ⟨by omega, ?_, ?_, fun s' hs' hv hp => ?_⟩
        · rw [sel, if_neg (by omega), show 2 * r / 2 = r by omega]
          exact a2
        · rw [pcn, show 2 * r / 2 = r by omega, a3]
          omega
        · rw [lx, show 2 * r / 2 = r by omega]
          rw [pcn] at hp
          by_cases ho : s' % 2 = 1
          · rw [sel, if_pos ho] at hv
            exact absurd (by omega) (none' (s' / 2) (by omega) hv)
          · rw [sel, if_neg ho] at hv
            rcases a4 (s' / 2) (by omega) hv (by omega) with e | e
            · exact .inl (by omega)
            · rw [if_pos (by omega)]
              exact .inr e
/-- The first of all is what the search finds at its size, and at smaller sizes it finds none. -/
theorem fs_first (off : Nat) (l : List STok) (hl : l.length ≤ 14) (b : Nat) (hb : b < 2 ^ l.length) (hv : orF (sel l b) 0 = off) (hf : ∀ s', s' < 2 ^ l.length → orF (sel l s') 0 = off → s' = b ∨ lt b s' = true) :
    fs off (pcn 14 b) l 0 = some b ∧ ∀ n, n < pcn 14 b → fs off n l 0 = none := by
  have hpb := pcn_more _ 14 b hl hb
  constructor
  · cases h : fs off (pcn 14 b) l 0 with
    | none => exact absurd hpb.symm (fs_none off l _ 0 h b hb hv)
    | some s =>
      obtain ⟨h1, h2, h3, h4⟩ := fs_some off l _ 0 s h
      rcases hf s h1 h2 with e | e
      · rw [e]
      · rcases h4 b hb hv hpb.symm with e2 | e2
        · rw [e2]
        · unfold lt at e
          have hps := pcn_more _ 14 s hl h1
          rw [decide_eq_false (show ¬ pcn 14 b < pcn 14 s by omega), decide_eq_true (show pcn 14 b = pcn 14 s by omega), Bool.false_or, Bool.true_and, lx_more _ 14 b s hl hb h1] at e
          rw [lx_asymm _ _ _ e] at e2
          cases e2
  · intro n hn
    cases h : fs off n l 0 with
    | none => rfl
    | some s =>
      obtain ⟨h1, h2, h3, h4⟩ := fs_some off l _ 0 s h
      have hps := pcn_more _ 14 s hl h1
      rcases hf s h1 h2 with e | e
      · subst e
        omega
      · unfold lt at e
        simp only [Bool.or_eq_true, Bool.and_eq_true, decide_eq_true_eq] at e
        omega
end Go.Proofs.YtlaiggkgflbjhaaDoor.Pure
