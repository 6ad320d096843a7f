/- Check, Print, Join, Names, Opaque of any flags are the page's: the law SandboxPrints answers true. -/
import Derived.Test.YtlaiggkgflbjhaaDoorPFirst
import Derived.Test.YtlaiggkgflbjhaaDoorPRRows
import Derived.Test.YtlaiggkgflbjhaaDoorX16
namespace Go.Proofs.YtlaiggkgflbjhaaDoor.Pure
open Go.RowKit Go.Proofs.YtlaiggkgflbjhaaDoor.X Go.Proofs.YtlaiggkgflbjhaaDoorW.PrintWords Go.Proofs.YtlaiggkgflbjhaaDoorW.PrintLast Go.Proofs.YtlaiggkgflbjhaaDoorW.PrintMore

/-! Flags, sixteen of them -/
theorem an_or' (a b c : Nat) (ha : a < 4294967296) (hb : b < 4294967296) (hc : c < 4294967296) : an (an a b) c = an a (b ||| c) := an_or a b c ha hb hc
theorem bit16 (i : Nat) (f : Nat) (hf : f < 65536) (hi : ¬ i < 16) : f.testBit i = false := Nat.testBit_lt_two_pow (Nat.lt_of_lt_of_le (show f < 2 ^ 16 by omega) (Nat.pow_le_pow_right (by omega) (by omega)))
theorem bit65 (i : Nat) (hi : i < 16) : (65535 : Nat).testBit i = true := by
  have h : ∀ j : Fin 16, (65535 : Nat).testBit j.val = true := by decide +kernel
  exact h ⟨i, hi⟩
theorem an_an' (f : Nat) (hf : f ≤ 65535) : an 65535 (an 65535 f) = f := by
  have hle := an_le 65535 f
  apply Nat.eq_of_testBit_eq
  intro i
  rw [an_bit _ _ i (by omega) (by omega), an_bit _ _ i (by omega) (by omega)]
  by_cases hi : i < 16
  · rw [bit65 i hi]
    cases f.testBit i <;> rfl
  · rw [bit16 i f (by omega) hi, bit16 i 65535 (by omega) hi]
    rfl
theorem an_small_iff (f : Nat) (hf : f < 4294967296) : an f 65535 = 0 ↔ f ≤ 65535 := by
  constructor
  · intro h
    refine Classical.byContradiction fun hn => ?_
    obtain ⟨i, hi1, hi2⟩ := Nat.exists_ge_and_testBit_of_ge_two_pow (x := f) (n := 16) (by omega)
    have := an_bit f 65535 i hf (by omega)
    rw [h, Nat.zero_testBit, hi2, bit16 i 65535 (by omega) (by omega)] at this
    cases this
  · intro h
    apply Nat.eq_of_testBit_eq
    intro i
    rw [an_bit f 65535 i (by omega) (by omega), Nat.zero_testBit]
    by_cases hi : i < 16
    · rw [bit65 i hi]
      simp
    · rw [bit16 i f (by omega) hi]
      rfl

/-! The page's search -/
def pk (off : Nat) : Nat → List STok → Nat → Option (List STok)
  | 0, _, v => if v = off then some [] else none
  | _ + 1, [], _ => none
  | n + 1, t :: l, v => if mayB off t = true then (match pk off n l (v ||| t.f1.toNat) with
    | some r => some (t :: r)
    | none => pk off (n + 1) l v) else pk off (n + 1) l v
theorem pk_fs (off : Nat) : ∀ (l : List STok) (n v : Nat), pk off n l v = (fs off n (l.filter (mayB off)) v).map (sel (l.filter (mayB off))) := by
  intro l
  induction l with
  | nil =>
    intro n v
    cases n with
    | zero =>
      rw [pk, fs]
      split <;> rfl
    | succ n => rfl
  | cons t l ih =>
    intro n v
    cases n with
    | zero =>
      rw [pk, fs]
      split
      · rw [Option.map_some, sel_zero]
      · rfl
    | succ n =>
      rw [pk]
      by_cases hm : mayB off t = true
      · rw [if_pos hm, List.filter_cons_of_pos hm, fs, ih n, ih (n + 1)]
        cases h : fs off n (l.filter (mayB off)) (v ||| t.f1.toNat) with
        | some s =>
          rw [Option.map_some, Option.map_some, sel, if_pos (by omega), show (2 * s + 1) / 2 = s by omega]
        | none =>
          rw [Option.map_none]
          show (fs off (n + 1) (l.filter (mayB off)) v).map (sel (l.filter (mayB off))) = Option.map _ (Option.map _ _)
          rw [Option.map_map]
          congr 1
          funext s
          show _ = sel _ (2 * s)
          rw [sel, if_neg (by omega), show 2 * s / 2 = s by omega]
      · rw [if_neg hm, List.filter_cons_of_neg hm, ih (n + 1)]
def ans (r : Option (List STok)) : List ByteArray × Bool := match r with
  | some r => (r.map (·.f0), true)
  | none => ([], false)
theorem pk_len (off : Nat) : ∀ (l : List STok) (n v : Nat) (r : List STok), pk off n l v = some r → r.length ≤ l.length ∧ ∀ t ∈ r, t ∈ l := by
  intro l
  induction l with
  | nil =>
    intro n v r h
    cases n with
    | zero =>
      rw [pk] at h
      split at h
      · obtain rfl := Option.some.inj h
        exact ⟨Nat.le_refl _, fun t h => h⟩
      · cases h
    | succ n => cases h
  | cons t l ih =>
    intro n v r h
    cases n with
    | zero =>
      rw [pk] at h
      split at h
      · obtain rfl := Option.some.inj h
        exact ⟨Nat.zero_le _, fun t h => by cases h⟩
      · cases h
    | succ n =>
      rw [pk] at h
      have up : ∀ v, pk off (n + 1) l v = some r → r.length ≤ (t :: l).length ∧ ∀ x ∈ r, x ∈ t :: l := fun v h => by
        obtain ⟨h1, h2⟩ := ih (n + 1) v r h
        exact ⟨by rw [List.length_cons]; omega, fun x hx => List.mem_cons_of_mem t (h2 x hx)⟩
      split at h
      · cases h1 : pk off n l (v ||| t.f1.toNat) with
        | some q =>
          rw [h1] at h
          obtain rfl := Option.some.inj h
          obtain ⟨h3, h4⟩ := ih n _ q h1
          refine ⟨by rw [List.length_cons, List.length_cons]; omega, fun x hx => ?_⟩
          rcases List.mem_cons.1 hx with rfl | hx
          · simp
          · exact List.mem_cons_of_mem t (h4 x hx)
        | none =>
          rw [h1] at h
          exact up v h
      · exact up v h
theorem sub_mask (off F v t : Nat) (hF : F ≤ 65535) (ho : off = an 65535 F) (ht : t < 32768) (hv : v < 65536) (hvo : an v off = 0) :
    (an (an 65535 v) t &&& F = F ↔ an t off = 0) := by
  have hole := an_le 65535 F
  have hav := an_le 65535 v
  have e : ∀ i, (an (an 65535 v) t).testBit i = ((65535 : Nat).testBit i && !v.testBit i && !t.testBit i) := fun i => by
    rw [an_bit _ _ i (by omega) (by omega), an_bit _ _ i (by omega) (by omega)]
  have eo : ∀ i, off.testBit i = ((65535 : Nat).testBit i && !F.testBit i) := fun i => by rw [ho, an_bit _ _ i (by omega) (by omega)]
  have ev : ∀ i, v.testBit i = true → off.testBit i = true := fun i hi => by
    have := congrArg (fun x : Nat => x.testBit i) hvo
    rw [an_bit _ _ i (by omega) (by omega), hi, Nat.zero_testBit, Bool.true_and, Bool.not_eq_false'] at this
    exact this
  constructor
  · intro h
    apply Nat.eq_of_testBit_eq
    intro i
    rw [an_bit _ _ i (by omega) (by omega), Nat.zero_testBit, eo i]
    have hi := congrArg (fun x : Nat => x.testBit i) h
    rw [Nat.testBit_and, e i] at hi
    by_cases h16 : i < 16
    · rw [bit65 i h16] at hi ⊢
      revert hi
      cases t.testBit i <;> cases F.testBit i <;> cases v.testBit i <;> simp
    · rw [bit16 i t (by omega) h16]
      rfl
  · intro h
    apply Nat.eq_of_testBit_eq
    intro i
    rw [Nat.testBit_and, e i]
    have hi := congrArg (fun x : Nat => x.testBit i) h
    rw [an_bit _ _ i (by omega) (by omega), Nat.zero_testBit, eo i] at hi
    have hvi := ev i
    rw [eo i] at hvi
    by_cases h16 : i < 16
    · rw [bit65 i h16] at hi hvi ⊢
      revert hi hvi
      cases t.testBit i <;> cases F.testBit i <;> cases v.testBit i <;> simp
    · rw [bit16 i F (by omega) h16]
      simp
theorem or_sub (v t off : Nat) (hv : v < 65536) (ht : t < 65536) (ho : off < 65536) (h : an v off = 0) (k : an t off = 0) : an (v ||| t) off = 0 := by
  have hvt : v ||| t < 2 ^ 16 := Nat.or_lt_two_pow (by omega) (by omega)
  apply Nat.eq_of_testBit_eq
  intro i
  have h1 := congrArg (fun x : Nat => x.testBit i) h
  have h2 := congrArg (fun x : Nat => x.testBit i) k
  rw [an_bit _ _ i (by omega) (by omega), Nat.zero_testBit] at h1 h2
  rw [an_bit _ _ i (by omega) (by omega), Nat.zero_testBit, Nat.testBit_or]
  revert h1 h2
  cases v.testBit i <;> cases t.testBit i <;> cases off.testBit i <;> simp
theorem tok_at (i : Nat) (hi : i < 14) : (tokS.getD i zTok).f0 = tokName i ∧ (tokS.getD i zTok).f1 = tokOff i := by
  have h : ∀ j : Fin 14, (tokS.getD j.val zTok).f0 = tokName j.val ∧ (tokS.getD j.val zTok).f1 = tokOff j.val := by decide +kernel
  exact h ⟨i, hi⟩
theorem pick_all (F off : Nat) (hF : F ≤ 65535) (ho : off = an 65535 F) : ∀ (n : Nat), n ≤ 14 →
    (∀ (i v : Nat), i ≤ 14 → v < 65536 → an v off = 0 → Ev (fun k => pergolaref17_pick.f k ((an 65535 v : Nat) : Int) (F : Int) (i : Int) (n : Int)) (ans (pk off n (tokS.drop i) v))) := by
  have hole := an_le 65535 F
  intro n
  induction n with
  | zero =>
    intro _ i v hi hv hvo
    have hav := an_le 65535 v
    refine Ev.step (f := fun _ => some (([] : List ByteArray), (((an 65535 v : Nat) : Int) == (F : Int)))) (fun k => ?_) ?_
    · rw [pergolaref17_pick.f, if_pos (by omega)]
    · have e : (([] : List ByteArray), (((an 65535 v : Nat) : Int) == (F : Int))) = ans (pk off 0 (tokS.drop i) v) := by
        rw [pk]
        by_cases h : v = off
        · rw [if_pos h, h, ho, an_an' F hF]
          exact congrArg (fun b => (([] : List ByteArray), b)) (beq_iff_eq.2 rfl)
        · rw [if_neg h]
          refine congrArg (fun b => (([] : List ByteArray), b)) (beq_eq_false_iff_ne.2 fun k => h ?_)
          have k2 : an 65535 v = F := by omega
          rw [ho, ← k2, an_an' v (by omega)]
      rw [e]
      exact Ev.now _
  | succ n ihn =>
    intro hn14
    have loop : ∀ (d i v : Nat), i + d = 14 → v < 65536 → an v off = 0 → Ev (fun k => pergolaref17_pick.l0 k ((an 65535 v : Nat) : Int) (F : Int) ((n + 1 : Nat) : Int) rowsS (i : Int)) (ans (pk off (n + 1) (tokS.drop i) v)) := by
      intro d
      induction d with
      | zero =>
        intro i v hi hv hvo
        rw [List.drop_of_length_le (by rw [tokS_len]; omega)]
        refine Ev.step (f := fun _ => some (([] : List ByteArray), false)) (fun k => ?_) (Ev.now _)
        rw [pergolaref17_pick.l0, if_neg (by rw [rows_len]; omega)]
      | succ d ihd =>
        intro i v hi hv hvo
        have hw : wrap64 ((i : Int) + 1) = ((i + 1 : Nat) : Int) := by unfold wrap64; omega
        have hw2 : wrap64 (((n + 1 : Nat) : Int) - 1) = (n : Int) := by unfold wrap64; omega
        have hav := an_le 65535 v
        have hto := tokOff_ok i
        have hoff := off_f i (an 65535 v) (by omega) (by omega)
        have hg := an_le (an 65535 v) (tokOff i).toNat
        have hmask := sub_mask off F v (tokOff i).toNat hF ho (by omega) hv hvo
        obtain ⟨hn0, hn1⟩ := tok_at i (by omega)
        have hrest := ihd (i + 1) v (by omega) hv hvo
        rw [drop_at zTok (show i < tokS.length by rw [tokS_len]; omega), pk, show mayB off (tokS.getD i zTok) = decide (an (tokOff i).toNat off = 0) by unfold mayB; rw [hn1], hn1]
        refine Ev.step (f := fun k => (pergolaref17_off.f k ((an 65535 v : Nat) : Int) ((rd_T93 rowsS (i : Int)).f0) ((rd_T93 rowsS (i : Int)).f1)).bind fun t310 => (if (Go.bits .and .u32 t310 (F : Int)) = (F : Int) then ((pergolaref17_pick.f k t310 (F : Int) ((i + 1 : Nat) : Int) (n : Int)).bind fun bt311 => (if bt311.2 = true then ((some (([(rd_T93 rowsS (i : Int)).f0] : List ByteArray) : List ByteArray)).bind fun y316 => (if y316.length + bt311.1.length < 8796093022208 then (some ((y316 ++ bt311.1), true)) else (none))) else (pergolaref17_pick.l0 k ((an 65535 v : Nat) : Int) (F : Int) ((n + 1 : Nat) : Int) rowsS ((i + 1 : Nat) : Int)))) else (pergolaref17_pick.l0 k ((an 65535 v : Nat) : Int) (F : Int) ((n + 1 : Nat) : Int) rowsS ((i + 1 : Nat) : Int)))) (fun k => ?_) (Ev.bind hoff ?_)
        · rw [pergolaref17_pick.l0, if_pos (by rw [rows_len]; omega), if_pos (by omega), hw, hw2]
        · rw [u32_and_nat _ F (by omega) (by omega)]
          by_cases hm : an (tokOff i).toNat off = 0
          · rw [decide_eq_true hm, if_pos rfl]
            refine Ev.congr (fun k => if_pos (by rw [hmask.2 hm])) ?_
            have hvt : v ||| (tokOff i).toNat < 2 ^ 16 := Nat.or_lt_two_pow (by omega) (by omega)
            have hin := ihn (by omega) (i + 1) (v ||| (tokOff i).toNat) (by omega) (by omega) (or_sub v _ off hv (by omega) (by omega) hvo hm)
            rw [← an_or' 65535 v _ (by omega) (by omega) (by omega)] at hin
            refine Ev.bind hin ?_
            cases hp : pk off n (tokS.drop (i + 1)) (v ||| (tokOff i).toNat) with
            | none => exact Ev.congr (fun k => if_neg (by decide)) hrest
            | some r =>
              have hl := (pk_len off _ n _ r hp).1
              rw [List.length_drop, tokS_len] at hl
              refine Ev.congr (f := fun _ => some (ans (some (tokS.getD i zTok :: r)))) (fun k => ?_) (Ev.now _)
              show (if true = true then _ else _) = _
              rw [if_pos rfl, Option.bind_some, if_pos (by rw [List.length_singleton]; show 1 + (r.map _).length < _; rw [List.length_map]; omega), rows_name i (by omega), ← hn0]
              rfl
          · rw [decide_eq_false hm, if_neg (by decide)]
            exact Ev.congr (fun k => if_neg (fun k => hm (hmask.1 (by omega)))) hrest
    intro i v hi hv hvo
    refine Ev.step (fun k => ?_) (loop (14 - i) i v (by omega) hv hvo)
    rw [pergolaref17_pick.f, if_neg (by omega), rows_f, Option.bind_some]

/-! The page's text -/
def jt (acc : ByteArray) (l : List ByteArray) : ByteArray := l.foldl (fun a x => (a ++ (⟨#[32]⟩ : ByteArray)) ++ x) acc
theorem jt_data (l : List ByteArray) : ∀ acc : ByteArray, (jt acc l).data.toList = acc.data.toList ++ Lib.joinTail [32] (l.map (·.data.toList)) := by
  induction l with
  | nil => intro acc; show acc.data.toList = acc.data.toList ++ []; rw [List.append_nil]
  | cons x t ih =>
    intro acc
    show (jt ((acc ++ (⟨#[32]⟩ : ByteArray)) ++ x) t).data.toList = _
    rw [ih, ByteArray.data_append, ByteArray.data_append]
    unfold Lib.joinTail
    simp
theorem rprint_l1 (l : List ByteArray) (hl : l.length ≤ 14) (hs : ∀ x ∈ l, x.size ≤ 100) (d : Nat) : ∀ (i : Nat) (acc : ByteArray), i + d = l.length → 1 ≤ i → acc.size ≤ 101 * i →
    Ev (fun k => pergolaref17_Print.l1 k l acc (i : Int)) (jt acc (l.drop i), 0) := by
  induction d with
  | zero =>
    intro i acc hi h1 ha
    rw [List.drop_of_length_le (by omega)]
    refine Ev.step (f := fun _ => some (acc, 0)) (fun k => ?_) (Ev.now _)
    rw [pergolaref17_Print.l1, if_neg (by omega)]
  | succ d ih =>
    intro i acc hi h1 ha
    have hw : wrap64 ((i : Int) + 1) = ((i + 1 : Nat) : Int) := by unfold wrap64; omega
    have hil : i < l.length := by omega
    have hx : rdOf ByteArray.empty l (i : Int) = l.getD i ByteArray.empty := by unfold rdOf; rw [Int.toNat_natCast]
    have hm : l.getD i ByteArray.empty ∈ l := by
      rw [List.getD_eq_getElem?_getD, List.getElem?_eq_getElem hil]
      exact List.getElem_mem hil
    have hsx := hs _ hm
    have e1 : (acc ++ (⟨#[32]⟩ : ByteArray)).size = acc.size + 1 := by rw [ByteArray.size_append]; rfl
    rw [drop_at ByteArray.empty hil]
    refine Ev.step (fun k => ?_) (ih (i + 1) ((acc ++ (⟨#[32]⟩ : ByteArray)) ++ l.getD i ByteArray.empty) (by omega) (by omega) (by rw [ByteArray.size_append, e1]; omega))
    rw [pergolaref17_Print.l1, if_pos (by omega), if_pos (by omega), if_pos (by omega), if_pos (by omega), hx, if_pos (by rw [e1]; omega), hw]
theorem rprint_text (l : List STok) (hl : l.length ≤ 14) (hm : ∀ t ∈ l, t ∈ tokS) : Ev (fun k => pergolaref17_Print.l1 k (l.map (·.f0)) (⟨#[]⟩ : ByteArray) 0) (joined l, 0) := by
  have hsz : ∀ x ∈ l.map (·.f0), x.size ≤ 100 := fun x hx => by
    obtain ⟨t, ht, rfl⟩ := List.mem_map.1 hx
    have := tok_short t (hm t ht)
    rw [Lib.size_eq]
    exact this
  cases l with
  | nil =>
    refine Ev.step (f := fun _ => some ((⟨#[]⟩ : ByteArray), 0)) (fun k => ?_) (Ev.now _)
    rw [pergolaref17_Print.l1, if_neg (by simp)]
  | cons t r =>
    have e : joined (t :: r) = jt ((⟨#[]⟩ : ByteArray) ++ t.f0) (r.map (·.f0)) := by
      apply data_inj
      rw [jt_data, ByteArray.data_append]
      unfold joined strings_Join.text
      rw [List.map_cons, List.map_cons, Lib.join_cons]
      simp [sp1]
    have hs0 := hsz t.f0 (by simp)
    have e0 : ((⟨#[]⟩ : ByteArray) ++ t.f0).size = t.f0.size := by rw [ByteArray.size_append]; show 0 + t.f0.size = t.f0.size; omega
    rw [List.length_cons] at hl
    have h := rprint_l1 ((t :: r).map (·.f0)) (by rw [List.length_map, List.length_cons]; omega) hsz r.length 1 ((⟨#[]⟩ : ByteArray) ++ t.f0) (by rw [List.length_map, List.length_cons]; omega) (Nat.le_refl _) (by rw [e0]; omega)
    rw [e]
    refine Ev.step (fun k => ?_) h
    rw [pergolaref17_Print.l1, if_pos (by rw [List.length_map, List.length_cons]; omega), if_neg (by omega), if_pos (by omega)]
    show (if (⟨#[]⟩ : ByteArray).size + t.f0.size ≤ 9223372036854775807 then _ else _) = _
    rw [if_pos (by show 0 + t.f0.size ≤ _; omega), show wrap64 (0 + 1) = ((1 : Nat) : Int) by decide +kernel]
    rfl

/-! The page's Print -/
theorem rprint_f (F : Nat) (hF : F ≤ 65535) (R : ByteArray × Int)
    (h : (∃ n r, n ≤ 14 ∧ pk (an 65535 F) n tokS 0 = some r ∧ (∀ m, m < n → pk (an 65535 F) m tokS 0 = none) ∧ R = (joined r, 0)) ∨ ((∀ m, m ≤ 14 → pk (an 65535 F) m tokS 0 = none) ∧ R = ((⟨#[]⟩ : ByteArray), 1))) :
    Ev (fun k => pergolaref17_Print.f k (F : Int)) R := by
  have hole := an_le 65535 F
  have z : an 65535 0 = 65535 := by decide +kernel
  have pick : ∀ n : Nat, n ≤ 14 → Ev (fun k => pergolaref17_pick.f k 65535 (F : Int) 0 (n : Int)) (ans (pk (an 65535 F) n tokS 0)) := fun n hn => by
    have := pick_all F _ hF rfl n hn 0 0 (by omega) (by omega) (by
      show 0 &&& _ = 0
      exact Nat.zero_and _)
    rw [z, List.drop_zero] at this
    exact this
  have main : ∀ (d n : Nat), n + d = 15 → (∀ m, m < n → pk (an 65535 F) m tokS 0 = none) → Ev (fun k => pergolaref17_Print.l0 k (F : Int) (n : Int)) R := by
    intro d
    induction d with
    | zero =>
      intro n hn hnone
      rcases h with ⟨q, r, hq, hr, _, _⟩ | ⟨_, rfl⟩
      · rw [hnone q (by omega)] at hr
        cases hr
      · refine Ev.step (f := fun _ => some ((⟨#[]⟩ : ByteArray), 1)) (fun k => ?_) (Ev.now _)
        rw [pergolaref17_Print.l0, rows_f, Option.bind_some, if_neg (by rw [rows_len]; omega)]
    | succ d ih =>
      intro n hn hnone
      have hw : wrap64 ((n : Int) + 1) = ((n + 1 : Nat) : Int) := by unfold wrap64; omega
      refine Ev.step (f := fun k => (pergolaref17_pick.f k 65535 (F : Int) 0 (n : Int)).bind fun bt326 => (if bt326.2 = true then (pergolaref17_Print.l1 k bt326.1 (⟨#[]⟩ : ByteArray) 0) else (pergolaref17_Print.l0 k (F : Int) ((n + 1 : Nat) : Int)))) (fun k => ?_) (Ev.bind (pick n (by omega)) ?_)
      · rw [pergolaref17_Print.l0, rows_f, Option.bind_some, if_pos (by rw [rows_len]; omega), hw]
      · cases hp : pk (an 65535 F) n tokS 0 with
        | none =>
          refine Ev.congr (fun k => if_neg (by decide)) (ih (n + 1) (by omega) fun m hm => ?_)
          rcases Nat.lt_or_ge m n with e | e
          · exact hnone m e
          · rw [show m = n by omega]
            exact hp
        | some r =>
          have hl := pk_len _ _ n _ r hp
          rw [tokS_len] at hl
          rcases h with ⟨q, r2, hq, hr, hless, rfl⟩ | ⟨hno, _⟩
          · have : q = n := by
              rcases Nat.lt_trichotomy q n with e | e | e
              · rw [hnone q e] at hr
                cases hr
              · exact e
              · rw [hless n e] at hp
                cases hp
            subst this
            rw [hp] at hr
            obtain rfl := Option.some.inj hr
            exact Ev.congr (fun k => if_pos rfl) (rprint_text r hl.1 hl.2)
          · rw [hno n (by omega)] at hp
            cases hp
  refine Ev.congr (fun k => ?_) (main 15 0 (by omega) (fun m hm => by omega))
  rw [pergolaref17_Print.f, pergolaref17_Check.f, if_neg (by omega), Option.bind_some, if_pos rfl]
  rfl
theorem both_print (f : Nat) (hf : f < 4294967296) : ∃ R, Ev (fun k => sandbox_Print.f k (f : Int)) R ∧ Ev (fun k => pergolaref17_Print.f k (f : Int)) R := by
  by_cases h0 : f ≤ 65535
  · have hc := check_of f hf
    rw [if_pos ((an_small_iff f hf).2 h0)] at hc
    have hoff := an_le 65535 f
    have h65 : Go.bits .andNot .u32 65535 (f : Int) = ((an 65535 f : Nat) : Int) := an_u32 65535 f (by omega) hf
    have hml := may_len (an 65535 f)
    have hg := may_good (an 65535 f)
    have hP : 2 ^ (may (an 65535 f)).length ≤ 16384 := Nat.pow_le_pow_right (n := 2) (by omega) hml
    have start : ∀ R, Ev (fun k => sandbox_Print.l1 k ((an 65535 f : Nat) : Int) (may (an 65535 f)) (-1) ((2 ^ (may (an 65535 f)).length : Nat) : Int) ((0 : Nat) : Int)) R → Ev (fun k => sandbox_Print.f k (f : Int)) R := fun R hR => by
      have h1 : Ev (fun k => sandbox_Print.l0 k ((an 65535 f : Nat) : Int) [] tokS ((0 : Nat) : Int)) R := print_l0 (an 65535 f) (by omega) R 14 0 [] (by omega) (Nat.le_refl _) (by
        rw [List.nil_append, List.drop_zero]
        show Ev (fun k => sandbox_Print.l1 k ((an 65535 f : Nat) : Int) (may (an 65535 f)) (-1) (shl .i64 1 ((may (an 65535 f)).length : Int)) 0) R
        rw [shl_one _ hml]
        exact hR)
      refine Ev.congr (fun k => ?_) h1
      show (sandbox_Check.f (f : Int)).bind _ = _
      rw [hc, Option.bind_some, if_pos rfl, h65]
      rfl
    obtain ⟨b, hb, hgo⟩ := first_l1 (an 65535 f) (may (an 65535 f)) hml hg _ hP _ 0 (-1) (Nat.zero_add _) (.inl ⟨rfl, fun s' hs' => by omega⟩)
    rcases hb with ⟨rfl, hn⟩ | ⟨n, rfl, hn, hv, hbest⟩
    · refine ⟨((⟨#[]⟩ : ByteArray), 1), start _ (hgo _ ?_), rprint_f f h0 _ (.inr ⟨fun m hm => ?_, rfl⟩)⟩
      · refine Ev.step (f := fun _ => some ((⟨#[]⟩ : ByteArray), 1)) (fun k => ?_) (Ev.now _)
        rw [sandbox_Print.l1, if_neg (by omega), if_pos (by omega)]
      · rw [pk_fs]
        cases h : fs (an 65535 f) m (tokS.filter (mayB (an 65535 f))) 0 with
        | none => rfl
        | some s =>
          obtain ⟨h1, h2, _, _⟩ := fs_some _ _ _ _ _ h
          exact absurd h2 (hn s h1)
    · obtain ⟨h1, h2⟩ := fs_first (an 65535 f) (may (an 65535 f)) hml n hn hv hbest
      refine ⟨(joined (sel (may (an 65535 f)) n), 0), start _ (hgo _ ?_), rprint_f f h0 _ (.inl ⟨pcn 14 n, sel (may (an 65535 f)) n, pcn_le 14 n, ?_, fun m hm => ?_, rfl⟩)⟩
      · have hj := join_ok (sel (may (an 65535 f)) n) (by rw [sel_len]; exact Nat.le_trans (pcn_le _ _) hml) (fun t ht => (List.mem_filter.1 (sel_mem _ n t ht)).1)
        have h3 := print_l3 (may (an 65535 f)) hml n (by omega) (joined (sel (may (an 65535 f)) n)) (may (an 65535 f)).length 0 [] (by omega) (Nat.le_refl _) (by
          rw [List.nil_append, List.drop_zero, Nat.pow_zero, Nat.div_one]
          exact hj.2)
        refine Ev.step (fun k => ?_) h3
        rw [sandbox_Print.l1, if_neg (by omega), if_neg (by omega)]
        rfl
      · rw [pk_fs]
        show (fs (an 65535 f) (pcn 14 n) (may (an 65535 f)) 0).map _ = _
        rw [h1]
        rfl
      · rw [pk_fs]
        show (fs (an 65535 f) m (may (an 65535 f)) 0).map _ = _
        rw [h2 m hm]
        rfl
  · have hc := check_of f hf
    rw [if_neg (fun k => h0 ((an_small_iff f hf).1 k))] at hc
    refine ⟨((⟨#[]⟩ : ByteArray), 171), Ev.congr (fun k => ?_) (Ev.now _), Ev.congr (fun k => ?_) (Ev.now _)⟩
    · show (sandbox_Check.f (f : Int)).bind _ = _
      rw [hc, Option.bind_some, if_neg (by decide)]
    · rw [pergolaref17_Print.f, pergolaref17_Check.f, if_pos (by omega), Option.bind_some, if_neg (by decide)]

/-! Names -/
theorem both_names (f : Nat) (hf : f < 4294967296) : ∃ R : List ByteArray × Int, R.1.length ≤ 16 ∧ Ev (fun k => sandbox_Names.f k (f : Int)) R ∧ Ev (fun k => pergolaref17_Names.f k (f : Int)) R := by
  by_cases h0 : f ≤ 65535
  · have hc := check_of f hf
    rw [if_pos ((an_small_iff f hf).2 h0)] at hc
    have key : ∀ (d i : Nat) (acc : List ByteArray), i + d = 16 → acc.length ≤ i → ∃ R : List ByteArray × Int, R.1.length ≤ 16 ∧ Ev (fun k => sandbox_Names.l0 k (f : Int) acc flgTab (i : Int)) R ∧ Ev (fun k => pergolaref17_Names.l0 k (f : Int) acc (i : Int)) R := by
      intro d
      induction d with
      | zero =>
        intro i acc hi ha
        refine ⟨(acc, 0), by show acc.length ≤ 16; omega, Ev.step (f := fun _ => some (acc, 0)) (fun k => ?_) (Ev.now _), Ev.step (f := fun _ => some (acc, 0)) (fun k => ?_) (Ev.now _)⟩
        · rw [sandbox_Names.l0, if_neg (by omega)]
        · rw [pergolaref17_Names.l0, if_neg (by omega)]
      | succ d ih =>
        intro i acc hi ha
        have hw : wrap64 ((i : Int) + 1) = ((i + 1 : Nat) : Int) := by unfold wrap64; omega
        have ui : IntKind.u64.wrap (i : Int) = (i : Int) := by show (i : Int) % 18446744073709551616 = i; omega
        have hname : ∀ j : Fin 16, pergolaref17_Name.f (j.val : Int) = some (rdOf ByteArray.empty flgTab (j.val : Int)) := by decide +kernel
        have hnm := hname ⟨i, by omega⟩
        simp only [] at hnm
        have hfl : (flgTab.length : Int) = 16 := by decide +kernel
        by_cases hb : Go.bits .and .u32 (shr .u32 (f : Int) (i : Int)) 1 = 1
        · obtain ⟨R, h1, h2, h3⟩ := ih (i + 1) (acc ++ [rdOf ByteArray.empty flgTab (i : Int)]) (by omega) (by rw [List.length_append, List.length_singleton]; omega)
          refine ⟨R, h1, Ev.step (fun k => ?_) h2, Ev.step (fun k => ?_) h3⟩
          · rw [sandbox_Names.l0, if_pos (by omega), if_pos (by omega), if_pos (by rw [hfl]; omega), if_pos hb, if_pos (by omega), hw]
          · rw [pergolaref17_Names.l0, if_pos (by omega), ui, if_pos (by omega), if_pos hb, hnm, Option.bind_some, if_pos (by omega), hw]
        · obtain ⟨R, h1, h2, h3⟩ := ih (i + 1) acc (by omega) (by omega)
          refine ⟨R, h1, Ev.step (fun k => ?_) h2, Ev.step (fun k => ?_) h3⟩
          · rw [sandbox_Names.l0, if_pos (by omega), if_pos (by omega), if_pos (by rw [hfl]; omega), if_neg hb, hw]
          · rw [pergolaref17_Names.l0, if_pos (by omega), ui, if_pos (by omega), if_neg hb, hw]
    obtain ⟨R, h1, h2, h3⟩ := key 16 0 [] (by omega) (Nat.le_refl _)
    refine ⟨R, h1, Ev.congr (fun k => ?_) h2, Ev.congr (fun k => ?_) h3⟩
    · rw [sandbox_Names.f, hc, Option.bind_some, if_pos rfl]
      rfl
    · rw [pergolaref17_Names.f, pergolaref17_Check.f, if_neg (by omega), Option.bind_some, if_pos rfl]
      rfl
  · have hc := check_of f hf
    rw [if_neg (fun k => h0 ((an_small_iff f hf).1 k))] at hc
    refine ⟨([], 171), Nat.zero_le _, Ev.congr (fun k => ?_) (Ev.now _), Ev.congr (fun k => ?_) (Ev.now _)⟩
    · rw [sandbox_Names.f, hc, Option.bind_some, if_neg (by decide)]
    · rw [pergolaref17_Names.f, pergolaref17_Check.f, if_pos (by omega), Option.bind_some, if_neg (by decide)]

/-! Join, Check, Opaque -/
theorem or_small (a b : Nat) : a ||| b ≤ 65535 ↔ a ≤ 65535 ∧ b ≤ 65535 := by
  constructor
  · intro h
    have h1 : a ≤ a ||| b := Nat.left_le_or
    have h2 : b ≤ a ||| b := Nat.right_le_or
    omega
  · rintro ⟨h1, h2⟩
    have : a ||| b < 2 ^ 16 := Nat.or_lt_two_pow (by omega) (by omega)
    omega
theorem both_join (a b : Nat) (ha : a < 4294967296) (hb : b < 4294967296) : ∃ R, sandbox_Join.f (a : Int) (b : Int) = some R ∧ pergolaref17_Join.f (a : Int) (b : Int) = some R := by
  have hab := u32_or a b ha hb
  have hc := check_of (a ||| b) hab
  rw [sandbox_Join.f, pergolaref17_Join.f, pergolaref17_Check.f, pergolaref17_Check.f, u32_or_nat a b ha hb, hc]
  by_cases h : a ||| b ≤ 65535
  · obtain ⟨h1, h2⟩ := (or_small a b).1 h
    rw [if_pos ((an_small_iff _ hab).2 h), if_neg (by omega), if_neg (by omega)]
    exact ⟨_, rfl, rfl⟩
  · rw [if_neg (fun k => h ((an_small_iff _ hab).1 k))]
    refine ⟨(0, 171), rfl, ?_⟩
    by_cases h1 : a ≤ 65535
    · have h2 : ¬ b ≤ 65535 := fun k => h ((or_small a b).2 ⟨h1, k⟩)
      rw [if_neg (by omega), if_pos (by omega)]
      rfl
    · rw [if_pos (by omega)]
      rfl
theorem both_check (a : Nat) (ha : a < 4294967296) : ∃ R, sandbox_Check.f (a : Int) = some R ∧ pergolaref17_Check.f (a : Int) = some R := by
  rw [check_of a ha, pergolaref17_Check.f]
  by_cases h : a ≤ 65535
  · rw [if_pos ((an_small_iff a ha).2 h), if_neg (by omega)]
    exact ⟨_, rfl, rfl⟩
  · rw [if_neg (fun k => h ((an_small_iff a ha).1 k)), if_pos (by omega)]
    exact ⟨_, rfl, rfl⟩
theorem both_opaque (a : Nat) (ha : a < 4294967296) : ∃ R, sandbox_Opaque.f (a : Int) = some R ∧ pergolaref17_Opaque.f (a : Int) = some R := by
  have h1 : Go.bits .and .u32 (a : Int) 128 = ((a &&& 128 : Nat) : Int) := u32_and_nat a 128 ha (by omega)
  have h2 : Go.bits .and .u32 ((a : Int) / 128) 1 = ((a / 128 &&& 1 : Nat) : Int) := by
    rw [show ((a : Int) / 128) = ((a / 128 : Nat) : Int) by omega]
    exact u32_and_nat (a / 128) 1 (by omega) (by omega)
  rw [sandbox_Opaque.f, pergolaref17_Opaque.f, h1, h2, Nat.and_one_is_mod]
  refine ⟨_, rfl, congrArg some ?_⟩
  have h3 : a &&& 128 = if a / 128 % 2 = 1 then 128 else 0 := by
    rw [show (128 : Nat) = 2 * (2 * (2 * (2 * (2 * (2 * (2 * 1)))))) by decide, and_even, and_even, and_even, and_even, and_even, and_even, and_even, Nat.and_one_is_mod]
    split <;> omega
  rw [h3]
  by_cases h : a / 128 % 2 = 1
  · rw [if_pos h, h]
    rfl
  · rw [if_neg h, show a / 128 % 2 = 0 by omega]
    rfl
theorem SandboxPrints : pergolalaw17_SandboxPrints.Pure := by
  intro a0 b0 ha hb
  have ha1 : 0 ≤ a0 ∧ a0 ≤ 4294967295 := by simpa [Lit.wf, IntKind.min, IntKind.max, IntKind.signed, IntKind.bits] using ha
  have hb1 : 0 ≤ b0 ∧ b0 ≤ 4294967295 := by simpa [Lit.wf, IntKind.min, IntKind.max, IntKind.signed, IntKind.bits] using hb
  obtain ⟨a, rfl⟩ := Int.eq_ofNat_of_zero_le ha1.1
  obtain ⟨b, rfl⟩ := Int.eq_ofNat_of_zero_le hb1.1
  obtain ⟨⟨P1, P2⟩, p1, p2⟩ := both_print a (by omega)
  obtain ⟨⟨J1, J2⟩, j1, j2⟩ := both_join a b (by omega) (by omega)
  obtain ⟨⟨N1, N2⟩, n0, n1, n2⟩ := both_names a (by omega)
  obtain ⟨C, c1, c2⟩ := both_check a (by omega)
  obtain ⟨O, o1, o2⟩ := both_opaque a (by omega)
  have nm : ∀ x, pergolalaw17_num.f x = some x := fun x => rfl
  obtain ⟨K1, q1⟩ := p1
  obtain ⟨K2, q2⟩ := p2
  obtain ⟨K3, q3⟩ := n1
  obtain ⟨K4, q4⟩ := n2
  obtain ⟨K5, q5⟩ := sames_f N1 (by have : N1.length ≤ 16 := n0; omega)
  obtain ⟨K6, q6⟩ := sand_alive
  replace q1 : ∀ k, K1 ≤ k → sandbox_Print.f k (a : Int) = some (P1, P2) := q1
  replace q2 : ∀ k, K2 ≤ k → pergolaref17_Print.f k (a : Int) = some (P1, P2) := q2
  replace q3 : ∀ k, K3 ≤ k → sandbox_Names.f k (a : Int) = some (N1, N2) := q3
  replace q4 : ∀ k, K4 ≤ k → pergolaref17_Names.f k (a : Int) = some (N1, N2) := q4
  replace q5 : ∀ k, K5 ≤ k → pergolaplain_SameStrings.f k N1 N1 = some true := q5
  replace q6 : ∀ k, K6 ≤ k → pergolalaw17_alive.f k = some true := q6
  refine ⟨K1 + K2 + K3 + K4 + K5 + K6, ?_⟩
  rw [pergolalaw17_SandboxPrints.f, q1 _ (by omega), Option.bind_some, q2 _ (by omega), Option.bind_some, j1, Option.bind_some, j2, Option.bind_some, q3 _ (by omega), Option.bind_some, q4 _ (by omega), Option.bind_some, c1, Option.bind_some, nm, Option.bind_some, c2, Option.bind_some, if_pos rfl, if_pos rfl, nm, Option.bind_some, if_pos rfl, if_pos rfl, nm, Option.bind_some, if_pos rfl, q5 _ (by omega), Option.bind_some, if_pos rfl, nm, Option.bind_some, if_pos rfl, o1, Option.bind_some, o2, Option.bind_some, if_pos (beq_self_eq_true O), q6 _ (by omega), Option.bind_some]
end Go.Proofs.YtlaiggkgflbjhaaDoor.Pure
