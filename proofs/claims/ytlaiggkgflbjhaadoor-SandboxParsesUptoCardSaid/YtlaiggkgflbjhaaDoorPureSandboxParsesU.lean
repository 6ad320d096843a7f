/- Parse of any text of at most 1048576 bytes is the page's, Tokens too: the law SandboxParses answers true. -/
import Derived.Test.YtlaiggkgflbjhaaDoorPParse
import Derived.Test.YtlaiggkgflbjhaaDoorPRWords
import Derived.Test.YtlaiggkgflbjhaaDoorX13
namespace Go.Proofs.YtlaiggkgflbjhaaDoor.Pure
open Go.RowKit Go.Proofs.YtlaiggkgflbjhaaDoor.X Go.Proofs.YtlaiggkgflbjhaaDoorW.PrintWords Go.Proofs.YtlaiggkgflbjhaaDoorW.PrintLast Go.Proofs.YtlaiggkgflbjhaaDoorW.PrintMore

/-! put: a word into a rising list -/
theorem put_done (l : List ByteArray) (s : ByteArray) (hl : l.length ≤ 8388608) (d : Nat) : ∀ (i : Nat) (acc : List ByteArray), i + d = l.length → acc.length ≤ i + 1 →
    Ev (fun k => pergolaref17_put.l0 k l s acc true (i : Int)) (acc ++ l.drop i) := by
  induction d with
  | zero =>
    intro i acc hi ha
    refine Ev.step (f := fun _ => some acc) (fun k => ?_) ?_
    · rw [pergolaref17_put.l0, if_neg (by omega), if_pos rfl]
    · rw [List.drop_of_length_le (by omega), List.append_nil]
      exact Ev.now _
  | succ d ih =>
    intro i acc hi ha
    have hw : wrap64 ((i : Int) + 1) = ((i + 1 : Nat) : Int) := by unfold wrap64; omega
    have hx : rdOf ByteArray.empty l (i : Int) = l.getD i ByteArray.empty := by unfold rdOf; rw [Int.toNat_natCast]
    have h := ih (i + 1) (acc ++ [l.getD i ByteArray.empty]) (by omega) (by rw [List.length_append, List.length_singleton]; omega)
    rw [drop_at ByteArray.empty (show i < l.length by omega)]
    rw [List.append_assoc] at h
    refine Ev.step (f := fun k => pergolaref17_put.j1 k l s acc true (i : Int) false) (fun k => ?_) (Ev.step (fun k => ?_) h)
    · rw [pergolaref17_put.l0, if_pos (by omega), if_pos rfl]
    · rw [pergolaref17_put.j1, if_neg (by decide), if_pos (by omega), if_pos (by omega), if_pos (by omega), hx, hw]
theorem put_l0 (l : List ByteArray) (s : ByteArray) (hl : l.length ≤ 8388608) (d : Nat) : ∀ (i : Nat) (acc : List ByteArray), i + d = l.length → acc.length ≤ i →
    Ev (fun k => pergolaref17_put.l0 k l s acc false (i : Int)) (acc ++ ins s (l.drop i)) := by
  induction d with
  | zero =>
    intro i acc hi ha
    refine Ev.step (f := fun _ => some (acc ++ [s])) (fun k => ?_) ?_
    · rw [pergolaref17_put.l0, if_neg (by omega), if_neg (by decide), if_pos (by omega)]
    · rw [List.drop_of_length_le (by omega)]
      exact Ev.now _
  | succ d ih =>
    intro i acc hi ha
    have hw : wrap64 ((i : Int) + 1) = ((i + 1 : Nat) : Int) := by unfold wrap64; omega
    have hx : rdOf ByteArray.empty l (i : Int) = l.getD i ByteArray.empty := by unfold rdOf; rw [Int.toNat_natCast]
    have hb : ∀ x : ByteArray, Op.bytesLess x.toList s.toList = decide (rise x s) := fun x => by rw [bless, toList_data, toList_data]
    rw [drop_at ByteArray.empty (show i < l.length by omega), ins]
    by_cases hr : rise (l.getD i ByteArray.empty) s
    · rw [if_pos hr]
      have h := ih (i + 1) (acc ++ [l.getD i ByteArray.empty]) (by omega) (by rw [List.length_append, List.length_singleton]; omega)
      rw [List.append_assoc] at h
      refine Ev.step (f := fun k => pergolaref17_put.j1 k l s acc false (i : Int) false) (fun k => ?_) (Ev.step (fun k => ?_) h)
      · rw [pergolaref17_put.l0, if_pos (by omega), if_neg (by decide), if_pos (by omega), hx, hb, decide_eq_true hr]
        rfl
      · rw [pergolaref17_put.j1, if_neg (by decide), if_pos (by omega), if_pos (by omega), if_pos (by omega), hx, hw]
    · rw [if_neg hr]
      refine Ev.step (f := fun k => pergolaref17_put.j1 k l s acc false (i : Int) true) (fun k => ?_) ?_
      · rw [pergolaref17_put.l0, if_pos (by omega), if_neg (by decide), if_pos (by omega), hx, hb, decide_eq_false hr]
        rfl
      · by_cases he : l.getD i ByteArray.empty = s
        · rw [if_pos he]
          have h := put_done l s hl d (i + 1) (acc ++ [l.getD i ByteArray.empty]) (by omega) (by rw [List.length_append, List.length_singleton]; omega)
          rw [List.append_assoc] at h
          refine Ev.step (fun k => ?_) h
          rw [pergolaref17_put.j1, if_pos rfl, if_pos (by omega), if_pos (by omega), hx, if_pos (toList_inj.2 he), if_pos (by omega), hw]
        · rw [if_neg he]
          have h := put_done l s hl d (i + 1) ((acc ++ [s]) ++ [l.getD i ByteArray.empty]) (by omega) (by rw [List.length_append, List.length_append, List.length_singleton, List.length_singleton]; omega)
          rw [List.append_assoc, List.append_assoc] at h
          refine Ev.step (fun k => ?_) h
          rw [pergolaref17_put.j1, if_pos rfl, if_pos (by omega), if_pos (by omega), hx, if_neg (fun e => he (toList_inj.1 e)), if_pos (by omega), Option.bind_some, if_pos (by rw [List.length_append, List.length_singleton]; omega), hw, List.append_assoc]
theorem put_f (l : List ByteArray) (s : ByteArray) (hl : l.length ≤ 8388608) : Ev (fun k => pergolaref17_put.f k l s) (ins s l) := by
  have h := put_l0 l s hl l.length 0 [] (by omega) (Nat.le_refl _)
  rw [List.drop_zero, List.nil_append] at h
  exact h

/-! The page's rows: the program's tokens -/
def rowsS : List (S93) := (pergolaref17_Rows.f).getD []
theorem rows_f : pergolaref17_Rows.f = some rowsS := by
  unfold rowsS pergolaref17_Rows.f
  rfl
theorem rows_len : rowsS.length = 14 := by decide +kernel
theorem rows_name (i : Nat) (hi : i < 14) : (rd_T93 rowsS (i : Int)).f0 = tokName i := by
  have h : ∀ j : Fin 14, (rd_T93 rowsS (j.val : Int)).f0 = tokName j.val := by decide +kernel
  exact h ⟨i, hi⟩
theorem rows_flags (i : Nat) (hi : i < 14) : ((rd_T93 rowsS (i : Int)).f1.all fun n => decide (0 ≤ n ∧ n < 16)) = true := by
  have h : ∀ j : Fin 14, ((rd_T93 rowsS (j.val : Int)).f1.all fun n => decide (0 ≤ n ∧ n < 16)) = true := by decide +kernel
  exact h ⟨i, hi⟩
theorem rows_few (i : Nat) (hi : i < 14) : (rd_T93 rowsS (i : Int)).f1.length ≤ 3 := by
  have h : ∀ j : Fin 14, (rd_T93 rowsS (j.val : Int)).f1.length ≤ 3 := by decide +kernel
  exact h ⟨i, hi⟩
theorem rows_bits (i : Nat) (hi : i < 14) : ((rd_T93 rowsS (i : Int)).f1.foldl (fun m n => m ||| 2 ^ n.toNat) 0) = (tokOff i).toNat := by
  have h : ∀ j : Fin 14, ((rd_T93 rowsS (j.val : Int)).f1.foldl (fun m n => m ||| 2 ^ n.toNat) 0) = (tokOff j.val).toNat := by decide +kernel
  exact h ⟨i, hi⟩
theorem tok_lower (i : Nat) (hi : i < 14) : lw (tokName i) = tokName i := by
  have h : ∀ j : Fin 14, lw (tokName j.val) = tokName j.val := by decide +kernel
  exact h ⟨i, hi⟩
theorem tok_size (i : Nat) (hi : i < 14) : (tokName i).size ≤ 100 := by
  have h : ∀ j : Fin 14, (tokName j.val).size ≤ 100 := by decide +kernel
  exact h ⟨i, hi⟩
theorem tok_apart : ∀ i j : Fin 14, tokName i.val = tokName j.val → i = j := by decide +kernel

/-! off -/
theorem off_l0 (nm : ByteArray) (l : List Int) (hl : l.length ≤ 3) (hb : (l.all fun n => decide (0 ≤ n ∧ n < 16)) = true) (d : Nat) : ∀ (i f : Nat), i + d = l.length → f < 4294967296 →
    Ev (fun k => pergolaref17_off.l0 k (f : Int) (i : Int) nm l) (((l.drop i).foldl (fun f n => an f (2 ^ n.toNat)) f : Nat) : Int) := by
  induction d with
  | zero =>
    intro i f hi hf
    refine Ev.step (f := fun _ => some (f : Int)) (fun k => ?_) ?_
    · rw [pergolaref17_off.l0, if_neg (by omega)]
    · rw [List.drop_of_length_le (by omega)]
      exact Ev.now _
  | succ d ih =>
    intro i f hi hf
    have hw : wrap64 ((i : Int) + 1) = ((i + 1 : Nat) : Int) := by unfold wrap64; omega
    have hil : i < l.length := by omega
    rw [drop_at 0 hil, List.foldl_cons]
    have hm : l.getD i 0 ∈ l := by
      rw [List.getD_eq_getElem?_getD, List.getElem?_eq_getElem hil]
      exact List.getElem_mem hil
    have hn := of_decide_eq_true (List.all_eq_true.1 hb _ hm)
    have hx : rd l (i : Int) = l.getD i 0 := by unfold rd; rw [Int.toNat_natCast]
    generalize l.getD i 0 = n at hn hx ⊢
    have hsm : ∀ j : Fin 16, IntKind.u64.wrap (j.val : Int) = (j.val : Int) ∧ shl .u32 1 (j.val : Int) = ((2 ^ j.val : Nat) : Int) ∧ 2 ^ j.val < 4294967296 := by decide +kernel
    obtain ⟨h1, h2, h3⟩ := hsm ⟨n.toNat, by omega⟩
    simp only [show ((n.toNat : Nat) : Int) = n by omega] at h1 h2
    have hle := an_le f (2 ^ n.toNat)
    refine Ev.step (fun k => ?_) (ih (i + 1) (an f (2 ^ n.toNat)) (by omega) (by omega))
    rw [pergolaref17_off.l0, if_pos (by omega), if_pos (by omega), hx, h1, if_pos (by omega), h2, an_u32 f _ hf h3, hw]
theorem an_or (a b c : Nat) (ha : a < 4294967296) (hb : b < 4294967296) (hc : c < 4294967296) : an (an a b) c = an a (b ||| c) := by
  have hle := an_le a b
  apply Nat.eq_of_testBit_eq
  intro i
  rw [an_bit _ c i (by omega) hc, an_bit a b i ha hb, an_bit a _ i ha (u32_or b c hb hc), Nat.testBit_or]
  cases a.testBit i <;> cases b.testBit i <;> cases c.testBit i <;> rfl
theorem an_zero (a : Nat) (ha : a < 4294967296) : an a 0 = a := by
  apply Nat.eq_of_testBit_eq
  intro i
  rw [an_bit a 0 i ha (by omega), Nat.zero_testBit]
  cases a.testBit i <;> rfl
theorem fold_an (l : List Int) (hb : (l.all fun n => decide (0 ≤ n ∧ n < 16)) = true) (f : Nat) (hf : f < 4294967296) : ∀ m : Nat, m < 4294967296 → l.foldl (fun f n => an f (2 ^ n.toNat)) (an f m) = an f (l.foldl (fun m n => m ||| 2 ^ n.toNat) m) := by
  induction l with
  | nil => intro m _; rfl
  | cons n t ih =>
    intro m hm
    rw [List.all_cons, Bool.and_eq_true] at hb
    have hn := of_decide_eq_true hb.1
    have h3 : 2 ^ n.toNat < 4294967296 := by
      have := Nat.pow_lt_pow_right (a := 2) (by omega) (show n.toNat < 32 by omega)
      omega
    rw [List.foldl_cons, List.foldl_cons, an_or f m _ hf hm h3]
    exact ih hb.2 _ (u32_or _ _ hm h3)
theorem off_f (i f : Nat) (hi : i < 14) (hf : f < 4294967296) : Ev (fun k => pergolaref17_off.f k (f : Int) ((rd_T93 rowsS (i : Int)).f0) ((rd_T93 rowsS (i : Int)).f1)) ((an f (tokOff i).toNat : Nat) : Int) := by
  have hb := rows_flags i hi
  have h := off_l0 (rd_T93 rowsS (i : Int)).f0 (rd_T93 rowsS (i : Int)).f1 (rows_few i hi) hb _ 0 f (Nat.zero_add _) hf
  have h2 := fold_an _ hb f hf 0 (by omega)
  rw [rows_bits i hi, an_zero f hf] at h2
  rw [List.drop_zero, h2] at h
  exact h

/-! One word over all rows -/
theorem rlw (x : ByteArray) (hx : x.size ≤ 1048576) : Ev (fun k => pergolaref01_Lower.f k x) (lw x) := rlower_f x hx
theorem same_f (x : ByteArray) (i : Nat) (hi : i < 14) (hx : x.size ≤ 1048576) : Ev (fun k => pergolaref01_Same.f k x ((rd_T93 rowsS (i : Int)).f0)) (decide (lw x = tokName i)) := by
  rw [rows_name i hi]
  refine Ev.bind (rlw x hx) (Ev.bind (rlw (tokName i) (by have := tok_size i hi; omega)) (Ev.congr (fun k => ?_) (Ev.now _)))
  rw [tok_lower i hi, toList_beq]
def stepR (v : ByteArray) (p : Nat × Bool) (i : Nat) : Nat × Bool := if v = tokName i then (an p.1 (tokOff i).toNat, true) else p
theorem parse_l1 (W un : List ByteArray) (c : Nat) (hc : c < W.length) (hs : (W.getD c ByteArray.empty).size ≤ 1048576) (R : Int × List ByteArray) (d : Nat) : ∀ (i f : Nat) (kn : Bool), i + d = 14 → f < 4294967296 →
    (∀ f' kn', ((List.range' i d).foldl (stepR (lw (W.getD c ByteArray.empty))) (f, kn)) = (f', kn') → Ev (fun k => pergolaref17_Parse.l1 k (f' : Int) un W rowsS (c : Int) kn' 14) R) →
    Ev (fun k => pergolaref17_Parse.l1 k (f : Int) un W rowsS (c : Int) kn (i : Int)) R := by
  have hx : rdOf ByteArray.empty W (c : Int) = W.getD c ByteArray.empty := by unfold rdOf; rw [Int.toNat_natCast]
  induction d with
  | zero =>
    intro i f kn hi hf h
    obtain rfl : i = 14 := by omega
    exact h f kn rfl
  | succ d ih =>
    intro i f kn hi hf h
    have hw : wrap64 ((i : Int) + 1) = ((i + 1 : Nat) : Int) := by unfold wrap64; omega
    rw [List.range'_succ] at h
    simp only [List.foldl_cons] at h
    refine Ev.step (f := fun k => (pergolaref01_Same.f k (W.getD c ByteArray.empty) ((rd_T93 rowsS (i : Int)).f0)).bind fun t274 => (if t274 = true then ((pergolaref17_off.f k (f : Int) ((rd_T93 rowsS (i : Int)).f0) ((rd_T93 rowsS (i : Int)).f1)).bind fun t276 => (pergolaref17_Parse.l1 k t276 un W rowsS (c : Int) true ((i + 1 : Nat) : Int))) else (pergolaref17_Parse.l1 k (f : Int) un W rowsS (c : Int) kn ((i + 1 : Nat) : Int)))) (fun k => ?_) (Ev.bind (same_f _ i (by omega) hs) ?_)
    · rw [pergolaref17_Parse.l1, if_pos (by rw [rows_len]; omega), if_pos (by omega), if_pos (by omega), if_pos (by omega), hx, hw]
    · by_cases he : lw (W.getD c ByteArray.empty) = tokName i
      · rw [decide_eq_true he]
        have hle := an_le f (tokOff i).toNat
        refine Ev.congr (fun k => if_pos rfl) (Ev.bind (off_f i f (by omega) hf) (ih (i + 1) _ true (by omega) (by omega) fun f' kn' e => h f' kn' ?_))
        rw [← e]
        unfold stepR
        rw [if_pos he]
      · rw [decide_eq_false he]
        refine Ev.congr (fun k => if_neg (by decide)) (ih (i + 1) f kn (by omega) hf fun f' kn' e => h f' kn' ?_)
        rw [← e]
        congr 1
        unfold stepR
        rw [if_neg he]
theorem fold_none (v : ByteArray) (d : Nat) : ∀ (i : Nat) (p : Nat × Bool), (∀ j, i ≤ j → j < i + d → v ≠ tokName j) → (List.range' i d).foldl (stepR v) p = p := by
  induction d with
  | zero => intro i p _; rfl
  | succ d ih =>
    intro i p h
    rw [List.range'_succ, List.foldl_cons, show stepR v p i = p from if_neg (h i (Nat.le_refl _) (by omega))]
    exact ih (i + 1) p fun j hj hj2 => h j (by omega) (by omega)
theorem from_none (v : ByteArray) (d : Nat) : ∀ i : Nat, tokFrom v d i < 0 → ∀ j, i ≤ j → j < i + d → v ≠ tokName j := by
  induction d with
  | zero => intro i _ j hj hj2; omega
  | succ d ih =>
    intro i h j hj hj2
    rw [tokFrom] at h
    split at h
    · omega
    · rename_i hne
      by_cases e : j = i
      · subst e
        exact fun k => hne k.symm
      · exact ih (i + 1) h j (by omega) (by omega)
theorem from_some (v : ByteArray) (d : Nat) : ∀ i : Nat, ¬ tokFrom v d i < 0 → ∃ j : Nat, tokFrom v d i = (j : Int) ∧ i ≤ j ∧ j < i + d ∧ v = tokName j := by
  induction d with
  | zero => intro i h; exact absurd (show tokFrom v 0 i < 0 by rw [tokFrom]; decide) h
  | succ d ih =>
    intro i h
    rw [tokFrom] at h ⊢
    split at h
    · rename_i he
      rw [if_pos he]
      exact ⟨i, rfl, Nat.le_refl _, by omega, he.symm⟩
    · rename_i hne
      rw [if_neg hne]
      obtain ⟨j, h1, h2, h3, h4⟩ := ih (i + 1) h
      exact ⟨j, h1, by omega, by omega, h4⟩
theorem fold_rows (v : ByteArray) (f : Nat) : (List.range' 0 14).foldl (stepR v) (f, false) = (stepF f v, decide (¬ tokIdx v < 0)) := by
  by_cases h : tokIdx v < 0
  · rw [fold_none v 14 0 _ (from_none v 14 0 h)]
    unfold stepF
    rw [if_pos h, decide_eq_false (fun k => k h)]
  · obtain ⟨j, h1, -, h3, h4⟩ := from_some v 14 0 h
    have ho : offN v = (tokOff j).toNat := by
      unfold offN
      rw [show tokIdx v = (j : Int) from h1, Int.toNat_natCast]
    have ne : ∀ i, i < 14 → i ≠ j → v ≠ tokName i := fun i hi hij e => hij (congrArg Fin.val (tok_apart ⟨i, hi⟩ ⟨j, by omega⟩ (e.symm.trans h4)))
    have hsp : List.range' 0 14 = List.range' 0 j ++ (j :: List.range' (j + 1) (13 - j)) := by
      rw [show (14 : Nat) = j + ((13 - j) + 1) by omega, ← List.range'_append_1, Nat.zero_add, List.range'_succ]
    rw [hsp, List.foldl_append, fold_none v j 0 _ (fun i _ hi => ne i (by omega) (by omega)), List.foldl_cons, show stepR v (f, false) j = (an f (tokOff j).toNat, true) from if_pos h4, fold_none v _ (j + 1) _ (fun i hi hi2 => ne i (by omega) (by omega))]
    unfold stepF
    rw [if_neg h, ho, decide_eq_true h]

/-! The page's Parse -/
theorem rparse_l0 (W : List ByteArray) (hn : W.length ≤ 4194304) (hs : ∀ x ∈ W, x.size ≤ 1048576) (d : Nat) : ∀ (i f : Nat) (un : List ByteArray), i + d = W.length → f < 4294967296 → un.length ≤ i →
    Ev (fun k => pergolaref17_Parse.l0 k (f : Int) un W rowsS (i : Int)) (((flF ((W.drop i).map lw) f : Nat) : Int), (unk ((W.drop i).map lw)).foldl (fun m s => ins s m) un) := by
  induction d with
  | zero =>
    intro i f un hi hf hu
    refine Ev.step (f := fun _ => some ((f : Int), un)) (fun k => ?_) ?_
    · rw [pergolaref17_Parse.l0, if_neg (by omega)]
    · rw [List.drop_of_length_le (by omega)]
      exact Ev.now _
  | succ d ih =>
    intro i f un hi hf hu
    have hw : wrap64 ((i : Int) + 1) = ((i + 1 : Nat) : Int) := by unfold wrap64; omega
    have hiW : i < W.length := by omega
    have hx : rdOf ByteArray.empty W (i : Int) = W.getD i ByteArray.empty := by unfold rdOf; rw [Int.toNat_natCast]
    have hm : W.getD i ByteArray.empty ∈ W := by
      rw [List.getD_eq_getElem?_getD, List.getElem?_eq_getElem hiW]
      exact List.getElem_mem hiW
    have hsz := hs _ hm
    have hfr := fold_rows (lw (W.getD i ByteArray.empty)) f
    rw [drop_at ByteArray.empty hiW, List.map_cons]
    refine Ev.step (f := fun k => pergolaref17_Parse.l1 k (f : Int) un W rowsS (i : Int) false 0) (fun k => ?_) (parse_l1 W un i hiW hsz _ 14 0 f false (by omega) hf fun f' kn' e => ?_)
    · rw [pergolaref17_Parse.l0, if_pos (by omega)]
    · rw [hfr] at e
      injection e with e1 e2
      subst e1
      subst e2
      have hle := stepF_le f (lw (W.getD i ByteArray.empty))
      have hflt : stepF f (lw (W.getD i ByteArray.empty)) < 4294967296 := by omega
      by_cases hk : tokIdx (lw (W.getD i ByteArray.empty)) < 0
      · rw [decide_eq_false (fun k => k hk)]
        have hlen := ins_len (lw (W.getD i ByteArray.empty)) un
        have h := ih (i + 1) _ (ins (lw (W.getD i ByteArray.empty)) un) (by omega) hflt (by omega)
        rw [show unk (lw (W.getD i ByteArray.empty) :: (W.drop (i + 1)).map lw) = lw (W.getD i ByteArray.empty) :: unk ((W.drop (i + 1)).map lw) from List.filter_cons_of_pos (decide_eq_true hk), List.foldl_cons]
        refine Ev.step (f := fun k => (pergolaref01_Lower.f k (W.getD i ByteArray.empty)).bind fun t278 => ((pergolaref17_put.f k un t278).bind fun t279 => (pergolaref17_Parse.l0 k ((stepF f (lw (W.getD i ByteArray.empty)) : Nat) : Int) t279 W rowsS ((i + 1 : Nat) : Int)))) (fun k => ?_) (Ev.bind (rlw _ hsz) (Ev.bind (put_f un _ (by omega)) h))
        rw [pergolaref17_Parse.l1, if_neg (by rw [rows_len]; omega), if_neg (by decide), if_pos (by omega), if_pos (by omega), hx, hw]
      · rw [decide_eq_true hk]
        have h := ih (i + 1) _ un (by omega) hflt (by omega)
        rw [show unk (lw (W.getD i ByteArray.empty) :: (W.drop (i + 1)).map lw) = unk ((W.drop (i + 1)).map lw) from List.filter_cons_of_neg (by rw [decide_eq_true_eq]; exact hk)]
        refine Ev.step (fun k => ?_) h
        rw [pergolaref17_Parse.l1, if_neg (by rw [rows_len]; omega), if_pos rfl, hw]
theorem rparse_f (s : ByteArray) (hs : s.size ≤ 1048576) : Ev (fun k => pergolaref17_Parse.f k s) (((flF (wl s) 65535 : Nat) : Int), canon (unk (wl s))) := by
  have hl := ws_len s
  have h := rparse_l0 (ws s) (by omega) (fun x hx => by have := ws_small s x hx; omega) (ws s).length 0 65535 [] (by omega) (by omega) (Nat.le_refl _)
  rw [List.drop_zero, ins_canon] at h
  refine Ev.bind (rwords_f s hs) (Ev.congr (fun k => ?_) h)
  rw [rows_f, Option.bind_some]
  rfl

/-! Tokens -/
def namesT : List ByteArray := tokTab.map (·.1)
theorem tokens_f : Ev (fun k => sandbox_Tokens.f k) namesT := Ev.of sandbox_Tokens.mono (k := 40) (by decide +kernel)
theorem rtokens_f : Ev (fun k => pergolaref17_Tokens.f k) namesT := Ev.of pergolaref17_Tokens.mono (k := 40) (by decide +kernel)
theorem SandboxParsesU : pergolalaw17_SandboxParses.PureU := by
  intro s hs
  have hl := ws_len s
  have hc := canon_len (unk (wl s))
  have hu : (unk (wl s)).length ≤ (wl s).length := List.length_filter_le _ _
  have hwl : (wl s).length = (ws s).length := by unfold wl; rw [List.length_map]
  have h : Ev (fun k => pergolalaw17_SandboxParses.f k s) true := by
    refine Ev.bind (parse_f s (by omega)) (Ev.bind (rparse_f s hs) (Ev.congr (fun k => if_pos rfl) (Ev.bind (sames_f (canon (unk (wl s))) (by omega)) (Ev.congr (fun k => if_pos rfl) (Ev.bind tokens_f (Ev.bind rtokens_f (Ev.bind (sames_f namesT (by decide +kernel)) (Ev.congr (fun k => if_pos rfl) (Ev.bind sand_alive (Ev.now _))))))))))
  obtain ⟨k, hk⟩ := h
  exact ⟨k, hk k (Nat.le_refl _)⟩
end Go.Proofs.YtlaiggkgflbjhaaDoor.Pure
