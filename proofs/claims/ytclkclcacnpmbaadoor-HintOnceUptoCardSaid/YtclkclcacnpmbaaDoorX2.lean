-- Written by wip/xprint.py for this seat
import Derived.Test.YtclkclcacnpmbaaDoorX0
import Derived.Test.YtclkclcacnpmbaaDoorX1
namespace Go.Proofs.YtclkclcacnpmbaaDoor.X
open Go.RowKit Go.Proofs.YtclkclcacnpmbaaDoorW.PrintWords Go.Proofs.YtclkclcacnpmbaaDoorW.PrintLast Go.Proofs.YtclkclcacnpmbaaDoorW.PrintMore
attribute [local go_sem] max2_int min2_int max_two min_two max_three min_three max_four min_four   -- for this text's walks alone
set_option linter.unusedVariables false
set_option linter.unusedSimpArgs false

-- USES pergola/octets.IsToken
def inTok1 (c : Int) : Bool := (octets_IsToken.f 40 (Utf8.encode c)).getD false
def inTok (c : Int) : Bool := c == 58 || c == 47 || (inTok1 c && decide (c < 128))
theorem inTok1_f : ∀ n : Nat, n < 256 → octets_IsToken.f 40 (Utf8.encode (n : Int)) = some (inTok1 (n : Int)) := by
 have h : ∀ n : Nat, n < 256 → (octets_IsToken.f 40 (Utf8.encode (n : Int))).isSome = true := by decide +kernel
 intro n hn
 obtain ⟨b, hb⟩ := Option.isSome_iff_exists.mp (h n hn)
 unfold inTok1
 rw [hb]
 rfl
def bare_inToken.f (a0 : Int) : Option Bool := if 0 ≤ a0 ∧ a0 < 256 then some (inTok a0) else none
theorem bare_inToken.calls (a0 : Int) (r : Bool) (w : World) (h : bare_inToken.f a0 = some r) :
  Calls Tryd.prog 93 #[.int .u8 a0] w fun e w' => e = .returned (.bool r) ∧ Drawn0 w w' := by
 unfold bare_inToken.f at h
 by_cases hc : 0 ≤ a0 ∧ a0 < 256
 ·rw [if_pos hc] at h
  obtain rfl := Option.some.inj h
  have hI : octets_IsToken.f 40 (Utf8.encode a0) = some (inTok1 a0) := by
   have := inTok1_f a0.toNat (by omega)
   rw [show ((a0.toNat : Nat) : Int) = a0 by omega] at this
   exact this
  have HC := Aside0.mk (fun w => octets_IsToken.calls 40 (Utf8.encode a0) _ w hI)
  have hw32 : IntKind.i32.wrap a0 = a0 := by
   have hm : a0 % 4294967296 = a0 := by omega
   unfold IntKind.wrap
   simp [IntKind.bits, IntKind.signed, hm]
   omega
  unfold inTok
  cases h58 : (a0 == 58) with
  | true =>
   go_enter Tryd.func93, Tryd.ntmps93
   go_wp2
   go_ret
   exact ⟨rfl, Drawn0.refl _⟩
  | false =>
   cases h47 : (a0 == 47) with
   | true =>
    go_enter Tryd.func93, Tryd.ntmps93
    go_wp2
    go_ret
    exact ⟨rfl, Drawn0.refl _⟩
   | false =>
    cases hb : inTok1 a0 with
    | true =>
     rw [hb] at HC
     by_cases h128 : a0 < 128
     all_goals (
      go_enter Tryd.func93, Tryd.ntmps93
      go_wp2_with (go_at_call 97; refine (HC.out _).mono ?_; rintro e w' ⟨rfl, ⟨nd, rfl⟩⟩)
      go_ret
      exact ⟨by simp [h128], ⟨⟨nd, rfl⟩⟩⟩)
    | false =>
     rw [hb] at HC
     go_enter Tryd.func93, Tryd.ntmps93
     go_wp2_with (go_at_call 97; refine (HC.out _).mono ?_; rintro e w' ⟨rfl, ⟨nd, rfl⟩⟩)
     go_ret
     exact ⟨by simp, ⟨⟨nd, rfl⟩⟩⟩
 ·rw [if_neg hc] at h
  cases h

-- USES pergola/bare.letter
-- USES pergola/bare.inToken
def letB (c : Int) : Bool := (bare_letter.f c).getD false
theorem letB_f : ∀ n : Nat, n < 256 → bare_letter.f (n : Int) = some (letB (n : Int)) := by
 have h : ∀ n : Nat, n < 256 → (bare_letter.f (n : Int)).isSome = true := by decide +kernel
 intro n hn
 obtain ⟨b, hb⟩ := Option.isSome_iff_exists.mp (h n hn)
 unfold letB
 rw [hb]
 rfl
def bare_Read.f (a0 : ByteArray) (a1 : Int) : Option (Int × Int × ByteArray × Int × Int) := (rdReadS inTok letB a0 a1).bind fun A => some (A.1.1, A.1.2.1, A.1.2.2, A.2.1, A.2.2)
theorem bare_Read.calls (a0 : ByteArray) (a1 : Int) (r1 : Int) (r2 : Int) (r3 : ByteArray) (r4 : Int) (r5 : Int) (w : World) (h : bare_Read.f a0 a1 = some (r1, r2, r3, r4, r5)) :
  Calls Tryd.prog 74 #[.string a0, .int .i64 a1] w fun e w' => e = .returned (.tuple #[.agg #[.int .i64 r1, .int .i64 r2, .string r3], .int .i64 r4, .int .i64 r5]) ∧ Below w.heap.size w w' := by
 unfold bare_Read.f at h
 obtain ⟨A, hA, h⟩ := Option.bind_eq_some_iff.mp h
 obtain ⟨⟨b1, b2, b3⟩, e1, e2⟩ := A
 obtain ⟨rfl, rfl, rfl, rfl, rfl⟩ : b1 = r1 ∧ b2 = r2 ∧ b3 = r3 ∧ e1 = r4 ∧ e2 = r5 := by simpa using h
 exact readS_calls inTok letB (fun c w h0 h1 => bare_inToken.calls c _ w (by unfold bare_inToken.f; exact if_pos ⟨h0, h1⟩)) (fun c w h0 h1 => bare_letter.calls c _ w (by have := letB_f c.toNat (by omega); rw [show ((c.toNat : Nat) : Int) = c by omega] at this; exact this)) a0 a1 w _ hA

-- INFO 54
-- USES pergola/bare.Read
-- USES pergola/bare.ReadKey
-- USES strings.IndexByte
def toP (p : ParT) : S119 := ⟨p.1, ⟨p.2.1, p.2.2.1, p.2.2.2⟩⟩
def toI (i : ItemT) : S103 := ⟨⟨i.1.1, i.1.2.1, i.1.2.2⟩, i.2.map toP⟩
def toM (m : MemT) : S54 := ⟨m.1, m.2.1, ⟨m.2.2.1.1, m.2.2.1.2.1, m.2.2.1.2.2⟩, m.2.2.2.1.map toI, m.2.2.2.2.map toP⟩
theorem reps_map {α β : Type} {R : α → List Value → Prop} {R' : β → List Value → Prop} {size : Nat} {f : α → β} {ps : List α} {cs : List Value} (h : Reps R size ps cs) (hR : ∀ p c, R p c → R' (f p) c) : Reps R' size (ps.map f) cs := by
 refine ⟨by rw [List.length_map]; exact h.1, fun j q hq => ?_⟩
 rw [List.getElem?_map] at hq
 obtain ⟨p, hp, rfl⟩ := Option.map_eq_some_iff.mp hq
 exact hR _ _ (h.2 j p hp)
theorem R_map {α β : Type} {d : Kd α} {d' : Kd β} {f : α → β} {e : Nat} {w : World} {base : Nat} {ok : Nat → Prop} {v : Value} {xs : List α} (h : d.R e w base ok v xs) (hs : d.sz = d'.sz) (hM : ∀ ok x cs, d.M w base ok x cs → d'.M w base ok (f x) cs) : d'.R e w base ok v (xs.map f) := by
 obtain ⟨h0, inner, ho, hr⟩ := h
 rw [hs] at ho hr
 exact ⟨h0, inner, by rw [List.length_map]; exact ho, reps_map hr (fun p c hp => hM _ p c hp)⟩
theorem bare_M {w : World} {base : Nat} {ok : Nat → Prop} {b : BareT} {cs : List Value} (h : kBareT.M w base ok b cs) : k50.M w base ok ⟨b.1, b.2.1, b.2.2⟩ cs := h
theorem par_M {w : World} {base : Nat} (ok : Nat → Prop) (p : ParT) (cs : List Value) (h : kParT.M w base ok p cs) : k119.M w base ok (toP p) cs := h
theorem item_M {w : World} {base : Nat} (ok : Nat → Prop) (i : ItemT) (cs : List Value) (h : kItemT.M w base ok i cs) : k103.M w base ok (toI i) cs := by
 obtain ⟨c0, c1, rfl, h0, v, rfl, h1⟩ := h
 exact ⟨c0, _, rfl, bare_M h0, v, rfl, R_map h1 rfl (fun ok x cs h => par_M ok x cs h)⟩
theorem mem_M {w : World} {base : Nat} (ok : Nat → Prop) (m : MemT) (cs : List Value) (h : kMemT.M w base ok m cs) : k54.M w base ok (toM m) cs := by
 obtain ⟨c0, c1, rfl, h0, c2, c3, rfl, h1, c4, c5, rfl, h2, c6, c7, rfl, ⟨v, rfl, h3⟩, ⟨u, rfl, h4⟩⟩ := h
 exact ⟨c0, _, rfl, h0, c2, _, rfl, h1, c4, _, rfl, bare_M h2, _, _, rfl, ⟨v, rfl, R_map h3 rfl (fun ok x cs h => item_M ok x cs h)⟩, ⟨u, rfl, R_map h4 rfl (fun ok x cs h => par_M ok x cs h)⟩⟩
def ixF (a : ByteArray) (c : Int) : Int := Lib.indexByte a.data.toList c.toNat.toUInt8
def brF (s : ByteArray) (a : Int) : Option (BareT × Int × Int) := (bare_Read.f s a).bind fun A => if A.2.2.2.2 = 0 → a ≤ A.2.2.2.1 ∧ A.2.2.2.1 ≤ (s.size : Int) then some ((A.1, A.2.1, A.2.2.1), A.2.2.2.1, A.2.2.2.2) else none
def krF (s : ByteArray) (a : Int) : Option (ByteArray × Int × Int) := (bare_ReadKey.f (s.size + 4) s a).bind fun A => if A.1.size ≤ s.size ∧ (A.2.2 = 0 → a ≤ A.2.1 ∧ A.2.1 ≤ (s.size : Int)) then some A else none
theorem fdHyp (w : World) : FdHyp w brF krF ixF where
 hB s a A w' _ h := by
  unfold brF at h
  obtain ⟨B, hB, h⟩ := Option.bind_eq_some_iff.mp h
  split at h
  ·obtain rfl := Option.some.inj h
   obtain ⟨r1, r2, r3, r4, r5⟩ := B
   exact bare_Read.calls s a r1 r2 r3 r4 r5 w' hB
  ·cases h
 hK s a A w' _ h := by
  unfold krF at h
  obtain ⟨B, hB, h⟩ := Option.bind_eq_some_iff.mp h
  split at h
  ·rename_i hc
   obtain rfl := Option.some.inj h
   obtain ⟨r1, r2, r3⟩ := B
   exact ⟨hc.1, (bare_ReadKey.calls _ s a r1 r2 r3 w' hB).mono fun e w'' ⟨he, hw⟩ => ⟨he, by first | exact hw | exact hw.below⟩⟩
  ·cases h
 pB s a A h0 h1 h he := by
  unfold brF at h
  obtain ⟨B, hB, h⟩ := Option.bind_eq_some_iff.mp h
  split at h
  ·rename_i hc
   obtain rfl := Option.some.inj h
   exact hc he
  ·cases h
 pK s a A h0 h1 h he := by
  unfold krF at h
  obtain ⟨B, hB, h⟩ := Option.bind_eq_some_iff.mp h
  split at h
  ·rename_i hc
   obtain rfl := Option.some.inj h
   exact hc.2 he
  ·cases h
 hI a c w h0 h1 := strings_IndexByte.calls a c _ w rfl
def fields_ReadList.f (a0 : ByteArray) : Option (List (S54) × Int × Int) := (fdReadList brF krF ixF (a0.size + 2) (a0.size + 2) (a0.size + 2) a0).bind fun A => some (A.1.map toM, A.2.1, A.2.2)
theorem fields_ReadList.calls (a0 : ByteArray) (r1 : List (S54)) (r2 : Int) (r3 : Int) (w : World) (h : fields_ReadList.f a0 = some (r1, r2, r3)) :
  Calls Tryd.prog 20 #[.string a0] w fun e w' => ∃ v0_ : Value, e = .returned (.tuple #[v0_, .int .i64 r2, .int .i64 r3]) ∧ Kd.R k54 54 w' w.heap.size (fun _ => True) v0_ r1 ∧ Below w.heap.size w w' := by
 unfold fields_ReadList.f at h
 obtain ⟨A, hA, h⟩ := Option.bind_eq_some_iff.mp h
 obtain ⟨b1, b2, b3⟩ := A
 obtain ⟨rfl, rfl, rfl⟩ : b1.map toM = r1 ∧ b2 = r2 ∧ b3 = r3 := by simpa using h
 refine (readList_calls w (fdHyp w) _ _ _ a0 _ hA).mono ?_
 rintro e w' ⟨v, he, hm, hb⟩
 exact ⟨v, he, R_map hm rfl (fun ok x cs h => mem_M ok x cs h), hb⟩

def hint_List.l0 : Nat → List (S41) → List ByteArray → Int → Int → Option ((List (S41)))
 | 0, _, _, _, _ => none
 | k + 1, x1, x4, x5, x6 => if x6 < x5 then (if 0 ≤ x6 then (if x6 < (x4.length : Int) then (if 9 + (rdOf ByteArray.empty x4 x6).size ≤ 9223372036854775807 then (if x6 = 0 then (if x1.length < 4398046511104 then (hint_List.l0 k (x1 ++ [(⟨(⟨#[83, 101, 99, 45, 67, 72, 45, 85, 65]⟩ : ByteArray) ++ (rdOf ByteArray.empty x4 x6), wrap64 (38 + x6), true⟩ : S41)]) x4 x5 (wrap64 (x6 + 1))) else (none)) else (if x6 = 5 then (if x1.length < 4398046511104 then (hint_List.l0 k (x1 ++ [(⟨(⟨#[83, 101, 99, 45, 67, 72, 45, 85, 65]⟩ : ByteArray) ++ (rdOf ByteArray.empty x4 x6), wrap64 (38 + x6), true⟩ : S41)]) x4 x5 (wrap64 (x6 + 1))) else (none)) else (if x1.length < 4398046511104 then (hint_List.l0 k (x1 ++ [(⟨(⟨#[83, 101, 99, 45, 67, 72, 45, 85, 65]⟩ : ByteArray) ++ (rdOf ByteArray.empty x4 x6), wrap64 (38 + x6), (x6 == 7)⟩ : S41)]) x4 x5 (wrap64 (x6 + 1))) else (none)))) else (none)) else (none)) else (none)) else ((some (([(⟨(⟨#[83, 101, 99, 45, 67, 72, 45, 68, 80, 82]⟩ : ByteArray), 47, false⟩ : S41), (⟨(⟨#[83, 101, 99, 45, 67, 72, 45, 86, 105, 101, 119, 112, 111, 114, 116, 45, 87, 105, 100, 116, 104]⟩ : ByteArray), 48, false⟩ : S41), (⟨(⟨#[83, 101, 99, 45, 67, 72, 45, 68, 101, 118, 105, 99, 101, 45, 77, 101, 109, 111, 114, 121]⟩ : ByteArray), 49, false⟩ : S41)] : List (S41)) : List (S41))).bind fun y124 => (if x1.length + y124.length < 4398046511104 then (some (x1 ++ y124)) else (none)))
def hint_List.f (k : Nat)  : Option ((List (S41))) := (some (([(⟨#[]⟩ : ByteArray), (⟨#[45, 65, 114, 99, 104]⟩ : ByteArray), (⟨#[45, 66, 105, 116, 110, 101, 115, 115]⟩ : ByteArray), (⟨#[45, 70, 117, 108, 108, 45, 86, 101, 114, 115, 105, 111, 110]⟩ : ByteArray), (⟨#[45, 70, 117, 108, 108, 45, 86, 101, 114, 115, 105, 111, 110, 45, 76, 105, 115, 116]⟩ : ByteArray), (⟨#[45, 77, 111, 98, 105, 108, 101]⟩ : ByteArray), (⟨#[45, 77, 111, 100, 101, 108]⟩ : ByteArray), (⟨#[45, 80, 108, 97, 116, 102, 111, 114, 109]⟩ : ByteArray), (⟨#[45, 80, 108, 97, 116, 102, 111, 114, 109, 45, 86, 101, 114, 115, 105, 111, 110]⟩ : ByteArray)] : List ByteArray) : List ByteArray)).bind fun y111 => (hint_List.l0 k ([] : List (S41)) y111 (y111.length : Int) 0)
theorem hint_List.mono_l : ∀ k, (∀ y0 y1 y2 y3, LeO (hint_List.l0 k y0 y1 y2 y3) (hint_List.l0 (k + 1) y0 y1 y2 y3))
 | 0 => fun _ _ _ _ r h => by simp [hint_List.l0] at h
 | k + 1 => by
  have ih0 := hint_List.mono_l k
  ·intro y0 y1 y2 y3
   unfold hint_List.l0
   repeat' first
   | (with_reducible exact ih0 _ _ _ _)
   | (with_reducible exact LeO.refl _)
   | (with_reducible exact LeO.none _)
   | (with_reducible refine LeO.ite ?_ ?_)
   | (with_reducible refine LeO.bind ?_ (fun _ => ?_))
   | exact ih0 _ _ _ _
   | exact LeO.none _
   | refine LeO.ite ?_ ?_
   | refine LeO.bind ?_ (fun _ => ?_)
theorem hint_List.mono : ∀ k, LeO (hint_List.f k ) (hint_List.f (k + 1) ) := by
 intro  k
 have ih0 := hint_List.mono_l k
 unfold hint_List.f
 repeat' first
   | (with_reducible exact ih0 _ _ _ _)
   | (with_reducible exact LeO.refl _)
   | (with_reducible exact LeO.none _)
   | (with_reducible refine LeO.ite ?_ ?_)
   | (with_reducible refine LeO.bind ?_ (fun _ => ?_))
   | exact ih0 _ _ _ _
   | exact LeO.none _
   | refine LeO.ite ?_ ?_
   | refine LeO.bind ?_ (fun _ => ?_)
set_option maxHeartbeats 8000000 in
set_option maxRecDepth 100000 in
theorem hint_List.calls (k : Nat)  (r : List (S41)) (w : World) (h : hint_List.f k  = some r) :
  Calls Tryd.prog 18 #[] w fun e w' => ∃ v0_ : Value, e = .returned (v0_) ∧ Kd.R k41 41 w' w.heap.size (fun _ => True) v0_ r ∧ Below w.heap.size w w' := by
 have hu41 := Tryd.underlying41
 have HB := Aside0.mk (Below.refl w.heap.size w)
 have H : ((some (([(⟨#[]⟩ : ByteArray), (⟨#[45, 65, 114, 99, 104]⟩ : ByteArray), (⟨#[45, 66, 105, 116, 110, 101, 115, 115]⟩ : ByteArray), (⟨#[45, 70, 117, 108, 108, 45, 86, 101, 114, 115, 105, 111, 110]⟩ : ByteArray), (⟨#[45, 70, 117, 108, 108, 45, 86, 101, 114, 115, 105, 111, 110, 45, 76, 105, 115, 116]⟩ : ByteArray), (⟨#[45, 77, 111, 98, 105, 108, 101]⟩ : ByteArray), (⟨#[45, 77, 111, 100, 101, 108]⟩ : ByteArray), (⟨#[45, 80, 108, 97, 116, 102, 111, 114, 109]⟩ : ByteArray), (⟨#[45, 80, 108, 97, 116, 102, 111, 114, 109, 45, 86, 101, 114, 115, 105, 111, 110]⟩ : ByteArray)] : List ByteArray) : List ByteArray)).bind fun y111 => (hint_List.l0 k ([] : List (S41)) y111 (y111.length : Int) 0)) = some r := h
 clear h
 obtain ⟨y111, hy111⟩ : ∃ y_ : List ByteArray, y_ = (([(⟨#[]⟩ : ByteArray), (⟨#[45, 65, 114, 99, 104]⟩ : ByteArray), (⟨#[45, 66, 105, 116, 110, 101, 115, 115]⟩ : ByteArray), (⟨#[45, 70, 117, 108, 108, 45, 86, 101, 114, 115, 105, 111, 110]⟩ : ByteArray), (⟨#[45, 70, 117, 108, 108, 45, 86, 101, 114, 115, 105, 111, 110, 45, 76, 105, 115, 116]⟩ : ByteArray), (⟨#[45, 77, 111, 98, 105, 108, 101]⟩ : ByteArray), (⟨#[45, 77, 111, 100, 101, 108]⟩ : ByteArray), (⟨#[45, 80, 108, 97, 116, 102, 111, 114, 109]⟩ : ByteArray), (⟨#[45, 80, 108, 97, 116, 102, 111, 114, 109, 45, 86, 101, 114, 115, 105, 111, 110]⟩ : ByteArray)] : List ByteArray)) := ⟨_, rfl⟩
 replace H : (hint_List.l0 k ([] : List (S41)) y111 (y111.length : Int) 0) = some r := by first | (rw [hy111]; with_reducible exact H) | (have H2_ := (Option.bind_some _ _).symm.trans H; rw [hy111]; with_reducible exact H2_) | (have H2_ := (Option.bind_some _ _).symm.trans H; with_reducible exact H2_) | with_reducible exact H | (rw [hy111]; exact H) | exact H
 have Ny111 := Aside0.mk hy111
 clear hy111
 have H' := Aside0.mk H
 clear H
 go_enter Tryd.func18, Tryd.ntmps18
 go_wp2_with (first | ((with_reducible refine gate_dst (N := 4) rfl ?_); refine Kd.R_lit Kd.string _ 9 ?hg (N := 4) ?hd (xs := ([(⟨#[]⟩ : ByteArray), (⟨#[45, 65, 114, 99, 104]⟩ : ByteArray), (⟨#[45, 66, 105, 116, 110, 101, 115, 115]⟩ : ByteArray), (⟨#[45, 70, 117, 108, 108, 45, 86, 101, 114, 115, 105, 111, 110]⟩ : ByteArray), (⟨#[45, 70, 117, 108, 108, 45, 86, 101, 114, 115, 105, 111, 110, 45, 76, 105, 115, 116]⟩ : ByteArray), (⟨#[45, 77, 111, 98, 105, 108, 101]⟩ : ByteArray), (⟨#[45, 77, 111, 100, 101, 108]⟩ : ByteArray), (⟨#[45, 80, 108, 97, 116, 102, 111, 114, 109]⟩ : ByteArray), (⟨#[45, 80, 108, 97, 116, 102, 111, 114, 109, 45, 86, 101, 114, 115, 105, 111, 110]⟩ : ByteArray)] : List ByteArray)) (inner := [.string (⟨#[]⟩ : ByteArray), .string (⟨#[45, 65, 114, 99, 104]⟩ : ByteArray), .string (⟨#[45, 66, 105, 116, 110, 101, 115, 115]⟩ : ByteArray), .string (⟨#[45, 70, 117, 108, 108, 45, 86, 101, 114, 115, 105, 111, 110]⟩ : ByteArray), .string (⟨#[45, 70, 117, 108, 108, 45, 86, 101, 114, 115, 105, 111, 110, 45, 76, 105, 115, 116]⟩ : ByteArray), .string (⟨#[45, 77, 111, 98, 105, 108, 101]⟩ : ByteArray), .string (⟨#[45, 77, 111, 100, 101, 108]⟩ : ByteArray), .string (⟨#[45, 80, 108, 97, 116, 102, 111, 114, 109]⟩ : ByteArray), .string (⟨#[45, 80, 108, 97, 116, 102, 111, 114, 109, 45, 86, 101, 114, 115, 105, 111, 110]⟩ : ByteArray)]) (ok := fun _ => True) (okp := fun _ => True) ?hr ?hp (fun _ hk => hk) trivial (Below.refl _ _) (Nat.le_refl _) (by simp) ?_; (case hd => rfl); (case hg => rfl); (case hr => first | (go_simp; done) | (go_simp; rfl)); (case hp => exact (Reps.one (show Kd.M Kd.string _ _ _ (⟨#[]⟩ : ByteArray) [.string (⟨#[]⟩ : ByteArray)] from rfl) (Reps.one (show Kd.M Kd.string _ _ _ (⟨#[45, 65, 114, 99, 104]⟩ : ByteArray) [.string (⟨#[45, 65, 114, 99, 104]⟩ : ByteArray)] from rfl) (Reps.one (show Kd.M Kd.string _ _ _ (⟨#[45, 66, 105, 116, 110, 101, 115, 115]⟩ : ByteArray) [.string (⟨#[45, 66, 105, 116, 110, 101, 115, 115]⟩ : ByteArray)] from rfl) (Reps.one (show Kd.M Kd.string _ _ _ (⟨#[45, 70, 117, 108, 108, 45, 86, 101, 114, 115, 105, 111, 110]⟩ : ByteArray) [.string (⟨#[45, 70, 117, 108, 108, 45, 86, 101, 114, 115, 105, 111, 110]⟩ : ByteArray)] from rfl) (Reps.one (show Kd.M Kd.string _ _ _ (⟨#[45, 70, 117, 108, 108, 45, 86, 101, 114, 115, 105, 111, 110, 45, 76, 105, 115, 116]⟩ : ByteArray) [.string (⟨#[45, 70, 117, 108, 108, 45, 86, 101, 114, 115, 105, 111, 110, 45, 76, 105, 115, 116]⟩ : ByteArray)] from rfl) (Reps.one (show Kd.M Kd.string _ _ _ (⟨#[45, 77, 111, 98, 105, 108, 101]⟩ : ByteArray) [.string (⟨#[45, 77, 111, 98, 105, 108, 101]⟩ : ByteArray)] from rfl) (Reps.one (show Kd.M Kd.string _ _ _ (⟨#[45, 77, 111, 100, 101, 108]⟩ : ByteArray) [.string (⟨#[45, 77, 111, 100, 101, 108]⟩ : ByteArray)] from rfl) (Reps.one (show Kd.M Kd.string _ _ _ (⟨#[45, 80, 108, 97, 116, 102, 111, 114, 109]⟩ : ByteArray) [.string (⟨#[45, 80, 108, 97, 116, 102, 111, 114, 109]⟩ : ByteArray)] from rfl) (Reps.one (show Kd.M Kd.string _ _ _ (⟨#[45, 80, 108, 97, 116, 102, 111, 114, 109, 45, 86, 101, 114, 115, 105, 111, 110]⟩ : ByteArray) [.string (⟨#[45, 80, 108, 97, 116, 102, 111, 114, 109, 45, 86, 101, 114, 115, 105, 111, 110]⟩ : ByteArray)] from rfl) (Reps.none _ _))))))))))); intro v112 w1 ho2 hb hg_ hnew_; clear hg_ hnew_; (first | rw [← Ny111.out] at ho2 | (simp only [Int.reduceToNat] at ho2; rw [← Ny111.out] at ho2)); have n0_ := Aside0.mk (Kd.R_lower ho2 (below_size (by repeat (first | (with_reducible first | exact HB.out | apply below_alloc | apply pw_below_drewN | apply below_drew1) | exact HB.out)))); have n1_ := Aside0.mk (below_step (by repeat (first | (with_reducible first | exact HB.out | apply below_alloc | apply pw_below_drewN | apply below_drew1) | exact HB.out)) hb); clear HB; have HO113 := n0_; have HB := n1_; clear n0_ n1_; clear hb ho2; obtain ⟨Ao3, co3, eo3⟩ := Kd.R_slice HO113.out; subst eo3))
 go_loopg [1, 6] k (fun kq v1 v6 w' => ∃ (x1_1 : List (S41)) (x6_1 : Int), v6 = .int .i64 x6_1 ∧ Aside0 (hint_List.l0 kq x1_1 y111 (y111.length : Int) x6_1 = some r) ∧ Aside0 (kq ≤ k) ∧ Aside0 (Kd.R k41 41 w' w.heap.size (fun _ => True) v1 x1_1) ∧ Aside0 (Kd.R Kd.string 9 w' w.heap.size (fun _ => True) (.slice Ao3 y111.length co3) y111) ∧ Aside0 (Below w.heap.size w w'))
 case atStart => exact ⟨(([] : List (S41))), (0), (by first | rfl | (simp; done) | (simp [*]; done)), H', ⟨Nat.le_refl _⟩, ⟨by first | exact Kd.R_nil _ _ _ _ _ | exact Kd.N_nil _ _ _ _ _ | exact Kd.V_nil _ _ _ _ _ | exact Kd.Q_nil _ _ _ _ _ | exact Kd.S_nil _ _ _ _ _⟩, ⟨by (with_reducible repeat (first | apply Kd.R_alloc | apply Kd.R_drewN | apply Kd.R_drew)); exact HO113.out⟩, ⟨by repeat (first | (with_reducible first | exact HB.out | apply below_alloc | apply pw_below_drewN | apply below_drew1) | exact HB.out)⟩⟩
 case round =>
  clear H'
  try clear c1
  try clear p2
  obtain ⟨x1_1, x6_1, rfl, HA, HK1, HO_1, HO_4, HB⟩ := hrel
  cases gk with
  | zero => exact absurd HA.out (by simp [hint_List.l0])
  | succ k1 =>
   have H := HA.out
   clear HA
   simp only [hint_List.l0] at H
   by_cases c4 : x6_1 < (y111.length : Int)
   ·rw [if_pos c4] at H
    have c4b0 : decide (x6_1 < (y111.length : Int)) = true := decide_eq_true c4
    clear c4
    by_cases c5 : 0 ≤ x6_1
    ·rw [if_pos c5] at H
     have c5b0 : decide (0 ≤ x6_1) = true := decide_eq_true c5
     clear c5
     by_cases c6 : x6_1 < (y111.length : Int)
     ·rw [if_pos c6] at H
      have c6b0 : decide (x6_1 < (y111.length : Int)) = true := decide_eq_true c6
      clear c6
      by_cases c7 : 9 + (rdOf ByteArray.empty y111 x6_1).size ≤ 9223372036854775807
      ·rw [if_pos c7] at H
       have c7b0 := eq_true c7
       have c7b1 : decide (9 + (rdOf ByteArray.empty y111 x6_1).size ≤ 9223372036854775807) = true := decide_eq_true c7
       try have c7b2 : (9223372036854775807 < 9 + (rdOf ByteArray.empty y111 x6_1).size) = False := eq_false (Nat.not_lt.2 c7)
       by_cases c8 : x6_1 = 0
       ·rw [if_pos c8] at H
        have c8b0 : (x6_1 == 0) = true := beq_iff_eq.mpr c8
        have c8b1 : (x6_1 != 0) = false := bne_eq_false_iff_eq.mpr c8
        clear c8
        by_cases c9 : x1_1.length < 4398046511104
        ·rw [if_pos c9] at H
         have LMc9 := Aside0.mk c9
         clear c9
         obtain ⟨y115, hy115⟩ : ∃ y_ : List (S41), y_ = (x1_1 ++ [(⟨(⟨#[83, 101, 99, 45, 67, 72, 45, 85, 65]⟩ : ByteArray) ++ (rdOf ByteArray.empty y111 x6_1), wrap64 (38 + x6_1), true⟩ : S41)]) := ⟨_, rfl⟩
         replace H : (hint_List.l0 k1 y115 y111 (y111.length : Int) (wrap64 (x6_1 + 1))) = some r := by first | (rw [hy115]; with_reducible exact H) | (have H2_ := (Option.bind_some _ _).symm.trans H; rw [hy115]; with_reducible exact H2_) | (have H2_ := (Option.bind_some _ _).symm.trans H; with_reducible exact H2_) | with_reducible exact H | (rw [hy115]; exact H) | exact H
         have Ny115 := Aside0.mk hy115
         clear hy115
         have H' := Aside0.mk H
         clear H
         have p114 : 0 ≤ (x6_1 : Int) := of_decide_eq_true (by first | (with_reducible assumption) | assumption)
         have q114 : x6_1 < (y111.length : Int) := of_decide_eq_true (by first | (with_reducible assumption) | assumption)
         obtain ⟨ad114, e114, hx114_0⟩ := Kd.at_string (Kd.R_reads' HO_4.out).2.2 x6_1 p114 q114
         cases e114
         replace p114 := eq_true p114
         replace q114 := eq_true q114
         go_wp2_with (first | ((with_reducible refine gate_builtin (b := .append) (xs := #[.tmp 11, .tmp 27]) rfl ?_); at_builtin; refine Kd.R_append k41 (w0 := w) w.heap.size rfl (.tmp 11) (.tmp 27) 42 41 (.agg #[(.string ⟨#[]⟩), (.int .i64 0), (.bool false)]) 32 rfl Tryd.underlying42 info41 rfl (by decide) (by omega) u1 x1_1 (⟨(⟨#[83, 101, 99, 45, 67, 72, 45, 85, 65]⟩ : ByteArray) ++ (rdOf ByteArray.empty y111 x6_1), wrap64 (38 + x6_1), true⟩ : S41) [.string ((⟨#[83, 101, 99, 45, 67, 72, 45, 85, 65]⟩ : ByteArray) ++ (rdOf ByteArray.empty y111 x6_1)), .int .i64 (wrap64 (38 + x6_1)), .bool true] (fun _ => True) (fun _ => False) rfl rfl ?aP (fun _ hk => hk.elim) ?aF ?aO ?aB ?aS ?aL ?_; (case aP => exact k41_mkM _ _ _ (⟨(⟨#[83, 101, 99, 45, 67, 72, 45, 85, 65]⟩ : ByteArray) ++ (rdOf ByteArray.empty y111 x6_1), wrap64 (38 + x6_1), true⟩ : S41)); (case aB => exact (by repeat (first | (with_reducible first | exact HB.out | apply below_alloc | apply pw_below_drewN | apply below_drew1) | exact HB.out))); (case aF => exact (fun _ _ => trivial)); (case aO => exact (by (with_reducible repeat (first | apply Kd.R_alloc | apply Kd.R_drewN | apply Kd.R_drew)); exact HO_1.out)); (case aS => exact (below_size (by repeat (first | (with_reducible first | exact HB.out | apply below_alloc | apply pw_below_drewN | apply below_drew1) | exact HB.out)))); (case aL => have := LMc9.out; omega); intro v116 w10 ho hb hg hat; rw [← Ny115.out] at ho; have n0_ := Aside0.mk (Kd.R_over' (by (with_reducible repeat (first | apply Kd.R_alloc | apply Kd.R_drewN | apply Kd.R_drew)); exact HO_4.out) (Kd.R_typed (by (with_reducible repeat (first | apply Kd.R_alloc | apply Kd.R_drewN | apply Kd.R_drew)); exact HO_1.out)) (by decide) hg); have n1_ := Aside0.mk (hb); have n2_ := Aside0.mk (ho); clear HO_4; clear HB; clear HO_1; have HO_4 := n0_; have HB := n1_; have HO117 := n2_; clear n0_ n1_ n2_; clear ho hb hg hat))
         go_roundg k1
         case measure => have := HK1.out; omega
         case rel => exact ⟨(y115), (wrap64 (x6_1 + 1)), (by first | rfl | (simp; done) | (simp [*]; done)), H', ⟨by have := HK1.out; omega⟩, ⟨by (with_reducible repeat (first | apply Kd.R_alloc | apply Kd.R_drewN | apply Kd.R_drew)); exact HO117.out⟩, ⟨by (with_reducible repeat (first | apply Kd.R_alloc | apply Kd.R_drewN | apply Kd.R_drew)); exact HO_4.out⟩, ⟨by repeat (first | (with_reducible first | exact HB.out | apply below_alloc | apply pw_below_drewN | apply below_drew1) | exact HB.out)⟩⟩
        ·rw [if_neg c9] at H
         exact absurd H (by simp)
       ·rw [if_neg c8] at H
        have c8b0 : (x6_1 == 0) = false := beq_eq_false_iff_ne.mpr c8
        have c8b1 : (x6_1 != 0) = true := bne_iff_ne.mpr c8
        by_cases c11 : x6_1 = 5
        ·rw [if_pos c11] at H
         have c11b0 : (x6_1 == 5) = true := beq_iff_eq.mpr c11
         have c11b1 : (x6_1 != 5) = false := bne_eq_false_iff_eq.mpr c11
         clear c11
         by_cases c12 : x1_1.length < 4398046511104
         ·rw [if_pos c12] at H
          have LMc12 := Aside0.mk c12
          clear c12
          obtain ⟨y118, hy118⟩ : ∃ y_ : List (S41), y_ = (x1_1 ++ [(⟨(⟨#[83, 101, 99, 45, 67, 72, 45, 85, 65]⟩ : ByteArray) ++ (rdOf ByteArray.empty y111 x6_1), wrap64 (38 + x6_1), true⟩ : S41)]) := ⟨_, rfl⟩
          replace H : (hint_List.l0 k1 y118 y111 (y111.length : Int) (wrap64 (x6_1 + 1))) = some r := by first | (rw [hy118]; with_reducible exact H) | (have H2_ := (Option.bind_some _ _).symm.trans H; rw [hy118]; with_reducible exact H2_) | (have H2_ := (Option.bind_some _ _).symm.trans H; with_reducible exact H2_) | with_reducible exact H | (rw [hy118]; exact H) | exact H
          have Ny118 := Aside0.mk hy118
          clear hy118
          have H' := Aside0.mk H
          clear H
          have p114 : 0 ≤ (x6_1 : Int) := of_decide_eq_true (by first | (with_reducible assumption) | assumption)
          have q114 : x6_1 < (y111.length : Int) := of_decide_eq_true (by first | (with_reducible assumption) | assumption)
          obtain ⟨ad114, e114, hx114_0⟩ := Kd.at_string (Kd.R_reads' HO_4.out).2.2 x6_1 p114 q114
          cases e114
          replace p114 := eq_true p114
          replace q114 := eq_true q114
          go_wp2_with (first | ((with_reducible refine gate_builtin (b := .append) (xs := #[.tmp 11, .tmp 27]) rfl ?_); at_builtin; refine Kd.R_append k41 (w0 := w) w.heap.size rfl (.tmp 11) (.tmp 27) 42 41 (.agg #[(.string ⟨#[]⟩), (.int .i64 0), (.bool false)]) 32 rfl Tryd.underlying42 info41 rfl (by decide) (by omega) u1 x1_1 (⟨(⟨#[83, 101, 99, 45, 67, 72, 45, 85, 65]⟩ : ByteArray) ++ (rdOf ByteArray.empty y111 x6_1), wrap64 (38 + x6_1), true⟩ : S41) [.string ((⟨#[83, 101, 99, 45, 67, 72, 45, 85, 65]⟩ : ByteArray) ++ (rdOf ByteArray.empty y111 x6_1)), .int .i64 (wrap64 (38 + x6_1)), .bool true] (fun _ => True) (fun _ => False) rfl rfl ?aP (fun _ hk => hk.elim) ?aF ?aO ?aB ?aS ?aL ?_; (case aP => exact k41_mkM _ _ _ (⟨(⟨#[83, 101, 99, 45, 67, 72, 45, 85, 65]⟩ : ByteArray) ++ (rdOf ByteArray.empty y111 x6_1), wrap64 (38 + x6_1), true⟩ : S41)); (case aB => exact (by repeat (first | (with_reducible first | exact HB.out | apply below_alloc | apply pw_below_drewN | apply below_drew1) | exact HB.out))); (case aF => exact (fun _ _ => trivial)); (case aO => exact (by (with_reducible repeat (first | apply Kd.R_alloc | apply Kd.R_drewN | apply Kd.R_drew)); exact HO_1.out)); (case aS => exact (below_size (by repeat (first | (with_reducible first | exact HB.out | apply below_alloc | apply pw_below_drewN | apply below_drew1) | exact HB.out)))); (case aL => have := LMc12.out; omega); intro v119 w13 ho hb hg hat; rw [← Ny118.out] at ho; have n0_ := Aside0.mk (Kd.R_over' (by (with_reducible repeat (first | apply Kd.R_alloc | apply Kd.R_drewN | apply Kd.R_drew)); exact HO_4.out) (Kd.R_typed (by (with_reducible repeat (first | apply Kd.R_alloc | apply Kd.R_drewN | apply Kd.R_drew)); exact HO_1.out)) (by decide) hg); have n1_ := Aside0.mk (hb); have n2_ := Aside0.mk (ho); clear HO_4; clear HB; clear HO_1; have HO_4 := n0_; have HB := n1_; have HO120 := n2_; clear n0_ n1_ n2_; clear ho hb hg hat))
          go_roundg k1
          case measure => have := HK1.out; omega
          case rel => exact ⟨(y118), (wrap64 (x6_1 + 1)), (by first | rfl | (simp; done) | (simp [*]; done)), H', ⟨by have := HK1.out; omega⟩, ⟨by (with_reducible repeat (first | apply Kd.R_alloc | apply Kd.R_drewN | apply Kd.R_drew)); exact HO120.out⟩, ⟨by (with_reducible repeat (first | apply Kd.R_alloc | apply Kd.R_drewN | apply Kd.R_drew)); exact HO_4.out⟩, ⟨by repeat (first | (with_reducible first | exact HB.out | apply below_alloc | apply pw_below_drewN | apply below_drew1) | exact HB.out)⟩⟩
         ·rw [if_neg c12] at H
          exact absurd H (by simp)
        ·rw [if_neg c11] at H
         have c11b0 : (x6_1 == 5) = false := beq_eq_false_iff_ne.mpr c11
         have c11b1 : (x6_1 != 5) = true := bne_iff_ne.mpr c11
         by_cases c14 : x1_1.length < 4398046511104
         ·rw [if_pos c14] at H
          have LMc14 := Aside0.mk c14
          clear c14
          obtain ⟨y121, hy121⟩ : ∃ y_ : List (S41), y_ = (x1_1 ++ [(⟨(⟨#[83, 101, 99, 45, 67, 72, 45, 85, 65]⟩ : ByteArray) ++ (rdOf ByteArray.empty y111 x6_1), wrap64 (38 + x6_1), (x6_1 == 7)⟩ : S41)]) := ⟨_, rfl⟩
          replace H : (hint_List.l0 k1 y121 y111 (y111.length : Int) (wrap64 (x6_1 + 1))) = some r := by first | (rw [hy121]; with_reducible exact H) | (have H2_ := (Option.bind_some _ _).symm.trans H; rw [hy121]; with_reducible exact H2_) | (have H2_ := (Option.bind_some _ _).symm.trans H; with_reducible exact H2_) | with_reducible exact H | (rw [hy121]; exact H) | exact H
          have Ny121 := Aside0.mk hy121
          clear hy121
          have H' := Aside0.mk H
          clear H
          have p114 : 0 ≤ (x6_1 : Int) := of_decide_eq_true (by first | (with_reducible assumption) | assumption)
          have q114 : x6_1 < (y111.length : Int) := of_decide_eq_true (by first | (with_reducible assumption) | assumption)
          obtain ⟨ad114, e114, hx114_0⟩ := Kd.at_string (Kd.R_reads' HO_4.out).2.2 x6_1 p114 q114
          cases e114
          replace p114 := eq_true p114
          replace q114 := eq_true q114
          go_wp2_with (first | ((with_reducible refine gate_builtin (b := .append) (xs := #[.tmp 11, .tmp 27]) rfl ?_); at_builtin; refine Kd.R_append k41 (w0 := w) w.heap.size rfl (.tmp 11) (.tmp 27) 42 41 (.agg #[(.string ⟨#[]⟩), (.int .i64 0), (.bool false)]) 32 rfl Tryd.underlying42 info41 rfl (by decide) (by omega) u1 x1_1 (⟨(⟨#[83, 101, 99, 45, 67, 72, 45, 85, 65]⟩ : ByteArray) ++ (rdOf ByteArray.empty y111 x6_1), wrap64 (38 + x6_1), (x6_1 == 7)⟩ : S41) [.string ((⟨#[83, 101, 99, 45, 67, 72, 45, 85, 65]⟩ : ByteArray) ++ (rdOf ByteArray.empty y111 x6_1)), .int .i64 (wrap64 (38 + x6_1)), .bool (x6_1 == 7)] (fun _ => True) (fun _ => False) rfl rfl ?aP (fun _ hk => hk.elim) ?aF ?aO ?aB ?aS ?aL ?_; (case aP => exact k41_mkM _ _ _ (⟨(⟨#[83, 101, 99, 45, 67, 72, 45, 85, 65]⟩ : ByteArray) ++ (rdOf ByteArray.empty y111 x6_1), wrap64 (38 + x6_1), (x6_1 == 7)⟩ : S41)); (case aB => exact (by repeat (first | (with_reducible first | exact HB.out | apply below_alloc | apply pw_below_drewN | apply below_drew1) | exact HB.out))); (case aF => exact (fun _ _ => trivial)); (case aO => exact (by (with_reducible repeat (first | apply Kd.R_alloc | apply Kd.R_drewN | apply Kd.R_drew)); exact HO_1.out)); (case aS => exact (below_size (by repeat (first | (with_reducible first | exact HB.out | apply below_alloc | apply pw_below_drewN | apply below_drew1) | exact HB.out)))); (case aL => have := LMc14.out; omega); intro v122 w15 ho hb hg hat; rw [← Ny121.out] at ho; have n0_ := Aside0.mk (Kd.R_over' (by (with_reducible repeat (first | apply Kd.R_alloc | apply Kd.R_drewN | apply Kd.R_drew)); exact HO_4.out) (Kd.R_typed (by (with_reducible repeat (first | apply Kd.R_alloc | apply Kd.R_drewN | apply Kd.R_drew)); exact HO_1.out)) (by decide) hg); have n1_ := Aside0.mk (hb); have n2_ := Aside0.mk (ho); clear HO_4; clear HB; clear HO_1; have HO_4 := n0_; have HB := n1_; have HO123 := n2_; clear n0_ n1_ n2_; clear ho hb hg hat))
          go_roundg k1
          case measure => have := HK1.out; omega
          case rel => exact ⟨(y121), (wrap64 (x6_1 + 1)), (by first | rfl | (simp; done) | (simp [*]; done)), H', ⟨by have := HK1.out; omega⟩, ⟨by (with_reducible repeat (first | apply Kd.R_alloc | apply Kd.R_drewN | apply Kd.R_drew)); exact HO123.out⟩, ⟨by (with_reducible repeat (first | apply Kd.R_alloc | apply Kd.R_drewN | apply Kd.R_drew)); exact HO_4.out⟩, ⟨by repeat (first | (with_reducible first | exact HB.out | apply below_alloc | apply pw_below_drewN | apply below_drew1) | exact HB.out)⟩⟩
         ·rw [if_neg c14] at H
          exact absurd H (by simp)
      ·rw [if_neg c7] at H
       exact absurd H (by simp)
     ·rw [if_neg c6] at H
      exact absurd H (by simp)
    ·rw [if_neg c5] at H
     exact absurd H (by simp)
   ·rw [if_neg c4] at H
    have c4b0 : decide (x6_1 < (y111.length : Int)) = false := decide_eq_false c4
    clear c4
    obtain ⟨y124, hy124⟩ : ∃ y_ : List (S41), y_ = (([(⟨(⟨#[83, 101, 99, 45, 67, 72, 45, 68, 80, 82]⟩ : ByteArray), 47, false⟩ : S41), (⟨(⟨#[83, 101, 99, 45, 67, 72, 45, 86, 105, 101, 119, 112, 111, 114, 116, 45, 87, 105, 100, 116, 104]⟩ : ByteArray), 48, false⟩ : S41), (⟨(⟨#[83, 101, 99, 45, 67, 72, 45, 68, 101, 118, 105, 99, 101, 45, 77, 101, 109, 111, 114, 121]⟩ : ByteArray), 49, false⟩ : S41)] : List (S41))) := ⟨_, rfl⟩
    replace H : (if x1_1.length + y124.length < 4398046511104 then (some (x1_1 ++ y124)) else (none)) = some r := by first | (rw [hy124]; with_reducible exact H) | (have H2_ := (Option.bind_some _ _).symm.trans H; rw [hy124]; with_reducible exact H2_) | (have H2_ := (Option.bind_some _ _).symm.trans H; with_reducible exact H2_) | with_reducible exact H | (rw [hy124]; exact H) | exact H
    have Ny124 := Aside0.mk hy124
    clear hy124
    by_cases c16 : x1_1.length + y124.length < 4398046511104
    ·rw [if_pos c16] at H
     have LMc16 := Aside0.mk c16
     clear c16
     obtain ⟨y127, hy127⟩ : ∃ y_ : List (S41), y_ = (x1_1 ++ y124) := ⟨_, rfl⟩
     replace H : (some y127) = some r := by first | (rw [hy127]; with_reducible exact H) | (have H2_ := (Option.bind_some _ _).symm.trans H; rw [hy127]; with_reducible exact H2_) | (have H2_ := (Option.bind_some _ _).symm.trans H; with_reducible exact H2_) | with_reducible exact H | (rw [hy127]; exact H) | exact H
     have Ny127 := Aside0.mk hy127
     clear hy127
     obtain rfl := Option.some.inj H
     go_wp2_with (first | ((with_reducible refine gate_dst (N := 34) rfl ?_); refine Kd.R_lit k41 _ 41 ?hg (N := 34) ?hd (xs := ([(⟨(⟨#[83, 101, 99, 45, 67, 72, 45, 68, 80, 82]⟩ : ByteArray), 47, false⟩ : S41), (⟨(⟨#[83, 101, 99, 45, 67, 72, 45, 86, 105, 101, 119, 112, 111, 114, 116, 45, 87, 105, 100, 116, 104]⟩ : ByteArray), 48, false⟩ : S41), (⟨(⟨#[83, 101, 99, 45, 67, 72, 45, 68, 101, 118, 105, 99, 101, 45, 77, 101, 109, 111, 114, 121]⟩ : ByteArray), 49, false⟩ : S41)] : List (S41))) (inner := [.string (⟨#[83, 101, 99, 45, 67, 72, 45, 68, 80, 82]⟩ : ByteArray), .int .i64 47, .bool false, .string (⟨#[83, 101, 99, 45, 67, 72, 45, 86, 105, 101, 119, 112, 111, 114, 116, 45, 87, 105, 100, 116, 104]⟩ : ByteArray), .int .i64 48, .bool false, .string (⟨#[83, 101, 99, 45, 67, 72, 45, 68, 101, 118, 105, 99, 101, 45, 77, 101, 109, 111, 114, 121]⟩ : ByteArray), .int .i64 49, .bool false]) (ok := fun _ => True) (okp := fun _ => True) ?hr ?hp (fun _ hk => hk) trivial (Below.refl _ _) (Nat.le_refl _) (by simp) ?_; (case hd => rfl); (case hg => rfl); (case hr => first | (go_simp; done) | (go_simp; rfl)); (case hp => exact (Reps.c3 (show Kd.M k41 _ _ _ (⟨(⟨#[83, 101, 99, 45, 67, 72, 45, 68, 80, 82]⟩ : ByteArray), 47, false⟩ : S41) [.string (⟨#[83, 101, 99, 45, 67, 72, 45, 68, 80, 82]⟩ : ByteArray), .int .i64 47, .bool false] from (k41_mkM _ _ _ (⟨(⟨#[83, 101, 99, 45, 67, 72, 45, 68, 80, 82]⟩ : ByteArray), 47, false⟩ : S41) )) (Reps.c3 (show Kd.M k41 _ _ _ (⟨(⟨#[83, 101, 99, 45, 67, 72, 45, 86, 105, 101, 119, 112, 111, 114, 116, 45, 87, 105, 100, 116, 104]⟩ : ByteArray), 48, false⟩ : S41) [.string (⟨#[83, 101, 99, 45, 67, 72, 45, 86, 105, 101, 119, 112, 111, 114, 116, 45, 87, 105, 100, 116, 104]⟩ : ByteArray), .int .i64 48, .bool false] from (k41_mkM _ _ _ (⟨(⟨#[83, 101, 99, 45, 67, 72, 45, 86, 105, 101, 119, 112, 111, 114, 116, 45, 87, 105, 100, 116, 104]⟩ : ByteArray), 48, false⟩ : S41) )) (Reps.c3 (show Kd.M k41 _ _ _ (⟨(⟨#[83, 101, 99, 45, 67, 72, 45, 68, 101, 118, 105, 99, 101, 45, 77, 101, 109, 111, 114, 121]⟩ : ByteArray), 49, false⟩ : S41) [.string (⟨#[83, 101, 99, 45, 67, 72, 45, 68, 101, 118, 105, 99, 101, 45, 77, 101, 109, 111, 114, 121]⟩ : ByteArray), .int .i64 49, .bool false] from (k41_mkM _ _ _ (⟨(⟨#[83, 101, 99, 45, 67, 72, 45, 68, 101, 118, 105, 99, 101, 45, 77, 101, 109, 111, 114, 121]⟩ : ByteArray), 49, false⟩ : S41) )) (Reps.none _ _))))); intro v125 w17 ho18 hb hg_ hnew_; clear hg_ hnew_; (first | rw [← Ny124.out] at ho18 | (simp only [Int.reduceToNat] at ho18; rw [← Ny124.out] at ho18)); have n0_ := Aside0.mk (Kd.R_elder' (by (with_reducible repeat (first | apply Kd.R_alloc | apply Kd.R_drewN | apply Kd.R_drew)); exact HO_1.out) (Kd.R_base ho18) hb); have n1_ := Aside0.mk (Kd.R_below (by (with_reducible repeat (first | apply Kd.R_alloc | apply Kd.R_drewN | apply Kd.R_drew)); exact HO_4.out) hb); have n2_ := Aside0.mk (Kd.R_lower (Kd.R_new' ho18 (Kd.R_lt (by (with_reducible repeat (first | apply Kd.R_alloc | apply Kd.R_drewN | apply Kd.R_drew)); exact HO_1.out))) (below_size (by repeat (first | (with_reducible first | exact HB.out | apply below_alloc | apply pw_below_drewN | apply below_drew1) | exact HB.out)))); have n3_ := Aside0.mk (below_step (by repeat (first | (with_reducible first | exact HB.out | apply below_alloc | apply pw_below_drewN | apply below_drew1) | exact HB.out)) hb); clear HO_1; clear HO_4; clear HB; have HO_1 := n0_; have HO_4 := n1_; have HO126 := n2_; have HB := n3_; clear n0_ n1_ n2_ n3_; clear hb ho18; obtain ⟨Ao20, co20, eo20⟩ := Kd.R_slice HO126.out; subst eo20) | ((with_reducible refine gate_builtin (b := .append) (xs := #[.tmp 30, .tmp 34]) rfl ?_); at_builtin; refine Kd.R_append_rows k41 (w0 := w) w.heap.size rfl (.tmp 30) (.tmp 34) 42 41 (.agg #[(.string ⟨#[]⟩), (.int .i64 0), (.bool false)]) 32 rfl Tryd.underlying42 info41 rfl (by decide) (by omega) u1 x1_1 y124 _ _ _ (fun k_ => some k_ ≠ (.slice Ao20 y124.length co20 : Value).ownBlock) (fun _ => False) rfl rfl ?aO ?aR (fun _ _ h => h) (fun _ h => h.elim) ?aF ?aB ?aS ?aL ?_; (case aR => repeat (first | exact (Kd.R_reads' HO126.out).2.2 | (with_reducible refine Kd.C_alloc ?_ _) | (with_reducible refine Kd.C_drewN ?_ _) | (with_reducible refine Kd.C_drew ?_))); (case aB => exact (by repeat (first | (with_reducible first | exact HB.out | apply below_alloc | apply pw_below_drewN | apply below_drew1) | exact HB.out))); (case aF => exact (fun k_ hk => Kd.fresh' (Kd.R_lt (by (with_reducible repeat (first | apply Kd.R_alloc | apply Kd.R_drewN | apply Kd.R_drew)); exact HO126.out)) k_ hk)); (case aO => exact (by (with_reducible repeat (first | apply Kd.R_alloc | apply Kd.R_drewN | apply Kd.R_drew)); exact Kd.R_mono HO_1.out (fun _ hk => hk.2))); (case aS => exact (below_size (by repeat (first | (with_reducible first | exact HB.out | apply below_alloc | apply pw_below_drewN | apply below_drew1) | exact HB.out)))); (case aL => have := LMc16.out; omega); intro v128 w19 ho hb hg hat; rw [← Ny127.out] at ho; have n0_ := Aside0.mk (Kd.R_over' (by (with_reducible repeat (first | apply Kd.R_alloc | apply Kd.R_drewN | apply Kd.R_drew)); exact HO_4.out) (Kd.R_typed (by (with_reducible repeat (first | apply Kd.R_alloc | apply Kd.R_drewN | apply Kd.R_drew)); exact HO_1.out)) (by decide) hg); have n1_ := Aside0.mk (Kd.R_after (ok := (fun _ => True)) (by (with_reducible repeat (first | apply Kd.R_alloc | apply Kd.R_drewN | apply Kd.R_drew)); exact HO126.out) hg hat); have n2_ := Aside0.mk (hb); have n3_ := Aside0.mk (ho); clear HO_4; clear HO126; clear HB; clear HO_1; have HO_4 := n0_; have HO126 := n1_; have HB := n2_; have HO129 := n3_; clear n0_ n1_ n2_ n3_; clear ho hb hg hat))
     go_ret
     exact ⟨_, by first | rfl | (simp [errW_none, errW_some] <;> rfl) | (simp [*, errW_none, errW_some] <;> rfl), by (with_reducible repeat (first | apply Kd.R_alloc | apply Kd.R_drewN | apply Kd.R_drew)); exact Kd.R_mono HO129.out (fun _ hk => trivial), by repeat (first | (with_reducible first | exact HB.out | apply below_alloc | apply pw_below_drewN | apply below_drew1) | exact HB.out)⟩
    ·rw [if_neg c16] at H
     exact absurd H (by simp)

def turn1 (a b c : Int) : Int := if a ≤ c then (if c ≤ b then Go.bits .xor .u8 c 32 else c) else c
def octets_turned.f (a0 : ByteArray) (a1 a2 : Int) : Option ByteArray := if a0.size ≤ 9223372036854775807 then some (strOfNums ((bytesOf a0).map (turn1 a1 a2))) else none
theorem turned_at (xs : List Int) (a b : Int) (k : Nat) (hk : k < xs.length) : ((xs.take k).map (turn1 a b) ++ xs.drop k).getD k 0 = xs.getD k 0 := by
 have hm : min k xs.length = k := Nat.min_eq_left (Nat.le_of_lt hk)
 rw [List.getD_eq_getElem?_getD, List.getElem?_append_right (by simp [hm]), List.getD_eq_getElem?_getD]
 simp [hm]
theorem turned_step (xs : List Int) (a b : Int) (k : Nat) (hk : k < xs.length) : ((xs.take k).map (turn1 a b) ++ xs.drop k).set k (turn1 a b (xs.getD k 0)) = (xs.take (k + 1)).map (turn1 a b) ++ xs.drop (k + 1) := by
 have hm : min k xs.length = k := Nat.min_eq_left (Nat.le_of_lt hk)
 rw [List.set_append_right _ _ (by simp [hm]), List.take_succ_eq_append_getElem hk, List.map_append]
 simp only [List.length_map, List.length_take, hm, Nat.sub_self]
 rw [List.drop_eq_getElem_cons hk, List.set_cons_zero, List.append_assoc]
 simp [List.getD_eq_getElem?_getD, List.getElem?_eq_getElem hk]
theorem turned_skip (xs : List Int) (a b : Int) (k : Nat) (hk : k < xs.length) (h : turn1 a b (xs.getD k 0) = xs.getD k 0) : (xs.take k).map (turn1 a b) ++ xs.drop k = (xs.take (k + 1)).map (turn1 a b) ++ xs.drop (k + 1) := by
 have e : turn1 a b xs[k] = xs[k] := by simpa [List.getD_eq_getElem?_getD, List.getElem?_eq_getElem hk] using h
 rw [List.take_succ_eq_append_getElem hk, List.map_append, List.drop_eq_getElem_cons hk]
 simp [e]
set_option maxHeartbeats 1000000 in
theorem octets_turned.calls (a0 : ByteArray) (a1 a2 : Int) (r : ByteArray) (w : World) (h : octets_turned.f a0 a1 a2 = some r) :
  Calls Tryd.prog 57 #[.string a0, .int .u8 a1, .int .u8 a2] w fun e w' => e = .returned (.string r) ∧ Below w.heap.size w w' := by
 unfold octets_turned.f at h
 by_cases hs : a0.size ≤ 9223372036854775807
 ·rw [if_pos hs] at h
  obtain rfl := Option.some.inj h
  clear h
  have kb := fun W => print_bytes (P := Tryd.prog) 9 62 5 Tryd.underlying9 Tryd.underlying62 Tryd.underlying5 a0 W
  go_enter Tryd.func57, Tryd.ntmps57
  go_wp2
  have hl := bytesOf_length a0
  generalize hbs : bytesOf a0 = bs at *
  have HM : Marked (Lib.bytesWorld w 5 a0) 5 w.heap.size bs := by rw [← hbs]; exact Marked.new w 5 a0
  have HB : Below w.heap.size w (Lib.bytesWorld w 5 a0) := bytes_below (Below.refl _ _) (Nat.le_refl _) _ _
  clear kb
  go_loopw [14] (fun v14 wr => ∃ k : Nat, v14 = .int .i64 k ∧ k ≤ a0.size ∧ Marked wr 5 w.heap.size ((bs.take k).map (turn1 a1 a2) ++ bs.drop k) ∧ Below w.heap.size w wr) (fun v14 _ => a0.size - (intOf v14).toNat)
  case atStart => exact ⟨0, rfl, Nat.zero_le _, by simpa using HM, HB⟩
  case round =>
   clear HM HB
   obtain ⟨k, rfl, hk, hm, hb⟩ := hrel
   have HL := Aside0.mk hl
   have HBS := Aside0.mk hbs
   clear hl hbs
   by_cases hlt : k < a0.size
   ·have hkb : k < bs.length := by rw [HL.out]; exact hlt
    obtain ⟨hc, hf⟩ := hm.get k (by simp; omega)
    rw [turned_at bs a1 a2 k hkb] at hc
    have hset := hm.set k (turn1 a1 a2 (bs.getD k 0))
    rw [turned_step bs a1 a2 k hkb] at hset
    have hskip := turned_skip bs a1 a2 k hkb
    have hbw := Marked.write hb (Nat.le_refl _) k (.int .u8 (turn1 a1 a2 (bs.getD k 0)))
    generalize bs.getD k 0 = c at *
    by_cases t1 : a1 ≤ c
    ·by_cases t2 : c ≤ a2
     ·have e : turn1 a1 a2 c = Go.bits .xor .u8 c 32 := by unfold turn1; rw [if_pos t1, if_pos t2]
      rw [e] at hset hbw
      clear e
      have HM := Aside0.mk hm
      have HS := Aside0.mk hset
      clear hm hset hskip
      go_wp2
      exact ⟨⟨k + 1, by go_num, by omega, HS.out, hbw⟩, by simp [intOf]; omega⟩
     ·have hm2 := hm
      rw [hskip (by unfold turn1; rw [if_pos t1, if_neg t2])] at hm2
      have HM := Aside0.mk hm2
      clear hm hset hskip hbw hm2
      go_wp2
      exact ⟨⟨k + 1, by go_num, by omega, HM.out, hb⟩, by simp [intOf]; omega⟩
    ·have hm2 := hm
     rw [hskip (by unfold turn1; rw [if_neg t1])] at hm2
     have HM := Aside0.mk hm2
     clear hm hset hskip hbw hm2
     go_wp2
     exact ⟨⟨k + 1, by go_num, by omega, HM.out, hb⟩, by simp [intOf]; omega⟩
   ·obtain rfl : k = a0.size := by omega
    rw [List.take_of_length_le (by rw [HL.out]; omega), List.drop_of_length_le (by rw [HL.out]; omega), List.append_nil] at hm
    have hcv := fun n => Marked.string (P := Tryd.prog) (src := 62) (dst := 9) hm Tryd.underlying62 Tryd.underlying5 Tryd.underlying9 a0.size n (by rw [List.length_map]; exact HL.out)
    have HM := Aside0.mk hm
    clear hm
    go_wp2
    go_ret
    exact ⟨by rw [HBS.out]; rfl, hb⟩
 ·rw [if_neg hs] at h
  cases h

def octets_Lower.f (a0 : ByteArray) : Option (ByteArray) := (octets_turned.f a0 65 90).bind fun t130 => (some t130)
set_option maxHeartbeats 8000000 in
set_option maxRecDepth 100000 in
theorem octets_Lower.calls (a0 : ByteArray) (r : ByteArray) (w : World) (h : octets_Lower.f a0 = some r) :
  Calls Tryd.prog 35 #[.string a0] w fun e w' => e = .returned (.string r) ∧ Below w.heap.size w w' := by
 have HB := Aside0.mk (Below.refl w.heap.size w)
 have H : ((octets_turned.f a0 65 90).bind fun t130 => (some t130)) = some r := h
 clear h
 replace H := Option.bind_eq_some_iff.mp H
 obtain ⟨t130, A20, H⟩ := H
 replace H : (some t130) = some r := H
 have A2 := Aside0.mk A20
 clear A20
 obtain rfl := Option.some.inj H
 go_enter Tryd.func35, Tryd.ntmps35
 go_wp2_with (first | ((with_reducible refine gate_callee (f := 57) rfl ?_); refine goesL_ (some 4) rfl rfl Tryd.func57 (by kernel_rfl) rfl #[.string a0, .int .u8 65, .int .u8 90] rfl (by (try simp only [List.map_toArray, List.map_cons, List.map_nil]); first | done | rfl | (simp only [List.length_drop, List.length_take]; rfl)) ?_; (with_reducible refine (octets_turned.calls a0 65 90 t130 _ A2.out).mono ?_); rintro e w3 ⟨rfl, hb⟩; refine ⟨_, rfl, ?_⟩; have n0_ := Aside0.mk (below_step (by repeat (first | (with_reducible first | exact HB.out | apply below_alloc | apply pw_below_drewN | apply below_drew1) | exact HB.out)) hb); clear HB; have HB := n0_; clear n0_; (try clear hb); (try clear hb2); (try clear hk); (try clear hi)))
 go_ret
 exact ⟨by first | rfl | (simp [errW_none, errW_some] <;> rfl) | (simp [*, errW_none, errW_some] <;> rfl), by repeat (first | (with_reducible first | exact HB.out | apply below_alloc | apply pw_below_drewN | apply below_drew1) | exact HB.out)⟩

-- USES pergola/hint.List
-- USES pergola/octets.Lower
-- INFO 41
def hnames : List S41 → Int → Puts → Option Puts
 | [], _, ps => some ps
 | h :: r, i, ps => (octets_Lower.f h.f0).bind fun low => if low.size ≤ 9223372036854775807 then hnames r (i + 1) ((low, i) :: ps) else none
set_option maxHeartbeats 4000000 in
set_option maxRecDepth 100000 in
theorem hint_names_calls (k : Nat) (L : List S41) (ps : Puts) (w : World) (hL : hint_List.f k = some L) (hl : L.length ≤ 1000) (hps : hnames L 0 [] = some ps) :
  Calls Tryd.prog 34 #[] w fun e w' => ∃ b, e = .returned (.map (some b)) ∧ IMap w' b ps ∧ Below w.heap.size w w' := by
 have hmm := @run_makeMap Tryd.prog
 have HL := Aside0.mk hL
 have HP := Aside0.mk hps
 have HM0 := Aside0.mk (IMap.made w)
 have HB0 := Aside0.mk (below_alloc (Below.refl w.heap.size w) (.map #[] 0))
 clear hL hps
 go_enter Tryd.func34, Tryd.ntmps34
 go_wp2_with (go_at_call 18; refine (hint_List.calls k L _ HL.out).mono ?_; rintro e w2 ⟨v, rfl, hR, hb⟩; obtain ⟨A2, c2, rfl⟩ := Kd.R_slice hR; have HR2 := Aside0.mk hR; have HB2 := Aside0.mk (below_then HB0.out HB0.out.size hb); have HM2 := Aside0.mk (HM0.out.below hb); clear hR hb)
 clear HM0 HL HB0
 obtain ⟨b0, hb0⟩ : ∃ b, b = w.heap.size := ⟨_, rfl⟩
 have HN := Aside0.mk hb0
 rw [← hb0] at HM2
 have HR3 : Aside0 (Kd.R k41 41 w2 (b0 + 1) (fun _ => True) (.slice A2 L.length c2) L) := ⟨Kd.R_lower HR2.out (by show b0 + 1 ≤ (w.heap.push _).size; rw [Array.size_push, hb0]; exact Nat.le_refl _)⟩
 rw [← hb0]
 clear hb0
 go_loopg [7] L.length (fun gk s7 wx => ∃ (i : Nat) (qs : Puts), i + gk = L.length ∧ s7 = .int .i64 i ∧ Aside0 (hnames (L.drop i) i qs = some ps) ∧ Aside0 (IMap wx b0 qs) ∧ Aside0 (qs.length = i) ∧ Aside0 (Kd.R k41 41 wx (b0 + 1) (fun _ => True) (.slice A2 L.length c2) L) ∧ Aside0 (Below w.heap.size w wx))
 case atStart => exact ⟨0, [], by omega, rfl, HP, HM2, ⟨rfl⟩, HR3, HB2⟩
 case round =>
  obtain ⟨i, qs, hig, rfl, HP1, HM, HQ, HR, HB⟩ := hrel
  clear HP HM2 HR2 HR3 HB2
  cases gk with
  | zero =>
   have hiz : ¬ ((i : Int) < (L.length : Int)) := by omega
   have hp := HP1.out
   rw [List.drop_eq_nil_of_le (by omega)] at hp
   have hp := Option.some.inj hp
   subst hp
   go_wp2
   go_ret
   exact ⟨b0, rfl, HM.out, HB.out⟩
  | succ gk =>
   have hi : i < L.length := by omega
   have hiz : (i : Int) < (L.length : Int) := by omega
   have hi0 : (0 : Int) ≤ (i : Int) := by omega
   have hp := HP1.out
   rw [List.drop_eq_getElem_cons hi] at hp
   unfold hnames at hp
   obtain ⟨low, hlow, hp⟩ := Option.bind_eq_some_iff.mp hp
   split at hp
   rotate_left
   ·cases hp
   rename_i hls
   have HP2 := Aside0.mk hp
   have HLW := Aside0.mk hlow
   have HLS := Aside0.mk hls
   clear hp HP1 hlow hls
   obtain ⟨ad, e0, hx0, hx1, hx2⟩ := at_T41 (Kd.R_reads' HR.out).2.2 (i : Int) hi0 hiz
   subst e0
   have hrd : rd_T41 L (i : Int) = L[i] := by
    unfold rd_T41
    rw [Int.toNat_natCast, List.getD_eq_getElem?_getD, List.getElem?_eq_getElem hi]
    rfl
   rw [hrd, Int.toNat_natCast] at hx0 hx1 hx2
   generalize L[i]'hi = x at *
   clear hrd
   go_upto_region 5 with (fail)
   obtain ⟨hy, hb3⟩ := alloc1 wr (.cells #[.string x.f0, .int .i64 x.f1, .bool x.f2] 41)
   have q0 : (wr.alloc (.cells #[.string x.f0, .int .i64 x.f1, .bool x.f2] 41)).cell? ⟨wr.heap.size, 0, none⟩ = some (.string x.f0) := (blk_cell hy 0).trans rfl
   have HM3 := Aside0.mk (HM.out.below hb3)
   have HR3 := Aside0.mk (Kd.R_below HR.out hb3)
   have HB3 := Aside0.mk (below_then HB.out HB.out.size hb3)
   have HNB : Aside0 (w.heap.size ≤ b0) := ⟨Nat.le_of_eq HN.out.symm⟩
   clear hy hb3 HM HR HB hx0 hx1 hx2
   generalize wr.alloc (Obj.cells #[Value.string x.f0, Value.int IntKind.i64 x.f1, Value.bool x.f2] 41) = w3 at *
   go_wp2_with (first
    | (go_at_call 35; refine (octets_Lower.calls x.f0 low _ HLW.out).mono ?_; rintro e w4 ⟨rfl, hb4⟩; have HM4 := Aside0.mk (HM3.out.below hb4); have HR4 := Aside0.mk (Kd.R_below HR3.out hb4); have HB4 := Aside0.mk (below_then HB3.out HB3.out.size hb4); clear hb4)
    | (at_mapUpdate; refine put_map rfl _ _ _ rfl b0 qs low (i : Int) rfl rfl rfl HM4.out (by rw [HQ.out]; unfold maxLen; omega) (by unfold maxLen; exact HLS.out) (by omega) (by omega) ?_; intro w5 hm5 hg5; have HM5 := Aside0.mk hm5; have HR5 := Aside0.mk (Kd.R_mono (Kd.R_grown (Kd.R_bound HR4.out) hg5 (fun k hk e => by injection e with e; have := hk.2.1; omega)) (fun _ _ => trivial)); have HB5 := Aside0.mk (below_grown HB4.out HB4.out.size hg5 (fun k hk => by injection hk with hk; rw [← hk]; exact HNB.out)); clear hm5 hg5))
   go_roundg gk
   case measure => omega
   case rel => exact ⟨i + 1, (low, (i : Int)) :: qs, by omega, by first | rfl | (simp; done), HP2, HM5, ⟨by rw [List.length_cons, HQ.out]⟩, HR5, HB5⟩
def hint_Find.f (k : Nat) (a0 : ByteArray) : Option (Int × Bool) := (hint_List.f k).bind fun L => if L.length ≤ 1000 then (hnames L 0 []).bind fun ps => (octets_Lower.f a0).bind fun low => if low.size ≤ 9223372036854775807 then some ((lookP ps low).getD 0, (lookP ps low).isSome) else none else none
theorem hint_Find.mono : ∀ a0 k, LeO (hint_Find.f k a0) (hint_Find.f (k + 1) a0) := by
 intro a0 k
 unfold hint_Find.f
 refine LeO.bind (hint_List.mono k) (fun _ => LeO.refl _)
set_option maxHeartbeats 4000000 in
theorem hint_Find.calls (k : Nat) (a0 : ByteArray) (r1 : Int) (r2 : Bool) (w : World) (h : hint_Find.f k a0 = some (r1, r2)) :
  Calls Tryd.prog 21 #[.string a0] w fun e w' => e = .returned (.tuple #[.int .i64 r1, .bool r2]) ∧ Below w.heap.size w w' := by
 unfold hint_Find.f at h
 obtain ⟨L, hL, h⟩ := Option.bind_eq_some_iff.mp h
 split at h
 rotate_left
 ·cases h
 rename_i hl
 obtain ⟨ps, hps, h⟩ := Option.bind_eq_some_iff.mp h
 obtain ⟨low, hlow, h⟩ := Option.bind_eq_some_iff.mp h
 split at h
 rotate_left
 ·cases h
 rename_i hls
 obtain ⟨rfl, rfl⟩ : (lookP ps low).getD 0 = r1 ∧ (lookP ps low).isSome = r2 := by simpa using h
 have HN := Aside0.mk (hint_names_calls k L ps w hL hl hps)
 have HL := Aside0.mk (fun w => octets_Lower.calls a0 low w hlow)
 have HS := Aside0.mk hls
 clear h hL hl hps hlow hls
 go_enter Tryd.func21, Tryd.ntmps21
 go_wp2_with (first
  | (go_at_call 34; refine HN.out.mono ?_; rintro e w1 ⟨b, rfl, hm, hb⟩; have HM1 := Aside0.mk hm; have HB1 := Aside0.mk hb; clear hm hb)
  | (go_at_call 35; refine (HL.out _).mono ?_; rintro e w2 ⟨rfl, hb2⟩; have hlk := (HM1.out.below hb2).look_ok low (by unfold maxLen; exact HS.out); have HB2 := Aside0.mk (below_then HB1.out HB1.out.size hb2); clear hb2))
 go_ret2
 exact ⟨rfl, HB2.out⟩

-- USES pergola/fields.ReadList
-- USES pergola/hint.Find
-- INFO 3
-- INFO 54
def hint_Parse.l0 : Nat → Int → List Int → List (S54) → Int → Int → Option (List Int × Int × Int)
 | 0, _, _, _, _, _ => none
 | k + 1, x7, x8, x23, x24, x25 => if x25 < x24 then (if 0 ≤ x25 then (if x25 < (x23.length : Int) then ((hint_Find.f k ((rd_T54 x23 x25).f2.f2)).bind fun bt272 => (if bt272.2 = true then (if ((rd_T54 x23 x25).f1 = true) then (hint_Parse.l0 k x7 x8 x23 x24 (wrap64 (x25 + 1))) else (if ((rd_T54 x23 x25).f2.f0) = 4 then (if x8.length < 17592186044416 then (hint_Parse.l0 k x7 (x8 ++ [bt272.1]) x23 x24 (wrap64 (x25 + 1))) else (none)) else (hint_Parse.l0 k x7 x8 x23 x24 (wrap64 (x25 + 1))))) else (hint_Parse.l0 k x7 x8 x23 x24 (wrap64 (x25 + 1))))) else (none)) else (none)) else (if x8.length < 4611686018427387904 then (some (compI (sortI x8), 0, x7)) else (none))
def hint_Parse.f (k : Nat) (a0 : ByteArray) : Option (List Int × Int × Int) := (fields_ReadList.f a0).bind fun bt265 => (if bt265.2.1 = 0 then (hint_Parse.l0 k bt265.2.2 ([] : List Int) bt265.1 (bt265.1.length : Int) 0) else (some (([] : List Int), bt265.2.1, bt265.2.2)))
theorem hint_Parse.mono_l : ∀ k, (∀ y0 y1 y2 y3 y4, LeO (hint_Parse.l0 k y0 y1 y2 y3 y4) (hint_Parse.l0 (k + 1) y0 y1 y2 y3 y4))
 | 0 => fun _ _ _ _ _ r h => by simp [hint_Parse.l0] at h
 | k + 1 => by
  have ih0 := hint_Parse.mono_l k
  ·intro y0 y1 y2 y3 y4
   unfold hint_Parse.l0
   repeat' first
   | (with_reducible exact ih0 _ _ _ _ _)
   | (with_reducible exact hint_Find.mono _ _)
   | (with_reducible exact LeO.refl _)
   | (with_reducible exact LeO.none _)
   | (with_reducible refine LeO.ite ?_ ?_)
   | (with_reducible refine LeO.bind ?_ (fun _ => ?_))
   | exact ih0 _ _ _ _ _
   | exact hint_Find.mono _ _
   | exact LeO.none _
   | refine LeO.ite ?_ ?_
   | refine LeO.bind ?_ (fun _ => ?_)
theorem hint_Parse.mono : ∀ a0 k, LeO (hint_Parse.f k a0) (hint_Parse.f (k + 1) a0) := by
 intro a0 k
 have ih0 := hint_Parse.mono_l k
 unfold hint_Parse.f
 repeat' first
   | (with_reducible exact ih0 _ _ _ _ _)
   | (with_reducible exact hint_Find.mono _ _)
   | (with_reducible exact LeO.refl _)
   | (with_reducible exact LeO.none _)
   | (with_reducible refine LeO.ite ?_ ?_)
   | (with_reducible refine LeO.bind ?_ (fun _ => ?_))
   | exact ih0 _ _ _ _ _
   | exact hint_Find.mono _ _
   | exact LeO.none _
   | refine LeO.ite ?_ ?_
   | refine LeO.bind ?_ (fun _ => ?_)
set_option maxHeartbeats 8000000 in
set_option maxRecDepth 100000 in
theorem hint_Parse.calls (k : Nat) (a0 : ByteArray) (r1 : List Int) (r2 : Int) (r3 : Int) (w : World) (h : hint_Parse.f k a0 = some (r1, r2, r3)) :
  Calls Tryd.prog 11 #[.string a0] w fun e w' => ∃ v0_ : Value, e = .returned (.tuple #[v0_, .int .i64 r2, .int .i64 r3]) ∧ Kd.R (Kd.int .i64) 3 w' w.heap.size (fun _ => True) v0_ r1 ∧ Below w.heap.size w w' := by
 have hu54 := Tryd.underlying54
 have HB := Aside0.mk (Below.refl w.heap.size w)
 have H : ((fields_ReadList.f a0).bind fun bt265 => (if bt265.2.1 = 0 then (hint_Parse.l0 k bt265.2.2 ([] : List Int) bt265.1 (bt265.1.length : Int) 0) else (some (([] : List Int), bt265.2.1, bt265.2.2)))) = some (r1, r2, r3) := h
 clear h
 replace H := Option.bind_eq_some_iff.mp H
 obtain ⟨⟨t265, t266, t267⟩, A20, H⟩ := H
 replace H : (if t266 = 0 then (hint_Parse.l0 k t267 ([] : List Int) t265 (t265.length : Int) 0) else (some (([] : List Int), t266, t267))) = some (r1, r2, r3) := H
 have A2 := Aside0.mk A20
 clear A20
 by_cases c3 : t266 = 0
 ·rw [if_pos c3] at H
  have c3b0 : (t266 == 0) = true := beq_iff_eq.mpr c3
  have c3b1 : (t266 != 0) = false := bne_eq_false_iff_eq.mpr c3
  clear c3
  have H' := Aside0.mk H
  clear H
  go_enter Tryd.func11, Tryd.ntmps11
  go_wp2_with (first | ((with_reducible refine gate_callee (f := 20) rfl ?_); refine goesL_ (some 15) rfl rfl Tryd.func20 (by kernel_rfl) rfl #[.string a0] rfl (by (try simp only [List.map_toArray, List.map_cons, List.map_nil]); first | done | rfl | (simp only [List.length_drop, List.length_take]; rfl)) ?_; (with_reducible refine (fields_ReadList.calls a0 t265 t266 t267 _ A2.out).mono ?_); rintro e w4 ⟨v268, rfl, ho0, hb⟩; refine ⟨_, rfl, ?_⟩; have n0_ := Aside0.mk (Kd.R_lower ho0 (below_size (by repeat (first | (with_reducible first | exact HB.out | apply below_alloc | apply pw_below_drewN | apply below_drew1) | exact HB.out)))); have n1_ := Aside0.mk (below_step (by repeat (first | (with_reducible first | exact HB.out | apply below_alloc | apply pw_below_drewN | apply below_drew1) | exact HB.out)) hb); clear HB; have HO269 := n0_; have HB := n1_; clear n0_ n1_; (try clear hb); (try clear hb2); (try clear hk); (try clear hi); (try clear ho0); obtain ⟨Ao5, co5, eo5⟩ := Kd.R_slice HO269.out; subst eo5))
  go_loopg [8, 25] k (fun kq v8 v25 w' => ∃ (x8_1 : List Int) (x25_1 : Int), v25 = .int .i64 x25_1 ∧ Aside0 (hint_Parse.l0 kq t267 x8_1 t265 (t265.length : Int) x25_1 = some (r1, r2, r3)) ∧ Aside0 (kq ≤ k) ∧ Aside0 (Kd.R (Kd.int .i64) 3 w' w.heap.size (fun _ => True) v8 x8_1) ∧ Aside0 (Kd.R k54 54 w' w.heap.size (fun _ => True) (.slice Ao5 t265.length co5) t265) ∧ Aside0 (Below w.heap.size w w'))
  case atStart => exact ⟨(([] : List Int)), (0), (by first | rfl | (simp; done) | (simp [*]; done)), H', ⟨Nat.le_refl _⟩, ⟨by first | exact Kd.R_nil _ _ _ _ _ | exact Kd.N_nil _ _ _ _ _ | exact Kd.V_nil _ _ _ _ _ | exact Kd.Q_nil _ _ _ _ _ | exact Kd.S_nil _ _ _ _ _⟩, ⟨by (with_reducible repeat (first | apply Kd.R_alloc | apply Kd.R_drewN | apply Kd.R_drew)); exact HO269.out⟩, ⟨by repeat (first | (with_reducible first | exact HB.out | apply below_alloc | apply pw_below_drewN | apply below_drew1) | exact HB.out)⟩⟩
  case round =>
   clear H'
   try clear c1
   try clear c2
   try clear p2
   try clear c3
   try clear c3b0
   try clear c3b1
   obtain ⟨x8_1, x25_1, rfl, HA, HK1, HO_8, HO_23, HB⟩ := hrel
   cases gk with
   | zero => exact absurd HA.out (by simp [hint_Parse.l0])
   | succ k1 =>
    have H := HA.out
    clear HA
    simp only [hint_Parse.l0] at H
    by_cases c6 : x25_1 < (t265.length : Int)
    ·rw [if_pos c6] at H
     have c6b0 : decide (x25_1 < (t265.length : Int)) = true := decide_eq_true c6
     clear c6
     by_cases c7 : 0 ≤ x25_1
     ·rw [if_pos c7] at H
      have c7b0 : decide (0 ≤ x25_1) = true := decide_eq_true c7
      clear c7
      by_cases c8 : x25_1 < (t265.length : Int)
      ·rw [if_pos c8] at H
       have c8b0 : decide (x25_1 < (t265.length : Int)) = true := decide_eq_true c8
       clear c8
       replace H := Option.bind_eq_some_iff.mp H
       obtain ⟨⟨t272, t273⟩, A90, H⟩ := H
       replace H : (if t273 = true then (if ((rd_T54 t265 x25_1).f1 = true) then (hint_Parse.l0 k1 t267 x8_1 t265 (t265.length : Int) (wrap64 (x25_1 + 1))) else (if ((rd_T54 t265 x25_1).f2.f0) = 4 then (if x8_1.length < 17592186044416 then (hint_Parse.l0 k1 t267 (x8_1 ++ [t272]) t265 (t265.length : Int) (wrap64 (x25_1 + 1))) else (none)) else (hint_Parse.l0 k1 t267 x8_1 t265 (t265.length : Int) (wrap64 (x25_1 + 1))))) else (hint_Parse.l0 k1 t267 x8_1 t265 (t265.length : Int) (wrap64 (x25_1 + 1)))) = some (r1, r2, r3) := H
       have A9 := Aside0.mk A90
       clear A90
       by_cases c10 : t273 = true
       ·subst c10
        have H1 : (if ((rd_T54 t265 x25_1).f1 = true) then (hint_Parse.l0 k1 t267 x8_1 t265 (t265.length : Int) (wrap64 (x25_1 + 1))) else (if ((rd_T54 t265 x25_1).f2.f0) = 4 then (if x8_1.length < 17592186044416 then (hint_Parse.l0 k1 t267 (x8_1 ++ [t272]) t265 (t265.length : Int) (wrap64 (x25_1 + 1))) else (none)) else (hint_Parse.l0 k1 t267 x8_1 t265 (t265.length : Int) (wrap64 (x25_1 + 1))))) = some (r1, r2, r3) := by rw [if_pos rfl] at H; exact H
        clear H
        have H := H1
        clear H1
        obtain ⟨bq11, hbq11⟩ : ∃ b_ : Bool, b_ = ((rd_T54 t265 x25_1).f1) := ⟨_, rfl⟩
        replace H : (if (bq11 = true) then (hint_Parse.l0 k1 t267 x8_1 t265 (t265.length : Int) (wrap64 (x25_1 + 1))) else (if ((rd_T54 t265 x25_1).f2.f0) = 4 then (if x8_1.length < 17592186044416 then (hint_Parse.l0 k1 t267 (x8_1 ++ [t272]) t265 (t265.length : Int) (wrap64 (x25_1 + 1))) else (none)) else (hint_Parse.l0 k1 t267 x8_1 t265 (t265.length : Int) (wrap64 (x25_1 + 1))))) = some (r1, r2, r3) := by rw [← hbq11] at H; exact H
        have Nbq11 := Aside0.mk hbq11
        clear hbq11
        by_cases c12 : (bq11 = true)
        ·subst c12
         have H1 : (hint_Parse.l0 k1 t267 x8_1 t265 (t265.length : Int) (wrap64 (x25_1 + 1))) = some (r1, r2, r3) := by rw [if_pos rfl] at H; exact H
         clear H
         have H := H1
         clear H1
         have H' := Aside0.mk H
         clear H
         have p270 : 0 ≤ (x25_1 : Int) := of_decide_eq_true (by first | (with_reducible assumption) | assumption)
         have q270 : x25_1 < (t265.length : Int) := of_decide_eq_true (by first | (with_reducible assumption) | assumption)
         obtain ⟨ad270, A270_5, c270_5, A270_6, c270_6, e270, hx270_0, hx270_1, hx270_2, hx270_3, hx270_4, hx270_5, hx270_6, hl270_5, hi270_5, hl270_6, hi270_6⟩ := at_T54 (Kd.R_reads' HO_23.out).2.2 x25_1 p270 q270
         (try rw [← Nbq11.out] at hx270_1)
         cases e270
         obtain ⟨ce270, hce270, hMe270, hcc270⟩ := Kd.R_get HO_23.out z54 x25_1 p270 (by first | exact q270 | exact of_decide_eq_true (by first | (with_reducible assumption) | assumption) | (have e_ := (Kd.R_reads' HO_23.out).1; omega))
         obtain ⟨ve270_5, ve270_6, rfl, ge270_5, ge270_6⟩ := k54_openM hMe270
         have hv270_5 := hcc270 5 _ rfl
         rw [add_field _ _ 5 (by omega)] at hv270_5
         replace hv270_5 := Option.some.inj (hv270_5.symm.trans hx270_5)
         rw [hv270_5] at ge270_5
         have HL270_5 := Aside0.mk (show Kd.R k103 103 _ _ _ _ ((rd_T54 t265 x25_1).f3) from ge270_5)
         clear hv270_5 ge270_5
         have hv270_6 := hcc270 6 _ rfl
         rw [add_field _ _ 6 (by omega)] at hv270_6
         replace hv270_6 := Option.some.inj (hv270_6.symm.trans hx270_6)
         rw [hv270_6] at ge270_6
         have HL270_6 := Aside0.mk (show Kd.R k119 119 _ _ _ _ ((rd_T54 t265 x25_1).f4) from ge270_6)
         clear hv270_6 ge270_6
         clear hcc270 hce270
         have HR270_5 := Aside0.mk hi270_5
         have HC270_5 := Aside0.mk hl270_5
         clear hi270_5 hl270_5
         have HR270_6 := Aside0.mk hi270_6
         have HC270_6 := Aside0.mk hl270_6
         clear hi270_6 hl270_6
         replace p270 := eq_true p270
         replace q270 := eq_true q270
         go_wp2_with (first | ((with_reducible refine gate_dst (N := 10) rfl ?_); refine box_event ?hg (N := 10) ?hd (cs := #[.string (⟨#[]⟩ : ByteArray), .bool false, .int .i64 0, .int .i64 0, .string (⟨#[]⟩ : ByteArray), .slice none 0 0, .slice none 0 0]) (t := 54) ?hr ?_; (case hd => rfl); (case hg => rfl); (case hr => first | (go_simp; done) | (go_simp; rfl)); intro gb271 hg w13 hbox hb; have n0_ := Aside0.mk (Kd.R_below (by (with_reducible repeat (first | apply Kd.R_alloc | apply Kd.R_drewN | apply Kd.R_drew)); exact HO_8.out) hb); have n1_ := Aside0.mk (Kd.R_below (Kd.R_elderB (by (with_reducible repeat (first | apply Kd.R_alloc | apply Kd.R_drewN | apply Kd.R_drew)); exact HO_23.out) gb271 (Nat.le_of_eq hg.symm)) hb); have n2_ := Aside0.mk (Kd.R_below (by (with_reducible repeat (first | apply Kd.R_alloc | apply Kd.R_drewN | apply Kd.R_drew)); exact HL270_5.out) hb); have n3_ := Aside0.mk (Kd.R_below (by (with_reducible repeat (first | apply Kd.R_alloc | apply Kd.R_drewN | apply Kd.R_drew)); exact HL270_6.out) hb); have n4_ := Aside0.mk (Kd.C_below (by repeat (first | (with_reducible exact HR270_5.out) | (with_reducible refine Kd.C_alloc ?_ _) | (with_reducible refine Kd.C_drewN ?_ _) | (with_reducible refine Kd.C_drew ?_) | exact HR270_5.out)) hb); have n5_ := Aside0.mk (Kd.C_below (by repeat (first | (with_reducible exact HR270_6.out) | (with_reducible refine Kd.C_alloc ?_ _) | (with_reducible refine Kd.C_drewN ?_ _) | (with_reducible refine Kd.C_drew ?_) | exact HR270_6.out)) hb); have n6_ := Aside0.mk (below_step (by repeat (first | (with_reducible first | exact HB.out | apply below_alloc | apply pw_below_drewN | apply below_drew1) | exact HB.out)) hb); have n7_ := Aside0.mk (hbox); have n8_ := Aside0.mk ((by rw [hg]; exact (below_size (by repeat (first | (with_reducible first | exact HB.out | apply below_alloc | apply pw_below_drewN | apply below_drew1) | exact HB.out))) : w.heap.size ≤ gb271)); have n9_ := Aside0.mk ((by rw [hg]; exact (below_size (by repeat (first | (with_reducible first | exact HB.out | apply below_alloc | apply pw_below_drewN | apply below_drew1) | exact HB.out))) : w.heap.size ≤ gb271)); clear HO_8; clear HO_23; clear HL270_5; clear HL270_6; clear HR270_5; clear HR270_6; clear HB; have HO_8 := n0_; have HO_23 := n1_; have HL270_5 := n2_; have HL270_6 := n3_; have HR270_5 := n4_; have HR270_6 := n5_; have HB := n6_; have BK271 := n7_; have GW271 := n8_; have GE271 := n9_; clear n0_ n1_ n2_ n3_ n4_ n5_ n6_ n7_ n8_ n9_; clear hb hbox hg; have hcz14_0 : w13.cell? ⟨gb271, 0, none⟩ = some (.string (⟨#[]⟩ : ByteArray)) := (blk_cell BK271.out 0).trans rfl; have hcz14_1 : w13.cell? ⟨gb271, 1, none⟩ = some (.bool false) := (blk_cell BK271.out 1).trans rfl; have hcz14_2 : w13.cell? ⟨gb271, 2, none⟩ = some (.int .i64 0) := (blk_cell BK271.out 2).trans rfl; have hcz14_3 : w13.cell? ⟨gb271, 3, none⟩ = some (.int .i64 0) := (blk_cell BK271.out 3).trans rfl; have hcz14_4 : w13.cell? ⟨gb271, 4, none⟩ = some (.string (⟨#[]⟩ : ByteArray)) := (blk_cell BK271.out 4).trans rfl; have hcz14_5 : w13.cell? ⟨gb271, 5, none⟩ = some (.slice none 0 0) := (blk_cell BK271.out 5).trans rfl; have hcz14_6 : w13.cell? ⟨gb271, 6, none⟩ = some (.slice none 0 0) := (blk_cell BK271.out 6).trans rfl; have hfz14_0 := blk_frozen BK271.out 0; have hfz14_1 := blk_frozen BK271.out 1; have hfz14_2 := blk_frozen BK271.out 2; have hfz14_3 := blk_frozen BK271.out 3; have hfz14_4 := blk_frozen BK271.out 4; have hfz14_5 := blk_frozen BK271.out 5; have hfz14_6 := blk_frozen BK271.out 6) | ((with_reducible refine gate_callee (f := 21) rfl ?_); refine goesL_ (some 33) rfl rfl Tryd.func21 (by kernel_rfl) rfl #[.string ((rd_T54 t265 x25_1).f2.f2)] rfl (by (try simp only [List.map_toArray, List.map_cons, List.map_nil]); first | done | rfl | (simp only [List.length_drop, List.length_take]; rfl)) ?_; (with_reducible refine (hint_Find.calls k1 ((rd_T54 t265 x25_1).f2.f2) t272 true _ A9.out).mono ?_); rintro e w15 ⟨rfl, hb⟩; refine ⟨_, rfl, ?_⟩; have n0_ := Aside0.mk (Kd.R_below (by (with_reducible repeat (first | apply Kd.R_alloc | apply Kd.R_drewN | apply Kd.R_drew)); exact (Kd.R_mono (Kd.R_far (p := ⟨gb271, 6, none⟩) (Kd.R_far (p := ⟨gb271, 5, none⟩) (Kd.R_far (p := ⟨gb271, 4, none⟩) (Kd.R_far (p := ⟨gb271, 3, none⟩) (Kd.R_far (p := ⟨gb271, 2, none⟩) (Kd.R_far (p := ⟨gb271, 1, none⟩) (Kd.R_far (p := ⟨gb271, 0, none⟩) (Kd.R_types HO_8.out BK271.out (by decide)) (fun _ hk => hk.2) (.string ((rd_T54 t265 x25_1).f0))) (fun _ hk => hk.2) (.bool true)) (fun _ hk => hk.2) (.int .i64 ((rd_T54 t265 x25_1).f2.f0))) (fun _ hk => hk.2) (.int .i64 ((rd_T54 t265 x25_1).f2.f1))) (fun _ hk => hk.2) (.string ((rd_T54 t265 x25_1).f2.f2))) (fun _ hk => hk.2) (.slice A270_5 ((rd_T54 t265 x25_1).f3).length c270_5)) (fun _ hk => hk.2) (.slice A270_6 ((rd_T54 t265 x25_1).f4).length c270_6)) (fun _ h_ => h_.1))) hb); have n1_ := Aside0.mk (Kd.R_below (by (with_reducible repeat (first | apply Kd.R_alloc | apply Kd.R_drewN | apply Kd.R_drew)); exact (Kd.R_mono (Kd.R_far (p := ⟨gb271, 6, none⟩) (Kd.R_far (p := ⟨gb271, 5, none⟩) (Kd.R_far (p := ⟨gb271, 4, none⟩) (Kd.R_far (p := ⟨gb271, 3, none⟩) (Kd.R_far (p := ⟨gb271, 2, none⟩) (Kd.R_far (p := ⟨gb271, 1, none⟩) (Kd.R_far (p := ⟨gb271, 0, none⟩) (Kd.R_mono HO_23.out (fun k_ hk => (⟨hk, hk.2⟩ : _ ∧ k_ ≠ gb271))) (fun _ hk => hk.2) (.string ((rd_T54 t265 x25_1).f0))) (fun _ hk => hk.2) (.bool true)) (fun _ hk => hk.2) (.int .i64 ((rd_T54 t265 x25_1).f2.f0))) (fun _ hk => hk.2) (.int .i64 ((rd_T54 t265 x25_1).f2.f1))) (fun _ hk => hk.2) (.string ((rd_T54 t265 x25_1).f2.f2))) (fun _ hk => hk.2) (.slice A270_5 ((rd_T54 t265 x25_1).f3).length c270_5)) (fun _ hk => hk.2) (.slice A270_6 ((rd_T54 t265 x25_1).f4).length c270_6)) (fun _ h_ => h_.1))) hb); have n2_ := Aside0.mk (Kd.R_below (by (with_reducible repeat (first | apply Kd.R_alloc | apply Kd.R_drewN | apply Kd.R_drew)); exact (Kd.R_mono (Kd.R_far (p := ⟨gb271, 6, none⟩) (Kd.R_far (p := ⟨gb271, 5, none⟩) (Kd.R_far (p := ⟨gb271, 4, none⟩) (Kd.R_far (p := ⟨gb271, 3, none⟩) (Kd.R_far (p := ⟨gb271, 2, none⟩) (Kd.R_far (p := ⟨gb271, 1, none⟩) (Kd.R_far (p := ⟨gb271, 0, none⟩) (Kd.R_types HL270_5.out BK271.out (by decide)) (fun _ hk => hk.2) (.string ((rd_T54 t265 x25_1).f0))) (fun _ hk => hk.2) (.bool true)) (fun _ hk => hk.2) (.int .i64 ((rd_T54 t265 x25_1).f2.f0))) (fun _ hk => hk.2) (.int .i64 ((rd_T54 t265 x25_1).f2.f1))) (fun _ hk => hk.2) (.string ((rd_T54 t265 x25_1).f2.f2))) (fun _ hk => hk.2) (.slice A270_5 ((rd_T54 t265 x25_1).f3).length c270_5)) (fun _ hk => hk.2) (.slice A270_6 ((rd_T54 t265 x25_1).f4).length c270_6)) (fun _ h_ => h_.1))) hb); have n3_ := Aside0.mk (Kd.R_below (by (with_reducible repeat (first | apply Kd.R_alloc | apply Kd.R_drewN | apply Kd.R_drew)); exact (Kd.R_mono (Kd.R_far (p := ⟨gb271, 6, none⟩) (Kd.R_far (p := ⟨gb271, 5, none⟩) (Kd.R_far (p := ⟨gb271, 4, none⟩) (Kd.R_far (p := ⟨gb271, 3, none⟩) (Kd.R_far (p := ⟨gb271, 2, none⟩) (Kd.R_far (p := ⟨gb271, 1, none⟩) (Kd.R_far (p := ⟨gb271, 0, none⟩) (Kd.R_types HL270_6.out BK271.out (by decide)) (fun _ hk => hk.2) (.string ((rd_T54 t265 x25_1).f0))) (fun _ hk => hk.2) (.bool true)) (fun _ hk => hk.2) (.int .i64 ((rd_T54 t265 x25_1).f2.f0))) (fun _ hk => hk.2) (.int .i64 ((rd_T54 t265 x25_1).f2.f1))) (fun _ hk => hk.2) (.string ((rd_T54 t265 x25_1).f2.f2))) (fun _ hk => hk.2) (.slice A270_5 ((rd_T54 t265 x25_1).f3).length c270_5)) (fun _ hk => hk.2) (.slice A270_6 ((rd_T54 t265 x25_1).f4).length c270_6)) (fun _ h_ => h_.1))) hb); have n4_ := Aside0.mk (Kd.C_below ((Kd.R_reads' (by (with_reducible repeat (first | apply Kd.R_alloc | apply Kd.R_drewN | apply Kd.R_drew)); exact (Kd.R_mono (Kd.R_far (p := ⟨gb271, 6, none⟩) (Kd.R_far (p := ⟨gb271, 5, none⟩) (Kd.R_far (p := ⟨gb271, 4, none⟩) (Kd.R_far (p := ⟨gb271, 3, none⟩) (Kd.R_far (p := ⟨gb271, 2, none⟩) (Kd.R_far (p := ⟨gb271, 1, none⟩) (Kd.R_far (p := ⟨gb271, 0, none⟩) (Kd.R_types HL270_5.out BK271.out (by decide)) (fun _ hk => hk.2) (.string ((rd_T54 t265 x25_1).f0))) (fun _ hk => hk.2) (.bool true)) (fun _ hk => hk.2) (.int .i64 ((rd_T54 t265 x25_1).f2.f0))) (fun _ hk => hk.2) (.int .i64 ((rd_T54 t265 x25_1).f2.f1))) (fun _ hk => hk.2) (.string ((rd_T54 t265 x25_1).f2.f2))) (fun _ hk => hk.2) (.slice A270_5 ((rd_T54 t265 x25_1).f3).length c270_5)) (fun _ hk => hk.2) (.slice A270_6 ((rd_T54 t265 x25_1).f4).length c270_6)) (fun _ h_ => h_.1)))).2.2) hb); have n5_ := Aside0.mk (Kd.C_below ((Kd.R_reads' (by (with_reducible repeat (first | apply Kd.R_alloc | apply Kd.R_drewN | apply Kd.R_drew)); exact (Kd.R_mono (Kd.R_far (p := ⟨gb271, 6, none⟩) (Kd.R_far (p := ⟨gb271, 5, none⟩) (Kd.R_far (p := ⟨gb271, 4, none⟩) (Kd.R_far (p := ⟨gb271, 3, none⟩) (Kd.R_far (p := ⟨gb271, 2, none⟩) (Kd.R_far (p := ⟨gb271, 1, none⟩) (Kd.R_far (p := ⟨gb271, 0, none⟩) (Kd.R_types HL270_6.out BK271.out (by decide)) (fun _ hk => hk.2) (.string ((rd_T54 t265 x25_1).f0))) (fun _ hk => hk.2) (.bool true)) (fun _ hk => hk.2) (.int .i64 ((rd_T54 t265 x25_1).f2.f0))) (fun _ hk => hk.2) (.int .i64 ((rd_T54 t265 x25_1).f2.f1))) (fun _ hk => hk.2) (.string ((rd_T54 t265 x25_1).f2.f2))) (fun _ hk => hk.2) (.slice A270_5 ((rd_T54 t265 x25_1).f3).length c270_5)) (fun _ hk => hk.2) (.slice A270_6 ((rd_T54 t265 x25_1).f4).length c270_6)) (fun _ h_ => h_.1)))).2.2) hb); have n6_ := Aside0.mk (blk_below (g := gb271) (o := .cells #[.string ((rd_T54 t265 x25_1).f0), .bool true, .int .i64 ((rd_T54 t265 x25_1).f2.f0), .int .i64 ((rd_T54 t265 x25_1).f2.f1), .string ((rd_T54 t265 x25_1).f2.f2), .slice A270_5 ((rd_T54 t265 x25_1).f3).length c270_5, .slice A270_6 ((rd_T54 t265 x25_1).f4).length c270_6] 54 (0, 0)) (by (with_reducible repeat (first | refine blk_drewN ?_ _ | refine blk_drew ?_ | refine blk_alloc ?_ _)); refine blk_put (cs := #[.string ((rd_T54 t265 x25_1).f0), .bool true, .int .i64 ((rd_T54 t265 x25_1).f2.f0), .int .i64 ((rd_T54 t265 x25_1).f2.f1), .string ((rd_T54 t265 x25_1).f2.f2), .slice A270_5 ((rd_T54 t265 x25_1).f3).length c270_5, .slice none 0 0]) ?_ 6 _ rfl; (with_reducible repeat (first | refine blk_drewN ?_ _ | refine blk_drew ?_ | refine blk_alloc ?_ _)); refine blk_put (cs := #[.string ((rd_T54 t265 x25_1).f0), .bool true, .int .i64 ((rd_T54 t265 x25_1).f2.f0), .int .i64 ((rd_T54 t265 x25_1).f2.f1), .string ((rd_T54 t265 x25_1).f2.f2), .slice none 0 0, .slice none 0 0]) ?_ 5 _ rfl; (with_reducible repeat (first | refine blk_drewN ?_ _ | refine blk_drew ?_ | refine blk_alloc ?_ _)); refine blk_put (cs := #[.string ((rd_T54 t265 x25_1).f0), .bool true, .int .i64 ((rd_T54 t265 x25_1).f2.f0), .int .i64 ((rd_T54 t265 x25_1).f2.f1), .string (⟨#[]⟩ : ByteArray), .slice none 0 0, .slice none 0 0]) ?_ 4 _ rfl; (with_reducible repeat (first | refine blk_drewN ?_ _ | refine blk_drew ?_ | refine blk_alloc ?_ _)); refine blk_put (cs := #[.string ((rd_T54 t265 x25_1).f0), .bool true, .int .i64 ((rd_T54 t265 x25_1).f2.f0), .int .i64 0, .string (⟨#[]⟩ : ByteArray), .slice none 0 0, .slice none 0 0]) ?_ 3 _ rfl; (with_reducible repeat (first | refine blk_drewN ?_ _ | refine blk_drew ?_ | refine blk_alloc ?_ _)); refine blk_put (cs := #[.string ((rd_T54 t265 x25_1).f0), .bool true, .int .i64 0, .int .i64 0, .string (⟨#[]⟩ : ByteArray), .slice none 0 0, .slice none 0 0]) ?_ 2 _ rfl; (with_reducible repeat (first | refine blk_drewN ?_ _ | refine blk_drew ?_ | refine blk_alloc ?_ _)); refine blk_put (cs := #[.string ((rd_T54 t265 x25_1).f0), .bool false, .int .i64 0, .int .i64 0, .string (⟨#[]⟩ : ByteArray), .slice none 0 0, .slice none 0 0]) ?_ 1 _ rfl; (with_reducible repeat (first | refine blk_drewN ?_ _ | refine blk_drew ?_ | refine blk_alloc ?_ _)); refine blk_put (cs := #[.string (⟨#[]⟩ : ByteArray), .bool false, .int .i64 0, .int .i64 0, .string (⟨#[]⟩ : ByteArray), .slice none 0 0, .slice none 0 0]) ?_ 0 _ rfl; (with_reducible repeat (first | refine blk_drewN ?_ _ | refine blk_drew ?_ | refine blk_alloc ?_ _)); exact BK271.out) hb); have n7_ := Aside0.mk (below_step (by repeat (first | (with_reducible first | exact HB.out | apply below_alloc | apply pw_below_drewN | apply below_drew1 | refine below_set ?_ GE271.out) | exact HB.out)) hb); clear HO_8; clear HO_23; clear HL270_5; clear HL270_6; clear HR270_5; clear HR270_6; clear BK271; clear HB; have HO_8 := n0_; have HO_23 := n1_; have HL270_5 := n2_; have HL270_6 := n3_; have HR270_5 := n4_; have HR270_6 := n5_; have BK271 := n6_; have HB := n7_; clear n0_ n1_ n2_ n3_ n4_ n5_ n6_ n7_; (try clear hb); (try clear hb2); (try clear hk); (try clear hi); have hcz16_0 : w15.cell? ⟨gb271, 0, none⟩ = some (.string ((rd_T54 t265 x25_1).f0)) := (blk_cell BK271.out 0).trans rfl; have hcz16_1 : w15.cell? ⟨gb271, 1, none⟩ = some (.bool true) := (blk_cell BK271.out 1).trans rfl; have hcz16_2 : w15.cell? ⟨gb271, 2, none⟩ = some (.int .i64 ((rd_T54 t265 x25_1).f2.f0)) := (blk_cell BK271.out 2).trans rfl; have hcz16_3 : w15.cell? ⟨gb271, 3, none⟩ = some (.int .i64 ((rd_T54 t265 x25_1).f2.f1)) := (blk_cell BK271.out 3).trans rfl; have hcz16_4 : w15.cell? ⟨gb271, 4, none⟩ = some (.string ((rd_T54 t265 x25_1).f2.f2)) := (blk_cell BK271.out 4).trans rfl; have hcz16_5 : w15.cell? ⟨gb271, 5, none⟩ = some (.slice A270_5 ((rd_T54 t265 x25_1).f3).length c270_5) := (blk_cell BK271.out 5).trans rfl; have hcz16_6 : w15.cell? ⟨gb271, 6, none⟩ = some (.slice A270_6 ((rd_T54 t265 x25_1).f4).length c270_6) := (blk_cell BK271.out 6).trans rfl; have hfz16_0 := blk_frozen BK271.out 0; have hfz16_1 := blk_frozen BK271.out 1; have hfz16_2 := blk_frozen BK271.out 2; have hfz16_3 := blk_frozen BK271.out 3; have hfz16_4 := blk_frozen BK271.out 4; have hfz16_5 := blk_frozen BK271.out 5; have hfz16_6 := blk_frozen BK271.out 6))
         go_roundg k1
         case measure => have := HK1.out; omega
         case rel => exact ⟨(x8_1), (wrap64 (x25_1 + 1)), (by first | rfl | (simp; done) | (simp [*]; done)), H', ⟨by have := HK1.out; omega⟩, ⟨by (with_reducible repeat (first | apply Kd.R_alloc | apply Kd.R_drewN | apply Kd.R_drew)); exact HO_8.out⟩, ⟨by (with_reducible repeat (first | apply Kd.R_alloc | apply Kd.R_drewN | apply Kd.R_drew)); exact Kd.R_mono HO_23.out (fun _ hk => trivial)⟩, ⟨by repeat (first | (with_reducible first | exact HB.out | apply below_alloc | apply pw_below_drewN | apply below_drew1 | refine below_set ?_ GE271.out) | exact HB.out)⟩⟩
        ·replace c12 := Bool.eq_false_iff.mpr c12
         subst c12
         have H1 : (if ((rd_T54 t265 x25_1).f2.f0) = 4 then (if x8_1.length < 17592186044416 then (hint_Parse.l0 k1 t267 (x8_1 ++ [t272]) t265 (t265.length : Int) (wrap64 (x25_1 + 1))) else (none)) else (hint_Parse.l0 k1 t267 x8_1 t265 (t265.length : Int) (wrap64 (x25_1 + 1)))) = some (r1, r2, r3) := by rw [if_neg (show ¬ (false = true) by decide)] at H; exact H
         clear H
         have H := H1
         clear H1
         by_cases c17 : ((rd_T54 t265 x25_1).f2.f0) = 4
         ·rw [if_pos c17] at H
          have c17b0 : (((rd_T54 t265 x25_1).f2.f0) == 4) = true := beq_iff_eq.mpr c17
          have c17b1 : (((rd_T54 t265 x25_1).f2.f0) != 4) = false := bne_eq_false_iff_eq.mpr c17
          clear c17
          by_cases c18 : x8_1.length < 17592186044416
          ·rw [if_pos c18] at H
           have LMc18 := Aside0.mk c18
           clear c18
           obtain ⟨y274, hy274⟩ : ∃ y_ : List Int, y_ = (x8_1 ++ [t272]) := ⟨_, rfl⟩
           replace H : (hint_Parse.l0 k1 t267 y274 t265 (t265.length : Int) (wrap64 (x25_1 + 1))) = some (r1, r2, r3) := by first | (rw [hy274]; with_reducible exact H) | (have H2_ := (Option.bind_some _ _).symm.trans H; rw [hy274]; with_reducible exact H2_) | (have H2_ := (Option.bind_some _ _).symm.trans H; with_reducible exact H2_) | with_reducible exact H | (rw [hy274]; exact H) | exact H
           have Ny274 := Aside0.mk hy274
           clear hy274
           have H' := Aside0.mk H
           clear H
           have p270 : 0 ≤ (x25_1 : Int) := of_decide_eq_true (by first | (with_reducible assumption) | assumption)
           have q270 : x25_1 < (t265.length : Int) := of_decide_eq_true (by first | (with_reducible assumption) | assumption)
           obtain ⟨ad270, A270_5, c270_5, A270_6, c270_6, e270, hx270_0, hx270_1, hx270_2, hx270_3, hx270_4, hx270_5, hx270_6, hl270_5, hi270_5, hl270_6, hi270_6⟩ := at_T54 (Kd.R_reads' HO_23.out).2.2 x25_1 p270 q270
           (try rw [← Nbq11.out] at hx270_1)
           cases e270
           obtain ⟨ce270, hce270, hMe270, hcc270⟩ := Kd.R_get HO_23.out z54 x25_1 p270 (by first | exact q270 | exact of_decide_eq_true (by first | (with_reducible assumption) | assumption) | (have e_ := (Kd.R_reads' HO_23.out).1; omega))
           obtain ⟨ve270_5, ve270_6, rfl, ge270_5, ge270_6⟩ := k54_openM hMe270
           have hv270_5 := hcc270 5 _ rfl
           rw [add_field _ _ 5 (by omega)] at hv270_5
           replace hv270_5 := Option.some.inj (hv270_5.symm.trans hx270_5)
           rw [hv270_5] at ge270_5
           have HL270_5 := Aside0.mk (show Kd.R k103 103 _ _ _ _ ((rd_T54 t265 x25_1).f3) from ge270_5)
           clear hv270_5 ge270_5
           have hv270_6 := hcc270 6 _ rfl
           rw [add_field _ _ 6 (by omega)] at hv270_6
           replace hv270_6 := Option.some.inj (hv270_6.symm.trans hx270_6)
           rw [hv270_6] at ge270_6
           have HL270_6 := Aside0.mk (show Kd.R k119 119 _ _ _ _ ((rd_T54 t265 x25_1).f4) from ge270_6)
           clear hv270_6 ge270_6
           clear hcc270 hce270
           have HR270_5 := Aside0.mk hi270_5
           have HC270_5 := Aside0.mk hl270_5
           clear hi270_5 hl270_5
           have HR270_6 := Aside0.mk hi270_6
           have HC270_6 := Aside0.mk hl270_6
           clear hi270_6 hl270_6
           replace p270 := eq_true p270
           replace q270 := eq_true q270
           go_wp2_with (first | ((with_reducible refine gate_dst (N := 10) rfl ?_); refine box_event ?hg (N := 10) ?hd (cs := #[.string (⟨#[]⟩ : ByteArray), .bool false, .int .i64 0, .int .i64 0, .string (⟨#[]⟩ : ByteArray), .slice none 0 0, .slice none 0 0]) (t := 54) ?hr ?_; (case hd => rfl); (case hg => rfl); (case hr => first | (go_simp; done) | (go_simp; rfl)); intro gb271 hg w19 hbox hb; have n0_ := Aside0.mk (Kd.R_below (by (with_reducible repeat (first | apply Kd.R_alloc | apply Kd.R_drewN | apply Kd.R_drew)); exact HO_8.out) hb); have n1_ := Aside0.mk (Kd.R_below (Kd.R_elderB (by (with_reducible repeat (first | apply Kd.R_alloc | apply Kd.R_drewN | apply Kd.R_drew)); exact HO_23.out) gb271 (Nat.le_of_eq hg.symm)) hb); have n2_ := Aside0.mk (Kd.R_below (by (with_reducible repeat (first | apply Kd.R_alloc | apply Kd.R_drewN | apply Kd.R_drew)); exact HL270_5.out) hb); have n3_ := Aside0.mk (Kd.R_below (by (with_reducible repeat (first | apply Kd.R_alloc | apply Kd.R_drewN | apply Kd.R_drew)); exact HL270_6.out) hb); have n4_ := Aside0.mk (Kd.C_below (by repeat (first | (with_reducible exact HR270_5.out) | (with_reducible refine Kd.C_alloc ?_ _) | (with_reducible refine Kd.C_drewN ?_ _) | (with_reducible refine Kd.C_drew ?_) | exact HR270_5.out)) hb); have n5_ := Aside0.mk (Kd.C_below (by repeat (first | (with_reducible exact HR270_6.out) | (with_reducible refine Kd.C_alloc ?_ _) | (with_reducible refine Kd.C_drewN ?_ _) | (with_reducible refine Kd.C_drew ?_) | exact HR270_6.out)) hb); have n6_ := Aside0.mk (below_step (by repeat (first | (with_reducible first | exact HB.out | apply below_alloc | apply pw_below_drewN | apply below_drew1) | exact HB.out)) hb); have n7_ := Aside0.mk (hbox); have n8_ := Aside0.mk ((by rw [hg]; exact (below_size (by repeat (first | (with_reducible first | exact HB.out | apply below_alloc | apply pw_below_drewN | apply below_drew1) | exact HB.out))) : w.heap.size ≤ gb271)); have n9_ := Aside0.mk ((by rw [hg]; exact (below_size (by repeat (first | (with_reducible first | exact HB.out | apply below_alloc | apply pw_below_drewN | apply below_drew1) | exact HB.out))) : w.heap.size ≤ gb271)); clear HO_8; clear HO_23; clear HL270_5; clear HL270_6; clear HR270_5; clear HR270_6; clear HB; have HO_8 := n0_; have HO_23 := n1_; have HL270_5 := n2_; have HL270_6 := n3_; have HR270_5 := n4_; have HR270_6 := n5_; have HB := n6_; have BK271 := n7_; have GW271 := n8_; have GE271 := n9_; clear n0_ n1_ n2_ n3_ n4_ n5_ n6_ n7_ n8_ n9_; clear hb hbox hg; have hcz20_0 : w19.cell? ⟨gb271, 0, none⟩ = some (.string (⟨#[]⟩ : ByteArray)) := (blk_cell BK271.out 0).trans rfl; have hcz20_1 : w19.cell? ⟨gb271, 1, none⟩ = some (.bool false) := (blk_cell BK271.out 1).trans rfl; have hcz20_2 : w19.cell? ⟨gb271, 2, none⟩ = some (.int .i64 0) := (blk_cell BK271.out 2).trans rfl; have hcz20_3 : w19.cell? ⟨gb271, 3, none⟩ = some (.int .i64 0) := (blk_cell BK271.out 3).trans rfl; have hcz20_4 : w19.cell? ⟨gb271, 4, none⟩ = some (.string (⟨#[]⟩ : ByteArray)) := (blk_cell BK271.out 4).trans rfl; have hcz20_5 : w19.cell? ⟨gb271, 5, none⟩ = some (.slice none 0 0) := (blk_cell BK271.out 5).trans rfl; have hcz20_6 : w19.cell? ⟨gb271, 6, none⟩ = some (.slice none 0 0) := (blk_cell BK271.out 6).trans rfl; have hfz20_0 := blk_frozen BK271.out 0; have hfz20_1 := blk_frozen BK271.out 1; have hfz20_2 := blk_frozen BK271.out 2; have hfz20_3 := blk_frozen BK271.out 3; have hfz20_4 := blk_frozen BK271.out 4; have hfz20_5 := blk_frozen BK271.out 5; have hfz20_6 := blk_frozen BK271.out 6) | ((with_reducible refine gate_callee (f := 21) rfl ?_); refine goesL_ (some 33) rfl rfl Tryd.func21 (by kernel_rfl) rfl #[.string ((rd_T54 t265 x25_1).f2.f2)] rfl (by (try simp only [List.map_toArray, List.map_cons, List.map_nil]); first | done | rfl | (simp only [List.length_drop, List.length_take]; rfl)) ?_; (with_reducible refine (hint_Find.calls k1 ((rd_T54 t265 x25_1).f2.f2) t272 true _ A9.out).mono ?_); rintro e w21 ⟨rfl, hb⟩; refine ⟨_, rfl, ?_⟩; have n0_ := Aside0.mk (Kd.R_below (by (with_reducible repeat (first | apply Kd.R_alloc | apply Kd.R_drewN | apply Kd.R_drew)); exact (Kd.R_mono (Kd.R_far (p := ⟨gb271, 6, none⟩) (Kd.R_far (p := ⟨gb271, 5, none⟩) (Kd.R_far (p := ⟨gb271, 4, none⟩) (Kd.R_far (p := ⟨gb271, 3, none⟩) (Kd.R_far (p := ⟨gb271, 2, none⟩) (Kd.R_far (p := ⟨gb271, 1, none⟩) (Kd.R_far (p := ⟨gb271, 0, none⟩) (Kd.R_types HO_8.out BK271.out (by decide)) (fun _ hk => hk.2) (.string ((rd_T54 t265 x25_1).f0))) (fun _ hk => hk.2) (.bool false)) (fun _ hk => hk.2) (.int .i64 ((rd_T54 t265 x25_1).f2.f0))) (fun _ hk => hk.2) (.int .i64 ((rd_T54 t265 x25_1).f2.f1))) (fun _ hk => hk.2) (.string ((rd_T54 t265 x25_1).f2.f2))) (fun _ hk => hk.2) (.slice A270_5 ((rd_T54 t265 x25_1).f3).length c270_5)) (fun _ hk => hk.2) (.slice A270_6 ((rd_T54 t265 x25_1).f4).length c270_6)) (fun _ h_ => h_.1))) hb); have n1_ := Aside0.mk (Kd.R_below (by (with_reducible repeat (first | apply Kd.R_alloc | apply Kd.R_drewN | apply Kd.R_drew)); exact (Kd.R_mono (Kd.R_far (p := ⟨gb271, 6, none⟩) (Kd.R_far (p := ⟨gb271, 5, none⟩) (Kd.R_far (p := ⟨gb271, 4, none⟩) (Kd.R_far (p := ⟨gb271, 3, none⟩) (Kd.R_far (p := ⟨gb271, 2, none⟩) (Kd.R_far (p := ⟨gb271, 1, none⟩) (Kd.R_far (p := ⟨gb271, 0, none⟩) (Kd.R_mono HO_23.out (fun k_ hk => (⟨hk, hk.2⟩ : _ ∧ k_ ≠ gb271))) (fun _ hk => hk.2) (.string ((rd_T54 t265 x25_1).f0))) (fun _ hk => hk.2) (.bool false)) (fun _ hk => hk.2) (.int .i64 ((rd_T54 t265 x25_1).f2.f0))) (fun _ hk => hk.2) (.int .i64 ((rd_T54 t265 x25_1).f2.f1))) (fun _ hk => hk.2) (.string ((rd_T54 t265 x25_1).f2.f2))) (fun _ hk => hk.2) (.slice A270_5 ((rd_T54 t265 x25_1).f3).length c270_5)) (fun _ hk => hk.2) (.slice A270_6 ((rd_T54 t265 x25_1).f4).length c270_6)) (fun _ h_ => h_.1))) hb); have n2_ := Aside0.mk (Kd.R_below (by (with_reducible repeat (first | apply Kd.R_alloc | apply Kd.R_drewN | apply Kd.R_drew)); exact (Kd.R_mono (Kd.R_far (p := ⟨gb271, 6, none⟩) (Kd.R_far (p := ⟨gb271, 5, none⟩) (Kd.R_far (p := ⟨gb271, 4, none⟩) (Kd.R_far (p := ⟨gb271, 3, none⟩) (Kd.R_far (p := ⟨gb271, 2, none⟩) (Kd.R_far (p := ⟨gb271, 1, none⟩) (Kd.R_far (p := ⟨gb271, 0, none⟩) (Kd.R_types HL270_5.out BK271.out (by decide)) (fun _ hk => hk.2) (.string ((rd_T54 t265 x25_1).f0))) (fun _ hk => hk.2) (.bool false)) (fun _ hk => hk.2) (.int .i64 ((rd_T54 t265 x25_1).f2.f0))) (fun _ hk => hk.2) (.int .i64 ((rd_T54 t265 x25_1).f2.f1))) (fun _ hk => hk.2) (.string ((rd_T54 t265 x25_1).f2.f2))) (fun _ hk => hk.2) (.slice A270_5 ((rd_T54 t265 x25_1).f3).length c270_5)) (fun _ hk => hk.2) (.slice A270_6 ((rd_T54 t265 x25_1).f4).length c270_6)) (fun _ h_ => h_.1))) hb); have n3_ := Aside0.mk (Kd.R_below (by (with_reducible repeat (first | apply Kd.R_alloc | apply Kd.R_drewN | apply Kd.R_drew)); exact (Kd.R_mono (Kd.R_far (p := ⟨gb271, 6, none⟩) (Kd.R_far (p := ⟨gb271, 5, none⟩) (Kd.R_far (p := ⟨gb271, 4, none⟩) (Kd.R_far (p := ⟨gb271, 3, none⟩) (Kd.R_far (p := ⟨gb271, 2, none⟩) (Kd.R_far (p := ⟨gb271, 1, none⟩) (Kd.R_far (p := ⟨gb271, 0, none⟩) (Kd.R_types HL270_6.out BK271.out (by decide)) (fun _ hk => hk.2) (.string ((rd_T54 t265 x25_1).f0))) (fun _ hk => hk.2) (.bool false)) (fun _ hk => hk.2) (.int .i64 ((rd_T54 t265 x25_1).f2.f0))) (fun _ hk => hk.2) (.int .i64 ((rd_T54 t265 x25_1).f2.f1))) (fun _ hk => hk.2) (.string ((rd_T54 t265 x25_1).f2.f2))) (fun _ hk => hk.2) (.slice A270_5 ((rd_T54 t265 x25_1).f3).length c270_5)) (fun _ hk => hk.2) (.slice A270_6 ((rd_T54 t265 x25_1).f4).length c270_6)) (fun _ h_ => h_.1))) hb); have n4_ := Aside0.mk (Kd.C_below ((Kd.R_reads' (by (with_reducible repeat (first | apply Kd.R_alloc | apply Kd.R_drewN | apply Kd.R_drew)); exact (Kd.R_mono (Kd.R_far (p := ⟨gb271, 6, none⟩) (Kd.R_far (p := ⟨gb271, 5, none⟩) (Kd.R_far (p := ⟨gb271, 4, none⟩) (Kd.R_far (p := ⟨gb271, 3, none⟩) (Kd.R_far (p := ⟨gb271, 2, none⟩) (Kd.R_far (p := ⟨gb271, 1, none⟩) (Kd.R_far (p := ⟨gb271, 0, none⟩) (Kd.R_types HL270_5.out BK271.out (by decide)) (fun _ hk => hk.2) (.string ((rd_T54 t265 x25_1).f0))) (fun _ hk => hk.2) (.bool false)) (fun _ hk => hk.2) (.int .i64 ((rd_T54 t265 x25_1).f2.f0))) (fun _ hk => hk.2) (.int .i64 ((rd_T54 t265 x25_1).f2.f1))) (fun _ hk => hk.2) (.string ((rd_T54 t265 x25_1).f2.f2))) (fun _ hk => hk.2) (.slice A270_5 ((rd_T54 t265 x25_1).f3).length c270_5)) (fun _ hk => hk.2) (.slice A270_6 ((rd_T54 t265 x25_1).f4).length c270_6)) (fun _ h_ => h_.1)))).2.2) hb); have n5_ := Aside0.mk (Kd.C_below ((Kd.R_reads' (by (with_reducible repeat (first | apply Kd.R_alloc | apply Kd.R_drewN | apply Kd.R_drew)); exact (Kd.R_mono (Kd.R_far (p := ⟨gb271, 6, none⟩) (Kd.R_far (p := ⟨gb271, 5, none⟩) (Kd.R_far (p := ⟨gb271, 4, none⟩) (Kd.R_far (p := ⟨gb271, 3, none⟩) (Kd.R_far (p := ⟨gb271, 2, none⟩) (Kd.R_far (p := ⟨gb271, 1, none⟩) (Kd.R_far (p := ⟨gb271, 0, none⟩) (Kd.R_types HL270_6.out BK271.out (by decide)) (fun _ hk => hk.2) (.string ((rd_T54 t265 x25_1).f0))) (fun _ hk => hk.2) (.bool false)) (fun _ hk => hk.2) (.int .i64 ((rd_T54 t265 x25_1).f2.f0))) (fun _ hk => hk.2) (.int .i64 ((rd_T54 t265 x25_1).f2.f1))) (fun _ hk => hk.2) (.string ((rd_T54 t265 x25_1).f2.f2))) (fun _ hk => hk.2) (.slice A270_5 ((rd_T54 t265 x25_1).f3).length c270_5)) (fun _ hk => hk.2) (.slice A270_6 ((rd_T54 t265 x25_1).f4).length c270_6)) (fun _ h_ => h_.1)))).2.2) hb); have n6_ := Aside0.mk (blk_below (g := gb271) (o := .cells #[.string ((rd_T54 t265 x25_1).f0), .bool false, .int .i64 ((rd_T54 t265 x25_1).f2.f0), .int .i64 ((rd_T54 t265 x25_1).f2.f1), .string ((rd_T54 t265 x25_1).f2.f2), .slice A270_5 ((rd_T54 t265 x25_1).f3).length c270_5, .slice A270_6 ((rd_T54 t265 x25_1).f4).length c270_6] 54 (0, 0)) (by (with_reducible repeat (first | refine blk_drewN ?_ _ | refine blk_drew ?_ | refine blk_alloc ?_ _)); refine blk_put (cs := #[.string ((rd_T54 t265 x25_1).f0), .bool false, .int .i64 ((rd_T54 t265 x25_1).f2.f0), .int .i64 ((rd_T54 t265 x25_1).f2.f1), .string ((rd_T54 t265 x25_1).f2.f2), .slice A270_5 ((rd_T54 t265 x25_1).f3).length c270_5, .slice none 0 0]) ?_ 6 _ rfl; (with_reducible repeat (first | refine blk_drewN ?_ _ | refine blk_drew ?_ | refine blk_alloc ?_ _)); refine blk_put (cs := #[.string ((rd_T54 t265 x25_1).f0), .bool false, .int .i64 ((rd_T54 t265 x25_1).f2.f0), .int .i64 ((rd_T54 t265 x25_1).f2.f1), .string ((rd_T54 t265 x25_1).f2.f2), .slice none 0 0, .slice none 0 0]) ?_ 5 _ rfl; (with_reducible repeat (first | refine blk_drewN ?_ _ | refine blk_drew ?_ | refine blk_alloc ?_ _)); refine blk_put (cs := #[.string ((rd_T54 t265 x25_1).f0), .bool false, .int .i64 ((rd_T54 t265 x25_1).f2.f0), .int .i64 ((rd_T54 t265 x25_1).f2.f1), .string (⟨#[]⟩ : ByteArray), .slice none 0 0, .slice none 0 0]) ?_ 4 _ rfl; (with_reducible repeat (first | refine blk_drewN ?_ _ | refine blk_drew ?_ | refine blk_alloc ?_ _)); refine blk_put (cs := #[.string ((rd_T54 t265 x25_1).f0), .bool false, .int .i64 ((rd_T54 t265 x25_1).f2.f0), .int .i64 0, .string (⟨#[]⟩ : ByteArray), .slice none 0 0, .slice none 0 0]) ?_ 3 _ rfl; (with_reducible repeat (first | refine blk_drewN ?_ _ | refine blk_drew ?_ | refine blk_alloc ?_ _)); refine blk_put (cs := #[.string ((rd_T54 t265 x25_1).f0), .bool false, .int .i64 0, .int .i64 0, .string (⟨#[]⟩ : ByteArray), .slice none 0 0, .slice none 0 0]) ?_ 2 _ rfl; (with_reducible repeat (first | refine blk_drewN ?_ _ | refine blk_drew ?_ | refine blk_alloc ?_ _)); refine blk_put (cs := #[.string ((rd_T54 t265 x25_1).f0), .bool false, .int .i64 0, .int .i64 0, .string (⟨#[]⟩ : ByteArray), .slice none 0 0, .slice none 0 0]) ?_ 1 _ rfl; (with_reducible repeat (first | refine blk_drewN ?_ _ | refine blk_drew ?_ | refine blk_alloc ?_ _)); refine blk_put (cs := #[.string (⟨#[]⟩ : ByteArray), .bool false, .int .i64 0, .int .i64 0, .string (⟨#[]⟩ : ByteArray), .slice none 0 0, .slice none 0 0]) ?_ 0 _ rfl; (with_reducible repeat (first | refine blk_drewN ?_ _ | refine blk_drew ?_ | refine blk_alloc ?_ _)); exact BK271.out) hb); have n7_ := Aside0.mk (below_step (by repeat (first | (with_reducible first | exact HB.out | apply below_alloc | apply pw_below_drewN | apply below_drew1 | refine below_set ?_ GE271.out) | exact HB.out)) hb); clear HO_8; clear HO_23; clear HL270_5; clear HL270_6; clear HR270_5; clear HR270_6; clear BK271; clear HB; have HO_8 := n0_; have HO_23 := n1_; have HL270_5 := n2_; have HL270_6 := n3_; have HR270_5 := n4_; have HR270_6 := n5_; have BK271 := n6_; have HB := n7_; clear n0_ n1_ n2_ n3_ n4_ n5_ n6_ n7_; (try clear hb); (try clear hb2); (try clear hk); (try clear hi); have hcz22_0 : w21.cell? ⟨gb271, 0, none⟩ = some (.string ((rd_T54 t265 x25_1).f0)) := (blk_cell BK271.out 0).trans rfl; have hcz22_1 : w21.cell? ⟨gb271, 1, none⟩ = some (.bool false) := (blk_cell BK271.out 1).trans rfl; have hcz22_2 : w21.cell? ⟨gb271, 2, none⟩ = some (.int .i64 ((rd_T54 t265 x25_1).f2.f0)) := (blk_cell BK271.out 2).trans rfl; have hcz22_3 : w21.cell? ⟨gb271, 3, none⟩ = some (.int .i64 ((rd_T54 t265 x25_1).f2.f1)) := (blk_cell BK271.out 3).trans rfl; have hcz22_4 : w21.cell? ⟨gb271, 4, none⟩ = some (.string ((rd_T54 t265 x25_1).f2.f2)) := (blk_cell BK271.out 4).trans rfl; have hcz22_5 : w21.cell? ⟨gb271, 5, none⟩ = some (.slice A270_5 ((rd_T54 t265 x25_1).f3).length c270_5) := (blk_cell BK271.out 5).trans rfl; have hcz22_6 : w21.cell? ⟨gb271, 6, none⟩ = some (.slice A270_6 ((rd_T54 t265 x25_1).f4).length c270_6) := (blk_cell BK271.out 6).trans rfl; have hfz22_0 := blk_frozen BK271.out 0; have hfz22_1 := blk_frozen BK271.out 1; have hfz22_2 := blk_frozen BK271.out 2; have hfz22_3 := blk_frozen BK271.out 3; have hfz22_4 := blk_frozen BK271.out 4; have hfz22_5 := blk_frozen BK271.out 5; have hfz22_6 := blk_frozen BK271.out 6) | ((with_reducible refine gate_builtin (b := .append) (xs := #[.tmp 48, .tmp 50]) rfl ?_); at_builtin; refine Kd.R_append (Kd.int .i64) (w0 := w) w.heap.size rfl (.tmp 48) (.tmp 50) 22 3 (.int .i64 0) 8 rfl Tryd.underlying22 info3 rfl (by decide) (by omega) u8 x8_1 t272 [.int .i64 t272] (fun _ => True) (fun _ => False) rfl rfl ?aP (fun _ hk => hk.elim) ?aF ?aO ?aB ?aS ?aL ?_; (case aP => exact rfl); (case aB => exact (by repeat (first | (with_reducible first | exact HB.out | apply below_alloc | apply pw_below_drewN | apply below_drew1 | refine below_set ?_ GE271.out) | exact HB.out))); (case aF => exact (fun _ _ => trivial)); (case aO => exact (by (with_reducible repeat (first | apply Kd.R_alloc | apply Kd.R_drewN | apply Kd.R_drew)); exact HO_8.out)); (case aS => exact (below_size (by repeat (first | (with_reducible first | exact HB.out | apply below_alloc | apply pw_below_drewN | apply below_drew1 | refine below_set ?_ GE271.out) | exact HB.out)))); (case aL => have := LMc18.out; omega); intro v275 w23 ho hb hg hat; rw [← Ny274.out] at ho; have n0_ := Aside0.mk (Kd.R_over' (by (with_reducible repeat (first | apply Kd.R_alloc | apply Kd.R_drewN | apply Kd.R_drew)); exact HO_23.out) (Kd.R_typed (by (with_reducible repeat (first | apply Kd.R_alloc | apply Kd.R_drewN | apply Kd.R_drew)); exact HO_8.out)) (by decide) hg); have n1_ := Aside0.mk (Kd.R_over' (by (with_reducible repeat (first | apply Kd.R_alloc | apply Kd.R_drewN | apply Kd.R_drew)); exact HL270_5.out) (Kd.R_typed (by (with_reducible repeat (first | apply Kd.R_alloc | apply Kd.R_drewN | apply Kd.R_drew)); exact HO_8.out)) (by decide) hg); have n2_ := Aside0.mk (Kd.R_over' (by (with_reducible repeat (first | apply Kd.R_alloc | apply Kd.R_drewN | apply Kd.R_drew)); exact HL270_6.out) (Kd.R_typed (by (with_reducible repeat (first | apply Kd.R_alloc | apply Kd.R_drewN | apply Kd.R_drew)); exact HO_8.out)) (by decide) hg); have n3_ := Aside0.mk (blk_grown (g := gb271) (o := .cells #[.string ((rd_T54 t265 x25_1).f0), .bool false, .int .i64 ((rd_T54 t265 x25_1).f2.f0), .int .i64 ((rd_T54 t265 x25_1).f2.f1), .string ((rd_T54 t265 x25_1).f2.f2), .slice A270_5 ((rd_T54 t265 x25_1).f3).length c270_5, .slice A270_6 ((rd_T54 t265 x25_1).f4).length c270_6] 54 (0, 0)) (by (with_reducible repeat (first | refine blk_drewN ?_ _ | refine blk_drew ?_ | refine blk_alloc ?_ _)); exact BK271.out) hg (Kd.R_ne HO_8.out BK271.out (by decide))); have n4_ := Aside0.mk (hb); have n5_ := Aside0.mk (ho); clear HO_23; clear HL270_5; clear HL270_6; clear BK271; clear HB; clear HO_8; have HO_23 := n0_; have HL270_5 := n1_; have HL270_6 := n2_; have BK271 := n3_; have HB := n4_; have HO276 := n5_; clear n0_ n1_ n2_ n3_ n4_ n5_; clear ho hb hg hat))
           go_roundg k1
           case measure => have := HK1.out; omega
           case rel => exact ⟨(y274), (wrap64 (x25_1 + 1)), (by first | rfl | (simp; done) | (simp [*]; done)), H', ⟨by have := HK1.out; omega⟩, ⟨by (with_reducible repeat (first | apply Kd.R_alloc | apply Kd.R_drewN | apply Kd.R_drew)); exact HO276.out⟩, ⟨by (with_reducible repeat (first | apply Kd.R_alloc | apply Kd.R_drewN | apply Kd.R_drew)); exact Kd.R_mono HO_23.out (fun _ hk => trivial)⟩, ⟨by repeat (first | (with_reducible first | exact HB.out | apply below_alloc | apply pw_below_drewN | apply below_drew1 | refine below_set ?_ GE271.out) | exact HB.out)⟩⟩
          ·rw [if_neg c18] at H
           exact absurd H (by simp)
         ·rw [if_neg c17] at H
          have c17b0 : (((rd_T54 t265 x25_1).f2.f0) == 4) = false := beq_eq_false_iff_ne.mpr c17
          have c17b1 : (((rd_T54 t265 x25_1).f2.f0) != 4) = true := bne_iff_ne.mpr c17
          have H' := Aside0.mk H
          clear H
          have p270 : 0 ≤ (x25_1 : Int) := of_decide_eq_true (by first | (with_reducible assumption) | assumption)
          have q270 : x25_1 < (t265.length : Int) := of_decide_eq_true (by first | (with_reducible assumption) | assumption)
          obtain ⟨ad270, A270_5, c270_5, A270_6, c270_6, e270, hx270_0, hx270_1, hx270_2, hx270_3, hx270_4, hx270_5, hx270_6, hl270_5, hi270_5, hl270_6, hi270_6⟩ := at_T54 (Kd.R_reads' HO_23.out).2.2 x25_1 p270 q270
          (try rw [← Nbq11.out] at hx270_1)
          cases e270
          obtain ⟨ce270, hce270, hMe270, hcc270⟩ := Kd.R_get HO_23.out z54 x25_1 p270 (by first | exact q270 | exact of_decide_eq_true (by first | (with_reducible assumption) | assumption) | (have e_ := (Kd.R_reads' HO_23.out).1; omega))
          obtain ⟨ve270_5, ve270_6, rfl, ge270_5, ge270_6⟩ := k54_openM hMe270
          have hv270_5 := hcc270 5 _ rfl
          rw [add_field _ _ 5 (by omega)] at hv270_5
          replace hv270_5 := Option.some.inj (hv270_5.symm.trans hx270_5)
          rw [hv270_5] at ge270_5
          have HL270_5 := Aside0.mk (show Kd.R k103 103 _ _ _ _ ((rd_T54 t265 x25_1).f3) from ge270_5)
          clear hv270_5 ge270_5
          have hv270_6 := hcc270 6 _ rfl
          rw [add_field _ _ 6 (by omega)] at hv270_6
          replace hv270_6 := Option.some.inj (hv270_6.symm.trans hx270_6)
          rw [hv270_6] at ge270_6
          have HL270_6 := Aside0.mk (show Kd.R k119 119 _ _ _ _ ((rd_T54 t265 x25_1).f4) from ge270_6)
          clear hv270_6 ge270_6
          clear hcc270 hce270
          have HR270_5 := Aside0.mk hi270_5
          have HC270_5 := Aside0.mk hl270_5
          clear hi270_5 hl270_5
          have HR270_6 := Aside0.mk hi270_6
          have HC270_6 := Aside0.mk hl270_6
          clear hi270_6 hl270_6
          replace p270 := eq_true p270
          replace q270 := eq_true q270
          go_wp2_with (first | ((with_reducible refine gate_dst (N := 10) rfl ?_); refine box_event ?hg (N := 10) ?hd (cs := #[.string (⟨#[]⟩ : ByteArray), .bool false, .int .i64 0, .int .i64 0, .string (⟨#[]⟩ : ByteArray), .slice none 0 0, .slice none 0 0]) (t := 54) ?hr ?_; (case hd => rfl); (case hg => rfl); (case hr => first | (go_simp; done) | (go_simp; rfl)); intro gb271 hg w24 hbox hb; have n0_ := Aside0.mk (Kd.R_below (by (with_reducible repeat (first | apply Kd.R_alloc | apply Kd.R_drewN | apply Kd.R_drew)); exact HO_8.out) hb); have n1_ := Aside0.mk (Kd.R_below (Kd.R_elderB (by (with_reducible repeat (first | apply Kd.R_alloc | apply Kd.R_drewN | apply Kd.R_drew)); exact HO_23.out) gb271 (Nat.le_of_eq hg.symm)) hb); have n2_ := Aside0.mk (Kd.R_below (by (with_reducible repeat (first | apply Kd.R_alloc | apply Kd.R_drewN | apply Kd.R_drew)); exact HL270_5.out) hb); have n3_ := Aside0.mk (Kd.R_below (by (with_reducible repeat (first | apply Kd.R_alloc | apply Kd.R_drewN | apply Kd.R_drew)); exact HL270_6.out) hb); have n4_ := Aside0.mk (Kd.C_below (by repeat (first | (with_reducible exact HR270_5.out) | (with_reducible refine Kd.C_alloc ?_ _) | (with_reducible refine Kd.C_drewN ?_ _) | (with_reducible refine Kd.C_drew ?_) | exact HR270_5.out)) hb); have n5_ := Aside0.mk (Kd.C_below (by repeat (first | (with_reducible exact HR270_6.out) | (with_reducible refine Kd.C_alloc ?_ _) | (with_reducible refine Kd.C_drewN ?_ _) | (with_reducible refine Kd.C_drew ?_) | exact HR270_6.out)) hb); have n6_ := Aside0.mk (below_step (by repeat (first | (with_reducible first | exact HB.out | apply below_alloc | apply pw_below_drewN | apply below_drew1) | exact HB.out)) hb); have n7_ := Aside0.mk (hbox); have n8_ := Aside0.mk ((by rw [hg]; exact (below_size (by repeat (first | (with_reducible first | exact HB.out | apply below_alloc | apply pw_below_drewN | apply below_drew1) | exact HB.out))) : w.heap.size ≤ gb271)); have n9_ := Aside0.mk ((by rw [hg]; exact (below_size (by repeat (first | (with_reducible first | exact HB.out | apply below_alloc | apply pw_below_drewN | apply below_drew1) | exact HB.out))) : w.heap.size ≤ gb271)); clear HO_8; clear HO_23; clear HL270_5; clear HL270_6; clear HR270_5; clear HR270_6; clear HB; have HO_8 := n0_; have HO_23 := n1_; have HL270_5 := n2_; have HL270_6 := n3_; have HR270_5 := n4_; have HR270_6 := n5_; have HB := n6_; have BK271 := n7_; have GW271 := n8_; have GE271 := n9_; clear n0_ n1_ n2_ n3_ n4_ n5_ n6_ n7_ n8_ n9_; clear hb hbox hg; have hcz25_0 : w24.cell? ⟨gb271, 0, none⟩ = some (.string (⟨#[]⟩ : ByteArray)) := (blk_cell BK271.out 0).trans rfl; have hcz25_1 : w24.cell? ⟨gb271, 1, none⟩ = some (.bool false) := (blk_cell BK271.out 1).trans rfl; have hcz25_2 : w24.cell? ⟨gb271, 2, none⟩ = some (.int .i64 0) := (blk_cell BK271.out 2).trans rfl; have hcz25_3 : w24.cell? ⟨gb271, 3, none⟩ = some (.int .i64 0) := (blk_cell BK271.out 3).trans rfl; have hcz25_4 : w24.cell? ⟨gb271, 4, none⟩ = some (.string (⟨#[]⟩ : ByteArray)) := (blk_cell BK271.out 4).trans rfl; have hcz25_5 : w24.cell? ⟨gb271, 5, none⟩ = some (.slice none 0 0) := (blk_cell BK271.out 5).trans rfl; have hcz25_6 : w24.cell? ⟨gb271, 6, none⟩ = some (.slice none 0 0) := (blk_cell BK271.out 6).trans rfl; have hfz25_0 := blk_frozen BK271.out 0; have hfz25_1 := blk_frozen BK271.out 1; have hfz25_2 := blk_frozen BK271.out 2; have hfz25_3 := blk_frozen BK271.out 3; have hfz25_4 := blk_frozen BK271.out 4; have hfz25_5 := blk_frozen BK271.out 5; have hfz25_6 := blk_frozen BK271.out 6) | ((with_reducible refine gate_callee (f := 21) rfl ?_); refine goesL_ (some 33) rfl rfl Tryd.func21 (by kernel_rfl) rfl #[.string ((rd_T54 t265 x25_1).f2.f2)] rfl (by (try simp only [List.map_toArray, List.map_cons, List.map_nil]); first | done | rfl | (simp only [List.length_drop, List.length_take]; rfl)) ?_; (with_reducible refine (hint_Find.calls k1 ((rd_T54 t265 x25_1).f2.f2) t272 true _ A9.out).mono ?_); rintro e w26 ⟨rfl, hb⟩; refine ⟨_, rfl, ?_⟩; have n0_ := Aside0.mk (Kd.R_below (by (with_reducible repeat (first | apply Kd.R_alloc | apply Kd.R_drewN | apply Kd.R_drew)); exact (Kd.R_mono (Kd.R_far (p := ⟨gb271, 6, none⟩) (Kd.R_far (p := ⟨gb271, 5, none⟩) (Kd.R_far (p := ⟨gb271, 4, none⟩) (Kd.R_far (p := ⟨gb271, 3, none⟩) (Kd.R_far (p := ⟨gb271, 2, none⟩) (Kd.R_far (p := ⟨gb271, 1, none⟩) (Kd.R_far (p := ⟨gb271, 0, none⟩) (Kd.R_types HO_8.out BK271.out (by decide)) (fun _ hk => hk.2) (.string ((rd_T54 t265 x25_1).f0))) (fun _ hk => hk.2) (.bool false)) (fun _ hk => hk.2) (.int .i64 ((rd_T54 t265 x25_1).f2.f0))) (fun _ hk => hk.2) (.int .i64 ((rd_T54 t265 x25_1).f2.f1))) (fun _ hk => hk.2) (.string ((rd_T54 t265 x25_1).f2.f2))) (fun _ hk => hk.2) (.slice A270_5 ((rd_T54 t265 x25_1).f3).length c270_5)) (fun _ hk => hk.2) (.slice A270_6 ((rd_T54 t265 x25_1).f4).length c270_6)) (fun _ h_ => h_.1))) hb); have n1_ := Aside0.mk (Kd.R_below (by (with_reducible repeat (first | apply Kd.R_alloc | apply Kd.R_drewN | apply Kd.R_drew)); exact (Kd.R_mono (Kd.R_far (p := ⟨gb271, 6, none⟩) (Kd.R_far (p := ⟨gb271, 5, none⟩) (Kd.R_far (p := ⟨gb271, 4, none⟩) (Kd.R_far (p := ⟨gb271, 3, none⟩) (Kd.R_far (p := ⟨gb271, 2, none⟩) (Kd.R_far (p := ⟨gb271, 1, none⟩) (Kd.R_far (p := ⟨gb271, 0, none⟩) (Kd.R_mono HO_23.out (fun k_ hk => (⟨hk, hk.2⟩ : _ ∧ k_ ≠ gb271))) (fun _ hk => hk.2) (.string ((rd_T54 t265 x25_1).f0))) (fun _ hk => hk.2) (.bool false)) (fun _ hk => hk.2) (.int .i64 ((rd_T54 t265 x25_1).f2.f0))) (fun _ hk => hk.2) (.int .i64 ((rd_T54 t265 x25_1).f2.f1))) (fun _ hk => hk.2) (.string ((rd_T54 t265 x25_1).f2.f2))) (fun _ hk => hk.2) (.slice A270_5 ((rd_T54 t265 x25_1).f3).length c270_5)) (fun _ hk => hk.2) (.slice A270_6 ((rd_T54 t265 x25_1).f4).length c270_6)) (fun _ h_ => h_.1))) hb); have n2_ := Aside0.mk (Kd.R_below (by (with_reducible repeat (first | apply Kd.R_alloc | apply Kd.R_drewN | apply Kd.R_drew)); exact (Kd.R_mono (Kd.R_far (p := ⟨gb271, 6, none⟩) (Kd.R_far (p := ⟨gb271, 5, none⟩) (Kd.R_far (p := ⟨gb271, 4, none⟩) (Kd.R_far (p := ⟨gb271, 3, none⟩) (Kd.R_far (p := ⟨gb271, 2, none⟩) (Kd.R_far (p := ⟨gb271, 1, none⟩) (Kd.R_far (p := ⟨gb271, 0, none⟩) (Kd.R_types HL270_5.out BK271.out (by decide)) (fun _ hk => hk.2) (.string ((rd_T54 t265 x25_1).f0))) (fun _ hk => hk.2) (.bool false)) (fun _ hk => hk.2) (.int .i64 ((rd_T54 t265 x25_1).f2.f0))) (fun _ hk => hk.2) (.int .i64 ((rd_T54 t265 x25_1).f2.f1))) (fun _ hk => hk.2) (.string ((rd_T54 t265 x25_1).f2.f2))) (fun _ hk => hk.2) (.slice A270_5 ((rd_T54 t265 x25_1).f3).length c270_5)) (fun _ hk => hk.2) (.slice A270_6 ((rd_T54 t265 x25_1).f4).length c270_6)) (fun _ h_ => h_.1))) hb); have n3_ := Aside0.mk (Kd.R_below (by (with_reducible repeat (first | apply Kd.R_alloc | apply Kd.R_drewN | apply Kd.R_drew)); exact (Kd.R_mono (Kd.R_far (p := ⟨gb271, 6, none⟩) (Kd.R_far (p := ⟨gb271, 5, none⟩) (Kd.R_far (p := ⟨gb271, 4, none⟩) (Kd.R_far (p := ⟨gb271, 3, none⟩) (Kd.R_far (p := ⟨gb271, 2, none⟩) (Kd.R_far (p := ⟨gb271, 1, none⟩) (Kd.R_far (p := ⟨gb271, 0, none⟩) (Kd.R_types HL270_6.out BK271.out (by decide)) (fun _ hk => hk.2) (.string ((rd_T54 t265 x25_1).f0))) (fun _ hk => hk.2) (.bool false)) (fun _ hk => hk.2) (.int .i64 ((rd_T54 t265 x25_1).f2.f0))) (fun _ hk => hk.2) (.int .i64 ((rd_T54 t265 x25_1).f2.f1))) (fun _ hk => hk.2) (.string ((rd_T54 t265 x25_1).f2.f2))) (fun _ hk => hk.2) (.slice A270_5 ((rd_T54 t265 x25_1).f3).length c270_5)) (fun _ hk => hk.2) (.slice A270_6 ((rd_T54 t265 x25_1).f4).length c270_6)) (fun _ h_ => h_.1))) hb); have n4_ := Aside0.mk (Kd.C_below ((Kd.R_reads' (by (with_reducible repeat (first | apply Kd.R_alloc | apply Kd.R_drewN | apply Kd.R_drew)); exact (Kd.R_mono (Kd.R_far (p := ⟨gb271, 6, none⟩) (Kd.R_far (p := ⟨gb271, 5, none⟩) (Kd.R_far (p := ⟨gb271, 4, none⟩) (Kd.R_far (p := ⟨gb271, 3, none⟩) (Kd.R_far (p := ⟨gb271, 2, none⟩) (Kd.R_far (p := ⟨gb271, 1, none⟩) (Kd.R_far (p := ⟨gb271, 0, none⟩) (Kd.R_types HL270_5.out BK271.out (by decide)) (fun _ hk => hk.2) (.string ((rd_T54 t265 x25_1).f0))) (fun _ hk => hk.2) (.bool false)) (fun _ hk => hk.2) (.int .i64 ((rd_T54 t265 x25_1).f2.f0))) (fun _ hk => hk.2) (.int .i64 ((rd_T54 t265 x25_1).f2.f1))) (fun _ hk => hk.2) (.string ((rd_T54 t265 x25_1).f2.f2))) (fun _ hk => hk.2) (.slice A270_5 ((rd_T54 t265 x25_1).f3).length c270_5)) (fun _ hk => hk.2) (.slice A270_6 ((rd_T54 t265 x25_1).f4).length c270_6)) (fun _ h_ => h_.1)))).2.2) hb); have n5_ := Aside0.mk (Kd.C_below ((Kd.R_reads' (by (with_reducible repeat (first | apply Kd.R_alloc | apply Kd.R_drewN | apply Kd.R_drew)); exact (Kd.R_mono (Kd.R_far (p := ⟨gb271, 6, none⟩) (Kd.R_far (p := ⟨gb271, 5, none⟩) (Kd.R_far (p := ⟨gb271, 4, none⟩) (Kd.R_far (p := ⟨gb271, 3, none⟩) (Kd.R_far (p := ⟨gb271, 2, none⟩) (Kd.R_far (p := ⟨gb271, 1, none⟩) (Kd.R_far (p := ⟨gb271, 0, none⟩) (Kd.R_types HL270_6.out BK271.out (by decide)) (fun _ hk => hk.2) (.string ((rd_T54 t265 x25_1).f0))) (fun _ hk => hk.2) (.bool false)) (fun _ hk => hk.2) (.int .i64 ((rd_T54 t265 x25_1).f2.f0))) (fun _ hk => hk.2) (.int .i64 ((rd_T54 t265 x25_1).f2.f1))) (fun _ hk => hk.2) (.string ((rd_T54 t265 x25_1).f2.f2))) (fun _ hk => hk.2) (.slice A270_5 ((rd_T54 t265 x25_1).f3).length c270_5)) (fun _ hk => hk.2) (.slice A270_6 ((rd_T54 t265 x25_1).f4).length c270_6)) (fun _ h_ => h_.1)))).2.2) hb); have n6_ := Aside0.mk (blk_below (g := gb271) (o := .cells #[.string ((rd_T54 t265 x25_1).f0), .bool false, .int .i64 ((rd_T54 t265 x25_1).f2.f0), .int .i64 ((rd_T54 t265 x25_1).f2.f1), .string ((rd_T54 t265 x25_1).f2.f2), .slice A270_5 ((rd_T54 t265 x25_1).f3).length c270_5, .slice A270_6 ((rd_T54 t265 x25_1).f4).length c270_6] 54 (0, 0)) (by (with_reducible repeat (first | refine blk_drewN ?_ _ | refine blk_drew ?_ | refine blk_alloc ?_ _)); refine blk_put (cs := #[.string ((rd_T54 t265 x25_1).f0), .bool false, .int .i64 ((rd_T54 t265 x25_1).f2.f0), .int .i64 ((rd_T54 t265 x25_1).f2.f1), .string ((rd_T54 t265 x25_1).f2.f2), .slice A270_5 ((rd_T54 t265 x25_1).f3).length c270_5, .slice none 0 0]) ?_ 6 _ rfl; (with_reducible repeat (first | refine blk_drewN ?_ _ | refine blk_drew ?_ | refine blk_alloc ?_ _)); refine blk_put (cs := #[.string ((rd_T54 t265 x25_1).f0), .bool false, .int .i64 ((rd_T54 t265 x25_1).f2.f0), .int .i64 ((rd_T54 t265 x25_1).f2.f1), .string ((rd_T54 t265 x25_1).f2.f2), .slice none 0 0, .slice none 0 0]) ?_ 5 _ rfl; (with_reducible repeat (first | refine blk_drewN ?_ _ | refine blk_drew ?_ | refine blk_alloc ?_ _)); refine blk_put (cs := #[.string ((rd_T54 t265 x25_1).f0), .bool false, .int .i64 ((rd_T54 t265 x25_1).f2.f0), .int .i64 ((rd_T54 t265 x25_1).f2.f1), .string (⟨#[]⟩ : ByteArray), .slice none 0 0, .slice none 0 0]) ?_ 4 _ rfl; (with_reducible repeat (first | refine blk_drewN ?_ _ | refine blk_drew ?_ | refine blk_alloc ?_ _)); refine blk_put (cs := #[.string ((rd_T54 t265 x25_1).f0), .bool false, .int .i64 ((rd_T54 t265 x25_1).f2.f0), .int .i64 0, .string (⟨#[]⟩ : ByteArray), .slice none 0 0, .slice none 0 0]) ?_ 3 _ rfl; (with_reducible repeat (first | refine blk_drewN ?_ _ | refine blk_drew ?_ | refine blk_alloc ?_ _)); refine blk_put (cs := #[.string ((rd_T54 t265 x25_1).f0), .bool false, .int .i64 0, .int .i64 0, .string (⟨#[]⟩ : ByteArray), .slice none 0 0, .slice none 0 0]) ?_ 2 _ rfl; (with_reducible repeat (first | refine blk_drewN ?_ _ | refine blk_drew ?_ | refine blk_alloc ?_ _)); refine blk_put (cs := #[.string ((rd_T54 t265 x25_1).f0), .bool false, .int .i64 0, .int .i64 0, .string (⟨#[]⟩ : ByteArray), .slice none 0 0, .slice none 0 0]) ?_ 1 _ rfl; (with_reducible repeat (first | refine blk_drewN ?_ _ | refine blk_drew ?_ | refine blk_alloc ?_ _)); refine blk_put (cs := #[.string (⟨#[]⟩ : ByteArray), .bool false, .int .i64 0, .int .i64 0, .string (⟨#[]⟩ : ByteArray), .slice none 0 0, .slice none 0 0]) ?_ 0 _ rfl; (with_reducible repeat (first | refine blk_drewN ?_ _ | refine blk_drew ?_ | refine blk_alloc ?_ _)); exact BK271.out) hb); have n7_ := Aside0.mk (below_step (by repeat (first | (with_reducible first | exact HB.out | apply below_alloc | apply pw_below_drewN | apply below_drew1 | refine below_set ?_ GE271.out) | exact HB.out)) hb); clear HO_8; clear HO_23; clear HL270_5; clear HL270_6; clear HR270_5; clear HR270_6; clear BK271; clear HB; have HO_8 := n0_; have HO_23 := n1_; have HL270_5 := n2_; have HL270_6 := n3_; have HR270_5 := n4_; have HR270_6 := n5_; have BK271 := n6_; have HB := n7_; clear n0_ n1_ n2_ n3_ n4_ n5_ n6_ n7_; (try clear hb); (try clear hb2); (try clear hk); (try clear hi); have hcz27_0 : w26.cell? ⟨gb271, 0, none⟩ = some (.string ((rd_T54 t265 x25_1).f0)) := (blk_cell BK271.out 0).trans rfl; have hcz27_1 : w26.cell? ⟨gb271, 1, none⟩ = some (.bool false) := (blk_cell BK271.out 1).trans rfl; have hcz27_2 : w26.cell? ⟨gb271, 2, none⟩ = some (.int .i64 ((rd_T54 t265 x25_1).f2.f0)) := (blk_cell BK271.out 2).trans rfl; have hcz27_3 : w26.cell? ⟨gb271, 3, none⟩ = some (.int .i64 ((rd_T54 t265 x25_1).f2.f1)) := (blk_cell BK271.out 3).trans rfl; have hcz27_4 : w26.cell? ⟨gb271, 4, none⟩ = some (.string ((rd_T54 t265 x25_1).f2.f2)) := (blk_cell BK271.out 4).trans rfl; have hcz27_5 : w26.cell? ⟨gb271, 5, none⟩ = some (.slice A270_5 ((rd_T54 t265 x25_1).f3).length c270_5) := (blk_cell BK271.out 5).trans rfl; have hcz27_6 : w26.cell? ⟨gb271, 6, none⟩ = some (.slice A270_6 ((rd_T54 t265 x25_1).f4).length c270_6) := (blk_cell BK271.out 6).trans rfl; have hfz27_0 := blk_frozen BK271.out 0; have hfz27_1 := blk_frozen BK271.out 1; have hfz27_2 := blk_frozen BK271.out 2; have hfz27_3 := blk_frozen BK271.out 3; have hfz27_4 := blk_frozen BK271.out 4; have hfz27_5 := blk_frozen BK271.out 5; have hfz27_6 := blk_frozen BK271.out 6))
          go_roundg k1
          case measure => have := HK1.out; omega
          case rel => exact ⟨(x8_1), (wrap64 (x25_1 + 1)), (by first | rfl | (simp; done) | (simp [*]; done)), H', ⟨by have := HK1.out; omega⟩, ⟨by (with_reducible repeat (first | apply Kd.R_alloc | apply Kd.R_drewN | apply Kd.R_drew)); exact HO_8.out⟩, ⟨by (with_reducible repeat (first | apply Kd.R_alloc | apply Kd.R_drewN | apply Kd.R_drew)); exact Kd.R_mono HO_23.out (fun _ hk => trivial)⟩, ⟨by repeat (first | (with_reducible first | exact HB.out | apply below_alloc | apply pw_below_drewN | apply below_drew1 | refine below_set ?_ GE271.out) | exact HB.out)⟩⟩
       ·replace c10 := Bool.eq_false_iff.mpr c10
        subst c10
        have H1 : (hint_Parse.l0 k1 t267 x8_1 t265 (t265.length : Int) (wrap64 (x25_1 + 1))) = some (r1, r2, r3) := by rw [if_neg (show ¬ (false = true) by decide)] at H; exact H
        clear H
        have H := H1
        clear H1
        have H' := Aside0.mk H
        clear H
        have p270 : 0 ≤ (x25_1 : Int) := of_decide_eq_true (by first | (with_reducible assumption) | assumption)
        have q270 : x25_1 < (t265.length : Int) := of_decide_eq_true (by first | (with_reducible assumption) | assumption)
        obtain ⟨ad270, A270_5, c270_5, A270_6, c270_6, e270, hx270_0, hx270_1, hx270_2, hx270_3, hx270_4, hx270_5, hx270_6, hl270_5, hi270_5, hl270_6, hi270_6⟩ := at_T54 (Kd.R_reads' HO_23.out).2.2 x25_1 p270 q270
        cases e270
        obtain ⟨ce270, hce270, hMe270, hcc270⟩ := Kd.R_get HO_23.out z54 x25_1 p270 (by first | exact q270 | exact of_decide_eq_true (by first | (with_reducible assumption) | assumption) | (have e_ := (Kd.R_reads' HO_23.out).1; omega))
        obtain ⟨ve270_5, ve270_6, rfl, ge270_5, ge270_6⟩ := k54_openM hMe270
        have hv270_5 := hcc270 5 _ rfl
        rw [add_field _ _ 5 (by omega)] at hv270_5
        replace hv270_5 := Option.some.inj (hv270_5.symm.trans hx270_5)
        rw [hv270_5] at ge270_5
        have HL270_5 := Aside0.mk (show Kd.R k103 103 _ _ _ _ ((rd_T54 t265 x25_1).f3) from ge270_5)
        clear hv270_5 ge270_5
        have hv270_6 := hcc270 6 _ rfl
        rw [add_field _ _ 6 (by omega)] at hv270_6
        replace hv270_6 := Option.some.inj (hv270_6.symm.trans hx270_6)
        rw [hv270_6] at ge270_6
        have HL270_6 := Aside0.mk (show Kd.R k119 119 _ _ _ _ ((rd_T54 t265 x25_1).f4) from ge270_6)
        clear hv270_6 ge270_6
        clear hcc270 hce270
        have HR270_5 := Aside0.mk hi270_5
        have HC270_5 := Aside0.mk hl270_5
        clear hi270_5 hl270_5
        have HR270_6 := Aside0.mk hi270_6
        have HC270_6 := Aside0.mk hl270_6
        clear hi270_6 hl270_6
        replace p270 := eq_true p270
        replace q270 := eq_true q270
        go_wp2_with (first | ((with_reducible refine gate_dst (N := 10) rfl ?_); refine box_event ?hg (N := 10) ?hd (cs := #[.string (⟨#[]⟩ : ByteArray), .bool false, .int .i64 0, .int .i64 0, .string (⟨#[]⟩ : ByteArray), .slice none 0 0, .slice none 0 0]) (t := 54) ?hr ?_; (case hd => rfl); (case hg => rfl); (case hr => first | (go_simp; done) | (go_simp; rfl)); intro gb271 hg w28 hbox hb; have n0_ := Aside0.mk (Kd.R_below (by (with_reducible repeat (first | apply Kd.R_alloc | apply Kd.R_drewN | apply Kd.R_drew)); exact HO_8.out) hb); have n1_ := Aside0.mk (Kd.R_below (Kd.R_elderB (by (with_reducible repeat (first | apply Kd.R_alloc | apply Kd.R_drewN | apply Kd.R_drew)); exact HO_23.out) gb271 (Nat.le_of_eq hg.symm)) hb); have n2_ := Aside0.mk (Kd.R_below (by (with_reducible repeat (first | apply Kd.R_alloc | apply Kd.R_drewN | apply Kd.R_drew)); exact HL270_5.out) hb); have n3_ := Aside0.mk (Kd.R_below (by (with_reducible repeat (first | apply Kd.R_alloc | apply Kd.R_drewN | apply Kd.R_drew)); exact HL270_6.out) hb); have n4_ := Aside0.mk (Kd.C_below (by repeat (first | (with_reducible exact HR270_5.out) | (with_reducible refine Kd.C_alloc ?_ _) | (with_reducible refine Kd.C_drewN ?_ _) | (with_reducible refine Kd.C_drew ?_) | exact HR270_5.out)) hb); have n5_ := Aside0.mk (Kd.C_below (by repeat (first | (with_reducible exact HR270_6.out) | (with_reducible refine Kd.C_alloc ?_ _) | (with_reducible refine Kd.C_drewN ?_ _) | (with_reducible refine Kd.C_drew ?_) | exact HR270_6.out)) hb); have n6_ := Aside0.mk (below_step (by repeat (first | (with_reducible first | exact HB.out | apply below_alloc | apply pw_below_drewN | apply below_drew1) | exact HB.out)) hb); have n7_ := Aside0.mk (hbox); have n8_ := Aside0.mk ((by rw [hg]; exact (below_size (by repeat (first | (with_reducible first | exact HB.out | apply below_alloc | apply pw_below_drewN | apply below_drew1) | exact HB.out))) : w.heap.size ≤ gb271)); have n9_ := Aside0.mk ((by rw [hg]; exact (below_size (by repeat (first | (with_reducible first | exact HB.out | apply below_alloc | apply pw_below_drewN | apply below_drew1) | exact HB.out))) : w.heap.size ≤ gb271)); clear HO_8; clear HO_23; clear HL270_5; clear HL270_6; clear HR270_5; clear HR270_6; clear HB; have HO_8 := n0_; have HO_23 := n1_; have HL270_5 := n2_; have HL270_6 := n3_; have HR270_5 := n4_; have HR270_6 := n5_; have HB := n6_; have BK271 := n7_; have GW271 := n8_; have GE271 := n9_; clear n0_ n1_ n2_ n3_ n4_ n5_ n6_ n7_ n8_ n9_; clear hb hbox hg; have hcz29_0 : w28.cell? ⟨gb271, 0, none⟩ = some (.string (⟨#[]⟩ : ByteArray)) := (blk_cell BK271.out 0).trans rfl; have hcz29_1 : w28.cell? ⟨gb271, 1, none⟩ = some (.bool false) := (blk_cell BK271.out 1).trans rfl; have hcz29_2 : w28.cell? ⟨gb271, 2, none⟩ = some (.int .i64 0) := (blk_cell BK271.out 2).trans rfl; have hcz29_3 : w28.cell? ⟨gb271, 3, none⟩ = some (.int .i64 0) := (blk_cell BK271.out 3).trans rfl; have hcz29_4 : w28.cell? ⟨gb271, 4, none⟩ = some (.string (⟨#[]⟩ : ByteArray)) := (blk_cell BK271.out 4).trans rfl; have hcz29_5 : w28.cell? ⟨gb271, 5, none⟩ = some (.slice none 0 0) := (blk_cell BK271.out 5).trans rfl; have hcz29_6 : w28.cell? ⟨gb271, 6, none⟩ = some (.slice none 0 0) := (blk_cell BK271.out 6).trans rfl; have hfz29_0 := blk_frozen BK271.out 0; have hfz29_1 := blk_frozen BK271.out 1; have hfz29_2 := blk_frozen BK271.out 2; have hfz29_3 := blk_frozen BK271.out 3; have hfz29_4 := blk_frozen BK271.out 4; have hfz29_5 := blk_frozen BK271.out 5; have hfz29_6 := blk_frozen BK271.out 6) | ((with_reducible refine gate_callee (f := 21) rfl ?_); refine goesL_ (some 33) rfl rfl Tryd.func21 (by kernel_rfl) rfl #[.string ((rd_T54 t265 x25_1).f2.f2)] rfl (by (try simp only [List.map_toArray, List.map_cons, List.map_nil]); first | done | rfl | (simp only [List.length_drop, List.length_take]; rfl)) ?_; (with_reducible refine (hint_Find.calls k1 ((rd_T54 t265 x25_1).f2.f2) t272 false _ A9.out).mono ?_); rintro e w30 ⟨rfl, hb⟩; refine ⟨_, rfl, ?_⟩; have n0_ := Aside0.mk (Kd.R_below (by (with_reducible repeat (first | apply Kd.R_alloc | apply Kd.R_drewN | apply Kd.R_drew)); exact (Kd.R_mono (Kd.R_far (p := ⟨gb271, 6, none⟩) (Kd.R_far (p := ⟨gb271, 5, none⟩) (Kd.R_far (p := ⟨gb271, 4, none⟩) (Kd.R_far (p := ⟨gb271, 3, none⟩) (Kd.R_far (p := ⟨gb271, 2, none⟩) (Kd.R_far (p := ⟨gb271, 1, none⟩) (Kd.R_far (p := ⟨gb271, 0, none⟩) (Kd.R_types HO_8.out BK271.out (by decide)) (fun _ hk => hk.2) (.string ((rd_T54 t265 x25_1).f0))) (fun _ hk => hk.2) (.bool ((rd_T54 t265 x25_1).f1))) (fun _ hk => hk.2) (.int .i64 ((rd_T54 t265 x25_1).f2.f0))) (fun _ hk => hk.2) (.int .i64 ((rd_T54 t265 x25_1).f2.f1))) (fun _ hk => hk.2) (.string ((rd_T54 t265 x25_1).f2.f2))) (fun _ hk => hk.2) (.slice A270_5 ((rd_T54 t265 x25_1).f3).length c270_5)) (fun _ hk => hk.2) (.slice A270_6 ((rd_T54 t265 x25_1).f4).length c270_6)) (fun _ h_ => h_.1))) hb); have n1_ := Aside0.mk (Kd.R_below (by (with_reducible repeat (first | apply Kd.R_alloc | apply Kd.R_drewN | apply Kd.R_drew)); exact (Kd.R_mono (Kd.R_far (p := ⟨gb271, 6, none⟩) (Kd.R_far (p := ⟨gb271, 5, none⟩) (Kd.R_far (p := ⟨gb271, 4, none⟩) (Kd.R_far (p := ⟨gb271, 3, none⟩) (Kd.R_far (p := ⟨gb271, 2, none⟩) (Kd.R_far (p := ⟨gb271, 1, none⟩) (Kd.R_far (p := ⟨gb271, 0, none⟩) (Kd.R_mono HO_23.out (fun k_ hk => (⟨hk, hk.2⟩ : _ ∧ k_ ≠ gb271))) (fun _ hk => hk.2) (.string ((rd_T54 t265 x25_1).f0))) (fun _ hk => hk.2) (.bool ((rd_T54 t265 x25_1).f1))) (fun _ hk => hk.2) (.int .i64 ((rd_T54 t265 x25_1).f2.f0))) (fun _ hk => hk.2) (.int .i64 ((rd_T54 t265 x25_1).f2.f1))) (fun _ hk => hk.2) (.string ((rd_T54 t265 x25_1).f2.f2))) (fun _ hk => hk.2) (.slice A270_5 ((rd_T54 t265 x25_1).f3).length c270_5)) (fun _ hk => hk.2) (.slice A270_6 ((rd_T54 t265 x25_1).f4).length c270_6)) (fun _ h_ => h_.1))) hb); have n2_ := Aside0.mk (Kd.R_below (by (with_reducible repeat (first | apply Kd.R_alloc | apply Kd.R_drewN | apply Kd.R_drew)); exact (Kd.R_mono (Kd.R_far (p := ⟨gb271, 6, none⟩) (Kd.R_far (p := ⟨gb271, 5, none⟩) (Kd.R_far (p := ⟨gb271, 4, none⟩) (Kd.R_far (p := ⟨gb271, 3, none⟩) (Kd.R_far (p := ⟨gb271, 2, none⟩) (Kd.R_far (p := ⟨gb271, 1, none⟩) (Kd.R_far (p := ⟨gb271, 0, none⟩) (Kd.R_types HL270_5.out BK271.out (by decide)) (fun _ hk => hk.2) (.string ((rd_T54 t265 x25_1).f0))) (fun _ hk => hk.2) (.bool ((rd_T54 t265 x25_1).f1))) (fun _ hk => hk.2) (.int .i64 ((rd_T54 t265 x25_1).f2.f0))) (fun _ hk => hk.2) (.int .i64 ((rd_T54 t265 x25_1).f2.f1))) (fun _ hk => hk.2) (.string ((rd_T54 t265 x25_1).f2.f2))) (fun _ hk => hk.2) (.slice A270_5 ((rd_T54 t265 x25_1).f3).length c270_5)) (fun _ hk => hk.2) (.slice A270_6 ((rd_T54 t265 x25_1).f4).length c270_6)) (fun _ h_ => h_.1))) hb); have n3_ := Aside0.mk (Kd.R_below (by (with_reducible repeat (first | apply Kd.R_alloc | apply Kd.R_drewN | apply Kd.R_drew)); exact (Kd.R_mono (Kd.R_far (p := ⟨gb271, 6, none⟩) (Kd.R_far (p := ⟨gb271, 5, none⟩) (Kd.R_far (p := ⟨gb271, 4, none⟩) (Kd.R_far (p := ⟨gb271, 3, none⟩) (Kd.R_far (p := ⟨gb271, 2, none⟩) (Kd.R_far (p := ⟨gb271, 1, none⟩) (Kd.R_far (p := ⟨gb271, 0, none⟩) (Kd.R_types HL270_6.out BK271.out (by decide)) (fun _ hk => hk.2) (.string ((rd_T54 t265 x25_1).f0))) (fun _ hk => hk.2) (.bool ((rd_T54 t265 x25_1).f1))) (fun _ hk => hk.2) (.int .i64 ((rd_T54 t265 x25_1).f2.f0))) (fun _ hk => hk.2) (.int .i64 ((rd_T54 t265 x25_1).f2.f1))) (fun _ hk => hk.2) (.string ((rd_T54 t265 x25_1).f2.f2))) (fun _ hk => hk.2) (.slice A270_5 ((rd_T54 t265 x25_1).f3).length c270_5)) (fun _ hk => hk.2) (.slice A270_6 ((rd_T54 t265 x25_1).f4).length c270_6)) (fun _ h_ => h_.1))) hb); have n4_ := Aside0.mk (Kd.C_below ((Kd.R_reads' (by (with_reducible repeat (first | apply Kd.R_alloc | apply Kd.R_drewN | apply Kd.R_drew)); exact (Kd.R_mono (Kd.R_far (p := ⟨gb271, 6, none⟩) (Kd.R_far (p := ⟨gb271, 5, none⟩) (Kd.R_far (p := ⟨gb271, 4, none⟩) (Kd.R_far (p := ⟨gb271, 3, none⟩) (Kd.R_far (p := ⟨gb271, 2, none⟩) (Kd.R_far (p := ⟨gb271, 1, none⟩) (Kd.R_far (p := ⟨gb271, 0, none⟩) (Kd.R_types HL270_5.out BK271.out (by decide)) (fun _ hk => hk.2) (.string ((rd_T54 t265 x25_1).f0))) (fun _ hk => hk.2) (.bool ((rd_T54 t265 x25_1).f1))) (fun _ hk => hk.2) (.int .i64 ((rd_T54 t265 x25_1).f2.f0))) (fun _ hk => hk.2) (.int .i64 ((rd_T54 t265 x25_1).f2.f1))) (fun _ hk => hk.2) (.string ((rd_T54 t265 x25_1).f2.f2))) (fun _ hk => hk.2) (.slice A270_5 ((rd_T54 t265 x25_1).f3).length c270_5)) (fun _ hk => hk.2) (.slice A270_6 ((rd_T54 t265 x25_1).f4).length c270_6)) (fun _ h_ => h_.1)))).2.2) hb); have n5_ := Aside0.mk (Kd.C_below ((Kd.R_reads' (by (with_reducible repeat (first | apply Kd.R_alloc | apply Kd.R_drewN | apply Kd.R_drew)); exact (Kd.R_mono (Kd.R_far (p := ⟨gb271, 6, none⟩) (Kd.R_far (p := ⟨gb271, 5, none⟩) (Kd.R_far (p := ⟨gb271, 4, none⟩) (Kd.R_far (p := ⟨gb271, 3, none⟩) (Kd.R_far (p := ⟨gb271, 2, none⟩) (Kd.R_far (p := ⟨gb271, 1, none⟩) (Kd.R_far (p := ⟨gb271, 0, none⟩) (Kd.R_types HL270_6.out BK271.out (by decide)) (fun _ hk => hk.2) (.string ((rd_T54 t265 x25_1).f0))) (fun _ hk => hk.2) (.bool ((rd_T54 t265 x25_1).f1))) (fun _ hk => hk.2) (.int .i64 ((rd_T54 t265 x25_1).f2.f0))) (fun _ hk => hk.2) (.int .i64 ((rd_T54 t265 x25_1).f2.f1))) (fun _ hk => hk.2) (.string ((rd_T54 t265 x25_1).f2.f2))) (fun _ hk => hk.2) (.slice A270_5 ((rd_T54 t265 x25_1).f3).length c270_5)) (fun _ hk => hk.2) (.slice A270_6 ((rd_T54 t265 x25_1).f4).length c270_6)) (fun _ h_ => h_.1)))).2.2) hb); have n6_ := Aside0.mk (blk_below (g := gb271) (o := .cells #[.string ((rd_T54 t265 x25_1).f0), .bool ((rd_T54 t265 x25_1).f1), .int .i64 ((rd_T54 t265 x25_1).f2.f0), .int .i64 ((rd_T54 t265 x25_1).f2.f1), .string ((rd_T54 t265 x25_1).f2.f2), .slice A270_5 ((rd_T54 t265 x25_1).f3).length c270_5, .slice A270_6 ((rd_T54 t265 x25_1).f4).length c270_6] 54 (0, 0)) (by (with_reducible repeat (first | refine blk_drewN ?_ _ | refine blk_drew ?_ | refine blk_alloc ?_ _)); refine blk_put (cs := #[.string ((rd_T54 t265 x25_1).f0), .bool ((rd_T54 t265 x25_1).f1), .int .i64 ((rd_T54 t265 x25_1).f2.f0), .int .i64 ((rd_T54 t265 x25_1).f2.f1), .string ((rd_T54 t265 x25_1).f2.f2), .slice A270_5 ((rd_T54 t265 x25_1).f3).length c270_5, .slice none 0 0]) ?_ 6 _ rfl; (with_reducible repeat (first | refine blk_drewN ?_ _ | refine blk_drew ?_ | refine blk_alloc ?_ _)); refine blk_put (cs := #[.string ((rd_T54 t265 x25_1).f0), .bool ((rd_T54 t265 x25_1).f1), .int .i64 ((rd_T54 t265 x25_1).f2.f0), .int .i64 ((rd_T54 t265 x25_1).f2.f1), .string ((rd_T54 t265 x25_1).f2.f2), .slice none 0 0, .slice none 0 0]) ?_ 5 _ rfl; (with_reducible repeat (first | refine blk_drewN ?_ _ | refine blk_drew ?_ | refine blk_alloc ?_ _)); refine blk_put (cs := #[.string ((rd_T54 t265 x25_1).f0), .bool ((rd_T54 t265 x25_1).f1), .int .i64 ((rd_T54 t265 x25_1).f2.f0), .int .i64 ((rd_T54 t265 x25_1).f2.f1), .string (⟨#[]⟩ : ByteArray), .slice none 0 0, .slice none 0 0]) ?_ 4 _ rfl; (with_reducible repeat (first | refine blk_drewN ?_ _ | refine blk_drew ?_ | refine blk_alloc ?_ _)); refine blk_put (cs := #[.string ((rd_T54 t265 x25_1).f0), .bool ((rd_T54 t265 x25_1).f1), .int .i64 ((rd_T54 t265 x25_1).f2.f0), .int .i64 0, .string (⟨#[]⟩ : ByteArray), .slice none 0 0, .slice none 0 0]) ?_ 3 _ rfl; (with_reducible repeat (first | refine blk_drewN ?_ _ | refine blk_drew ?_ | refine blk_alloc ?_ _)); refine blk_put (cs := #[.string ((rd_T54 t265 x25_1).f0), .bool ((rd_T54 t265 x25_1).f1), .int .i64 0, .int .i64 0, .string (⟨#[]⟩ : ByteArray), .slice none 0 0, .slice none 0 0]) ?_ 2 _ rfl; (with_reducible repeat (first | refine blk_drewN ?_ _ | refine blk_drew ?_ | refine blk_alloc ?_ _)); refine blk_put (cs := #[.string ((rd_T54 t265 x25_1).f0), .bool false, .int .i64 0, .int .i64 0, .string (⟨#[]⟩ : ByteArray), .slice none 0 0, .slice none 0 0]) ?_ 1 _ rfl; (with_reducible repeat (first | refine blk_drewN ?_ _ | refine blk_drew ?_ | refine blk_alloc ?_ _)); refine blk_put (cs := #[.string (⟨#[]⟩ : ByteArray), .bool false, .int .i64 0, .int .i64 0, .string (⟨#[]⟩ : ByteArray), .slice none 0 0, .slice none 0 0]) ?_ 0 _ rfl; (with_reducible repeat (first | refine blk_drewN ?_ _ | refine blk_drew ?_ | refine blk_alloc ?_ _)); exact BK271.out) hb); have n7_ := Aside0.mk (below_step (by repeat (first | (with_reducible first | exact HB.out | apply below_alloc | apply pw_below_drewN | apply below_drew1 | refine below_set ?_ GE271.out) | exact HB.out)) hb); clear HO_8; clear HO_23; clear HL270_5; clear HL270_6; clear HR270_5; clear HR270_6; clear BK271; clear HB; have HO_8 := n0_; have HO_23 := n1_; have HL270_5 := n2_; have HL270_6 := n3_; have HR270_5 := n4_; have HR270_6 := n5_; have BK271 := n6_; have HB := n7_; clear n0_ n1_ n2_ n3_ n4_ n5_ n6_ n7_; (try clear hb); (try clear hb2); (try clear hk); (try clear hi)))
        go_roundg k1
        case measure => have := HK1.out; omega
        case rel => exact ⟨(x8_1), (wrap64 (x25_1 + 1)), (by first | rfl | (simp; done) | (simp [*]; done)), H', ⟨by have := HK1.out; omega⟩, ⟨by (with_reducible repeat (first | apply Kd.R_alloc | apply Kd.R_drewN | apply Kd.R_drew)); exact HO_8.out⟩, ⟨by (with_reducible repeat (first | apply Kd.R_alloc | apply Kd.R_drewN | apply Kd.R_drew)); exact Kd.R_mono HO_23.out (fun _ hk => trivial)⟩, ⟨by repeat (first | (with_reducible first | exact HB.out | apply below_alloc | apply pw_below_drewN | apply below_drew1 | refine below_set ?_ GE271.out) | exact HB.out)⟩⟩
      ·rw [if_neg c8] at H
       exact absurd H (by simp)
     ·rw [if_neg c7] at H
      exact absurd H (by simp)
    ·rw [if_neg c6] at H
     have c6b0 : decide (x25_1 < (t265.length : Int)) = false := decide_eq_false c6
     clear c6
     by_cases c30 : x8_1.length < 4611686018427387904
     ·rw [if_pos c30] at H
      simp only [Option.some.injEq, Prod.mk.injEq] at H
      obtain ⟨rfl, rfl, rfl⟩ := H
      have HN := Aside0.mk c30
      clear c30
      obtain ⟨Ao5, co5, eo5⟩ := Kd.R_slice HO_8.out
      subst eo5
      go_wp2_with (first | (go_at_call 16; refine (sortI_own HO_8.out HB.out (Nat.le_refl _) HN.out).mono ?_; rintro e wf ⟨rfl, ho, hb⟩; clear HO_8 HB; have HO_8 := Aside0.mk ho; have HB := Aside0.mk hb; clear ho hb) | (go_at_call 17; refine (compactI_own HO_8.out HB.out (Nat.le_refl _) (by rw [sortI_length]; exact HN.out)).mono ?_; rintro e wf ⟨v', rfl, ho, hb⟩; clear HO_8 HB; have HO_8 := Aside0.mk ho; have HB := Aside0.mk hb; clear ho hb))
      go_ret3
      exact ⟨_, by first | rfl | (simp; done) | (simp [*]; done), Kd.R_mono HO_8.out (fun _ hk => trivial), HB.out⟩
     ·rw [if_neg c30] at H
      cases H
 ·rw [if_neg c3] at H
  have c3b0 : (t266 == 0) = false := beq_eq_false_iff_ne.mpr c3
  have c3b1 : (t266 != 0) = true := bne_iff_ne.mpr c3
  simp only [Option.some.injEq, Prod.mk.injEq] at H
  obtain ⟨rfl, rfl, rfl⟩ := H
  go_enter Tryd.func11, Tryd.ntmps11
  go_wp2_with (first | ((with_reducible refine gate_callee (f := 20) rfl ?_); refine goesL_ (some 15) rfl rfl Tryd.func20 (by kernel_rfl) rfl #[.string a0] rfl (by (try simp only [List.map_toArray, List.map_cons, List.map_nil]); first | done | rfl | (simp only [List.length_drop, List.length_take]; rfl)) ?_; (with_reducible refine (fields_ReadList.calls a0 t265 t266 t267 _ A2.out).mono ?_); rintro e w31 ⟨v268, rfl, ho0, hb⟩; refine ⟨_, rfl, ?_⟩; have n0_ := Aside0.mk (Kd.R_lower ho0 (below_size (by repeat (first | (with_reducible first | exact HB.out | apply below_alloc | apply pw_below_drewN | apply below_drew1) | exact HB.out)))); have n1_ := Aside0.mk (below_step (by repeat (first | (with_reducible first | exact HB.out | apply below_alloc | apply pw_below_drewN | apply below_drew1) | exact HB.out)) hb); clear HB; have HO269 := n0_; have HB := n1_; clear n0_ n1_; (try clear hb); (try clear hb2); (try clear hk); (try clear hi); (try clear ho0)))
  go_ret3
  exact ⟨_, by first | rfl | (simp [errW_none, errW_some] <;> rfl) | (simp [*, errW_none, errW_some] <;> rfl), by first | exact Kd.R_nil _ _ _ _ _ | exact Kd.N_nil _ _ _ _ _ | exact Kd.V_nil _ _ _ _ _ | exact Kd.Q_nil _ _ _ _ _ | exact Kd.S_nil _ _ _ _ _, by repeat (first | (with_reducible first | exact HB.out | apply below_alloc | apply pw_below_drewN | apply below_drew1) | exact HB.out)⟩

def pergolalaw20_num.f (a0 : Int) : Option (Int) := some a0
set_option maxHeartbeats 8000000 in
set_option maxRecDepth 100000 in
theorem pergolalaw20_num.calls (a0 : Int) (r : Int) (w : World) (h : pergolalaw20_num.f a0 = some r) :
  Calls Tryd.prog 14 #[.int .i64 a0] w fun e w' => e = .returned (.int .i64 r) ∧ Drawn0 w w' := by
 have H : (some a0) = some r := h
 clear h
 obtain rfl := Option.some.inj H
 go_enter Tryd.func14, Tryd.ntmps14
 go_wp2
 go_ret
 exact ⟨by first | rfl | (simp; done) | (simp [*]; done), by repeat (first | exact Drawn0.refl _ | apply Drawn0.step)⟩

end Go.Proofs.YtclkclcacnpmbaaDoor.X
