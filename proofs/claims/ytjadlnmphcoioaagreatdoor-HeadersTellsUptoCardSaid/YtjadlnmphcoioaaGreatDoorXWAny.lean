/- strings.ContainsAny at "\x00\n\r" of whatever text (the library's contract of a short text asks ASCII: here a byte above is read by the model's own decoding); strings.Cut at one byte. -/
import Derived.Test.YtjadlnmphcoioaaGreatDoorXW
import Derived.Test.YtjadlnmphcoioaaGreatDoorShelf
import Derived.Deep.RegionWith
import Derived.Laws.RangeAny
import Derived.Laws.Runes
import Derived.WalkMore
import Derived.Lib.IndexAny
import Derived.Lib.IndexBytes
import Derived.Lib.OthersKept
import Derived.Deep.LoopGhost
import Derived.Deep.WholeRow
import Derived.Below
import Derived.WalkKit
namespace Go.Proofs.YtjadlnmphcoioaaGreatDoorW.PrintWords
open Go Go.RowKit Go.Lib
def crlf0 : ByteArray := ⟨#[0, 10, 13]⟩
theorem crlf0_low (i : Nat) (h : i < crlf0.size) : (crlf0[i]'h).toNat < 128 := by
  exact (by decide : ∀ j : Fin 3, (crlf0[j.1]'j.2).toNat < 128) ⟨i, h⟩
theorem indexByte_lt : ∀ (l : List UInt8) (c : UInt8), 0 ≤ Lib.indexByte l c → (Lib.indexByte l c).toNat < l.length
  | [], _, h => absurd h (by show ¬ (0 : Int) ≤ -1; decide)
  | b :: l, c, h => by
    have ih := indexByte_lt l c
    have hge := Lib.indexByte_ge l c
    rw [Lib.indexByte] at h ⊢
    rw [List.length_cons]
    split
    · simp
    · split
      · rename_i h1 h2
        rw [if_neg h1, if_pos h2] at h
        omega
      · rename_i h1 h2
        have h3 : Lib.indexByte l c ≠ -1 := by simpa using h2
        have := ih (by omega)
        omega
theorem idx_high : ∀ (l : List UInt8) (c : UInt8), (∀ b ∈ l, b.toNat < 128) → 128 ≤ c.toNat → Lib.indexByte l c = -1
  | [], _, _, _ => rfl
  | b :: l, c, h, hc => by
    have hb : (b == c) = false := by
      rw [beq_eq_false_iff_ne]
      rintro rfl
      have := h b (List.mem_cons_self ..)
      omega
    rw [Lib.indexByte, hb, idx_high l c (fun x hx => h x (List.mem_cons_of_mem _ hx)) hc]
    rfl
set_option maxHeartbeats 2000000 in
set_option maxRecDepth 100000 in
theorem strings_IndexRune.high (r : Int) (h0 : 128 ≤ r) (h1 : r ≤ 2147483647) (w : World) :
    Calls Tryz.prog 159 #[.string crlf0, .int .i32 r] w fun e w' => e = .returned (.int .i64 (-1)) ∧ Below w.heap.size w w' := by
  have hsz : crlf0.size = 3 := rfl
  by_cases he : r = 65533
  · subst he
    have HL := Aside0.mk crlf0_low
    generalize crlf0 = s at *
    go_enter Tryz.func159, Tryz.ntmps159
    go_wp2
    clear hsz
    go_loopg [5, 6] s.size (fun g _ _ wx => ∃ i : Nat, i + g = s.size ∧ wx = w.iter s i)
    case atStart => exact ⟨0, by omega, rfl⟩
    case round =>
      obtain ⟨i, hig, rfl⟩ := hrel
      cases gk with
      | zero =>
        obtain rfl : i = s.size := by omega
        have hnx := fun ty => run_next_end (P := Tryz.prog) w s s.size ty (by omega)
        go_wp2
        go_ret
        exact ⟨rfl, (Below.refl _ _).alloc (Nat.le_refl _) _⟩
      | succ g =>
        have hi : i < s.size := by omega
        have hx := HL.out i hi
        have hnx := fun ty => run_next_ascii (P := Tryz.prog) w s i ty hi hx
        generalize (s[i]'hi).toNat = c at *
        go_wp2
        go_roundg g
        case measure => omega
        case rel => exact ⟨i + 1, by omega, rfl⟩
  · have hV : Calls Tryz.prog 178 #[.int .i32 r] w fun e w' => e = .returned (.bool (Utf8.valid r)) ∧ w' = w := by
      have hv : Utf8.valid r = (decide (r < 55296) || (decide (57343 < r) && decide (r ≤ 1114111))) := by
        simp only [Utf8.valid]
        rw [Bool.eq_iff_iff]
        simp
        omega
      by_cases a1 : r < 55296 <;> by_cases a2 : 57343 < r <;> by_cases a3 : r ≤ 1114111 <;> simp only [a1, a2, a3, decide_true, decide_false, Bool.or_true, Bool.and_self, Bool.and_false, Bool.false_and, Bool.or_self, Bool.or_false] at hv <;> rw [hv] <;> clear hv <;> first
        | (exfalso; omega)
        | (go_enter Tryz.func178, Tryz.ntmps178
           go_wp2
           go_ret
           exact ⟨rfl, rfl⟩)
    cases hv : Utf8.valid r
    · rw [hv] at hV
      clear hsz
      generalize crlf0 = s
      go_enter Tryz.func159, Tryz.ntmps159
      go_wp2_with (go_at_call 178; refine hV.mono ?_; rintro e w' ⟨rfl, hw⟩; rw [hw])
      go_ret
      exact ⟨rfl, Below.refl _ _⟩
    · rw [hv] at hV
      obtain ⟨e2, e4, eh⟩ := encode_facts r hv h0
      generalize hu : Utf8.encode r = u at *
      have HL := Aside0.mk crlf0_low
      generalize crlf0 = s at *
      obtain ⟨n, hn⟩ : ∃ n, u.size = n + 1 := ⟨u.size - 1, by omega⟩
      have hb1 : n < u.size := by omega
      obtain ⟨c, hc⟩ : ∃ c : UInt8, u[n]'hb1 = c := ⟨_, rfl⟩
      have hlast : 128 ≤ c.toNat := by
        have h := eh (by omega)
        have e : u.size - 1 = n := by omega
        simp only [e] at h
        rw [hc] at h
        exact h
      have HI : Aside0 (∀ i, Lib.indexByte (List.take (s.size - i) (List.drop i s.data.toList)) c = -1) := ⟨fun i => idx_high _ c (fun b hb => by
        obtain ⟨j, hj, e⟩ := List.getElem_of_mem (List.mem_of_mem_drop (List.mem_of_mem_take hb))
        have hj' : j < s.size := by rw [Lib.size_eq]; exact hj
        have := HL.out j hj'
        rw [← e]; exact this) hlast⟩
      have HN : Aside0 (∀ i (h : i < s.size), s[i]'h ≠ c) := ⟨fun i h e => by have := HL.out i h; rw [e] at this; omega⟩
      clear eh
      go_enter Tryz.func159, Tryz.ntmps159
      go_wp2_with (go_at_call 178; refine hV.mono ?_; rintro e w' ⟨rfl, hw⟩; rw [hw])
      go_step3
      go_wp2
      go_loop [9, 10] (fun v1 v2 => v1 = .int .i64 (n : Int) ∧ v2 = .int .i64 0) (fun _ _ => (0 : Nat))
      case atStart => exact ⟨rfl, rfl⟩
      case round =>
        obtain ⟨rfl, rfl⟩ := hrel
        clear hv h0 h1 he hV hlast
        by_cases hl : n < s.size
        · have hx := HN.out _ hl
          have hxb : ((s[n]'hl).toNat : Int) ≠ (c.toNat : Int) := fun e => hx (UInt8.toNat_inj.1 (by omega))
          clear hsz
          go_wp2
          go_step3
          go_wp2
          go_region
          go_wp2
          have hwr : IntKind.i64.wrap ((n : Int) + 1) = (n : Int) + 1 := wrap_small _ (by omega) (by omega)
          have htn : ((n : Int) + 1).toNat = n + 1 := by omega
          have hc1 : (0 : Int) ≤ (n : Int) + 1 := by omega
          have hc2 : (n : Int) + 1 ≤ (s.size : Int) := by omega
          go_region_with (go_at_call 134; refine (Tryz.strings_IndexByte _ _ _).mono ?_; rintro e w' ⟨rfl, hw⟩; rw [hw])
          have hI := HI.out (n + 1)
          go_wp2
          change bodyPost _ _ (fun e w' => e = Ending.returned (Value.int .i64 (-1)) ∧ Below w.heap.size w w') Exit.ret _ _
          go_ret
          exact ⟨rfl, (Below.refl _ _).drew.drew⟩
        · clear hsz
          go_wp2
          change bodyPost _ _ (fun e w' => e = Ending.returned (Value.int .i64 (-1)) ∧ Below w.heap.size w w') Exit.ret _ _
          go_ret
          exact ⟨rfl, Below.refl _ _⟩
theorem decode_rest (s : ByteArray) (pos : Nat) (h : pos < s.size) (ha : 128 ≤ (s[pos]'h).toNat) (k : Nat) (hk : k < (Utf8.decode s pos).2) : pos + k < s.size ∧ 128 ≤ (s.get! (pos + k)).toNat := by
  have hn : ¬ (s[pos]'h).toNat < 128 := by omega
  have hg := get_at s pos h
  revert hk
  simp only [Utf8.decode, get_at s pos h, hn, if_false]
  have k0 : k = 0 → pos + k < s.size ∧ 128 ≤ (s.get! (pos + k)).toNat := by
    rintro rfl
    rw [hg]; exact ⟨h, ha⟩
  have kk : ∀ j, pos + j < s.size → (s.get! (pos + j)).toNat / 64 = 2 → k = j → pos + k < s.size ∧ 128 ≤ (s.get! (pos + k)).toNat := by
    rintro j h1 h2 rfl
    exact ⟨h1, by omega⟩
  repeat' split
  all_goals intro hk
  all_goals simp only [Bool.and_eq_true, decide_eq_true_eq, beq_iff_eq] at *
  all_goals (rcases (by omega : k = 0 ∨ k = 1 ∨ k = 2 ∨ k = 3) with e | e | e | e)
  all_goals first
    | exact k0 e
    | (exfalso; omega)
    | (exact kk _ (by omega) (by omega) e)
    | skip
theorem decode_in (s : ByteArray) (pos : Nat) (h : pos < s.size) : pos + (Utf8.decode s pos).2 ≤ s.size := by
  by_cases ha : 128 ≤ (s[pos]'h).toNat
  · have h1 := (decode_high s pos h ha).2
    have := (decode_rest s pos h ha ((Utf8.decode s pos).2 - 1) (by omega)).1
    omega
  · rw [decode_ascii s pos h (by omega)]
    show pos + 1 ≤ s.size
    omega

theorem noAny_more {s : ByteArray} {i k : Nat} (h : Lib.NoAny s.data.toList crlf0.data.toList i) (hk : ∀ j, j < k → ∃ hj : i + j < s.size, crlf0.data.toList.contains (s[i + j]'hj) = false) : Lib.NoAny s.data.toList crlf0.data.toList (i + k) := fun j b hj hb => by
  by_cases hi : j < i
  · exact h j b hi hb
  · obtain ⟨hs, hc⟩ := hk (j - i) (by omega)
    have e : i + (j - i) = j := by omega
    simp only [e] at hs hc
    rw [Lib.data_getElem? s j hs] at hb
    rw [← Option.some.inj hb]
    exact hc
theorem crlf0_high (x : UInt8) (h : 128 ≤ x.toNat) : crlf0.data.toList.contains x = false := by
  show ([0, 10, 13] : List UInt8).contains x = false
  have h0 : x ≠ 0 := fun e => by subst e; revert h; decide
  have h1 : x ≠ 10 := fun e => by subst e; revert h; decide
  have h2 : x ≠ 13 := fun e => by subst e; revert h; decide
  simp [h0, h1, h2]
set_option maxHeartbeats 4000000 in
set_option maxRecDepth 100000 in
theorem strings_IndexAny.short (s : ByteArray) (w : World) (h8 : s.size ≤ 8) :
    Calls Tryz.prog 135 #[.string s, .string crlf0] w fun e w' => e = .returned (.int .i64 (Lib.indexAny s.data.toList crlf0.data.toList)) ∧ Below w.heap.size w w' := by
  have h8z : decide ((8 : Int) < (s.size : Int)) = false := decide_eq_false (by omega)
  have HI : Aside0 (∀ (r : Int) (W : World), 128 ≤ r → r ≤ 2147483647 → Calls Tryz.prog 159 #[.string crlf0, .int .i32 r] W fun e w' => e = .returned (.int .i64 (-1)) ∧ Below W.heap.size W w') := ⟨fun r W h0 h1 => strings_IndexRune.high r h0 h1 W⟩
  have hemp : crlf0.toList.isEmpty = false := by rw [Lib.toList_data]; rfl
  have hn1 : ((crlf0.size : Int) == 1) = false := by decide
  have HH := Aside0.mk crlf0_high
  have HM := Aside0.mk (@noAny_more)
  have hsz : crlf0.size = 3 := rfl
  generalize crlf0 = c at *
  clear hsz
  go_enter Tryz.func135, Tryz.ntmps135
  go_wp2_with (go_at_call 160; refine (Tryz.strings_shouldUseASCIISet _ _).mono ?_; rintro e w' ⟨rfl, hw⟩; rw [hw, h8z])
  go_loopg [9, 10] s.size (fun g _ _ wx => ∃ i : Nat, wx.heap[w.heap.size]? = some (.stringIter s i) ∧ Below w.heap.size w wx ∧ Aside0 (Lib.NoAny s.data.toList c.data.toList i) ∧ s.size ≤ i + g ∧ i ≤ s.size)
  case atStart => exact ⟨0, World.iter_heap w s 0, (Below.refl _ w).alloc (Nat.le_refl _) _, ⟨Lib.NoAny.zero _ _⟩, by omega, by omega⟩
  case round =>
    obtain ⟨i, hit, hbw, HN, hfu, his⟩ := hrel
    by_cases hi : i < s.size
    · obtain ⟨g', rfl⟩ : ∃ g', gk = g' + 1 := ⟨gk - 1, by omega⟩
      have hnx : ∀ ty, (Instr.next (.pointer (some ⟨w.heap.size, 0, none⟩)) true ty).run Tryz.prog wr = _ := fun ty => Lib.run_next_any_at wr w.heap.size s i ty hit hi
      have hin := decode_in s i hi
      have HR := Aside0.mk (decode_rest s i hi)
      have HG := Aside0.mk (decode_high s i hi)
      have hle := decode_le s i
      have HA := Aside0.mk (decode_ascii s i hi)
      obtain ⟨R, hR⟩ : ∃ R, (Utf8.decode s i).1 = R := ⟨_, rfl⟩
      obtain ⟨K, hK⟩ : ∃ K, (Utf8.decode s i).2 = K := ⟨_, rfl⟩
      have HRK : Aside0 (Utf8.decode s i = (R, K)) := ⟨by rw [← hR, ← hK]⟩
      rw [hR, hK] at hnx
      rw [hK] at hin HR HG
      rw [hR] at hle HG
      clear hR hK
      have hit2 := Lib.iterAt_heap wr w.heap.size s i (i + K) hit
      have hbw2 := Lib.below_iterAt hbw (k := w.heap.size) (Nat.le_refl _) s (i + K)
      obtain ⟨W, hWd⟩ : ∃ W, wr.iterAt w.heap.size s (i + K) = W := ⟨_, rfl⟩
      rw [hWd] at hnx hit2 hbw2
      have hltW : w.heap.size < W.heap.size := (Array.getElem?_eq_some_iff.1 hit2).1
      by_cases hx : (s[i]'hi).toNat < 128
      · have hd := HA.out hx
        rw [HRK.out] at hd
        obtain ⟨rfl, rfl⟩ := Prod.mk.inj hd
        clear hd HRK HA HR HG hle
        obtain ⟨x, hxe⟩ : ∃ x : UInt8, s[i]'hi = x := ⟨_, rfl⟩
        have Hx : Aside0 (s.data.toList[i]? = some x) := ⟨by rw [← hxe]; exact Lib.data_getElem? s i hi⟩
        rw [hxe] at hx hnx
        have hback : ((x.toNat : Int)).toNat.toUInt8 = x := by simp
        clear hxe
        have hcon := Lib.contains_iff_indexByte c.data.toList x
        cases hin' : c.data.toList.contains x
        · rw [hin'] at hcon
          have hlt : ¬ ((0 : Int) ≤ Lib.indexByte c.data.toList x) := of_decide_eq_false hcon.symm
          clear hcon
          have HN' : Aside0 _ := ⟨HN.out.succ Hx.out hin'⟩
          clear hin'
          go_wp2_with (go_at_call 159; refine (Tryz.strings_IndexRune_ascii _ _ _ (by omega) (by omega)).mono ?_; rintro e w' ⟨rfl, hw⟩; rw [hw, hback])
          go_roundg g'
          case measure => omega
          case rel => exact ⟨i + 1, hit2, hbw2, HN', by omega, by omega⟩
        · rw [hin'] at hcon
          have hge : (0 : Int) ≤ Lib.indexByte c.data.toList x := of_decide_eq_true hcon.symm
          clear hcon
          have HE : Aside0 (Lib.indexAny s.data.toList c.data.toList = i) := ⟨Lib.indexAny_hit HN.out Hx.out hin'⟩
          clear hin'
          go_wp2_with (go_at_call 159; refine (Tryz.strings_IndexRune_ascii _ _ _ (by omega) (by omega)).mono ?_; rintro e w' ⟨rfl, hw⟩; rw [hw, hback])
          go_ret
          exact ⟨by rw [HE.out]; rfl, hbw2⟩
      · have hg := HG.out (by omega)
        have HN' : Aside0 (Lib.NoAny s.data.toList c.data.toList (i + K)) := ⟨HM.out HN.out (fun j hj => by
          obtain ⟨h1, h2⟩ := HR.out (by omega) j hj
          refine ⟨h1, HH.out _ ?_⟩
          rw [← get_at s (i + j) h1]
          exact h2)⟩
        have cI := HI.out (R : Int) W (by omega) (by omega)
        clear HRK HA HR HG
        go_wp2_with (go_at_call 159; refine cI.mono ?_; rintro e w' ⟨rfl, hbc⟩)
        go_roundg g'
        case measure => omega
        case rel => exact ⟨i + K, (hbc.block _ hltW).trans hit2, (hbw2.trans (hbc.mono hbw2.size)), HN', by omega, by omega⟩
    · have hnx : ∀ ty, (Instr.next (.pointer (some ⟨w.heap.size, 0, none⟩)) true ty).run Tryz.prog wr = _ := fun ty => Lib.run_next_end_at wr w.heap.size s i ty hit hi
      obtain rfl : i = s.size := by omega
      have HE : Aside0 (Lib.indexAny s.data.toList c.data.toList = -1) := ⟨Lib.indexAny_none (by rw [← Lib.size_eq]; exact HN.out)⟩
      go_wp2
      go_ret
      exact ⟨by rw [HE.out]; rfl, hbw⟩

theorem strings_ContainsAny.crlf (s : ByteArray) (w : World) (hs : s.size < 4294967281) :
    Calls Tryz.prog 98 #[.string s, .string crlf0] w fun e w' => e = .returned (.bool (Lib.containsAny s.data.toList crlf0.data.toList)) ∧ Below w.heap.size w w' := by
  have c : Calls Tryz.prog 135 #[.string s, .string crlf0] w fun e w' => e = .returned (.int .i64 (Lib.indexAny s.data.toList crlf0.data.toList)) ∧ Below w.heap.size w w' := by
    by_cases h8 : s.size ≤ 8
    · exact strings_IndexAny.short s w h8
    · have hv : ∀ w, (zeroValue 174).run Tryz.prog w = .ok (.agg (Array.replicate 256 (.bool false))) w := (zero_of_info (P := Tryz.prog) (n := 256) (by kernel_rfl)).1
      have hac : ∀ (j : Nat) b, crlf0.data.toList[j]? = some b → b.toNat < 128 := fun j b hb => by
        have hm := List.mem_of_getElem? hb
        revert b
        have : ∀ b ∈ crlf0.data.toList, b.toNat < 128 := by decide
        intro b _ hm
        exact this b hm
      refine (Tryz.strings_IndexAny_long hv s crlf0 w (by decide) (by omega) hs (by decide) hac).mono ?_
      rintro e w' ⟨rfl, rfl⟩
      exact ⟨rfl, ((Below.refl _ _).alloc (Nat.le_refl _) _).alloc (by simp) _⟩
  unfold Lib.containsAny
  generalize Lib.indexAny s.data.toList crlf0.data.toList = r at *
  generalize crlf0 = z at *
  go_enter Tryz.func98, Tryz.ntmps98
  go_wp2_with (go_at_call 135; refine c.mono ?_; rintro e w' ⟨rfl, hw⟩)
  go_ret
  exact ⟨rfl, hw⟩

set_option maxHeartbeats 2000000 in
theorem stringslite_Cut.miss (s : ByteArray) (c : UInt8) (h : Lib.indexByte s.data.toList c = -1) (w : World) :
    Calls Tryz.prog 118 #[.string s, .string ⟨#[c]⟩] w fun e w' => e = .returned (.tuple #[.string s, .string ByteArray.empty, .bool false]) ∧ Below w.heap.size w w' := by
  have hI := fun w => Tryz.stringslite_Index_one s c w
  rw [h] at hI
  clear h
  generalize (⟨#[c]⟩ : ByteArray) = z at *
  go_enter Tryz.func118, Tryz.ntmps118
  go_wp2_with (go_at_call 157; refine (hI _).mono ?_; rintro e w' ⟨rfl, hw⟩; rw [hw])
  go_ret3
  exact ⟨rfl, Below.refl _ _⟩
set_option maxHeartbeats 2000000 in
theorem stringslite_Cut.hit (s : ByteArray) (c : UInt8) (i : Nat) (h : Lib.indexByte s.data.toList c = (i : Int)) (hi : i + 1 ≤ s.size) (hs : s.size < 4294967281) (w : World) :
    Calls Tryz.prog 118 #[.string s, .string ⟨#[c]⟩] w fun e w' => e = .returned (.tuple #[.string (s.extract 0 i), .string (s.extract (i + 1) s.size), .bool true]) ∧ Below w.heap.size w w' := by
  have hI := fun w => Tryz.stringslite_Index_one s c w
  rw [h] at hI
  clear h
  have hz : (⟨#[c]⟩ : ByteArray).size = 1 := rfl
  generalize (⟨#[c]⟩ : ByteArray) = z at *
  have c1 : (0 : Int) ≤ (i : Int) := by omega
  have c2 : (i : Int) ≤ (s.size : Int) := by omega
  have c3 : (0 : Int) ≤ (i : Int) + 1 := by omega
  have c4 : (i : Int) + 1 ≤ (s.size : Int) := by omega
  have hwr : IntKind.i64.wrap ((i : Int) + 1) = (i : Int) + 1 := wrap_small _ (by omega) (by omega)
  have htn : ((i : Int) + 1).toNat = i + 1 := by omega
  go_enter Tryz.func118, Tryz.ntmps118
  go_wp2_with (go_at_call 157; refine (hI _).mono ?_; rintro e w' ⟨rfl, hw⟩; rw [hw])
  go_region
  go_wp2
  go_ret3
  exact ⟨rfl, (Below.refl _ _).drew⟩
theorem strings_Cut.one (s : ByteArray) (c : UInt8) (hs : s.size < 4294967281) (w : World) :
    Calls Tryz.prog 74 #[.string s, .string ⟨#[c]⟩] w fun e w' => e = .returned (if 0 ≤ Lib.indexByte s.data.toList c then .tuple #[.string (s.extract 0 (Lib.indexByte s.data.toList c).toNat), .string (s.extract ((Lib.indexByte s.data.toList c).toNat + 1) s.size), .bool true] else .tuple #[.string s, .string ByteArray.empty, .bool false]) ∧ Below w.heap.size w w' := by
  have hc : Calls Tryz.prog 118 #[.string s, .string ⟨#[c]⟩] w fun e w' => e = .returned (if 0 ≤ Lib.indexByte s.data.toList c then .tuple #[.string (s.extract 0 (Lib.indexByte s.data.toList c).toNat), .string (s.extract ((Lib.indexByte s.data.toList c).toNat + 1) s.size), .bool true] else .tuple #[.string s, .string ByteArray.empty, .bool false]) ∧ Below w.heap.size w w' := by
    have hge := Lib.indexByte_ge s.data.toList c
    by_cases h0 : 0 ≤ Lib.indexByte s.data.toList c
    · rw [if_pos h0]
      have hlt : (Lib.indexByte s.data.toList c).toNat < s.data.toList.length := indexByte_lt _ _ h0
      rw [← Lib.size_eq] at hlt
      exact stringslite_Cut.hit s c _ (by omega) (by omega) hs w
    · rw [if_neg h0]
      exact stringslite_Cut.miss s c (by omega) w
  have ha := Aside0.mk hc
  clear hc
  generalize hz : (if 0 ≤ Lib.indexByte s.data.toList c then Value.tuple #[.string (s.extract 0 (Lib.indexByte s.data.toList c).toNat), .string (s.extract ((Lib.indexByte s.data.toList c).toNat + 1) s.size), .bool true] else Value.tuple #[.string s, .string ByteArray.empty, .bool false]) = v at *
  have ht : ∃ a b d, v = .tuple #[a, b, d] := by
    rw [← hz]
    split
    · exact ⟨_, _, _, rfl⟩
    · exact ⟨_, _, _, rfl⟩
  clear hz
  obtain ⟨a, b, d, rfl⟩ := ht
  generalize (⟨#[c]⟩ : ByteArray) = z at *
  go_enter Tryz.func74, Tryz.ntmps74
  go_wp2_with (go_at_call 118; refine ha.out.mono ?_; rintro e w' ⟨rfl, hw⟩)
  go_ret3
  exact ⟨rfl, hw⟩
end Go.Proofs.YtjadlnmphcoioaaGreatDoorW.PrintWords
