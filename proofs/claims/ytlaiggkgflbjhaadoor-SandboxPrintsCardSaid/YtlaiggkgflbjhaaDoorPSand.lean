/- Layer 17: the page's examples (alive), and bits of flags. -/
import Derived.Laws.BitsAllLaws
import Derived.Test.YtlaiggkgflbjhaaDoorX4
import Derived.Test.YtlaiggkgflbjhaaDoorX3
import Derived.Test.YtlaiggkgflbjhaaDoorX4
namespace Go.Proofs.YtlaiggkgflbjhaaDoor.Pure
open Go.RowKit Go.Proofs.YtlaiggkgflbjhaaDoor.X Go.Proofs.YtlaiggkgflbjhaaDoorW.PrintWords Go.Proofs.YtlaiggkgflbjhaaDoorW.PrintLast Go.Proofs.YtlaiggkgflbjhaaDoorW.PrintMore

/-! Flags' bits -/
def an (a b : Nat) : Nat := a &&& (4294967295 - b)
theorem an_u32 (a b : Nat) (ha : a < 4294967296) (hb : b < 4294967296) : Go.bits .andNot .u32 (a : Int) (b : Int) = ((an a b : Nat) : Int) := u32_andNot_nat a b ha hb
theorem an_bit (a b i : Nat) (ha : a < 4294967296) (hb : b < 4294967296) : (an a b).testBit i = (a.testBit i && !b.testBit i) := by
  unfold an
  rw [Nat.testBit_and, show 4294967295 - b = 2 ^ 32 - (b + 1) by omega, Nat.testBit_two_pow_sub_succ (by omega)]
  by_cases h : i < 32
  · simp [h]
  · have : a.testBit i = false := Nat.testBit_lt_two_pow (Nat.lt_of_lt_of_le ha (by
      have := Nat.pow_le_pow_right (n := 2) (by omega) (show 32 ≤ i by omega)
      omega))
    simp [h, this]
theorem u32_or (a b : Nat) (ha : a < 4294967296) (hb : b < 4294967296) : a ||| b < 4294967296 := Nat.or_lt_two_pow (n := 32) ha hb

/-! Print of no flag at all: there is no way to say it -/
theorem tok_small (i : Nat) (hi : i < 14) : ∃ o : Nat, (rd_Tok tokS (i : Int)).f1 = (o : Int) ∧ o < 32768 := by
  have h : ∀ i : Fin 14, 0 ≤ (rd_Tok tokS (i.val : Int)).f1 ∧ (rd_Tok tokS (i.val : Int)).f1 < 32768 := by decide +kernel
  have := h ⟨i, hi⟩
  exact ⟨(rd_Tok tokS (i : Int)).f1.toNat, by simp only at this; omega, by simp only at this; omega⟩
theorem none_l2 (x10 x41 : Int) (R : ByteArray × Int) (h : Ev (fun k => sandbox_Print.l1 k 65535 tokS (-1) 16384 (wrap64 (x41 + 1))) R) (d : Nat) : ∀ (i v : Nat), i + d = 14 → v < 32768 →
    Ev (fun k => sandbox_Print.l2 k 65535 tokS (-1) x10 (v : Int) 16384 x41 tokS (tokS.length : Int) (i : Int)) R := by
  have hlen : (tokS.length : Int) = 14 := by decide +kernel
  rw [hlen]
  induction d with
  | zero =>
    intro i v hi hv
    refine Ev.step (fun k => ?_) h
    rw [sandbox_Print.l2, if_neg (by omega), if_neg (by omega)]
  | succ d ih =>
    intro i v hi hv
    obtain ⟨o, ho, ho2⟩ := tok_small i (by omega)
    have hw : wrap64 ((i : Int) + 1) = ((i + 1 : Nat) : Int) := by unfold wrap64; omega
    by_cases hb : (Go.bits .and .i64 (shr .i64 x10 (i : Int)) 1) = 1
    · refine Ev.step (fun k => ?_) (ih (i + 1) (v ||| o) (by omega) (Nat.or_lt_two_pow (n := 15) hv ho2))
      rw [sandbox_Print.l2, if_pos (by omega), if_pos (by omega), if_pos (by rw [hlen]; omega), if_pos hb, ho, u32_or_nat v o (by omega) (by omega), hw]
    · refine Ev.step (fun k => ?_) (ih (i + 1) v (by omega) hv)
      rw [sandbox_Print.l2, if_pos (by omega), if_pos (by omega), if_pos (by rw [hlen]; omega), if_neg hb, hw]
theorem none_l1 (d : Nat) : ∀ s : Nat, s + d = 16384 → Ev (fun k => sandbox_Print.l1 k 65535 tokS (-1) 16384 (s : Int)) ((⟨#[]⟩ : ByteArray), 1) := by
  induction d with
  | zero =>
    intro s hs
    refine Ev.step (f := fun _ => some ((⟨#[]⟩ : ByteArray), 1)) (fun k => ?_) (Ev.now _)
    rw [sandbox_Print.l1, if_neg (by omega), if_pos (by omega)]
  | succ d ih =>
    intro s hs
    have hw : wrap64 ((s : Int) + 1) = ((s + 1 : Nat) : Int) := by unfold wrap64; omega
    refine Ev.step (fun k => ?_) (none_l2 (s : Int) (s : Int) _ (by rw [hw]; exact ih (s + 1) (by omega)) 14 0 0 (by omega) (by omega))
    rw [sandbox_Print.l1, if_pos (by omega)]
    rfl
theorem none_l0 (k : Nat) : sandbox_Print.l0 (k + 15) 65535 [] tokS 0 = sandbox_Print.l1 k 65535 tokS (-1) 16384 0 := by kernel_rfl
theorem print_none : Ev (fun k => sandbox_Print.f k 0) ((⟨#[]⟩ : ByteArray), 1) := by
  obtain ⟨K, hK⟩ := none_l1 16384 0 (by omega)
  refine ⟨K + 15, fun k hk => ?_⟩
  obtain ⟨j, rfl⟩ : ∃ j, k = j + 15 := ⟨k - 15, by omega⟩
  have h1 : sandbox_Check.f 0 = some 0 := by decide +kernel
  have h2 : Go.bits .andNot .u32 65535 0 = 65535 := by decide +kernel
  show sandbox_Print.f (j + 15) 0 = _
  rw [sandbox_Print.f, h1, Option.bind_some, if_pos rfl, h2, none_l0]
  exact hK j (by omega)
theorem print_scripts : Ev (fun k => sandbox_Print.f k 64767) ((⟨#[97, 108, 108, 111, 119, 45, 115, 99, 114, 105, 112, 116, 115]⟩ : ByteArray), 0) :=
  Ev.of (sandbox_Print.mono 64767) (k := 60) (by decide +kernel)
theorem compS_one (x : ByteArray) : compS (sortS [x]) = [x] := by
  have h : sortS [x] = [x] := by
    unfold sortS strsL
    simp only [List.map_cons, List.map_nil, List.mergeSort_singleton]
    simp [strsB]
  rw [h]
  unfold compS strsL
  simp only [List.map_cons, List.map_nil]
  have : Lib.compact [x.data.toList] = [x.data.toList] := rfl
  rw [this]
  simp [strsB]
theorem parse_example : sandbox_Parse.f 80 (⟨#[65, 108, 108, 111, 119, 45, 83, 99, 114, 105, 112, 116, 115, 32, 120]⟩ : ByteArray) = some (64767, compS (sortS [⟨#[120]⟩])) := by kernel_rfl
theorem sand_alive : Ev (fun k => pergolalaw17_alive.f k) true := by
  have p1 : Ev (fun k => sandbox_Parse.f k (⟨#[65, 108, 108, 111, 119, 45, 83, 99, 114, 105, 112, 116, 115, 32, 120]⟩ : ByteArray)) (64767, [⟨#[120]⟩]) := by
    have := parse_example
    rw [compS_one] at this
    exact Ev.of (sandbox_Parse.mono _) this
  refine Ev.bind p1 (Ev.bind print_scripts (Ev.bind print_none (Ev.congr (f := fun _ => some true) (fun k => ?_) (Ev.now _))))
  decide +kernel
end Go.Proofs.YtlaiggkgflbjhaaDoor.Pure
