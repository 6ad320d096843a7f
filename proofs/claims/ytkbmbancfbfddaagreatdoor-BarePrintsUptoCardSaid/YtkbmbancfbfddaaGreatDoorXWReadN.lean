/- bare.Read at a number and at a truth value alone: what the page's examples ask. -/
import Derived.Test.YtkbmbancfbfddaaGreatDoorXWRead
namespace Go.Proofs.YtkbmbancfbfddaaGreatDoorW.PrintWords
open Go.RowKit
def rdReadN (s : ByteArray) (at_ : Int) : Option ((Int × Int × ByteArray) × Int × Int) :=
 if 0 ≤ at_ ∧ at_ < (s.size : Int) ∧ s.size ≤ 140737488355327 then (if dig (bt s at_) = true ∨ bt s at_ = 45 then some (rdAns (rdNumber s at_)) else if bt s at_ = 63 then some (rdAns (rdBool s at_)) else none) else none
theorem readN_calls (Lt : Int → Bool) (HL : ∀ (c : Int) (w : World), 0 ≤ c → c < 256 → Calls Tryz.prog 38 #[.int .u8 c] w fun x w' => x = .returned (.bool (Lt c)) ∧ Drawn0 w w') (h63l : Lt 63 = false)
  (s : ByteArray) (at_ : Int) (w : World) (A : (Int × Int × ByteArray) × Int × Int) (hA : rdReadN s at_ = some A) :
  Calls Tryz.prog 12 #[.string s, .int .i64 at_] w fun x w' => x = .returned (.tuple #[bareV A.1, .int .i64 A.2.1, .int .i64 A.2.2]) ∧ Below w.heap.size w w' := by
 unfold rdReadN at hA
 split at hA
 rotate_left
 ·cases hA
 rename_i hh
 obtain ⟨h0, hl, hs⟩ := hh
 by_cases hd : dig (bt s at_) = true
 ·rw [if_pos (.inl hd)] at hA
  obtain rfl := Option.some.inj hA
  exact read_leaf Lt HL s at_ _ w h0 hl rfl _ _ (.inl ⟨hd, rfl⟩) ⟨fun g w1 hg hb hr => number_calls g s at_ w1 hr h0 hl (by omega)⟩
 have hd' : dig (bt s at_) = false := by simpa using hd
 by_cases h45 : bt s at_ = 45
 ·rw [if_pos (.inr h45)] at hA
  obtain rfl := Option.some.inj hA
  exact read_leaf Lt HL s at_ _ w h0 hl rfl _ _ (.inr (.inl ⟨hd', (by simp [h45]), rfl⟩)) ⟨fun g w1 hg hb hr => number_calls g s at_ w1 hr h0 hl (by omega)⟩
 rw [if_neg fun h => h.elim hd h45] at hA
 by_cases h63 : bt s at_ = 63
 ·rw [if_pos h63] at hA
  obtain rfl := Option.some.inj hA
  exact read_leaf Lt HL s at_ _ w h0 hl rfl _ _ (.inr (.inr (.inr (.inr (.inr (.inl ⟨hd', (by simp [h63]), (by simp [h63]), (by rw [h63]; exact h63l), (by simp [h63]), (by simp [h63]), rfl⟩)))))) ⟨fun g w1 hg hb hr => boolean_calls g s at_ w1 hr h0 hl (by omega)⟩
 ·rw [if_neg h63] at hA
  cases hA
end Go.Proofs.YtkbmbancfbfddaaGreatDoorW.PrintWords
