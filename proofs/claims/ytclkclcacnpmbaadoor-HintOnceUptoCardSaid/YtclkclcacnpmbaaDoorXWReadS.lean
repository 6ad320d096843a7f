/- bare.Read at a number, a token and a truth value alone: what the page's examples ask. -/
import Derived.Test.YtclkclcacnpmbaaDoorXWRead
namespace Go.Proofs.YtclkclcacnpmbaaDoorW.PrintWords
open Go.RowKit
def rdReadS (T Lt : Int → Bool) (s : ByteArray) (at_ : Int) : Option ((Int × Int × ByteArray) × Int × Int) :=
 if 0 ≤ at_ ∧ at_ < (s.size : Int) ∧ s.size ≤ 140737488355327 then (if dig (bt s at_) = true then some (rdAns (rdNumber s at_)) else if Lt (bt s at_) = true ∧ bt s at_ ≠ 45 ∧ bt s at_ ≠ 34 then some (rdAns (rdToken T s at_)) else if bt s at_ = 63 ∧ Lt 63 = false then some (rdAns (rdBool s at_)) else none) else none
theorem readS_calls (T Lt : Int → Bool) (HT : ∀ (c : Int) (w : World), 0 ≤ c → c < 256 → Calls Tryd.prog 93 #[.int .u8 c] w fun x w' => x = .returned (.bool (T c)) ∧ Drawn0 w w')
  (HL : ∀ (c : Int) (w : World), 0 ≤ c → c < 256 → Calls Tryd.prog 83 #[.int .u8 c] w fun x w' => x = .returned (.bool (Lt c)) ∧ Drawn0 w w')
  (s : ByteArray) (at_ : Int) (w : World) (A : (Int × Int × ByteArray) × Int × Int) (hA : rdReadS T Lt s at_ = some A) :
  Calls Tryd.prog 74 #[.string s, .int .i64 at_] w fun x w' => x = .returned (.tuple #[bareV A.1, .int .i64 A.2.1, .int .i64 A.2.2]) ∧ Below w.heap.size w w' := by
 unfold rdReadS at hA
 split at hA
 rotate_left
 ·cases hA
 rename_i hh
 obtain ⟨h0, hl, hs⟩ := hh
 by_cases hd : dig (bt s at_) = true
 ·rw [if_pos hd] at hA
  obtain rfl := Option.some.inj hA
  exact read_leaf Lt HL s at_ _ w h0 hl rfl _ _ (.inl ⟨hd, rfl⟩) ⟨fun g w1 hg hb hr => number_calls g s at_ w1 hr h0 hl (by omega)⟩
 rw [if_neg hd] at hA
 have hd' : dig (bt s at_) = false := by simpa using hd
 by_cases hlt : Lt (bt s at_) = true ∧ bt s at_ ≠ 45 ∧ bt s at_ ≠ 34
 ·rw [if_pos hlt] at hA
  obtain rfl := Option.some.inj hA
  exact read_leaf Lt HL s at_ _ w h0 hl rfl _ _ (.inr (.inr (.inr (.inl ⟨hd', by simpa using hlt.2.1, by simpa using hlt.2.2, hlt.1, rfl⟩)))) ⟨fun g w1 hg hb hr => token_calls T HT g s at_ w1 hr h0 hl (by omega)⟩
 rw [if_neg hlt] at hA
 by_cases h63 : bt s at_ = 63 ∧ Lt 63 = false
 ·rw [if_pos h63] at hA
  obtain rfl := Option.some.inj hA
  exact read_leaf Lt HL s at_ _ w h0 hl rfl _ _ (.inr (.inr (.inr (.inr (.inr (.inl ⟨hd', (by simp [h63.1]), (by simp [h63.1]), (by rw [h63.1]; exact h63.2), (by simp [h63.1]), (by simp [h63.1]), rfl⟩)))))) ⟨fun g w1 hg hb hr => boolean_calls g s at_ w1 hr h0 hl (by omega)⟩
 ·rw [if_neg h63] at hA
  cases hA
end Go.Proofs.YtclkclcacnpmbaaDoorW.PrintWords
