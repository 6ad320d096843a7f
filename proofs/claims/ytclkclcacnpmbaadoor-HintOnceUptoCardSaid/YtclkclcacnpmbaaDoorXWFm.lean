/- Layer 10's reader (fields): inner, by hand. -/
import Derived.Test.YtclkclcacnpmbaaDoorXWFl
namespace Go.Proofs.YtclkclcacnpmbaaDoorW.PrintWords
open Go.RowKit

theorem Items.at_ {w : World} {base : Nat} {v : Value} {xs : List ItemT} (h : Items w base v xs) (k : Nat) (hk : v.ownBlock = some k) : base ≤ k ∧ k < w.heap.size := by
 obtain ⟨_, inner, ho, _⟩ := h
 exact ⟨own_base ho k hk, own_lt ho k hk⟩
def sliceLen : Value → Nat
 | .slice _ n _ => n
 | _ => 0
def fdInner (BR : ByteArray → Int → Option (BareT × Int × Int)) (KR : ByteArray → Int → Option (ByteArray × Int × Int)) (IX : ByteArray → Int → Int) (s : ByteArray) (m : Nat) : Nat → Int → List ItemT → Option (FR (List ItemT))
 | 0, _, _ => none
 | n + 1, a, xs =>
  if isB s (tokE (inSet IX ⟨#[32]⟩) s a) 41 = true then some (.inr (xs, tokE (inSet IX ⟨#[32]⟩) s a + 1))
  else if tokE (inSet IX ⟨#[32]⟩) s a = (s.size : Int) then some (.inl (99, tokE (inSet IX ⟨#[32]⟩) s a))
  else if xs.length = 256 then some (.inl (3, tokE (inSet IX ⟨#[32]⟩) s a))
  else (fdItem BR KR IX s m (tokE (inSet IX ⟨#[32]⟩) s a)).bind fun I => match I with
   | .inl f => some (.inl f)
   | .inr (i, c) => if c = (s.size : Int) then some (.inl (99, c)) else if isB s c 32 = false ∧ isB s c 41 = false then some (.inl (103, c)) else fdInner BR KR IX s m n c (xs ++ [i])
def GivesN (x : Ending) (w w' : World) (g : Nat) (s : ByteArray) : FR (List ItemT) → Prop
 | .inl f => x = .panicked (wrongF f.1 f.2) ∧ Went w w' g
 | .inr (xs, a) => ∃ v, x = .returned v ∧ Items w' w.heap.size v xs ∧ FdAt w' g s a ∧ Went w w' g
section
variable {w0 : World} {BR : ByteArray → Int → Option (BareT × Int × Int)} {KR : ByteArray → Int → Option (ByteArray × Int × Int)} {IX : ByteArray → Int → Int}
theorem FdHyp.params_in (H : FdHyp w0 BR KR IX) {s : ByteArray} : ∀ (n : Nat) (a d : Int) (ps qs : List ParT), 0 ≤ a → a ≤ (s.size : Int) → fdParams BR KR IX s n a ps = some (.inr (qs, d)) → a ≤ d ∧ d ≤ (s.size : Int)
 | 0, _, _, _, _, _, _, h => by simp [fdParams] at h
 | n + 1, a, d, ps, qs, h0, h1, h => by
  unfold fdParams at h
  split at h
  ·have h := Option.some.inj h
   injection h with h
   injection h with _ h
   omega
  ·rename_i hc
   have hlt := isB_lt (show isB s a 59 = true by simpa using hc)
   obtain ⟨P, hP, h⟩ := Option.bind_eq_some_iff.mp h
   rcases P with f | ⟨p, b⟩
   ·have h := Option.some.inj h
    cases h
   ·have hb : a ≤ b ∧ b ≤ (s.size : Int) := by
     unfold fdParam at hP
     obtain ⟨K, hK, hP⟩ := Option.bind_eq_some_iff.mp hP
     have hs := tokE_in (inSet IX ⟨#[32]⟩) s (a := a + 1) (by omega)
     rcases K with f | ⟨k, c⟩
     ·cases Option.some.inj hP
     ·have hk := H.key_in (by omega) hs.2 hK
      simp only at hP
      split at hP
      ·rename_i he
       have hlt2 := isB_lt he
       obtain ⟨V, hV, hP⟩ := Option.bind_eq_some_iff.mp hP
       rcases V with f | ⟨v, d2⟩
       ·cases Option.some.inj hP
       ·have hv := H.bare_in (by omega) (by omega) hV
        have hP := Option.some.inj hP
        injection hP with hP
        injection hP with _ hP
        omega
      ·have hP := Option.some.inj hP
       injection hP with hP
       injection hP with _ hP
       omega
    simp only at h
    split at h
    ·have := params_in H n b d _ qs (by omega) hb.2 h
     omega
    ·split at h
     ·cases Option.some.inj h
     ·have := params_in H n b d _ qs (by omega) hb.2 h
      omega
theorem FdHyp.item_in (H : FdHyp w0 BR KR IX) {s : ByteArray} {n : Nat} {a d : Int} {i : ItemT} (h0 : 0 ≤ a) (h1 : a ≤ (s.size : Int)) (h : fdItem BR KR IX s n a = some (.inr (i, d))) : a ≤ d ∧ d ≤ (s.size : Int) := by
 unfold fdItem at h
 obtain ⟨V, hV, h⟩ := Option.bind_eq_some_iff.mp h
 rcases V with f | ⟨v, c⟩
 ·cases Option.some.inj h
 ·have hv := H.bare_in h0 h1 hV
  obtain ⟨P, hP, h⟩ := Option.bind_eq_some_iff.mp h
  rcases P with f | ⟨ps, e⟩
  ·cases Option.some.inj h
  ·have hp := H.params_in n c e [] ps (by omega) hv.2 hP
   have h := Option.some.inj h
   injection h with h
   injection h with _ h
   omega
end
end Go.Proofs.YtclkclcacnpmbaaDoorW.PrintWords
