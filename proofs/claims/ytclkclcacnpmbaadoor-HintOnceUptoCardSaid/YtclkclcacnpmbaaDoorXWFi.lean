/- Layer 10's reader (fields): params, by hand. -/
import Derived.Test.YtclkclcacnpmbaaDoorXWFh
namespace Go.Proofs.YtclkclcacnpmbaaDoorW.PrintWords
open Go.RowKit

structure FdHyp (w0 : World) (BR : ByteArray → Int → Option (BareT × Int × Int)) (KR : ByteArray → Int → Option (ByteArray × Int × Int)) (IX : ByteArray → Int → Int) : Prop where
 hB : ∀ (s : ByteArray) (a : Int) (A : BareT × Int × Int) (w' : World), Below w0.heap.size w0 w' → BR s a = some A → Calls Tryd.prog 74 #[.string s, .int .i64 a] w' fun x w'' => x = .returned (.tuple #[bareV A.1, .int .i64 A.2.1, .int .i64 A.2.2]) ∧ Below w'.heap.size w' w''
 hK : ∀ (s : ByteArray) (a : Int) (A : ByteArray × Int × Int) (w' : World), Below w0.heap.size w0 w' → KR s a = some A → A.1.size ≤ s.size ∧ Calls Tryd.prog 72 #[.string s, .int .i64 a] w' fun x w'' => x = .returned (.tuple #[.string A.1, .int .i64 A.2.1, .int .i64 A.2.2]) ∧ Below w'.heap.size w' w''
 pB : ∀ (s : ByteArray) (a : Int) (A : BareT × Int × Int), 0 ≤ a → a ≤ (s.size : Int) → BR s a = some A → A.2.2 = 0 → a ≤ A.2.1 ∧ A.2.1 ≤ (s.size : Int)
 pK : ∀ (s : ByteArray) (a : Int) (A : ByteArray × Int × Int), 0 ≤ a → a ≤ (s.size : Int) → KR s a = some A → A.2.2 = 0 → a ≤ A.2.1 ∧ A.2.1 ≤ (s.size : Int)
 hI : ∀ (a : ByteArray) (c : Int) (w : World), 0 ≤ c → c < 256 → Calls Tryd.prog 66 #[.string a, .int .u8 c] w fun x w' => x = .returned (.int .i64 (IX a c)) ∧ Drawn0 w w'
section
variable {w0 : World} {BR : ByteArray → Int → Option (BareT × Int × Int)} {KR : ByteArray → Int → Option (ByteArray × Int × Int)} {IX : ByteArray → Int → Int}
theorem FdHyp.key_in (H : FdHyp w0 BR KR IX) {s : ByteArray} {a c : Int} {k : ByteArray} (h0 : 0 ≤ a) (h1 : a ≤ (s.size : Int)) (h : fdKey KR s a = some (.inr (k, c))) : a ≤ c ∧ c ≤ (s.size : Int) := by
 unfold fdKey at h
 obtain ⟨A, hA, h⟩ := Option.bind_eq_some_iff.mp h
 have h := Option.some.inj h
 split at h
 ·rename_i he
  have := H.pK s a A h0 h1 hA he
  injection h with h
  injection h with _ h
  omega
 ·cases h
theorem FdHyp.bare_in (H : FdHyp w0 BR KR IX) {s : ByteArray} {a c : Int} {b : BareT} (h0 : 0 ≤ a) (h1 : a ≤ (s.size : Int)) (h : fdBare BR s a = some (.inr (b, c))) : a ≤ c ∧ c ≤ (s.size : Int) := by
 unfold fdBare at h
 obtain ⟨A, hA, h⟩ := Option.bind_eq_some_iff.mp h
 have h := Option.some.inj h
 split at h
 ·rename_i he
  have := H.pB s a A h0 h1 hA he
  injection h with h
  injection h with _ h
  omega
 ·cases h
end
def putOne (p q : ParT) : ParT := if q.1 = p.1 then (q.1, p.2) else q
def hasPar (ps : List ParT) (k : ByteArray) : Bool := ps.any fun q => decide (q.1 = k)
def fdParam (BR : ByteArray → Int → Option (BareT × Int × Int)) (KR : ByteArray → Int → Option (ByteArray × Int × Int)) (IX : ByteArray → Int → Int) (s : ByteArray) (a : Int) : Option (FR ParT) :=
 (fdKey KR s (tokE (inSet IX ⟨#[32]⟩) s (a + 1))).bind fun K => match K with
  | .inl f => some (.inl f)
  | .inr (k, c) => if isB s c 61 = true then (fdBare BR s (c + 1)).bind fun B => match B with
    | .inl f => some (.inl f)
    | .inr (b, d) => some (.inr ((k, b), d))
   else some (.inr ((k, (6, 1, ⟨#[]⟩)), c))
def fdParams (BR : ByteArray → Int → Option (BareT × Int × Int)) (KR : ByteArray → Int → Option (ByteArray × Int × Int)) (IX : ByteArray → Int → Int) (s : ByteArray) : Nat → Int → List ParT → Option (FR (List ParT))
 | 0, _, _ => none
 | n + 1, a, ps => if isB s a 59 = false then some (.inr (ps, a)) else (fdParam BR KR IX s a).bind fun P => match P with
   | .inl f => some (.inl f)
   | .inr (p, b) => if hasPar ps p.1 = true then fdParams BR KR IX s n b (ps.map (putOne p)) else if ps.length = 256 then some (.inl (3, a)) else fdParams BR KR IX s n b (ps ++ [p])
def GivesP (x : Ending) (w w' : World) (g : Nat) (s : ByteArray) : FR (List ParT) → Prop
 | .inl f => x = .panicked (wrongF f.1 f.2) ∧ Went w w' g
 | .inr (ps, a) => ∃ v, x = .returned v ∧ Pars w' w.heap.size v ps ∧ FdAt w' g s a ∧ Went w w' g
def putTo (p : ParT) (ps : List ParT) (i : Nat) : List ParT := (ps.take i).map (putOne p) ++ ps.drop i
theorem putTo_length (p : ParT) (ps : List ParT) (i : Nat) : (putTo p ps i).length = ps.length := by
 unfold putTo
 rw [List.length_append, List.length_map, List.length_take, List.length_drop]
 omega
theorem putTo_get (p : ParT) (ps : List ParT) (i : Nat) (h : i < ps.length) : (putTo p ps i)[i]'(by rw [putTo_length]; exact h) = ps[i] := by
 unfold putTo
 rw [List.getElem_append_right (by rw [List.length_map, List.length_take]; omega)]
 rw [List.getElem_drop]
 congr 1
 rw [List.length_map, List.length_take]
 omega
theorem putTo_more (p : ParT) (ps : List ParT) (i : Nat) (h : i < ps.length) : putTo p ps (i + 1) = (putTo p ps i).set i (putOne p ps[i]) := by
 unfold putTo
 have hl : ((ps.take i).map (putOne p)).length = i := by rw [List.length_map, List.length_take]; omega
 rw [List.set_append_right _ _ (by omega), hl, Nat.sub_self, List.drop_eq_getElem_cons h, List.set_cons_zero, List.take_succ_eq_append_getElem h, List.map_append, List.append_assoc]
 rfl
theorem putTo_all (p : ParT) (ps : List ParT) : putTo p ps ps.length = ps.map (putOne p) := by
 unfold putTo
 rw [List.take_length, List.drop_length, List.append_nil]
theorem hasPar_more (ps : List ParT) (k : ByteArray) (i : Nat) (h : i < ps.length) : hasPar (ps.take (i + 1)) k = (hasPar (ps.take i) k || decide (ps[i].1 = k)) := by
 unfold hasPar
 rw [List.take_succ_eq_append_getElem h, List.any_append]
 simp
theorem put_none (p : ParT) : ∀ ps : List ParT, hasPar ps p.1 = false → ps.map (putOne p) = ps
 | [], _ => rfl
 | q :: ps, h => by
  unfold hasPar at h
  rw [List.any_cons, Bool.or_eq_false_iff] at h
  rw [List.map_cons, put_none p ps h.2]
  unfold putOne
  rw [if_neg (by simpa using h.1)]
end Go.Proofs.YtclkclcacnpmbaaDoorW.PrintWords
