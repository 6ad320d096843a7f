/- OctetsDigits for bytes and texts of up to 1048576: the program's digits are the document's. -/
import Derived.Test.YtknmcpccljmfdaaPRefHex
import Derived.Test.YtknmcpccljmfdaaPRefB64
import Derived.Test.YtknmcpccljmfdaaX11
namespace Go.Proofs.Ytknmcpccljmfdaa.Pure
open Go.RowKit Go.Proofs.Ytknmcpccljmfdaa.X Go.Proofs.YtknmcpccljmfdaaW.PrintWords Go.Proofs.YtknmcpccljmfdaaW.PrintLast Go.Proofs.YtknmcpccljmfdaaW.PrintMore

theorem digits_alive : Ev (fun k => pergolalaw01_alive.f k) true := Ev.of pergolalaw01_alive.mono (k := 200) (by decide +kernel)
theorem digits_pos {α : Type} {c : Prop} [Decidable c] (h : c) {f g : Nat → Option α} {r : α} (hf : Ev f r) : Ev (fun k => if c then f k else g k) r := Ev.congr (fun _ => if_pos h) hf
theorem digits_same (l : List Int) (hn : l.length ≤ 140737488355328) : Ev (fun k => pergolaplain_SameBytes.f k l l) true :=
  Ev.of (pergolaplain_SameBytes.mono l l) (pergolaplain_Given_Intact.same l hn)
theorem unRef_len (l : List Int) (p : Option Nat) : (unRef l p).1.length ≤ l.length := by
  have h : ∀ n (l : List Int), l.length ≤ n → (prs l).length ≤ l.length := by
    intro n
    induction n with
    | zero => intro l hl; obtain rfl := List.eq_nil_of_length_eq_zero (Nat.le_zero.1 hl); simp [prs]
    | succ n ih =>
      intro l hl
      match l, hl with
      | [], _ => simp [prs]
      | [_], _ => simp [prs]
      | a :: b :: t, hl => have := ih t (by simp at hl; omega); simp [prs]; omega
  unfold unRef
  cases p with
  | some i => simp
  | none =>
    simp only
    split
    · simp
    · exact h _ l (Nat.le_refl _)
theorem un64_len : ∀ (t : List Int) (r : Int) (h : Nat) (out : List Int), (un64 t r h out).1.length ≤ out.length + t.length := by
  intro t
  induction t with
  | nil => intro r h out; simp [un64]
  | cons v t ih =>
    intro r h out
    have h1 := ih (unStep h r v).2.1 (unStep h r v).2.2 (out ++ (unStep h r v).1)
    have h2 := unStep_len h r v
    rw [List.length_append] at h1
    simp only [un64, List.length_cons]
    omega
theorem ub_len (cs : List Int) : (ub cs).1.length ≤ cs.length := by
  rw [ub_rest]
  unfold ubRest
  generalize scan cs.length cs 0 cs.length = S
  obtain ⟨n, o⟩ := S
  cases o with
  | some i => simp
  | none =>
    simp only
    split
    · simp
    · unfold ubEnd
      split
      · have := un64_len ((cs.take n).map v64) 0 0 []
        rw [List.length_map, List.length_take] at this
        simp only [List.length_nil] at this
        show (un64 ((cs.take n).map v64) 0 0 []).1.length ≤ cs.length
        have h2 := Nat.min_le_right n cs.length
        omega
      · simp
theorem OctetsDigitsU : pergolalaw01_OctetsDigits.PureU := by
  intro l s _ hl hw hs
  have hb := bytes_of_wf hw
  have hlen := bytesOf_length s
  refine Ev.rounds ?_
  have e1 := unhex_f s (by omega)
  have e2 := runhex_f s (by omega)
  have e3 := unbase64_f s (by omega)
  have e4 := runb_f s (by omega)
  have e5 := hex_f l hb (by omega)
  have e6 := rhex_f l hb (by omega)
  have e7 := base64_f l hb (by omega)
  have e8 := rb64_f l hb (by omega)
  have l1 : (unGo (bytesOf s) 0 []).1.length ≤ 140737488355328 := by
    rw [unGo_unRef _ (Bytes.of s)]
    have := unRef_len (bytesOf s) (bad (bytesOf s) 0)
    omega
  have l2 : (ub (bytesOf s)).1.length ≤ 140737488355328 := by
    have := ub_len (bytesOf s)
    omega
  generalize unGo (bytesOf s) 0 [] = U at *
  generalize ub (bytesOf s) = V at *
  generalize strOfNums (hexL l) = X at *
  generalize strOfNums (b64L l) = Y at *
  have sU := digits_same U.1 l1
  have sV := digits_same V.1 l2
  refine Ev.congr (fun k => if_pos (show l.length ≤ 140737488351232 by omega)) ?_
  refine Ev.congr (fun k => Option.bind_some _ _) ?_
  refine Ev.bind e1 (Ev.bind e2 (Ev.bind e3 (Ev.bind e4 (Ev.bind e5 (Ev.bind e6 ?_)))))
  refine digits_pos rfl (Ev.bind e7 (Ev.bind e8 (digits_pos rfl (Ev.bind sU (digits_pos rfl ?_)))))
  refine Ev.congr (f := fun k => if U.2.1 = U.2.1 then (if U.2.2 = U.2.2 then ((pergolaplain_SameBytes.f k V.1 V.1).bind fun t263 => (if t263 = true then ((pergolalaw01_num.f V.2.1).bind fun t264 => (if t264 = V.2.1 then (if V.2.2 = V.2.2 then ((pergolalaw01_alive.f k).bind fun t265 => (some t265)) else (some false)) else (some false))) else (some false))) else (some false)) else (some false)) (fun k => rfl) ?_
  refine digits_pos rfl (digits_pos rfl (Ev.bind sV (digits_pos rfl ?_)))
  refine Ev.congr (f := fun k => if V.2.1 = V.2.1 then (if V.2.2 = V.2.2 then ((pergolalaw01_alive.f k).bind fun t265 => (some t265)) else (some false)) else (some false)) (fun k => rfl) ?_
  exact digits_pos rfl (digits_pos rfl (Ev.bind digits_alive (Ev.now _)))
end Go.Proofs.Ytknmcpccljmfdaa.Pure
