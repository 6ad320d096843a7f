/- Layer 10's reader (fields): key, comma, by hand, over what bare.ReadKey does. -/
import Derived.Test.YtclkclcacnpmbaaDoorXWFe
import Derived.Test.YtclkclcacnpmbaaDoorShelf
namespace Go.Proofs.YtclkclcacnpmbaaDoorW.PrintWords
open Go.RowKit

theorem clone_calls (s : ByteArray) (w : World) (hlim : s.size ≤ 281474976710656) :
  Calls Tryd.prog 73 #[.string s] w fun x w' => x = .returned (.string s) ∧ Below w.heap.size w w' := by
 go_enter Tryd.func73, Tryd.ntmps73
 go_wp2_with (go_at_call 78; refine (Tryd.stringslite_Clone s _ hlim).mono ?_; rintro x w1 ⟨rfl, hb⟩)
 go_ret
 exact ⟨rfl, hb⟩
def fdKey (KR : ByteArray → Int → Option (ByteArray × Int × Int)) (s : ByteArray) (a : Int) : Option (FR ByteArray) := (KR s a).bind fun A => some (if A.2.2 = 0 then .inr (A.1, A.2.1) else .inl (A.2.2, A.2.1))
def GivesK (x : Ending) (w w' : World) (g : Nat) (s : ByteArray) : FR ByteArray → Prop
 | .inl f => x = .panicked (wrongF f.1 f.2) ∧ Went w w' g
 | .inr (b, a) => x = .returned (.string b) ∧ FdAt w' g s a ∧ Went w w' g
set_option linter.unusedVariables false
set_option maxHeartbeats 4000000 in
set_option maxRecDepth 100000 in
theorem fkey_calls (w0 : World) (KR : ByteArray → Int → Option (ByteArray × Int × Int))
  (HK : ∀ (s : ByteArray) (a : Int) (A : ByteArray × Int × Int) (w' : World), Below w0.heap.size w0 w' → KR s a = some A → A.1.size ≤ s.size ∧ Calls Tryd.prog 72 #[.string s, .int .i64 a] w' fun x w'' => x = .returned (.tuple #[.string A.1, .int .i64 A.2.1, .int .i64 A.2.2]) ∧ Below w'.heap.size w' w'')
  (g : Nat) (s : ByteArray) (a : Int) (w : World) (hr : FdAt w g s a) (hw : Below w0.heap.size w0 w) (hs : s.size ≤ 281474976710656) (R : FR ByteArray) (hR : fdKey KR s a = some R) :
  Calls Tryd.prog 67 #[.pointer (some ⟨g, 0, none⟩)] w fun x w' => GivesK x w w' g s R := by
 unfold fdKey at hR
 obtain ⟨⟨k, tq, e⟩, hA, hR⟩ := Option.bind_eq_some_iff.mp hR
 have hk : k.size ≤ 281474976710656 := Nat.le_trans (HK s a _ w hw hA).1 hs
 have HC : Aside0 (Calls Tryd.prog 72 #[.string s, .int .i64 a] w.drew fun x w'' => x = .returned (.tuple #[.string k, .int .i64 tq, .int .i64 e]) ∧ Below w.heap.size w.drew w'') := ⟨(HK s a _ w.drew (drew_below hw) hA).2⟩
 have HR0 := Aside0.mk hr
 have W0 := Aside0.mk (Went.refl w g)
 have q0 := hr.c0
 have q1 := hr.c1
 simp only at hR
 have hR' := Option.some.inj hR
 clear hR hA HK hw hr
 have HE := Aside0.mk hR'
 clear hR'
 go_enter Tryd.func67, Tryd.ntmps67
 go_wp2
 go_region_held3 (fun w' => w'.cell? ⟨g, 0, none⟩ = some (.string s) ∧ w'.cell? ⟨g, 1, none⟩ = some (.int .i64 a)) (first | exact ⟨q0, q1⟩ | exact ⟨HR2.out.c0, HR2.out.c1⟩) (first | (go_at_call 72; refine HC.out.mono ?_; rintro e w2 ⟨rfl, hb2⟩; have HR2 := Aside0.mk (HR0.out.drew.more hb2); have W2 := Aside0.mk (W0.out.drew.more hb2); clear hb2 HC))
 have hq1 := HR2.out.c1
 have hqf := HR2.out.f1
 by_cases he : e = 0
 ·have hR' := HE.out
  rw [if_pos he] at hR'
  subst hR'
  subst he
  go_upto_region 5 with (fail)
  have HF5 := Aside0.mk (HR2.out.set tq)
  have WF5 := Aside0.mk (W2.out.set 1 (.int .i64 tq))
  clear hq1 hqf HR2 W2
  generalize w2.setCell ⟨g, 1, none⟩ (.int .i64 tq) = w5 at *
  go_wp2_with (go_at_call 73; refine (clone_calls k _ hk).mono ?_; rintro x w6 ⟨rfl, hb6⟩)
  go_ret
  exact ⟨rfl, HF5.out.more hb6, WF5.out.more hb6⟩
 ·have hR' := HE.out
  rw [if_neg he] at hR'
  subst hR'
  have heb : (e != 0) = true := by simp [he]
  go_wp2_with (first | (go_at_call 32; refine (fail_calls _ _ _ _).mono ?_; rintro x w6 ⟨rfl, rfl⟩))
  exact ⟨rfl, rfl, W2.out⟩
end Go.Proofs.YtclkclcacnpmbaaDoorW.PrintWords
