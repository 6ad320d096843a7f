-- Written by wip/xprint.py for this seat
import Derived.Test.YtlaiggkgflbjhaaDoorX0
namespace Go.Proofs.YtlaiggkgflbjhaaDoor.X
open Go.RowKit Go.Proofs.YtlaiggkgflbjhaaDoorW.PrintWords Go.Proofs.YtlaiggkgflbjhaaDoorW.PrintLast Go.Proofs.YtlaiggkgflbjhaaDoorW.PrintMore
attribute [local go_sem] max2_int min2_int max_two min_two max_three min_three max_four min_four   -- for this text's walks alone
set_option linter.unusedVariables false
set_option linter.unusedSimpArgs false

/-! ### sandbox_Check: function 25 -/
def sandbox_Check.f (a0 : Int) : Option (Int) := if (Go.bits .andNot .u32 a0 65535) = 0 then (some 0) else (some 171)
set_option maxHeartbeats 8000000 in
set_option maxRecDepth 100000 in
theorem sandbox_Check.calls (a0 : Int) (r : Int) (w : World) (h : sandbox_Check.f a0 = some r) :
    Calls Tryd.prog 25 #[.int .u32 a0] w fun e w' => e = .returned (.int .i64 r) ∧ Drawn0 w w' := by
  have H : (if (Go.bits .andNot .u32 a0 65535) = 0 then (some 0) else (some 171)) = some r := h
  clear h
  by_cases c2 : (Go.bits .andNot .u32 a0 65535) = 0
  · rw [if_pos c2] at H
    have c2b0 : ((Go.bits .andNot .u32 a0 65535) == 0) = true := beq_iff_eq.mpr c2
    have c2b1 : ((Go.bits .andNot .u32 a0 65535) != 0) = false := bne_eq_false_iff_eq.mpr c2
    clear c2
    obtain rfl := Option.some.inj H
    go_enter Tryd.func25, Tryd.ntmps25
    go_wp2
    go_ret
    exact ⟨by first | rfl | (simp; done) | (simp [*]; done), by repeat (first | exact Drawn0.refl _ | apply Drawn0.step)⟩
  · rw [if_neg c2] at H
    have c2b0 : ((Go.bits .andNot .u32 a0 65535) == 0) = false := beq_eq_false_iff_ne.mpr c2
    have c2b1 : ((Go.bits .andNot .u32 a0 65535) != 0) = true := bne_iff_ne.mpr c2
    obtain rfl := Option.some.inj H
    go_enter Tryd.func25, Tryd.ntmps25
    go_wp2
    go_ret
    exact ⟨by first | rfl | (simp; done) | (simp [*]; done), by repeat (first | exact Drawn0.refl _ | apply Drawn0.step)⟩

end Go.Proofs.YtlaiggkgflbjhaaDoor.X
