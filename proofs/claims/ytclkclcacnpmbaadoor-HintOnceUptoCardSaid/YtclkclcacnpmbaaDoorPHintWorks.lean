/- The page's examples of layer 20. -/
import Derived.Test.YtclkclcacnpmbaaDoorX3
import Derived.Test.YtclkclcacnpmbaaDoorPIntSort
namespace Go.Proofs.YtclkclcacnpmbaaDoor.Pure
open Go.RowKit Go.Proofs.YtclkclcacnpmbaaDoor.X Go.Proofs.YtclkclcacnpmbaaDoorW.PrintWords Go.Proofs.YtclkclcacnpmbaaDoorW.PrintLast Go.Proofs.YtclkclcacnpmbaaDoorW.PrintMore

theorem canonI_90 : compI (sortI [9, 0]) = [0, 9] := by
 refine riseI_ext (canonI_rise [9, 0]) (by simp) (fun x => ?_)
 show x ∈ canonI [9, 0] ↔ _
 rw [mem_canonI]
 simp
 omega
set_option maxRecDepth 100000 in
theorem parse_ok : hint_Parse.f 60 (⟨#[115, 101, 99, 45, 99, 104, 45, 100, 112, 114, 44, 32, 120, 44, 32, 83, 101, 99, 45, 67, 72, 45, 85, 65]⟩ : ByteArray) = some (compI (sortI [9, 0]), 0, 24) := by kernel_rfl
set_option maxRecDepth 100000 in
theorem parse_bad : hint_Parse.f 60 (⟨#[83, 101, 99, 45, 67, 72, 45, 85, 65, 44]⟩ : ByteArray) = some ([], 102, 10) := by kernel_rfl
theorem works_ev : Ev (fun k => pergolalaw20_works.f k) true := by
 have p1 := Ev.of (hint_Parse.mono _) parse_ok
 rw [canonI_90] at p1
 refine Ev.bind p1 (Ev.bind (Ev.of (hint_Parse.mono _) parse_bad) (Ev.congr (f := fun _ => some true) (fun k => ?_) (Ev.now _)))
 decide +kernel
end Go.Proofs.YtclkclcacnpmbaaDoor.Pure
