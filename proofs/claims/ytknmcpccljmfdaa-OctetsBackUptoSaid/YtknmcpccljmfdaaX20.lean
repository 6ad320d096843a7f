-- Written by wip/xprint.py for this seat
import Derived.Test.YtknmcpccljmfdaaX0
import Derived.Test.YtknmcpccljmfdaaX8
import Derived.Test.YtknmcpccljmfdaaX9
import Derived.Test.YtknmcpccljmfdaaX10
import Derived.Test.YtknmcpccljmfdaaX13
import Derived.Test.YtknmcpccljmfdaaX15
import Derived.Test.YtknmcpccljmfdaaX17
import Derived.Test.YtknmcpccljmfdaaX19
namespace Go.Proofs.Ytknmcpccljmfdaa.X
open Go.RowKit Go.Proofs.YtknmcpccljmfdaaW.PrintWords Go.Proofs.YtknmcpccljmfdaaW.PrintLast Go.Proofs.YtknmcpccljmfdaaW.PrintMore
attribute [local go_sem] max2_int min2_int max_two min_two max_three min_three max_four min_four   -- for this text's walks alone
set_option linter.unusedVariables false
set_option linter.unusedSimpArgs false

/-! ### pergolalaw01_OctetsBack: function 6 -/
mutual
def pergolalaw01_OctetsBack.j0 : Nat → ByteArray → Bool → Option (Bool)
  | 0, _, _ => none
  | k + 1, x1, x68 => if x68 = true then (some false) else ((octets_Unhex.f k x1).bind fun bt285 => ((pergolalaw01_num.f bt285.2.1).bind fun t290 => (if t290 = 0 then ((octets_Hex.f k bt285.1).bind fun t291 => ((octets_Lower.f x1).bind fun t292 => (pergolalaw01_OctetsBack.j1 k x1 (t291.toList != t292.toList)))) else (pergolalaw01_OctetsBack.j1 k x1 false))))
def pergolalaw01_OctetsBack.j1 : Nat → ByteArray → Bool → Option (Bool)
  | 0, _, _ => none
  | k + 1, x1, x84 => if x84 = true then (some false) else ((octets_Unbase64.f k x1).bind fun bt293 => (pergolalaw01_OctetsBack.l0 k bt293.1 bt293.2.1 x1))
def pergolalaw01_OctetsBack.l0 : Nat → List Int → Int → ByteArray → Option (Bool)
  | 0, _, _, _ => none
  | k + 1, x8, x9, x14 => if ((x14.size : Int) % 4) = 0 then ((pergolalaw01_num.f x9).bind fun t298 => (if t298 = 0 then ((octets_Base64.f k x8).bind fun t299 => (some (t299.toList == x14.toList))) else (some true))) else (if x14.size + 1 ≤ 9223372036854775807 then (pergolalaw01_OctetsBack.l0 k x8 x9 (x14 ++ (⟨#[61]⟩ : ByteArray))) else (none))
end
def pergolalaw01_OctetsBack.f (k : Nat) (l0 : List Int) (a1 : ByteArray) : Option (Bool) := (pergolalaw01_alive.f k).bind fun t260 => (if t260 = true then ((octets_Hex.f k l0).bind fun t261 => ((octets_Unhex.f k t261).bind fun bt262 => ((octets_Base64.f k l0).bind fun t267 => ((octets_Unbase64.f k t267).bind fun bt268 => ((octets_Chars.f k l0).bind fun t273 => ((octets_Bytes.f k t273).bind fun bt274 => ((pergolalaw01_num.f bt262.2.1).bind fun t279 => (if t279 = 0 then ((pergolalaw01_num.f bt268.2.1).bind fun t280 => (if t280 = 0 then ((pergolalaw01_num.f bt274.2.1).bind fun t281 => (if t281 = 0 then ((pergolaplain_SameBytes.f k bt262.1 l0).bind fun t282 => (if t282 = true then ((pergolaplain_SameBytes.f k bt268.1 l0).bind fun t283 => (if t283 = true then ((pergolaplain_SameBytes.f k bt274.1 l0).bind fun t284 => (pergolalaw01_OctetsBack.j0 k a1 (!t284))) else (pergolalaw01_OctetsBack.j0 k a1 true))) else (pergolalaw01_OctetsBack.j0 k a1 true))) else (pergolalaw01_OctetsBack.j0 k a1 true))) else (pergolalaw01_OctetsBack.j0 k a1 true))) else (pergolalaw01_OctetsBack.j0 k a1 true))))))))) else (some false))
theorem pergolalaw01_OctetsBack.mono_l : ∀ k, (∀ y0 y1, LeO (pergolalaw01_OctetsBack.j0 k y0 y1) (pergolalaw01_OctetsBack.j0 (k + 1) y0 y1)) ∧ (∀ y0 y1, LeO (pergolalaw01_OctetsBack.j1 k y0 y1) (pergolalaw01_OctetsBack.j1 (k + 1) y0 y1)) ∧ (∀ y0 y1 y2, LeO (pergolalaw01_OctetsBack.l0 k y0 y1 y2) (pergolalaw01_OctetsBack.l0 (k + 1) y0 y1 y2))
  | 0 => ⟨fun _ _ r h => by simp [pergolalaw01_OctetsBack.j0] at h, fun _ _ r h => by simp [pergolalaw01_OctetsBack.j1] at h, fun _ _ _ r h => by simp [pergolalaw01_OctetsBack.l0] at h⟩
  | k + 1 => by
    obtain ⟨ih0, ih1, ih2⟩ := pergolalaw01_OctetsBack.mono_l k
    refine ⟨?_, ?_, ?_⟩
    · intro y0 y1
      unfold pergolalaw01_OctetsBack.j0
      repeat' first
      | (with_reducible exact ih0 _ _)
      | (with_reducible exact ih1 _ _)
      | (with_reducible exact ih2 _ _ _)
      | (with_reducible exact octets_Base64.mono _ _)
      | (with_reducible exact octets_Bytes.mono _ _)
      | (with_reducible exact octets_Chars.mono _ _)
      | (with_reducible exact octets_Hex.mono _ _)
      | (with_reducible exact octets_Unbase64.mono _ _)
      | (with_reducible exact octets_Unhex.mono _ _)
      | (with_reducible exact pergolalaw01_alive.mono _)
      | (with_reducible exact pergolaplain_SameBytes.mono _ _ _)
      | (with_reducible exact LeO.refl _)
      | (with_reducible exact LeO.none _)
      | (with_reducible refine LeO.ite ?_ ?_)
      | (with_reducible refine LeO.bind ?_ (fun _ => ?_))
      | exact ih0 _ _
      | exact ih1 _ _
      | exact ih2 _ _ _
      | exact octets_Base64.mono _ _
      | exact octets_Bytes.mono _ _
      | exact octets_Chars.mono _ _
      | exact octets_Hex.mono _ _
      | exact octets_Unbase64.mono _ _
      | exact octets_Unhex.mono _ _
      | exact pergolalaw01_alive.mono _
      | exact pergolaplain_SameBytes.mono _ _ _
      | exact LeO.none _
      | refine LeO.ite ?_ ?_
      | refine LeO.bind ?_ (fun _ => ?_)
    · intro y0 y1
      unfold pergolalaw01_OctetsBack.j1
      repeat' first
      | (with_reducible exact ih0 _ _)
      | (with_reducible exact ih1 _ _)
      | (with_reducible exact ih2 _ _ _)
      | (with_reducible exact octets_Base64.mono _ _)
      | (with_reducible exact octets_Bytes.mono _ _)
      | (with_reducible exact octets_Chars.mono _ _)
      | (with_reducible exact octets_Hex.mono _ _)
      | (with_reducible exact octets_Unbase64.mono _ _)
      | (with_reducible exact octets_Unhex.mono _ _)
      | (with_reducible exact pergolalaw01_alive.mono _)
      | (with_reducible exact pergolaplain_SameBytes.mono _ _ _)
      | (with_reducible exact LeO.refl _)
      | (with_reducible exact LeO.none _)
      | (with_reducible refine LeO.ite ?_ ?_)
      | (with_reducible refine LeO.bind ?_ (fun _ => ?_))
      | exact ih0 _ _
      | exact ih1 _ _
      | exact ih2 _ _ _
      | exact octets_Base64.mono _ _
      | exact octets_Bytes.mono _ _
      | exact octets_Chars.mono _ _
      | exact octets_Hex.mono _ _
      | exact octets_Unbase64.mono _ _
      | exact octets_Unhex.mono _ _
      | exact pergolalaw01_alive.mono _
      | exact pergolaplain_SameBytes.mono _ _ _
      | exact LeO.none _
      | refine LeO.ite ?_ ?_
      | refine LeO.bind ?_ (fun _ => ?_)
    · intro y0 y1 y2
      unfold pergolalaw01_OctetsBack.l0
      repeat' first
      | (with_reducible exact ih0 _ _)
      | (with_reducible exact ih1 _ _)
      | (with_reducible exact ih2 _ _ _)
      | (with_reducible exact octets_Base64.mono _ _)
      | (with_reducible exact octets_Bytes.mono _ _)
      | (with_reducible exact octets_Chars.mono _ _)
      | (with_reducible exact octets_Hex.mono _ _)
      | (with_reducible exact octets_Unbase64.mono _ _)
      | (with_reducible exact octets_Unhex.mono _ _)
      | (with_reducible exact pergolalaw01_alive.mono _)
      | (with_reducible exact pergolaplain_SameBytes.mono _ _ _)
      | (with_reducible exact LeO.refl _)
      | (with_reducible exact LeO.none _)
      | (with_reducible refine LeO.ite ?_ ?_)
      | (with_reducible refine LeO.bind ?_ (fun _ => ?_))
      | exact ih0 _ _
      | exact ih1 _ _
      | exact ih2 _ _ _
      | exact octets_Base64.mono _ _
      | exact octets_Bytes.mono _ _
      | exact octets_Chars.mono _ _
      | exact octets_Hex.mono _ _
      | exact octets_Unbase64.mono _ _
      | exact octets_Unhex.mono _ _
      | exact pergolalaw01_alive.mono _
      | exact pergolaplain_SameBytes.mono _ _ _
      | exact LeO.none _
      | refine LeO.ite ?_ ?_
      | refine LeO.bind ?_ (fun _ => ?_)
theorem pergolalaw01_OctetsBack.mono : ∀ a0 a1 k, LeO (pergolalaw01_OctetsBack.f k a0 a1) (pergolalaw01_OctetsBack.f (k + 1) a0 a1) := by
  intro a0 a1 k
  obtain ⟨ih0, ih1, ih2⟩ := pergolalaw01_OctetsBack.mono_l k
  unfold pergolalaw01_OctetsBack.f
  repeat' first
      | (with_reducible exact ih0 _ _)
      | (with_reducible exact ih1 _ _)
      | (with_reducible exact ih2 _ _ _)
      | (with_reducible exact octets_Base64.mono _ _)
      | (with_reducible exact octets_Bytes.mono _ _)
      | (with_reducible exact octets_Chars.mono _ _)
      | (with_reducible exact octets_Hex.mono _ _)
      | (with_reducible exact octets_Unbase64.mono _ _)
      | (with_reducible exact octets_Unhex.mono _ _)
      | (with_reducible exact pergolalaw01_alive.mono _)
      | (with_reducible exact pergolaplain_SameBytes.mono _ _ _)
      | (with_reducible exact LeO.refl _)
      | (with_reducible exact LeO.none _)
      | (with_reducible refine LeO.ite ?_ ?_)
      | (with_reducible refine LeO.bind ?_ (fun _ => ?_))
      | exact ih0 _ _
      | exact ih1 _ _
      | exact ih2 _ _ _
      | exact octets_Base64.mono _ _
      | exact octets_Bytes.mono _ _
      | exact octets_Chars.mono _ _
      | exact octets_Hex.mono _ _
      | exact octets_Unbase64.mono _ _
      | exact octets_Unhex.mono _ _
      | exact pergolalaw01_alive.mono _
      | exact pergolaplain_SameBytes.mono _ _ _
      | exact LeO.none _
      | refine LeO.ite ?_ ?_
      | refine LeO.bind ?_ (fun _ => ?_)
set_option maxHeartbeats 8000000 in
set_option maxRecDepth 100000 in
theorem pergolalaw01_OctetsBack.calls (k : Nat) (A0 : Option Addr) (c0 : Nat) (l0 : List Int) (a1 : ByteArray) (r : Bool) (w : World) (hr0 : Kd.C (Kd.int .u8) w A0 l0.length l0) (hc0 : l0.length ≤ c0) (h : pergolalaw01_OctetsBack.f k l0 a1 = some r) :
    Calls Try.prog 6 #[.slice A0 l0.length c0, .string a1] w fun e w' => e = .returned (.bool r) ∧ Below w.heap.size w w' := by
  have HR0 := Aside0.mk hr0
  have HC0 := Aside0.mk hc0
  clear hr0 hc0
  have HB := Aside0.mk (Below.refl w.heap.size w)
  have H : ((pergolalaw01_alive.f k).bind fun t260 => (if t260 = true then ((octets_Hex.f k l0).bind fun t261 => ((octets_Unhex.f k t261).bind fun bt262 => ((octets_Base64.f k l0).bind fun t267 => ((octets_Unbase64.f k t267).bind fun bt268 => ((octets_Chars.f k l0).bind fun t273 => ((octets_Bytes.f k t273).bind fun bt274 => ((pergolalaw01_num.f bt262.2.1).bind fun t279 => (if t279 = 0 then ((pergolalaw01_num.f bt268.2.1).bind fun t280 => (if t280 = 0 then ((pergolalaw01_num.f bt274.2.1).bind fun t281 => (if t281 = 0 then ((pergolaplain_SameBytes.f k bt262.1 l0).bind fun t282 => (if t282 = true then ((pergolaplain_SameBytes.f k bt268.1 l0).bind fun t283 => (if t283 = true then ((pergolaplain_SameBytes.f k bt274.1 l0).bind fun t284 => (pergolalaw01_OctetsBack.j0 k a1 (!t284))) else (pergolalaw01_OctetsBack.j0 k a1 true))) else (pergolalaw01_OctetsBack.j0 k a1 true))) else (pergolalaw01_OctetsBack.j0 k a1 true))) else (pergolalaw01_OctetsBack.j0 k a1 true))) else (pergolalaw01_OctetsBack.j0 k a1 true))))))))) else (some false))) = some r := h
  clear h
  replace H := Option.bind_eq_some_iff.mp H
  obtain ⟨t260, A30, H⟩ := H
  replace H : (if t260 = true then ((octets_Hex.f k l0).bind fun t261 => ((octets_Unhex.f k t261).bind fun bt262 => ((octets_Base64.f k l0).bind fun t267 => ((octets_Unbase64.f k t267).bind fun bt268 => ((octets_Chars.f k l0).bind fun t273 => ((octets_Bytes.f k t273).bind fun bt274 => ((pergolalaw01_num.f bt262.2.1).bind fun t279 => (if t279 = 0 then ((pergolalaw01_num.f bt268.2.1).bind fun t280 => (if t280 = 0 then ((pergolalaw01_num.f bt274.2.1).bind fun t281 => (if t281 = 0 then ((pergolaplain_SameBytes.f k bt262.1 l0).bind fun t282 => (if t282 = true then ((pergolaplain_SameBytes.f k bt268.1 l0).bind fun t283 => (if t283 = true then ((pergolaplain_SameBytes.f k bt274.1 l0).bind fun t284 => (pergolalaw01_OctetsBack.j0 k a1 (!t284))) else (pergolalaw01_OctetsBack.j0 k a1 true))) else (pergolalaw01_OctetsBack.j0 k a1 true))) else (pergolalaw01_OctetsBack.j0 k a1 true))) else (pergolalaw01_OctetsBack.j0 k a1 true))) else (pergolalaw01_OctetsBack.j0 k a1 true))))))))) else (some false)) = some r := H
  have A3 := Aside0.mk A30
  clear A30
  by_cases c4 : t260 = true
  · subst c4
    have H1 : ((octets_Hex.f k l0).bind fun t261 => ((octets_Unhex.f k t261).bind fun bt262 => ((octets_Base64.f k l0).bind fun t267 => ((octets_Unbase64.f k t267).bind fun bt268 => ((octets_Chars.f k l0).bind fun t273 => ((octets_Bytes.f k t273).bind fun bt274 => ((pergolalaw01_num.f bt262.2.1).bind fun t279 => (if t279 = 0 then ((pergolalaw01_num.f bt268.2.1).bind fun t280 => (if t280 = 0 then ((pergolalaw01_num.f bt274.2.1).bind fun t281 => (if t281 = 0 then ((pergolaplain_SameBytes.f k bt262.1 l0).bind fun t282 => (if t282 = true then ((pergolaplain_SameBytes.f k bt268.1 l0).bind fun t283 => (if t283 = true then ((pergolaplain_SameBytes.f k bt274.1 l0).bind fun t284 => (pergolalaw01_OctetsBack.j0 k a1 (!t284))) else (pergolalaw01_OctetsBack.j0 k a1 true))) else (pergolalaw01_OctetsBack.j0 k a1 true))) else (pergolalaw01_OctetsBack.j0 k a1 true))) else (pergolalaw01_OctetsBack.j0 k a1 true))) else (pergolalaw01_OctetsBack.j0 k a1 true))))))))) = some r := by rw [if_pos rfl] at H; exact H
    clear H
    have H := H1
    clear H1
    replace H := Option.bind_eq_some_iff.mp H
    obtain ⟨t261, A50, H⟩ := H
    replace H : ((octets_Unhex.f k t261).bind fun bt262 => ((octets_Base64.f k l0).bind fun t267 => ((octets_Unbase64.f k t267).bind fun bt268 => ((octets_Chars.f k l0).bind fun t273 => ((octets_Bytes.f k t273).bind fun bt274 => ((pergolalaw01_num.f bt262.2.1).bind fun t279 => (if t279 = 0 then ((pergolalaw01_num.f bt268.2.1).bind fun t280 => (if t280 = 0 then ((pergolalaw01_num.f bt274.2.1).bind fun t281 => (if t281 = 0 then ((pergolaplain_SameBytes.f k bt262.1 l0).bind fun t282 => (if t282 = true then ((pergolaplain_SameBytes.f k bt268.1 l0).bind fun t283 => (if t283 = true then ((pergolaplain_SameBytes.f k bt274.1 l0).bind fun t284 => (pergolalaw01_OctetsBack.j0 k a1 (!t284))) else (pergolalaw01_OctetsBack.j0 k a1 true))) else (pergolalaw01_OctetsBack.j0 k a1 true))) else (pergolalaw01_OctetsBack.j0 k a1 true))) else (pergolalaw01_OctetsBack.j0 k a1 true))) else (pergolalaw01_OctetsBack.j0 k a1 true)))))))) = some r := H
    have A5 := Aside0.mk A50
    clear A50
    replace H := Option.bind_eq_some_iff.mp H
    obtain ⟨⟨t262, t263, t264⟩, A60, H⟩ := H
    replace H : ((octets_Base64.f k l0).bind fun t267 => ((octets_Unbase64.f k t267).bind fun bt268 => ((octets_Chars.f k l0).bind fun t273 => ((octets_Bytes.f k t273).bind fun bt274 => ((pergolalaw01_num.f t263).bind fun t279 => (if t279 = 0 then ((pergolalaw01_num.f bt268.2.1).bind fun t280 => (if t280 = 0 then ((pergolalaw01_num.f bt274.2.1).bind fun t281 => (if t281 = 0 then ((pergolaplain_SameBytes.f k t262 l0).bind fun t282 => (if t282 = true then ((pergolaplain_SameBytes.f k bt268.1 l0).bind fun t283 => (if t283 = true then ((pergolaplain_SameBytes.f k bt274.1 l0).bind fun t284 => (pergolalaw01_OctetsBack.j0 k a1 (!t284))) else (pergolalaw01_OctetsBack.j0 k a1 true))) else (pergolalaw01_OctetsBack.j0 k a1 true))) else (pergolalaw01_OctetsBack.j0 k a1 true))) else (pergolalaw01_OctetsBack.j0 k a1 true))) else (pergolalaw01_OctetsBack.j0 k a1 true))))))) = some r := H
    have A6 := Aside0.mk A60
    clear A60
    replace H := Option.bind_eq_some_iff.mp H
    obtain ⟨t267, A70, H⟩ := H
    replace H : ((octets_Unbase64.f k t267).bind fun bt268 => ((octets_Chars.f k l0).bind fun t273 => ((octets_Bytes.f k t273).bind fun bt274 => ((pergolalaw01_num.f t263).bind fun t279 => (if t279 = 0 then ((pergolalaw01_num.f bt268.2.1).bind fun t280 => (if t280 = 0 then ((pergolalaw01_num.f bt274.2.1).bind fun t281 => (if t281 = 0 then ((pergolaplain_SameBytes.f k t262 l0).bind fun t282 => (if t282 = true then ((pergolaplain_SameBytes.f k bt268.1 l0).bind fun t283 => (if t283 = true then ((pergolaplain_SameBytes.f k bt274.1 l0).bind fun t284 => (pergolalaw01_OctetsBack.j0 k a1 (!t284))) else (pergolalaw01_OctetsBack.j0 k a1 true))) else (pergolalaw01_OctetsBack.j0 k a1 true))) else (pergolalaw01_OctetsBack.j0 k a1 true))) else (pergolalaw01_OctetsBack.j0 k a1 true))) else (pergolalaw01_OctetsBack.j0 k a1 true)))))) = some r := H
    have A7 := Aside0.mk A70
    clear A70
    replace H := Option.bind_eq_some_iff.mp H
    obtain ⟨⟨t268, t269, t270⟩, A80, H⟩ := H
    replace H : ((octets_Chars.f k l0).bind fun t273 => ((octets_Bytes.f k t273).bind fun bt274 => ((pergolalaw01_num.f t263).bind fun t279 => (if t279 = 0 then ((pergolalaw01_num.f t269).bind fun t280 => (if t280 = 0 then ((pergolalaw01_num.f bt274.2.1).bind fun t281 => (if t281 = 0 then ((pergolaplain_SameBytes.f k t262 l0).bind fun t282 => (if t282 = true then ((pergolaplain_SameBytes.f k t268 l0).bind fun t283 => (if t283 = true then ((pergolaplain_SameBytes.f k bt274.1 l0).bind fun t284 => (pergolalaw01_OctetsBack.j0 k a1 (!t284))) else (pergolalaw01_OctetsBack.j0 k a1 true))) else (pergolalaw01_OctetsBack.j0 k a1 true))) else (pergolalaw01_OctetsBack.j0 k a1 true))) else (pergolalaw01_OctetsBack.j0 k a1 true))) else (pergolalaw01_OctetsBack.j0 k a1 true))))) = some r := H
    have A8 := Aside0.mk A80
    clear A80
    replace H := Option.bind_eq_some_iff.mp H
    obtain ⟨t273, A90, H⟩ := H
    replace H : ((octets_Bytes.f k t273).bind fun bt274 => ((pergolalaw01_num.f t263).bind fun t279 => (if t279 = 0 then ((pergolalaw01_num.f t269).bind fun t280 => (if t280 = 0 then ((pergolalaw01_num.f bt274.2.1).bind fun t281 => (if t281 = 0 then ((pergolaplain_SameBytes.f k t262 l0).bind fun t282 => (if t282 = true then ((pergolaplain_SameBytes.f k t268 l0).bind fun t283 => (if t283 = true then ((pergolaplain_SameBytes.f k bt274.1 l0).bind fun t284 => (pergolalaw01_OctetsBack.j0 k a1 (!t284))) else (pergolalaw01_OctetsBack.j0 k a1 true))) else (pergolalaw01_OctetsBack.j0 k a1 true))) else (pergolalaw01_OctetsBack.j0 k a1 true))) else (pergolalaw01_OctetsBack.j0 k a1 true))) else (pergolalaw01_OctetsBack.j0 k a1 true)))) = some r := H
    have A9 := Aside0.mk A90
    clear A90
    replace H := Option.bind_eq_some_iff.mp H
    obtain ⟨⟨t274, t275, t276⟩, A100, H⟩ := H
    replace H : ((pergolalaw01_num.f t263).bind fun t279 => (if t279 = 0 then ((pergolalaw01_num.f t269).bind fun t280 => (if t280 = 0 then ((pergolalaw01_num.f t275).bind fun t281 => (if t281 = 0 then ((pergolaplain_SameBytes.f k t262 l0).bind fun t282 => (if t282 = true then ((pergolaplain_SameBytes.f k t268 l0).bind fun t283 => (if t283 = true then ((pergolaplain_SameBytes.f k t274 l0).bind fun t284 => (pergolalaw01_OctetsBack.j0 k a1 (!t284))) else (pergolalaw01_OctetsBack.j0 k a1 true))) else (pergolalaw01_OctetsBack.j0 k a1 true))) else (pergolalaw01_OctetsBack.j0 k a1 true))) else (pergolalaw01_OctetsBack.j0 k a1 true))) else (pergolalaw01_OctetsBack.j0 k a1 true))) = some r := H
    have A10 := Aside0.mk A100
    clear A100
    have HC11 := Aside0.mk H
    clear H
    go_enter Try.func6, Try.ntmps6
    go_upto_region 6 with (first | ((with_reducible refine gate_callee (f := 8) rfl ?_); refine goesL_ (some 15) rfl rfl Try.func8 (by kernel_rfl) rfl #[] rfl (by (try simp only [List.map_toArray, List.map_cons, List.map_nil]); first | done | rfl | (simp only [List.length_drop, List.length_take]; rfl)) ?_; (with_reducible refine (pergolalaw01_alive.calls k  true _ A3.out).mono ?_); rintro e w12 ⟨rfl, hb⟩; refine ⟨_, rfl, ?_⟩; have n0_ := Aside0.mk (below_step (by repeat (first | (with_reducible first | exact HB.out | apply below_alloc | apply pw_below_drewN | apply below_drew1) | exact HB.out)) hb); clear HB; have HB := n0_; clear n0_; (try clear hb); (try clear hb2); (try clear hk); (try clear hi)) | ((with_reducible refine gate_callee (f := 15) rfl ?_); refine goesL_ (some 19) rfl rfl Try.func15 (by kernel_rfl) rfl #[.slice A0 l0.length c0] rfl (by (try simp only [List.map_toArray, List.map_cons, List.map_nil]); first | done | rfl | (simp only [List.length_drop, List.length_take]; rfl)) ?_; (with_reducible refine (octets_Hex.calls k _ _ l0 t261 _ ?side1 ?side2 A5.out).mono ?_); (case side1 => repeat (first | exact (Kd.C_below HR0.out HB.out) | (with_reducible refine Kd.C_alloc ?_ _) | (with_reducible refine Kd.C_drewN ?_ _) | (with_reducible refine Kd.C_drew ?_))); (case side2 => exact HC0.out); rintro e w13 ⟨rfl, hb⟩; refine ⟨_, rfl, ?_⟩; have n0_ := Aside0.mk (below_step (by repeat (first | (with_reducible first | exact HB.out | apply below_alloc | apply pw_below_drewN | apply below_drew1) | exact HB.out)) hb); clear HB; have HB := n0_; clear n0_; (try clear hb); (try clear hb2); (try clear hk); (try clear hi)) | ((with_reducible refine gate_callee (f := 11) rfl ?_); refine goesL_ (some 20) rfl rfl Try.func11 (by kernel_rfl) rfl #[.string t261] rfl (by (try simp only [List.map_toArray, List.map_cons, List.map_nil]); first | done | rfl | (simp only [List.length_drop, List.length_take]; rfl)) ?_; (with_reducible refine (octets_Unhex.calls k t261 t262 t263 t264 _ A6.out).mono ?_); rintro e w14 ⟨v265, rfl, ho0, hb⟩; refine ⟨_, rfl, ?_⟩; have n0_ := Aside0.mk (Kd.R_lower ho0 (below_size (by repeat (first | (with_reducible first | exact HB.out | apply below_alloc | apply pw_below_drewN | apply below_drew1) | exact HB.out)))); have n1_ := Aside0.mk (below_step (by repeat (first | (with_reducible first | exact HB.out | apply below_alloc | apply pw_below_drewN | apply below_drew1) | exact HB.out)) hb); clear HB; have HO266 := n0_; have HB := n1_; clear n0_ n1_; (try clear hb); (try clear hb2); (try clear hk); (try clear hi); (try clear ho0)) | ((with_reducible refine gate_callee (f := 17) rfl ?_); refine goesL_ (some 26) rfl rfl Try.func17 (by kernel_rfl) rfl #[.slice A0 l0.length c0] rfl (by (try simp only [List.map_toArray, List.map_cons, List.map_nil]); first | done | rfl | (simp only [List.length_drop, List.length_take]; rfl)) ?_; (with_reducible refine (octets_Base64.calls k _ _ l0 t267 _ ?side1 ?side2 A7.out).mono ?_); (case side1 => repeat (first | exact (Kd.C_below HR0.out HB.out) | (with_reducible refine Kd.C_alloc ?_ _) | (with_reducible refine Kd.C_drewN ?_ _) | (with_reducible refine Kd.C_drew ?_))); (case side2 => exact HC0.out); rintro e w15 ⟨rfl, hb⟩; refine ⟨_, rfl, ?_⟩; have n0_ := Aside0.mk (Kd.R_below (by (with_reducible repeat (first | apply Kd.R_alloc | apply Kd.R_drewN | apply Kd.R_drew)); exact HO266.out) hb); have n1_ := Aside0.mk (below_step (by repeat (first | (with_reducible first | exact HB.out | apply below_alloc | apply pw_below_drewN | apply below_drew1) | exact HB.out)) hb); clear HO266; clear HB; have HO266 := n0_; have HB := n1_; clear n0_ n1_; (try clear hb); (try clear hb2); (try clear hk); (try clear hi)) | ((with_reducible refine gate_callee (f := 13) rfl ?_); refine goesL_ (some 27) rfl rfl Try.func13 (by kernel_rfl) rfl #[.string t267] rfl (by (try simp only [List.map_toArray, List.map_cons, List.map_nil]); first | done | rfl | (simp only [List.length_drop, List.length_take]; rfl)) ?_; (with_reducible refine (octets_Unbase64.calls k t267 t268 t269 t270 _ A8.out).mono ?_); rintro e w16 ⟨v271, rfl, ho0, hb⟩; refine ⟨_, rfl, ?_⟩; have n0_ := Aside0.mk (Kd.R_elder' (by (with_reducible repeat (first | apply Kd.R_alloc | apply Kd.R_drewN | apply Kd.R_drew)); exact HO266.out) (Kd.R_base ho0) hb); have n1_ := Aside0.mk (Kd.R_lower (Kd.R_new' ho0 (Kd.R_lt (by (with_reducible repeat (first | apply Kd.R_alloc | apply Kd.R_drewN | apply Kd.R_drew)); exact HO266.out))) (below_size (by repeat (first | (with_reducible first | exact HB.out | apply below_alloc | apply pw_below_drewN | apply below_drew1) | exact HB.out)))); have n2_ := Aside0.mk (below_step (by repeat (first | (with_reducible first | exact HB.out | apply below_alloc | apply pw_below_drewN | apply below_drew1) | exact HB.out)) hb); clear HO266; clear HB; have HO266 := n0_; have HO272 := n1_; have HB := n2_; clear n0_ n1_ n2_; (try clear hb); (try clear hb2); (try clear hk); (try clear hi); (try clear ho0)) | ((with_reducible refine gate_callee (f := 24) rfl ?_); refine goesL_ (some 33) rfl rfl Try.func24 (by kernel_rfl) rfl #[.slice A0 l0.length c0] rfl (by (try simp only [List.map_toArray, List.map_cons, List.map_nil]); first | done | rfl | (simp only [List.length_drop, List.length_take]; rfl)) ?_; (with_reducible refine (octets_Chars.calls k _ _ l0 t273 _ ?side1 ?side2 A9.out).mono ?_); (case side1 => repeat (first | exact (Kd.C_below HR0.out HB.out) | (with_reducible refine Kd.C_alloc ?_ _) | (with_reducible refine Kd.C_drewN ?_ _) | (with_reducible refine Kd.C_drew ?_))); (case side2 => exact HC0.out); rintro e w17 ⟨rfl, hb⟩; refine ⟨_, rfl, ?_⟩; have n0_ := Aside0.mk (Kd.R_below (by (with_reducible repeat (first | apply Kd.R_alloc | apply Kd.R_drewN | apply Kd.R_drew)); exact HO266.out) hb); have n1_ := Aside0.mk (Kd.R_below (by (with_reducible repeat (first | apply Kd.R_alloc | apply Kd.R_drewN | apply Kd.R_drew)); exact HO272.out) hb); have n2_ := Aside0.mk (below_step (by repeat (first | (with_reducible first | exact HB.out | apply below_alloc | apply pw_below_drewN | apply below_drew1) | exact HB.out)) hb); clear HO266; clear HO272; clear HB; have HO266 := n0_; have HO272 := n1_; have HB := n2_; clear n0_ n1_ n2_; (try clear hb); (try clear hb2); (try clear hk); (try clear hi)) | ((with_reducible refine gate_callee (f := 22) rfl ?_); refine goesL_ (some 34) rfl rfl Try.func22 (by kernel_rfl) rfl #[.string t273] rfl (by (try simp only [List.map_toArray, List.map_cons, List.map_nil]); first | done | rfl | (simp only [List.length_drop, List.length_take]; rfl)) ?_; (with_reducible refine (octets_Bytes.calls k t273 t274 t275 t276 _ A10.out).mono ?_); rintro e w18 ⟨v277, rfl, ho0, hb⟩; refine ⟨_, rfl, ?_⟩; have n0_ := Aside0.mk (Kd.R_elder' (by (with_reducible repeat (first | apply Kd.R_alloc | apply Kd.R_drewN | apply Kd.R_drew)); exact HO266.out) (Kd.R_base ho0) hb); have n1_ := Aside0.mk (Kd.R_elder' (by (with_reducible repeat (first | apply Kd.R_alloc | apply Kd.R_drewN | apply Kd.R_drew)); exact HO272.out) (Kd.R_base ho0) hb); have n2_ := Aside0.mk (Kd.R_lower (Kd.R_new' (Kd.R_new' ho0 (Kd.R_lt (by (with_reducible repeat (first | apply Kd.R_alloc | apply Kd.R_drewN | apply Kd.R_drew)); exact HO266.out))) (Kd.R_lt (by (with_reducible repeat (first | apply Kd.R_alloc | apply Kd.R_drewN | apply Kd.R_drew)); exact HO272.out))) (below_size (by repeat (first | (with_reducible first | exact HB.out | apply below_alloc | apply pw_below_drewN | apply below_drew1) | exact HB.out)))); have n3_ := Aside0.mk (below_step (by repeat (first | (with_reducible first | exact HB.out | apply below_alloc | apply pw_below_drewN | apply below_drew1) | exact HB.out)) hb); clear HO266; clear HO272; clear HB; have HO266 := n0_; have HO272 := n1_; have HO278 := n2_; have HB := n3_; clear n0_ n1_ n2_ n3_; (try clear hb); (try clear hb2); (try clear hk); (try clear hi); (try clear ho0)))
    (try simp only [Act.put, List.setIfInBounds_toArray, List.set_cons_zero, List.set_cons_succ])
    go_cut [68] (fun v68 wc => ∃ (kq : Nat) (x68_10 : Bool), v68 = .bool x68_10 ∧ Aside0 (pergolalaw01_OctetsBack.j0 kq a1 x68_10 = some r) ∧ Aside0 (kq ≤ k) ∧ Aside0 (Below w.heap.size w wc))
    case first =>
      have H := HC11.out
      clear HC11
      replace H := Option.bind_eq_some_iff.mp H
      obtain ⟨t279, A190, H⟩ := H
      replace H : (if t279 = 0 then ((pergolalaw01_num.f t269).bind fun t280 => (if t280 = 0 then ((pergolalaw01_num.f t275).bind fun t281 => (if t281 = 0 then ((pergolaplain_SameBytes.f k t262 l0).bind fun t282 => (if t282 = true then ((pergolaplain_SameBytes.f k t268 l0).bind fun t283 => (if t283 = true then ((pergolaplain_SameBytes.f k t274 l0).bind fun t284 => (pergolalaw01_OctetsBack.j0 k a1 (!t284))) else (pergolalaw01_OctetsBack.j0 k a1 true))) else (pergolalaw01_OctetsBack.j0 k a1 true))) else (pergolalaw01_OctetsBack.j0 k a1 true))) else (pergolalaw01_OctetsBack.j0 k a1 true))) else (pergolalaw01_OctetsBack.j0 k a1 true)) = some r := H
      have A19 := Aside0.mk A190
      clear A190
      by_cases c20 : t279 = 0
      · rw [if_pos c20] at H
        have c20b0 : (t279 == 0) = true := beq_iff_eq.mpr c20
        have c20b1 : (t279 != 0) = false := bne_eq_false_iff_eq.mpr c20
        clear c20
        (first | rw [c20b0] | (simp only [i64_w, i32_w]; rw [c20b0]) | skip)
        replace H := Option.bind_eq_some_iff.mp H
        obtain ⟨t280, A210, H⟩ := H
        replace H : (if t280 = 0 then ((pergolalaw01_num.f t275).bind fun t281 => (if t281 = 0 then ((pergolaplain_SameBytes.f k t262 l0).bind fun t282 => (if t282 = true then ((pergolaplain_SameBytes.f k t268 l0).bind fun t283 => (if t283 = true then ((pergolaplain_SameBytes.f k t274 l0).bind fun t284 => (pergolalaw01_OctetsBack.j0 k a1 (!t284))) else (pergolalaw01_OctetsBack.j0 k a1 true))) else (pergolalaw01_OctetsBack.j0 k a1 true))) else (pergolalaw01_OctetsBack.j0 k a1 true))) else (pergolalaw01_OctetsBack.j0 k a1 true)) = some r := H
        have A21 := Aside0.mk A210
        clear A210
        by_cases c22 : t280 = 0
        · rw [if_pos c22] at H
          have c22b0 : (t280 == 0) = true := beq_iff_eq.mpr c22
          have c22b1 : (t280 != 0) = false := bne_eq_false_iff_eq.mpr c22
          clear c22
          replace H := Option.bind_eq_some_iff.mp H
          obtain ⟨t281, A230, H⟩ := H
          replace H : (if t281 = 0 then ((pergolaplain_SameBytes.f k t262 l0).bind fun t282 => (if t282 = true then ((pergolaplain_SameBytes.f k t268 l0).bind fun t283 => (if t283 = true then ((pergolaplain_SameBytes.f k t274 l0).bind fun t284 => (pergolalaw01_OctetsBack.j0 k a1 (!t284))) else (pergolalaw01_OctetsBack.j0 k a1 true))) else (pergolalaw01_OctetsBack.j0 k a1 true))) else (pergolalaw01_OctetsBack.j0 k a1 true)) = some r := H
          have A23 := Aside0.mk A230
          clear A230
          by_cases c24 : t281 = 0
          · rw [if_pos c24] at H
            have c24b0 : (t281 == 0) = true := beq_iff_eq.mpr c24
            have c24b1 : (t281 != 0) = false := bne_eq_false_iff_eq.mpr c24
            clear c24
            replace H := Option.bind_eq_some_iff.mp H
            obtain ⟨t282, A250, H⟩ := H
            replace H : (if t282 = true then ((pergolaplain_SameBytes.f k t268 l0).bind fun t283 => (if t283 = true then ((pergolaplain_SameBytes.f k t274 l0).bind fun t284 => (pergolalaw01_OctetsBack.j0 k a1 (!t284))) else (pergolalaw01_OctetsBack.j0 k a1 true))) else (pergolalaw01_OctetsBack.j0 k a1 true)) = some r := H
            have A25 := Aside0.mk A250
            clear A250
            by_cases c26 : t282 = true
            · subst c26
              have H1 : ((pergolaplain_SameBytes.f k t268 l0).bind fun t283 => (if t283 = true then ((pergolaplain_SameBytes.f k t274 l0).bind fun t284 => (pergolalaw01_OctetsBack.j0 k a1 (!t284))) else (pergolalaw01_OctetsBack.j0 k a1 true))) = some r := by rw [if_pos rfl] at H; exact H
              clear H
              have H := H1
              clear H1
              replace H := Option.bind_eq_some_iff.mp H
              obtain ⟨t283, A270, H⟩ := H
              replace H : (if t283 = true then ((pergolaplain_SameBytes.f k t274 l0).bind fun t284 => (pergolalaw01_OctetsBack.j0 k a1 (!t284))) else (pergolalaw01_OctetsBack.j0 k a1 true)) = some r := H
              have A27 := Aside0.mk A270
              clear A270
              by_cases c28 : t283 = true
              · subst c28
                have H1 : ((pergolaplain_SameBytes.f k t274 l0).bind fun t284 => (pergolalaw01_OctetsBack.j0 k a1 (!t284))) = some r := by rw [if_pos rfl] at H; exact H
                clear H
                have H := H1
                clear H1
                replace H := Option.bind_eq_some_iff.mp H
                obtain ⟨t284, A290, H⟩ := H
                replace H : (pergolalaw01_OctetsBack.j0 k a1 (!t284)) = some r := H
                have A29 := Aside0.mk A290
                clear A290
                have H' := Aside0.mk H
                clear H
                go_wp2_with (first | ((with_reducible refine gate_callee (f := 20) rfl ?_); refine goesL_ (some 39) rfl rfl Try.func20 (by kernel_rfl) rfl #[.int .i64 t263] rfl (by (try simp only [List.map_toArray, List.map_cons, List.map_nil]); first | done | rfl | (simp only [List.length_drop, List.length_take]; rfl)) ?_; (with_reducible refine (pergolalaw01_num.calls t263 t279 _ A19.out).mono ?_); rintro e w' ⟨rfl, ⟨nd, rfl⟩⟩; refine ⟨_, rfl, ?_⟩) | (go_at_call 20; (with_reducible refine (pergolalaw01_num.calls t269 t280 _ A21.out).mono ?_); rintro e w' ⟨rfl, ⟨nd, rfl⟩⟩) | (go_at_call 20; (with_reducible refine (pergolalaw01_num.calls t275 t281 _ A23.out).mono ?_); rintro e w' ⟨rfl, ⟨nd, rfl⟩⟩; obtain ⟨Ao30, co30, eo30⟩ := Kd.R_slice HO266.out; subst eo30) | (go_at_call 19; (with_reducible refine (pergolaplain_SameBytes.calls k _ _ t262 _ _ l0 true _ ?side1 ?side2 ?side3 ?side4 A25.out).mono ?_); (case side1 => repeat (first | exact (Kd.R_reads' HO266.out).2.2 | (with_reducible refine Kd.C_alloc ?_ _) | (with_reducible refine Kd.C_drewN ?_ _) | (with_reducible refine Kd.C_drew ?_))); (case side2 => exact (Kd.R_reads' HO266.out).2.1); (case side3 => repeat (first | exact (Kd.C_below HR0.out (by repeat (first | (with_reducible first | exact HB.out | apply below_alloc | apply pw_below_drewN | apply below_drew1) | exact HB.out))) | (with_reducible refine Kd.C_alloc ?_ _) | (with_reducible refine Kd.C_drewN ?_ _) | (with_reducible refine Kd.C_drew ?_))); (case side4 => exact HC0.out); rintro e w' ⟨rfl, ⟨nd, rfl⟩⟩; obtain ⟨Ao31, co31, eo31⟩ := Kd.R_slice HO272.out; subst eo31) | (go_at_call 19; (with_reducible refine (pergolaplain_SameBytes.calls k _ _ t268 _ _ l0 true _ ?side1 ?side2 ?side3 ?side4 A27.out).mono ?_); (case side1 => repeat (first | exact (Kd.R_reads' HO272.out).2.2 | (with_reducible refine Kd.C_alloc ?_ _) | (with_reducible refine Kd.C_drewN ?_ _) | (with_reducible refine Kd.C_drew ?_))); (case side2 => exact (Kd.R_reads' HO272.out).2.1); (case side3 => repeat (first | exact (Kd.C_below HR0.out (by repeat (first | (with_reducible first | exact HB.out | apply below_alloc | apply pw_below_drewN | apply below_drew1) | exact HB.out))) | (with_reducible refine Kd.C_alloc ?_ _) | (with_reducible refine Kd.C_drewN ?_ _) | (with_reducible refine Kd.C_drew ?_))); (case side4 => exact HC0.out); rintro e w' ⟨rfl, ⟨nd, rfl⟩⟩; obtain ⟨Ao32, co32, eo32⟩ := Kd.R_slice HO278.out; subst eo32) | (go_at_call 19; (with_reducible refine (pergolaplain_SameBytes.calls k _ _ t274 _ _ l0 t284 _ ?side1 ?side2 ?side3 ?side4 A29.out).mono ?_); (case side1 => repeat (first | exact (Kd.R_reads' HO278.out).2.2 | (with_reducible refine Kd.C_alloc ?_ _) | (with_reducible refine Kd.C_drewN ?_ _) | (with_reducible refine Kd.C_drew ?_))); (case side2 => exact (Kd.R_reads' HO278.out).2.1); (case side3 => repeat (first | exact (Kd.C_below HR0.out (by repeat (first | (with_reducible first | exact HB.out | apply below_alloc | apply pw_below_drewN | apply below_drew1) | exact HB.out))) | (with_reducible refine Kd.C_alloc ?_ _) | (with_reducible refine Kd.C_drewN ?_ _) | (with_reducible refine Kd.C_drew ?_))); (case side4 => exact HC0.out); rintro e w' ⟨rfl, ⟨nd, rfl⟩⟩))
                go_meet
                case rel => exact ⟨_, (!t284), (by first | rfl | (simp; done) | (simp [*]; done)), H', ⟨by first | omega | exact Nat.le_refl _⟩, ⟨by repeat (first | (with_reducible first | exact HB.out | apply below_alloc | apply pw_below_drewN | apply below_drew1) | exact HB.out)⟩⟩
              · replace c28 := Bool.eq_false_iff.mpr c28
                subst c28
                have H1 : (pergolalaw01_OctetsBack.j0 k a1 true) = some r := by rw [if_neg (show ¬ (false = true) by decide)] at H; exact H
                clear H
                have H := H1
                clear H1
                have H' := Aside0.mk H
                clear H
                go_wp2_with (first | ((with_reducible refine gate_callee (f := 20) rfl ?_); refine goesL_ (some 39) rfl rfl Try.func20 (by kernel_rfl) rfl #[.int .i64 t263] rfl (by (try simp only [List.map_toArray, List.map_cons, List.map_nil]); first | done | rfl | (simp only [List.length_drop, List.length_take]; rfl)) ?_; (with_reducible refine (pergolalaw01_num.calls t263 t279 _ A19.out).mono ?_); rintro e w' ⟨rfl, ⟨nd, rfl⟩⟩; refine ⟨_, rfl, ?_⟩) | (go_at_call 20; (with_reducible refine (pergolalaw01_num.calls t269 t280 _ A21.out).mono ?_); rintro e w' ⟨rfl, ⟨nd, rfl⟩⟩) | (go_at_call 20; (with_reducible refine (pergolalaw01_num.calls t275 t281 _ A23.out).mono ?_); rintro e w' ⟨rfl, ⟨nd, rfl⟩⟩; obtain ⟨Ao33, co33, eo33⟩ := Kd.R_slice HO266.out; subst eo33) | (go_at_call 19; (with_reducible refine (pergolaplain_SameBytes.calls k _ _ t262 _ _ l0 true _ ?side1 ?side2 ?side3 ?side4 A25.out).mono ?_); (case side1 => repeat (first | exact (Kd.R_reads' HO266.out).2.2 | (with_reducible refine Kd.C_alloc ?_ _) | (with_reducible refine Kd.C_drewN ?_ _) | (with_reducible refine Kd.C_drew ?_))); (case side2 => exact (Kd.R_reads' HO266.out).2.1); (case side3 => repeat (first | exact (Kd.C_below HR0.out (by repeat (first | (with_reducible first | exact HB.out | apply below_alloc | apply pw_below_drewN | apply below_drew1) | exact HB.out))) | (with_reducible refine Kd.C_alloc ?_ _) | (with_reducible refine Kd.C_drewN ?_ _) | (with_reducible refine Kd.C_drew ?_))); (case side4 => exact HC0.out); rintro e w' ⟨rfl, ⟨nd, rfl⟩⟩; obtain ⟨Ao34, co34, eo34⟩ := Kd.R_slice HO272.out; subst eo34) | (go_at_call 19; (with_reducible refine (pergolaplain_SameBytes.calls k _ _ t268 _ _ l0 false _ ?side1 ?side2 ?side3 ?side4 A27.out).mono ?_); (case side1 => repeat (first | exact (Kd.R_reads' HO272.out).2.2 | (with_reducible refine Kd.C_alloc ?_ _) | (with_reducible refine Kd.C_drewN ?_ _) | (with_reducible refine Kd.C_drew ?_))); (case side2 => exact (Kd.R_reads' HO272.out).2.1); (case side3 => repeat (first | exact (Kd.C_below HR0.out (by repeat (first | (with_reducible first | exact HB.out | apply below_alloc | apply pw_below_drewN | apply below_drew1) | exact HB.out))) | (with_reducible refine Kd.C_alloc ?_ _) | (with_reducible refine Kd.C_drewN ?_ _) | (with_reducible refine Kd.C_drew ?_))); (case side4 => exact HC0.out); rintro e w' ⟨rfl, ⟨nd, rfl⟩⟩))
                go_meet
                case rel => exact ⟨_, (true), (by first | rfl | (simp; done) | (simp [*]; done)), H', ⟨by first | omega | exact Nat.le_refl _⟩, ⟨by repeat (first | (with_reducible first | exact HB.out | apply below_alloc | apply pw_below_drewN | apply below_drew1) | exact HB.out)⟩⟩
            · replace c26 := Bool.eq_false_iff.mpr c26
              subst c26
              have H1 : (pergolalaw01_OctetsBack.j0 k a1 true) = some r := by rw [if_neg (show ¬ (false = true) by decide)] at H; exact H
              clear H
              have H := H1
              clear H1
              have H' := Aside0.mk H
              clear H
              go_wp2_with (first | ((with_reducible refine gate_callee (f := 20) rfl ?_); refine goesL_ (some 39) rfl rfl Try.func20 (by kernel_rfl) rfl #[.int .i64 t263] rfl (by (try simp only [List.map_toArray, List.map_cons, List.map_nil]); first | done | rfl | (simp only [List.length_drop, List.length_take]; rfl)) ?_; (with_reducible refine (pergolalaw01_num.calls t263 t279 _ A19.out).mono ?_); rintro e w' ⟨rfl, ⟨nd, rfl⟩⟩; refine ⟨_, rfl, ?_⟩) | (go_at_call 20; (with_reducible refine (pergolalaw01_num.calls t269 t280 _ A21.out).mono ?_); rintro e w' ⟨rfl, ⟨nd, rfl⟩⟩) | (go_at_call 20; (with_reducible refine (pergolalaw01_num.calls t275 t281 _ A23.out).mono ?_); rintro e w' ⟨rfl, ⟨nd, rfl⟩⟩; obtain ⟨Ao35, co35, eo35⟩ := Kd.R_slice HO266.out; subst eo35) | (go_at_call 19; (with_reducible refine (pergolaplain_SameBytes.calls k _ _ t262 _ _ l0 false _ ?side1 ?side2 ?side3 ?side4 A25.out).mono ?_); (case side1 => repeat (first | exact (Kd.R_reads' HO266.out).2.2 | (with_reducible refine Kd.C_alloc ?_ _) | (with_reducible refine Kd.C_drewN ?_ _) | (with_reducible refine Kd.C_drew ?_))); (case side2 => exact (Kd.R_reads' HO266.out).2.1); (case side3 => repeat (first | exact (Kd.C_below HR0.out (by repeat (first | (with_reducible first | exact HB.out | apply below_alloc | apply pw_below_drewN | apply below_drew1) | exact HB.out))) | (with_reducible refine Kd.C_alloc ?_ _) | (with_reducible refine Kd.C_drewN ?_ _) | (with_reducible refine Kd.C_drew ?_))); (case side4 => exact HC0.out); rintro e w' ⟨rfl, ⟨nd, rfl⟩⟩))
              go_meet
              case rel => exact ⟨_, (true), (by first | rfl | (simp; done) | (simp [*]; done)), H', ⟨by first | omega | exact Nat.le_refl _⟩, ⟨by repeat (first | (with_reducible first | exact HB.out | apply below_alloc | apply pw_below_drewN | apply below_drew1) | exact HB.out)⟩⟩
          · rw [if_neg c24] at H
            have c24b0 : (t281 == 0) = false := beq_eq_false_iff_ne.mpr c24
            have c24b1 : (t281 != 0) = true := bne_iff_ne.mpr c24
            have H' := Aside0.mk H
            clear H
            go_wp2_with (first | ((with_reducible refine gate_callee (f := 20) rfl ?_); refine goesL_ (some 39) rfl rfl Try.func20 (by kernel_rfl) rfl #[.int .i64 t263] rfl (by (try simp only [List.map_toArray, List.map_cons, List.map_nil]); first | done | rfl | (simp only [List.length_drop, List.length_take]; rfl)) ?_; (with_reducible refine (pergolalaw01_num.calls t263 t279 _ A19.out).mono ?_); rintro e w' ⟨rfl, ⟨nd, rfl⟩⟩; refine ⟨_, rfl, ?_⟩) | (go_at_call 20; (with_reducible refine (pergolalaw01_num.calls t269 t280 _ A21.out).mono ?_); rintro e w' ⟨rfl, ⟨nd, rfl⟩⟩) | (go_at_call 20; (with_reducible refine (pergolalaw01_num.calls t275 t281 _ A23.out).mono ?_); rintro e w' ⟨rfl, ⟨nd, rfl⟩⟩))
            go_meet
            case rel => exact ⟨_, (true), (by first | rfl | (simp; done) | (simp [*]; done)), H', ⟨by first | omega | exact Nat.le_refl _⟩, ⟨by repeat (first | (with_reducible first | exact HB.out | apply below_alloc | apply pw_below_drewN | apply below_drew1) | exact HB.out)⟩⟩
        · rw [if_neg c22] at H
          have c22b0 : (t280 == 0) = false := beq_eq_false_iff_ne.mpr c22
          have c22b1 : (t280 != 0) = true := bne_iff_ne.mpr c22
          have H' := Aside0.mk H
          clear H
          go_wp2_with (first | ((with_reducible refine gate_callee (f := 20) rfl ?_); refine goesL_ (some 39) rfl rfl Try.func20 (by kernel_rfl) rfl #[.int .i64 t263] rfl (by (try simp only [List.map_toArray, List.map_cons, List.map_nil]); first | done | rfl | (simp only [List.length_drop, List.length_take]; rfl)) ?_; (with_reducible refine (pergolalaw01_num.calls t263 t279 _ A19.out).mono ?_); rintro e w' ⟨rfl, ⟨nd, rfl⟩⟩; refine ⟨_, rfl, ?_⟩) | (go_at_call 20; (with_reducible refine (pergolalaw01_num.calls t269 t280 _ A21.out).mono ?_); rintro e w' ⟨rfl, ⟨nd, rfl⟩⟩))
          go_meet
          case rel => exact ⟨_, (true), (by first | rfl | (simp; done) | (simp [*]; done)), H', ⟨by first | omega | exact Nat.le_refl _⟩, ⟨by repeat (first | (with_reducible first | exact HB.out | apply below_alloc | apply pw_below_drewN | apply below_drew1) | exact HB.out)⟩⟩
      · rw [if_neg c20] at H
        have c20b0 : (t279 == 0) = false := beq_eq_false_iff_ne.mpr c20
        have c20b1 : (t279 != 0) = true := bne_iff_ne.mpr c20
        (first | rw [c20b0] | (simp only [i64_w, i32_w]; rw [c20b0]) | skip)
        have H' := Aside0.mk H
        clear H
        go_wp2_with (first | ((with_reducible refine gate_callee (f := 20) rfl ?_); refine goesL_ (some 39) rfl rfl Try.func20 (by kernel_rfl) rfl #[.int .i64 t263] rfl (by (try simp only [List.map_toArray, List.map_cons, List.map_nil]); first | done | rfl | (simp only [List.length_drop, List.length_take]; rfl)) ?_; (with_reducible refine (pergolalaw01_num.calls t263 t279 _ A19.out).mono ?_); rintro e w' ⟨rfl, ⟨nd, rfl⟩⟩; refine ⟨_, rfl, ?_⟩))
        go_meet
        case rel => exact ⟨_, (true), (by first | rfl | (simp; done) | (simp [*]; done)), H', ⟨by first | omega | exact Nat.le_refl _⟩, ⟨by repeat (first | (with_reducible first | exact HB.out | apply below_alloc | apply pw_below_drewN | apply below_drew1) | exact HB.out)⟩⟩
    case rest =>
      clear HC11
      try clear c1
      try clear c2
      try clear p2
      try clear c4
      try clear c6
      try clear c8
      try clear c11
      try clear c13
      try clear c15
      try clear c17
      try clear c20
      try clear c20b0
      try clear c20b1
      try clear c22
      try clear c22b0
      try clear c22b1
      try clear c24
      try clear c24b0
      try clear c24b1
      try clear c26
      try clear c28
      obtain ⟨kq, x68_10, rfl, HA, HJ10, HB⟩ := hcut
      cases kq with
      | zero => exact absurd HA.out (by simp [pergolalaw01_OctetsBack.j0])
      | succ kj10 =>
        have H := HA.out
        clear HA
        simp only [pergolalaw01_OctetsBack.j0] at H
        by_cases c36 : x68_10 = true
        · subst c36
          have H1 : (some false) = some r := by rw [if_pos rfl] at H; exact H
          clear H
          have H := H1
          clear H1
          obtain rfl := Option.some.inj H
          go_wp2
          go_ret
          exact ⟨by first | rfl | (simp [errW_none, errW_some] <;> rfl) | (simp [*, errW_none, errW_some] <;> rfl), by repeat (first | (with_reducible first | exact HB.out | apply below_alloc | apply pw_below_drewN | apply below_drew1) | exact HB.out)⟩
        · replace c36 := Bool.eq_false_iff.mpr c36
          subst c36
          have H1 : ((octets_Unhex.f kj10 a1).bind fun bt285 => ((pergolalaw01_num.f bt285.2.1).bind fun t290 => (if t290 = 0 then ((octets_Hex.f kj10 bt285.1).bind fun t291 => ((octets_Lower.f a1).bind fun t292 => (pergolalaw01_OctetsBack.j1 kj10 a1 (t291.toList != t292.toList)))) else (pergolalaw01_OctetsBack.j1 kj10 a1 false)))) = some r := by rw [if_neg (show ¬ (false = true) by decide)] at H; exact H
          clear H
          have H := H1
          clear H1
          replace H := Option.bind_eq_some_iff.mp H
          obtain ⟨⟨t285, t286, t287⟩, A370, H⟩ := H
          replace H : ((pergolalaw01_num.f t286).bind fun t290 => (if t290 = 0 then ((octets_Hex.f kj10 t285).bind fun t291 => ((octets_Lower.f a1).bind fun t292 => (pergolalaw01_OctetsBack.j1 kj10 a1 (t291.toList != t292.toList)))) else (pergolalaw01_OctetsBack.j1 kj10 a1 false))) = some r := H
          have A37 := Aside0.mk A370
          clear A370
          have HC38 := Aside0.mk H
          clear H
          go_upto_region 9 with (first | ((with_reducible refine gate_callee (f := 11) rfl ?_); refine goesL_ (some 71) rfl rfl Try.func11 (by kernel_rfl) rfl #[.string a1] rfl (by (try simp only [List.map_toArray, List.map_cons, List.map_nil]); first | done | rfl | (simp only [List.length_drop, List.length_take]; rfl)) ?_; (with_reducible refine (octets_Unhex.calls kj10 a1 t285 t286 t287 _ A37.out).mono ?_); rintro e w39 ⟨v288, rfl, ho0, hb⟩; refine ⟨_, rfl, ?_⟩; have n0_ := Aside0.mk (Kd.R_lower ho0 (below_size (by repeat (first | (with_reducible first | exact HB.out | apply below_alloc | apply pw_below_drewN | apply below_drew1) | exact HB.out)))); have n1_ := Aside0.mk (below_step (by repeat (first | (with_reducible first | exact HB.out | apply below_alloc | apply pw_below_drewN | apply below_drew1) | exact HB.out)) hb); clear HB; have HO289 := n0_; have HB := n1_; clear n0_ n1_; (try clear hb); (try clear hb2); (try clear hk); (try clear hi); (try clear ho0)))
          (try simp only [Act.put, List.setIfInBounds_toArray, List.set_cons_zero, List.set_cons_succ])
          go_cut [84] (fun v84 wc => ∃ (kq : Nat) (x84_37 : Bool), v84 = .bool x84_37 ∧ Aside0 (pergolalaw01_OctetsBack.j1 kq a1 x84_37 = some r) ∧ Aside0 (kq ≤ kj10) ∧ Aside0 (Below w.heap.size w wc))
          case first =>
            have H := HC38.out
            clear HC38
            replace H := Option.bind_eq_some_iff.mp H
            obtain ⟨t290, A400, H⟩ := H
            replace H : (if t290 = 0 then ((octets_Hex.f kj10 t285).bind fun t291 => ((octets_Lower.f a1).bind fun t292 => (pergolalaw01_OctetsBack.j1 kj10 a1 (t291.toList != t292.toList)))) else (pergolalaw01_OctetsBack.j1 kj10 a1 false)) = some r := H
            have A40 := Aside0.mk A400
            clear A400
            by_cases c41 : t290 = 0
            · rw [if_pos c41] at H
              have c41b0 : (t290 == 0) = true := beq_iff_eq.mpr c41
              have c41b1 : (t290 != 0) = false := bne_eq_false_iff_eq.mpr c41
              clear c41
              (first | rw [c41b0] | (simp only [i64_w, i32_w]; rw [c41b0]) | skip)
              replace H := Option.bind_eq_some_iff.mp H
              obtain ⟨t291, A420, H⟩ := H
              replace H : ((octets_Lower.f a1).bind fun t292 => (pergolalaw01_OctetsBack.j1 kj10 a1 (t291.toList != t292.toList))) = some r := H
              have A42 := Aside0.mk A420
              clear A420
              replace H := Option.bind_eq_some_iff.mp H
              obtain ⟨t292, A430, H⟩ := H
              replace H : (pergolalaw01_OctetsBack.j1 kj10 a1 (t291.toList != t292.toList)) = some r := H
              have A43 := Aside0.mk A430
              clear A430
              have H' := Aside0.mk H
              clear H
              go_wp2_with (first | ((with_reducible refine gate_callee (f := 20) rfl ?_); refine goesL_ (some 76) rfl rfl Try.func20 (by kernel_rfl) rfl #[.int .i64 t286] rfl (by (try simp only [List.map_toArray, List.map_cons, List.map_nil]); first | done | rfl | (simp only [List.length_drop, List.length_take]; rfl)) ?_; (with_reducible refine (pergolalaw01_num.calls t286 t290 _ A40.out).mono ?_); rintro e w' ⟨rfl, ⟨nd, rfl⟩⟩; refine ⟨_, rfl, ?_⟩; obtain ⟨Ao44, co44, eo44⟩ := Kd.R_slice HO289.out; subst eo44) | (go_at_call 15; (with_reducible refine (octets_Hex.calls kj10 _ _ t285 t291 _ ?side1 ?side2 A42.out).mono ?_); (case side1 => repeat (first | exact (Kd.R_reads' HO289.out).2.2 | (with_reducible refine Kd.C_alloc ?_ _) | (with_reducible refine Kd.C_drewN ?_ _) | (with_reducible refine Kd.C_drew ?_))); (case side2 => exact (Kd.R_reads' HO289.out).2.1); rintro e w45 ⟨rfl, hb⟩; have n0_ := Aside0.mk (Kd.R_below (by (with_reducible repeat (first | apply Kd.R_alloc | apply Kd.R_drewN | apply Kd.R_drew)); exact HO289.out) hb); have n1_ := Aside0.mk (below_step (by repeat (first | (with_reducible first | exact HB.out | apply below_alloc | apply pw_below_drewN | apply below_drew1) | exact HB.out)) hb); clear HO289; clear HB; have HO289 := n0_; have HB := n1_; clear n0_ n1_; (try clear hb); (try clear hb2); (try clear hk); (try clear hi)) | (go_at_call 27; (with_reducible refine (octets_Lower.calls a1 t292 _ A43.out).mono ?_); rintro e w46 ⟨rfl, hb⟩; have n0_ := Aside0.mk (Kd.R_below (by (with_reducible repeat (first | apply Kd.R_alloc | apply Kd.R_drewN | apply Kd.R_drew)); exact HO289.out) hb); have n1_ := Aside0.mk (below_step (by repeat (first | (with_reducible first | exact HB.out | apply below_alloc | apply pw_below_drewN | apply below_drew1) | exact HB.out)) hb); clear HO289; clear HB; have HO289 := n0_; have HB := n1_; clear n0_ n1_; (try clear hb); (try clear hb2); (try clear hk); (try clear hi)))
              go_meet
              case rel => exact ⟨_, ((t291.toList != t292.toList)), (by first | rfl | (simp; done) | (simp [*]; done)), H', ⟨by have := HJ10.out; first | omega | exact Nat.le_refl _⟩, ⟨by repeat (first | (with_reducible first | exact HB.out | apply below_alloc | apply pw_below_drewN | apply below_drew1) | exact HB.out)⟩⟩
            · rw [if_neg c41] at H
              have c41b0 : (t290 == 0) = false := beq_eq_false_iff_ne.mpr c41
              have c41b1 : (t290 != 0) = true := bne_iff_ne.mpr c41
              (first | rw [c41b0] | (simp only [i64_w, i32_w]; rw [c41b0]) | skip)
              have H' := Aside0.mk H
              clear H
              go_wp2_with (first | ((with_reducible refine gate_callee (f := 20) rfl ?_); refine goesL_ (some 76) rfl rfl Try.func20 (by kernel_rfl) rfl #[.int .i64 t286] rfl (by (try simp only [List.map_toArray, List.map_cons, List.map_nil]); first | done | rfl | (simp only [List.length_drop, List.length_take]; rfl)) ?_; (with_reducible refine (pergolalaw01_num.calls t286 t290 _ A40.out).mono ?_); rintro e w' ⟨rfl, ⟨nd, rfl⟩⟩; refine ⟨_, rfl, ?_⟩))
              go_meet
              case rel => exact ⟨_, (false), (by first | rfl | (simp; done) | (simp [*]; done)), H', ⟨by have := HJ10.out; first | omega | exact Nat.le_refl _⟩, ⟨by repeat (first | (with_reducible first | exact HB.out | apply below_alloc | apply pw_below_drewN | apply below_drew1) | exact HB.out)⟩⟩
          case rest =>
            clear HC38
            try clear c1
            try clear c2
            try clear p2
            try clear c3
            try clear c4
            try clear c6
            try clear c8
            try clear c11
            try clear c13
            try clear c15
            try clear c17
            try clear c20
            try clear c20b0
            try clear c20b1
            try clear c22
            try clear c22b0
            try clear c22b1
            try clear c24
            try clear c24b0
            try clear c24b1
            try clear c26
            try clear c28
            try clear c36
            try clear c41
            try clear c41b0
            try clear c41b1
            try clear p2
            obtain ⟨kq, x84_37, rfl, HA, HJ37, HB⟩ := hcut
            cases kq with
            | zero => exact absurd HA.out (by simp [pergolalaw01_OctetsBack.j1])
            | succ kj37 =>
              have H := HA.out
              clear HA
              simp only [pergolalaw01_OctetsBack.j1] at H
              by_cases c47 : x84_37 = true
              · subst c47
                have H1 : (some false) = some r := by rw [if_pos rfl] at H; exact H
                clear H
                have H := H1
                clear H1
                obtain rfl := Option.some.inj H
                go_wp2
                go_ret
                exact ⟨by first | rfl | (simp [errW_none, errW_some] <;> rfl) | (simp [*, errW_none, errW_some] <;> rfl), by repeat (first | (with_reducible first | exact HB.out | apply below_alloc | apply pw_below_drewN | apply below_drew1) | exact HB.out)⟩
              · replace c47 := Bool.eq_false_iff.mpr c47
                subst c47
                have H1 : ((octets_Unbase64.f kj37 a1).bind fun bt293 => (pergolalaw01_OctetsBack.l0 kj37 bt293.1 bt293.2.1 a1)) = some r := by rw [if_neg (show ¬ (false = true) by decide)] at H; exact H
                clear H
                have H := H1
                clear H1
                replace H := Option.bind_eq_some_iff.mp H
                obtain ⟨⟨t293, t294, t295⟩, A480, H⟩ := H
                replace H : (pergolalaw01_OctetsBack.l0 kj37 t293 t294 a1) = some r := H
                have A48 := Aside0.mk A480
                clear A480
                have H' := Aside0.mk H
                clear H
                go_wp2_with (first | ((with_reducible refine gate_callee (f := 13) rfl ?_); refine goesL_ (some 87) rfl rfl Try.func13 (by kernel_rfl) rfl #[.string a1] rfl (by (try simp only [List.map_toArray, List.map_cons, List.map_nil]); first | done | rfl | (simp only [List.length_drop, List.length_take]; rfl)) ?_; (with_reducible refine (octets_Unbase64.calls kj37 a1 t293 t294 t295 _ A48.out).mono ?_); rintro e w49 ⟨v296, rfl, ho0, hb⟩; refine ⟨_, rfl, ?_⟩; have n0_ := Aside0.mk (Kd.R_lower ho0 (below_size (by repeat (first | (with_reducible first | exact HB.out | apply below_alloc | apply pw_below_drewN | apply below_drew1) | exact HB.out)))); have n1_ := Aside0.mk (below_step (by repeat (first | (with_reducible first | exact HB.out | apply below_alloc | apply pw_below_drewN | apply below_drew1) | exact HB.out)) hb); clear HB; have HO297 := n0_; have HB := n1_; clear n0_ n1_; (try clear hb); (try clear hb2); (try clear hk); (try clear hi); (try clear ho0)))
                go_loopg [14] kj37 (fun kq v14 w' => ∃ (x14_3 : ByteArray), v14 = .string x14_3 ∧ Aside0 (pergolalaw01_OctetsBack.l0 kq t293 t294 x14_3 = some r) ∧ Aside0 (kq ≤ kj37) ∧ Aside0 (Kd.R (Kd.int .u8) 5 w' w.heap.size (fun _ => True) v296 t293) ∧ Aside0 (Below w.heap.size w w'))
                case atStart => exact ⟨(a1), (by first | rfl | (simp; done) | (simp [*]; done)), H', ⟨Nat.le_refl _⟩, ⟨by (with_reducible repeat (first | apply Kd.R_alloc | apply Kd.R_drewN | apply Kd.R_drew)); exact HO297.out⟩, ⟨by repeat (first | (with_reducible first | exact HB.out | apply below_alloc | apply pw_below_drewN | apply below_drew1) | exact HB.out)⟩⟩
                case round =>
                  clear H'
                  try clear c1
                  try clear c2
                  try clear p2
                  try clear c3
                  try clear c4
                  try clear c6
                  try clear c8
                  try clear c11
                  try clear c13
                  try clear c15
                  try clear c17
                  try clear c20
                  try clear c20b0
                  try clear c20b1
                  try clear c22
                  try clear c22b0
                  try clear c22b1
                  try clear c24
                  try clear c24b0
                  try clear c24b1
                  try clear c26
                  try clear c28
                  try clear c36
                  try clear c41
                  try clear c41b0
                  try clear c41b1
                  try clear c47
                  try clear p2
                  obtain ⟨x14_3, rfl, HA, HK3, HO_8, HB⟩ := hrel
                  cases gk with
                  | zero => exact absurd HA.out (by simp [pergolalaw01_OctetsBack.l0])
                  | succ k3 =>
                    have H := HA.out
                    clear HA
                    simp only [pergolalaw01_OctetsBack.l0] at H
                    by_cases c50 : ((x14_3.size : Int) % 4) = 0
                    · rw [if_pos c50] at H
                      have c50b0 : (((x14_3.size : Int) % 4) == 0) = true := beq_iff_eq.mpr c50
                      have c50b1 : (((x14_3.size : Int) % 4) != 0) = false := bne_eq_false_iff_eq.mpr c50
                      clear c50
                      replace H := Option.bind_eq_some_iff.mp H
                      obtain ⟨t298, A510, H⟩ := H
                      replace H : (if t298 = 0 then ((octets_Base64.f k3 t293).bind fun t299 => (some (t299.toList == x14_3.toList))) else (some true)) = some r := H
                      have A51 := Aside0.mk A510
                      clear A510
                      by_cases c52 : t298 = 0
                      · rw [if_pos c52] at H
                        have c52b0 : (t298 == 0) = true := beq_iff_eq.mpr c52
                        have c52b1 : (t298 != 0) = false := bne_eq_false_iff_eq.mpr c52
                        clear c52
                        replace H := Option.bind_eq_some_iff.mp H
                        obtain ⟨t299, A530, H⟩ := H
                        replace H : (some (t299.toList == x14_3.toList)) = some r := H
                        have A53 := Aside0.mk A530
                        clear A530
                        obtain rfl := Option.some.inj H
                        go_wp2_with (first | ((with_reducible refine gate_callee (f := 20) rfl ?_); refine goesL_ (some 99) rfl rfl Try.func20 (by kernel_rfl) rfl #[.int .i64 t294] rfl (by (try simp only [List.map_toArray, List.map_cons, List.map_nil]); first | done | rfl | (simp only [List.length_drop, List.length_take]; rfl)) ?_; (with_reducible refine (pergolalaw01_num.calls t294 t298 _ A51.out).mono ?_); rintro e w' ⟨rfl, ⟨nd, rfl⟩⟩; refine ⟨_, rfl, ?_⟩; obtain ⟨Ao54, co54, eo54⟩ := Kd.R_slice HO_8.out; subst eo54) | (go_at_call 17; (with_reducible refine (octets_Base64.calls k3 _ _ t293 t299 _ ?side1 ?side2 A53.out).mono ?_); (case side1 => repeat (first | exact (Kd.R_reads' HO_8.out).2.2 | (with_reducible refine Kd.C_alloc ?_ _) | (with_reducible refine Kd.C_drewN ?_ _) | (with_reducible refine Kd.C_drew ?_))); (case side2 => exact (Kd.R_reads' HO_8.out).2.1); rintro e w55 ⟨rfl, hb⟩; have n0_ := Aside0.mk (Kd.R_below (by (with_reducible repeat (first | apply Kd.R_alloc | apply Kd.R_drewN | apply Kd.R_drew)); exact HO_8.out) hb); have n1_ := Aside0.mk (below_step (by repeat (first | (with_reducible first | exact HB.out | apply below_alloc | apply pw_below_drewN | apply below_drew1) | exact HB.out)) hb); clear HO_8; clear HB; have HO_8 := n0_; have HB := n1_; clear n0_ n1_; (try clear hb); (try clear hb2); (try clear hk); (try clear hi)))
                        go_ret
                        exact ⟨by first | rfl | (simp [errW_none, errW_some] <;> rfl) | (simp [*, errW_none, errW_some] <;> rfl), by repeat (first | (with_reducible first | exact HB.out | apply below_alloc | apply pw_below_drewN | apply below_drew1) | exact HB.out)⟩
                      · rw [if_neg c52] at H
                        have c52b0 : (t298 == 0) = false := beq_eq_false_iff_ne.mpr c52
                        have c52b1 : (t298 != 0) = true := bne_iff_ne.mpr c52
                        obtain rfl := Option.some.inj H
                        go_wp2_with (first | ((with_reducible refine gate_callee (f := 20) rfl ?_); refine goesL_ (some 99) rfl rfl Try.func20 (by kernel_rfl) rfl #[.int .i64 t294] rfl (by (try simp only [List.map_toArray, List.map_cons, List.map_nil]); first | done | rfl | (simp only [List.length_drop, List.length_take]; rfl)) ?_; (with_reducible refine (pergolalaw01_num.calls t294 t298 _ A51.out).mono ?_); rintro e w' ⟨rfl, ⟨nd, rfl⟩⟩; refine ⟨_, rfl, ?_⟩))
                        go_ret
                        exact ⟨by first | rfl | (simp [errW_none, errW_some] <;> rfl) | (simp [*, errW_none, errW_some] <;> rfl), by repeat (first | (with_reducible first | exact HB.out | apply below_alloc | apply pw_below_drewN | apply below_drew1) | exact HB.out)⟩
                    · rw [if_neg c50] at H
                      have c50b0 : (((x14_3.size : Int) % 4) == 0) = false := beq_eq_false_iff_ne.mpr c50
                      have c50b1 : (((x14_3.size : Int) % 4) != 0) = true := bne_iff_ne.mpr c50
                      by_cases c56 : x14_3.size + 1 ≤ 9223372036854775807
                      · rw [if_pos c56] at H
                        have c56b0 := eq_true c56
                        have c56b1 : decide (x14_3.size + 1 ≤ 9223372036854775807) = true := decide_eq_true c56
                        try have c56b2 : (9223372036854775807 < x14_3.size + 1) = False := eq_false (Nat.not_lt.2 c56)
                        have H' := Aside0.mk H
                        clear H
                        go_wp2
                        go_roundg k3
                        case measure => have := HJ10.out; have := HJ37.out; have := HK3.out; omega
                        case rel => exact ⟨(x14_3 ++ (⟨#[61]⟩ : ByteArray)), (by first | rfl | (simp; done) | (simp [*]; done)), H', ⟨by have := HJ10.out; have := HJ37.out; have := HK3.out; omega⟩, ⟨by (with_reducible repeat (first | apply Kd.R_alloc | apply Kd.R_drewN | apply Kd.R_drew)); exact HO_8.out⟩, ⟨by repeat (first | (with_reducible first | exact HB.out | apply below_alloc | apply pw_below_drewN | apply below_drew1) | exact HB.out)⟩⟩
                      · rw [if_neg c56] at H
                        exact absurd H (by simp)
  · replace c4 := Bool.eq_false_iff.mpr c4
    subst c4
    have H1 : (some false) = some r := by rw [if_neg (show ¬ (false = true) by decide)] at H; exact H
    clear H
    have H := H1
    clear H1
    obtain rfl := Option.some.inj H
    go_enter Try.func6, Try.ntmps6
    go_wp2_with (first | ((with_reducible refine gate_callee (f := 8) rfl ?_); refine goesL_ (some 15) rfl rfl Try.func8 (by kernel_rfl) rfl #[] rfl (by (try simp only [List.map_toArray, List.map_cons, List.map_nil]); first | done | rfl | (simp only [List.length_drop, List.length_take]; rfl)) ?_; (with_reducible refine (pergolalaw01_alive.calls k  false _ A3.out).mono ?_); rintro e w57 ⟨rfl, hb⟩; refine ⟨_, rfl, ?_⟩; have n0_ := Aside0.mk (below_step (by repeat (first | (with_reducible first | exact HB.out | apply below_alloc | apply pw_below_drewN | apply below_drew1) | exact HB.out)) hb); clear HB; have HB := n0_; clear n0_; (try clear hb); (try clear hb2); (try clear hk); (try clear hi)))
    go_ret
    exact ⟨by first | rfl | (simp [errW_none, errW_some] <;> rfl) | (simp [*, errW_none, errW_some] <;> rfl), by repeat (first | (with_reducible first | exact HB.out | apply below_alloc | apply pw_below_drewN | apply below_drew1) | exact HB.out)⟩

/-- THE ONE PURE STATEMENT of pergolalaw01_OctetsBack: yours. -/
def pergolalaw01_OctetsBack.Pure : Prop := ∀ (l0 : List Int) (a1 : ByteArray), l0.length ≤ maxLen → l0.length * 1 ≤ 140737488351232 → (∀ x ∈ l0, (Lit.int .u8 x).wf = true) → a1.size ≤ 140737488351232 → ∃ k, pergolalaw01_OctetsBack.f k l0 a1 = some true
theorem pergolalaw01_OctetsBack.walk (P : pergolalaw01_OctetsBack.Pure) (a0 : Option Addr) (len0 cap0 : Nat) (z0 : List Int) (a1 : ByteArray) (w : World) (w0 : (a0 = none ∧ len0 = 0 ∧ cap0 = 0 ∧ z0 = []) ∨ ∃ x, a0 = some x ∧ len0 ≤ cap0 ∧ cap0 ≤ maxLen ∧ z0.length = cap0 ∧ (∀ i, i < z0.length → w.cell? (x.add i) = some (.int .u8 (z0.getD i 0))) ∧ ∀ n ∈ z0, (Lit.int .u8 n).wf = true) (y0 : len0 * 1 ≤ 140737488351232) (w1 : a1.size ≤ 140737488351232) :
    Calls Try.prog 6 #[.slice a0 len0 cap0, .string a1] w fun e w' => e = .returned (.bool true) ∧ Below w.heap.size w w' := by
  obtain ⟨l0, rfl, hr0, hm0, hw0, hc0⟩ := ReadsInt.ofRowC w0
  obtain ⟨k, h⟩ := P l0 a1 hm0 y0 hw0 w1
  refine (pergolalaw01_OctetsBack.calls k _ _ l0 a1 true w (Kd.C_of_reads (d := (0 : Int)) (h1 := fun _ => rfl) hr0) hc0 h).mono ?_
  rintro e w' ⟨rfl, hd⟩
  exact ⟨rfl, hd⟩

def pergolalaw01_OctetsBack.PureU : Prop := ∀ (l0 : List Int) (a1 : ByteArray), l0.length ≤ maxLen → l0.length ≤ 1048576 → (∀ x ∈ l0, (Lit.int .u8 x).wf = true) → a1.size ≤ 1048576 → ∃ k, pergolalaw01_OctetsBack.f k l0 a1 = some true
theorem pergolalaw01_OctetsBack.walkU (P : pergolalaw01_OctetsBack.PureU) (a0 : Option Addr) (len0 cap0 : Nat) (z0 : List Int) (a1 : ByteArray) (w : World) (w0 : (a0 = none ∧ len0 = 0 ∧ cap0 = 0 ∧ z0 = []) ∨ ∃ x, a0 = some x ∧ len0 ≤ cap0 ∧ cap0 ≤ maxLen ∧ z0.length = cap0 ∧ (∀ i, i < z0.length → w.cell? (x.add i) = some (.int .u8 (z0.getD i 0))) ∧ ∀ n ∈ z0, (Lit.int .u8 n).wf = true) (y0 : len0 ≤ 1048576) (w1 : a1.size ≤ 1048576) :
    Calls Try.prog 6 #[.slice a0 len0 cap0, .string a1] w fun e w' => e = .returned (.bool true) ∧ Below w.heap.size w w' := by
  obtain ⟨l0, rfl, hr0, hm0, hw0, hc0⟩ := ReadsInt.ofRowC w0
  obtain ⟨k, h⟩ := P l0 a1 hm0 y0 hw0 w1
  refine (pergolalaw01_OctetsBack.calls k _ _ l0 a1 true w (Kd.C_of_reads (d := (0 : Int)) (h1 := fun _ => rfl) hr0) hc0 h).mono ?_
  rintro e w' ⟨rfl, hd⟩
  exact ⟨rfl, hd⟩


-- NOT PRINTED: function 28 (pergolaplain_Book_Bytes)

-- NOT PRINTED: function 29 (pergolaplain_Book_Strings)

/-! ### octets_Split: function 30 -/
def octets_Split.l0 : Nat → ByteArray → Int → List ByteArray → Int → Int → Int → Option (List ByteArray)
  | 0, _, _, _, _, _, _ => none
  | k + 1, x0, x1, x5, x6, x9, x10 => if x10 < x9 then (if 0 ≤ x10 then (if x10 < (x0.size : Int) then (if (bt x0 x10) = x1 then (if 0 ≤ x6 then (if x6 ≤ x10 then (if x10 ≤ (x0.size : Int) then (if x5.length < 8796093022208 then (octets_Split.l0 k x0 x1 (x5 ++ [x0.extract (x6 : Int).toNat (x10 : Int).toNat]) (wrap64 (x10 + 1)) x9 (wrap64 (x10 + 1))) else (none)) else (none)) else (none)) else (none)) else (octets_Split.l0 k x0 x1 x5 x6 x9 (wrap64 (x10 + 1)))) else (none)) else (none)) else (if 0 ≤ x6 then (if x6 ≤ (x0.size : Int) then (if x5.length < 8796093022208 then (some (x5 ++ [x0.extract (x6 : Int).toNat x0.size])) else (none)) else (none)) else (none))
def octets_Split.f (k : Nat) (a0 : ByteArray) (a1 : Int) : Option (List ByteArray) := octets_Split.l0 k a0 a1 ([] : List ByteArray) 0 (a0.size : Int) 0
theorem octets_Split.mono_l : ∀ k, (∀ y0 y1 y2 y3 y4 y5, LeO (octets_Split.l0 k y0 y1 y2 y3 y4 y5) (octets_Split.l0 (k + 1) y0 y1 y2 y3 y4 y5))
  | 0 => fun _ _ _ _ _ _ r h => by simp [octets_Split.l0] at h
  | k + 1 => by
    have ih0 := octets_Split.mono_l k
    · intro y0 y1 y2 y3 y4 y5
      unfold octets_Split.l0
      repeat' first
      | (with_reducible exact ih0 _ _ _ _ _ _)
      | (with_reducible exact LeO.refl _)
      | (with_reducible exact LeO.none _)
      | (with_reducible refine LeO.ite ?_ ?_)
      | (with_reducible refine LeO.bind ?_ (fun _ => ?_))
      | exact ih0 _ _ _ _ _ _
      | exact LeO.none _
      | refine LeO.ite ?_ ?_
      | refine LeO.bind ?_ (fun _ => ?_)
theorem octets_Split.mono : ∀ a0 a1 k, LeO (octets_Split.f k a0 a1) (octets_Split.f (k + 1) a0 a1) := by
  intro a0 a1 k
  have ih0 := octets_Split.mono_l k
  unfold octets_Split.f
  repeat' first
      | (with_reducible exact ih0 _ _ _ _ _ _)
      | (with_reducible exact LeO.refl _)
      | (with_reducible exact LeO.none _)
      | (with_reducible refine LeO.ite ?_ ?_)
      | (with_reducible refine LeO.bind ?_ (fun _ => ?_))
      | exact ih0 _ _ _ _ _ _
      | exact LeO.none _
      | refine LeO.ite ?_ ?_
      | refine LeO.bind ?_ (fun _ => ?_)
set_option maxHeartbeats 8000000 in
set_option maxRecDepth 100000 in
theorem octets_Split.calls (k : Nat) (a0 : ByteArray) (a1 : Int) (r : List ByteArray) (w : World) (h : octets_Split.f k a0 a1 = some r) :
    Calls Try.prog 30 #[.string a0, .int .u8 a1] w fun e w' => ∃ v0_ : Value, e = .returned (v0_) ∧ Kd.R Kd.string 9 w' w.heap.size (fun _ => True) v0_ r ∧ Below w.heap.size w w' := by
  have HB := Aside0.mk (Below.refl w.heap.size w)
  have H : (octets_Split.l0 k a0 a1 ([] : List ByteArray) 0 (a0.size : Int) 0) = some r := h
  clear h
  have H' := Aside0.mk H
  clear H
  go_enter Try.func30, Try.ntmps30
  go_wp2
  go_loopg [5, 6, 10] k (fun kq v5 v6 v10 w' => ∃ (x5_1 : List ByteArray) (x6_1 : Int) (x10_1 : Int), v6 = .int .i64 x6_1 ∧ v10 = .int .i64 x10_1 ∧ Aside0 (octets_Split.l0 kq a0 a1 x5_1 x6_1 (a0.size : Int) x10_1 = some r) ∧ Aside0 (kq ≤ k) ∧ Aside0 (Kd.R Kd.string 9 w' w.heap.size (fun _ => True) v5 x5_1) ∧ Aside0 (Below w.heap.size w w'))
  case atStart => exact ⟨(([] : List ByteArray)), (0), (0), (by first | rfl | (simp; done) | (simp [*]; done)), (by first | rfl | (simp; done) | (simp [*]; done)), H', ⟨Nat.le_refl _⟩, ⟨by first | exact Kd.R_nil _ _ _ _ _ | exact Kd.N_nil _ _ _ _ _ | exact Kd.V_nil _ _ _ _ _ | exact Kd.Q_nil _ _ _ _ _ | exact Kd.S_nil _ _ _ _ _⟩, ⟨by repeat (first | (with_reducible first | exact HB.out | apply below_alloc | apply pw_below_drewN | apply below_drew1) | exact HB.out)⟩⟩
  case round =>
    clear H'
    try clear p2
    obtain ⟨x5_1, x6_1, x10_1, rfl, rfl, HA, HK1, HO_5, HB⟩ := hrel
    cases gk with
    | zero => exact absurd HA.out (by simp [octets_Split.l0])
    | succ k1 =>
      have H := HA.out
      clear HA
      simp only [octets_Split.l0] at H
      by_cases c3 : x10_1 < (a0.size : Int)
      · rw [if_pos c3] at H
        have c3b0 : decide (x10_1 < (a0.size : Int)) = true := decide_eq_true c3
        clear c3
        by_cases c4 : 0 ≤ x10_1
        · rw [if_pos c4] at H
          have c4b0 : decide (0 ≤ x10_1) = true := decide_eq_true c4
          clear c4
          by_cases c5 : x10_1 < (a0.size : Int)
          · rw [if_pos c5] at H
            have c5b0 : decide (x10_1 < (a0.size : Int)) = true := decide_eq_true c5
            clear c5
            by_cases c7 : (bt a0 x10_1) = a1
            · rw [if_pos c7] at H
              have c7b0 : ((bt a0 x10_1) == a1) = true := beq_iff_eq.mpr c7
              have c7b1 : ((bt a0 x10_1) != a1) = false := bne_eq_false_iff_eq.mpr c7
              clear c7
              by_cases c8 : 0 ≤ x6_1
              · rw [if_pos c8] at H
                have c8b0 := eq_true c8
                have c8b1 : decide (0 ≤ x6_1) = true := decide_eq_true c8
                clear c8
                by_cases c9 : x6_1 ≤ x10_1
                · rw [if_pos c9] at H
                  have c9b0 := eq_true c9
                  have c9b1 : decide (x6_1 ≤ x10_1) = true := decide_eq_true c9
                  clear c9
                  by_cases c10 : x10_1 ≤ (a0.size : Int)
                  · rw [if_pos c10] at H
                    have c10b0 := eq_true c10
                    have c10b1 : decide (x10_1 ≤ (a0.size : Int)) = true := decide_eq_true c10
                    clear c10
                    by_cases c11 : x5_1.length < 8796093022208
                    · rw [if_pos c11] at H
                      have LMc11 := Aside0.mk c11
                      clear c11
                      obtain ⟨y300, hy300⟩ : ∃ y_ : List ByteArray, y_ = (x5_1 ++ [a0.extract (x6_1 : Int).toNat (x10_1 : Int).toNat]) := ⟨_, rfl⟩
                      replace H : (octets_Split.l0 k1 a0 a1 y300 (wrap64 (x10_1 + 1)) (a0.size : Int) (wrap64 (x10_1 + 1))) = some r := by first | (rw [hy300]; with_reducible exact H) | (have H2_ := (Option.bind_some _ _).symm.trans H; rw [hy300]; with_reducible exact H2_) | (have H2_ := (Option.bind_some _ _).symm.trans H; with_reducible exact H2_) | with_reducible exact H | (rw [hy300]; exact H) | exact H
                      have Ny300 := Aside0.mk hy300
                      clear hy300
                      have H' := Aside0.mk H
                      clear H
                      have p6 : 0 ≤ (x10_1 : Int) := of_decide_eq_true (by first | (with_reducible assumption) | assumption)
                      have q6 : x10_1 < (a0.size : Int) := of_decide_eq_true (by first | (with_reducible assumption) | assumption)
                      have hx6 := bt_at a0 x10_1
                      replace p6 := eq_true p6
                      replace q6 := eq_true q6
                      go_wp2_with (first | ((with_reducible refine gate_builtin (b := .append) (xs := #[.tmp 18, .tmp 23]) rfl ?_); at_builtin; refine Kd.R_append Kd.string (w0 := w) w.heap.size rfl (.tmp 18) (.tmp 23) 66 9 (.string ⟨#[]⟩) 16 rfl Try.underlying66 info9 rfl (by decide) (by omega) u5 x5_1 (a0.extract (x6_1 : Int).toNat (x10_1 : Int).toNat) [.string (a0.extract (x6_1 : Int).toNat (x10_1 : Int).toNat)] (fun _ => True) (fun _ => False) rfl rfl ?aP (fun _ hk => hk.elim) ?aF ?aO ?aB ?aS ?aL ?_; (case aP => exact rfl); (case aB => exact (by repeat (first | (with_reducible first | exact HB.out | apply below_alloc | apply pw_below_drewN | apply below_drew1) | exact HB.out))); (case aF => exact (fun _ _ => trivial)); (case aO => exact (by (with_reducible repeat (first | apply Kd.R_alloc | apply Kd.R_drewN | apply Kd.R_drew)); exact HO_5.out)); (case aS => exact (below_size (by repeat (first | (with_reducible first | exact HB.out | apply below_alloc | apply pw_below_drewN | apply below_drew1) | exact HB.out)))); (case aL => have := LMc11.out; omega); intro v301 w12 ho hb hg hat; rw [← Ny300.out] at ho; have n0_ := Aside0.mk (hb); have n1_ := Aside0.mk (ho); clear HB; clear HO_5; have HB := n0_; have HO302 := n1_; clear n0_ n1_; clear ho hb hg hat))
                      go_roundg k1
                      case measure => have := HK1.out; omega
                      case rel => exact ⟨(y300), (wrap64 (x10_1 + 1)), (wrap64 (x10_1 + 1)), (by first | rfl | (simp; done) | (simp [*]; done)), (by first | rfl | (simp; done) | (simp [*]; done)), H', ⟨by have := HK1.out; omega⟩, ⟨by (with_reducible repeat (first | apply Kd.R_alloc | apply Kd.R_drewN | apply Kd.R_drew)); exact HO302.out⟩, ⟨by repeat (first | (with_reducible first | exact HB.out | apply below_alloc | apply pw_below_drewN | apply below_drew1) | exact HB.out)⟩⟩
                    · rw [if_neg c11] at H
                      exact absurd H (by simp)
                  · rw [if_neg c10] at H
                    exact absurd H (by simp)
                · rw [if_neg c9] at H
                  exact absurd H (by simp)
              · rw [if_neg c8] at H
                exact absurd H (by simp)
            · rw [if_neg c7] at H
              have c7b0 : ((bt a0 x10_1) == a1) = false := beq_eq_false_iff_ne.mpr c7
              have c7b1 : ((bt a0 x10_1) != a1) = true := bne_iff_ne.mpr c7
              have H' := Aside0.mk H
              clear H
              have p6 : 0 ≤ (x10_1 : Int) := of_decide_eq_true (by first | (with_reducible assumption) | assumption)
              have q6 : x10_1 < (a0.size : Int) := of_decide_eq_true (by first | (with_reducible assumption) | assumption)
              have hx6 := bt_at a0 x10_1
              replace p6 := eq_true p6
              replace q6 := eq_true q6
              go_wp2
              go_roundg k1
              case measure => have := HK1.out; omega
              case rel => exact ⟨(x5_1), (x6_1), (wrap64 (x10_1 + 1)), (by first | rfl | (simp; done) | (simp [*]; done)), (by first | rfl | (simp; done) | (simp [*]; done)), H', ⟨by have := HK1.out; omega⟩, ⟨by (with_reducible repeat (first | apply Kd.R_alloc | apply Kd.R_drewN | apply Kd.R_drew)); exact HO_5.out⟩, ⟨by repeat (first | (with_reducible first | exact HB.out | apply below_alloc | apply pw_below_drewN | apply below_drew1) | exact HB.out)⟩⟩
          · rw [if_neg c5] at H
            exact absurd H (by simp)
        · rw [if_neg c4] at H
          exact absurd H (by simp)
      · rw [if_neg c3] at H
        have c3b0 : decide (x10_1 < (a0.size : Int)) = false := decide_eq_false c3
        clear c3
        by_cases c13 : 0 ≤ x6_1
        · rw [if_pos c13] at H
          have c13b0 := eq_true c13
          have c13b1 : decide (0 ≤ x6_1) = true := decide_eq_true c13
          clear c13
          by_cases c14 : x6_1 ≤ (a0.size : Int)
          · rw [if_pos c14] at H
            have c14b0 := eq_true c14
            have c14b1 : decide (x6_1 ≤ (a0.size : Int)) = true := decide_eq_true c14
            clear c14
            by_cases c15 : x5_1.length < 8796093022208
            · rw [if_pos c15] at H
              have LMc15 := Aside0.mk c15
              clear c15
              obtain ⟨y303, hy303⟩ : ∃ y_ : List ByteArray, y_ = (x5_1 ++ [a0.extract (x6_1 : Int).toNat a0.size]) := ⟨_, rfl⟩
              replace H : (some y303) = some r := by first | (rw [hy303]; with_reducible exact H) | (have H2_ := (Option.bind_some _ _).symm.trans H; rw [hy303]; with_reducible exact H2_) | (have H2_ := (Option.bind_some _ _).symm.trans H; with_reducible exact H2_) | with_reducible exact H | (rw [hy303]; exact H) | exact H
              have Ny303 := Aside0.mk hy303
              clear hy303
              obtain rfl := Option.some.inj H
              go_wp2_with (first | ((with_reducible refine gate_builtin (b := .append) (xs := #[.tmp 28, .tmp 32]) rfl ?_); at_builtin; refine Kd.R_append Kd.string (w0 := w) w.heap.size rfl (.tmp 28) (.tmp 32) 66 9 (.string ⟨#[]⟩) 16 rfl Try.underlying66 info9 rfl (by decide) (by omega) u5 x5_1 (a0.extract (x6_1 : Int).toNat a0.size) [.string (a0.extract (x6_1 : Int).toNat a0.size)] (fun _ => True) (fun _ => False) rfl rfl ?aP (fun _ hk => hk.elim) ?aF ?aO ?aB ?aS ?aL ?_; (case aP => exact rfl); (case aB => exact (by repeat (first | (with_reducible first | exact HB.out | apply below_alloc | apply pw_below_drewN | apply below_drew1) | exact HB.out))); (case aF => exact (fun _ _ => trivial)); (case aO => exact (by (with_reducible repeat (first | apply Kd.R_alloc | apply Kd.R_drewN | apply Kd.R_drew)); exact HO_5.out)); (case aS => exact (below_size (by repeat (first | (with_reducible first | exact HB.out | apply below_alloc | apply pw_below_drewN | apply below_drew1) | exact HB.out)))); (case aL => have := LMc15.out; omega); intro v304 w16 ho hb hg hat; rw [← Ny303.out] at ho; have n0_ := Aside0.mk (hb); have n1_ := Aside0.mk (ho); clear HB; clear HO_5; have HB := n0_; have HO305 := n1_; clear n0_ n1_; clear ho hb hg hat))
              go_ret
              exact ⟨_, by first | rfl | (simp [errW_none, errW_some] <;> rfl) | (simp [*, errW_none, errW_some] <;> rfl), by (with_reducible repeat (first | apply Kd.R_alloc | apply Kd.R_drewN | apply Kd.R_drew)); exact HO305.out, by repeat (first | (with_reducible first | exact HB.out | apply below_alloc | apply pw_below_drewN | apply below_drew1) | exact HB.out)⟩
            · rw [if_neg c15] at H
              exact absurd H (by simp)
          · rw [if_neg c14] at H
            exact absurd H (by simp)
        · rw [if_neg c13] at H
          exact absurd H (by simp)

end Go.Proofs.Ytknmcpccljmfdaa.X
