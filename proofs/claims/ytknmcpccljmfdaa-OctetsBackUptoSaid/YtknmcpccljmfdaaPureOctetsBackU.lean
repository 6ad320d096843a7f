/- There and back, by digits, by threes, by characters, and what is taken told again: for every list of bytes and every text of together at most 1048576 values and letters the law OctetsBack answers true. -/
import Derived.Test.YtknmcpccljmfdaaX20
import Derived.Test.YtknmcpccljmfdaaPHex
import Derived.Test.YtknmcpccljmfdaaPB64Back
import Derived.Test.YtknmcpccljmfdaaPChars
namespace Go.Proofs.Ytknmcpccljmfdaa.Pure
open Go.RowKit Go.Proofs.Ytknmcpccljmfdaa.X Go.Proofs.YtknmcpccljmfdaaW.PrintWords Go.Proofs.YtknmcpccljmfdaaW.PrintLast Go.Proofs.YtknmcpccljmfdaaW.PrintMore

theorem back_alive : Ev (fun k => pergolalaw01_alive.f k) true := Ev.of pergolalaw01_alive.mono (k := 200) (by decide +kernel)
theorem same_l0 (l : List Int) (hn : l.length ≤ 140737488355328) (d : Nat) : ∀ (i : Nat), i + d = l.length → Ev (fun k => pergolaplain_SameBytes.l0 k l l (i : Int)) true := by
  induction d with
  | zero =>
    intro i hi
    refine Ev.step (f := fun _ => some true) (fun k => ?_) (Ev.now _)
    rw [pergolaplain_SameBytes.l0, if_neg (by omega)]
  | succ d ih =>
    intro i hi
    have hw : wrap64 ((i : Int) + 1) = ((i + 1 : Nat) : Int) := by unfold wrap64; omega
    refine Ev.step (f := fun k => pergolaplain_SameBytes.l0 k l l ((i + 1 : Nat) : Int)) (fun k => ?_) (ih (i + 1) (by omega))
    rw [pergolaplain_SameBytes.l0, if_pos (by omega), if_pos (by omega), if_pos (by omega), if_pos rfl, hw]
theorem same_f (l : List Int) (hn : l.length ≤ 140737488355328) : Ev (fun k => pergolaplain_SameBytes.f k l l) true := by
  refine Ev.congr (fun k => ?_) (same_l0 l hn l.length 0 (by omega))
  rw [pergolaplain_SameBytes.f, if_pos rfl]
  rfl
/-- Small letters. -/
def low (c : Int) : Int := turn1 65 90 c
theorem hexd_low : ∀ c, 0 ≤ c ∧ c < 256 → 0 ≤ nib c → hexd (nib c) = low c := fun c hc =>
  byte_all (p := fun c => 0 ≤ nib c → hexd (nib c) = low c) (by decide +kernel) hc
theorem low_byte {c : Int} (h : 0 ≤ c ∧ c < 256) : 0 ≤ low c ∧ low c < 256 := byte_all (p := fun c => 0 ≤ low c ∧ low c < 256) (by decide +kernel) h
theorem lower_f (s : ByteArray) (hs : s.size ≤ 140737488355328) : octets_Lower.f s = some (strOfNums ((bytesOf s).map low)) := by
  rw [octets_Lower.f, octets_turned.f, if_pos (by omega)]
  rfl
theorem map_low_bytes (s : ByteArray) : Bytes ((bytesOf s).map low) := fun x hx => by
  obtain ⟨c, hc, rfl⟩ := List.mem_map.1 hx
  exact low_byte (Bytes.of s c hc)
/-- Filled up with '='. -/
theorem full_l0 (y : List Int) (e : Int) (hb : e = 0 → Ev (fun k => octets_Base64.f k y) (strOfNums (b64L y))) (d : Nat) : ∀ (x : List Int), Bytes x → x.length ≤ 2097152 → (4 - x.length % 4) % 4 = d → (e = 0 → b64L y = x ++ List.replicate d 61) →
    Ev (fun k => pergolalaw01_OctetsBack.l0 k y e (strOfNums x)) true := by
  induction d with
  | zero =>
    intro x hx hn hd hr
    by_cases he : e = 0
    · have := hr he
      rw [List.replicate_zero, List.append_nil] at this
      refine Ev.step (f := fun k => (octets_Base64.f k y).bind fun t299 => (some (t299.toList == (strOfNums x).toList))) (fun k => ?_) (Ev.bind (hb he) ?_)
      · rw [pergolalaw01_OctetsBack.l0, if_pos (by rw [size_str]; omega), pergolalaw01_num.f, Option.bind_some, if_pos he]
      · rw [this]
        simp
        exact Ev.now _
    · refine Ev.step (f := fun _ => some true) (fun k => ?_) (Ev.now _)
      rw [pergolalaw01_OctetsBack.l0, if_pos (by rw [size_str]; omega), pergolalaw01_num.f, Option.bind_some, if_neg he]
  | succ d ih =>
    intro x hx hn hd hr
    have e61 : (⟨#[61]⟩ : ByteArray) = strOfNums [61] := by decide +kernel
    have happ : strOfNums x ++ strOfNums [61] = strOfNums (x ++ [61]) := by
      refine ByteArray.ext (Array.ext' ?_)
      rw [ByteArray.data_append, Array.toList_append, strOfNums_data, strOfNums_data, strOfNums_data, List.map_append]
    refine Ev.step (f := fun k => pergolalaw01_OctetsBack.l0 k y e (strOfNums (x ++ [61]))) (fun k => ?_) (ih (x ++ [61]) (hx.append (Bytes.cons (by omega) Bytes.nil)) (by simp; omega) (by simp; omega) (fun h2 => by rw [hr h2, List.replicate_succ]; simp))
    rw [pergolalaw01_OctetsBack.l0, if_neg (by rw [size_str]; omega), if_pos (by rw [size_str]; omega), e61, happ]
theorem back_j1 (s : ByteArray) (hs : s.size ≤ 1048576) : Ev (fun k => pergolalaw01_OctetsBack.j1 k s false) true := by
  have h := unbase64_f s (by omega)
  rcases hu : ub (bytesOf s) with ⟨y, e, z⟩
  rw [hu] at h
  have hfull := full_l0 y e (fun he => by
      subst he
      obtain ⟨h1, h2⟩ := ub_back _ y z (Bytes.of s) hu
      have hl : (b64L y).length ≤ 1048580 := by
        have := congrArg List.length h2
        simp at this
        have := bytesOf_length s
        omega
      have hyl : y.length ≤ (b64L y).length := b64L_long y.length y (Nat.le_refl _)
      exact base64_f y h1 (by omega)) ((4 - (bytesOf s).length % 4) % 4) (bytesOf s) (Bytes.of s) (by rw [bytesOf_length]; omega) rfl (fun he => by
      subst he
      exact (ub_back _ y z (Bytes.of s) hu).2)
  rw [str_bytesOf] at hfull
  refine Ev.step (f := fun k => (octets_Unbase64.f k s).bind fun bt293 => (pergolalaw01_OctetsBack.l0 k bt293.1 bt293.2.1 s)) (fun k => ?_) (Ev.bind h hfull)
  rw [pergolalaw01_OctetsBack.j1, if_neg (by simp)]
theorem back_j0 (s : ByteArray) (hs : s.size ≤ 1048576) : Ev (fun k => pergolalaw01_OctetsBack.j0 k s false) true := by
  have h := unhex_f s (by omega)
  rcases hu : unGo (bytesOf s) 0 [] with ⟨y, e, z⟩
  rw [hu] at h
  refine Ev.step (f := fun k => (octets_Unhex.f k s).bind fun bt285 => ((pergolalaw01_num.f bt285.2.1).bind fun t290 => (if t290 = 0 then ((octets_Hex.f k bt285.1).bind fun t291 => ((octets_Lower.f s).bind fun t292 => (pergolalaw01_OctetsBack.j1 k s (t291.toList != t292.toList)))) else (pergolalaw01_OctetsBack.j1 k s false)))) (fun k => ?_) (Ev.bind h ?_)
  · rw [pergolalaw01_OctetsBack.j0, if_neg (by simp)]
  · by_cases he : e = 0
    · obtain ⟨r, h1, h2, h3⟩ := unGo_back low hexd_low (bytesOf s).length (bytesOf s) (Nat.le_refl _) (Bytes.of s) 0 [] y rfl e z hu he
      rw [List.nil_append] at h1
      subst h1
      have hl : y.length ≤ 1048576 := by
        have := congrArg List.length h2
        rw [hexL_length, List.length_map, bytesOf_length] at this
        omega
      have hx := hex_f y h3 (by omega)
      rw [h2] at hx
      refine Ev.congr (f := fun k => (octets_Hex.f k y).bind fun t291 => ((octets_Lower.f s).bind fun t292 => (pergolalaw01_OctetsBack.j1 k s (t291.toList != t292.toList)))) (fun k => ?_) (Ev.bind hx ?_)
      · rw [pergolalaw01_num.f, Option.bind_some, if_pos he]
      · refine Ev.congr (f := fun k => pergolalaw01_OctetsBack.j1 k s false) (fun k => ?_) (back_j1 s hs)
        rw [lower_f s (by omega), Option.bind_some]
        simp
    · refine Ev.congr (f := fun k => pergolalaw01_OctetsBack.j1 k s false) (fun k => ?_) (back_j1 s hs)
      rw [pergolalaw01_num.f, Option.bind_some, if_neg he]
theorem OctetsBackU : pergolalaw01_OctetsBack.PureU := by
  intro l s _ hn hl hs
  have hb := bytes_of_wf hl
  have u1 := unhex_f (strOfNums (hexL l)) (by rw [size_str, hexL_length]; omega)
  have eu1 : unGo (bytesOf (strOfNums (hexL l))) 0 [] = (l, 0, 0) := by
    rw [bytesOf_str (hexL_bytes l)]
    exact unGo_hexL l hb 0 [] rfl
  rw [eu1] at u1
  have hl64 := b64L_len l.length l (Nat.le_refl _)
  have u2 := unbase64_f (strOfNums (b64L l)) (by rw [size_str]; omega)
  rw [bytesOf_str (b64L_bytes l.length l (Nat.le_refl _)), ub_b64L l hb] at u2
  refine Ev.rounds ?_
  unfold pergolalaw01_OctetsBack.f
  refine Ev.bind back_alive ?_
  refine Ev.congr (fun k => if_pos rfl) ?_
  refine Ev.bind (hex_f l hb (by omega)) ?_
  refine Ev.bind u1 ?_
  refine Ev.bind (base64_f l hb (by omega)) ?_
  refine Ev.bind u2 ?_
  refine Ev.bind (chars_f l hb (by omega)) ?_
  refine Ev.bind (bytes_f l hb (by omega)) ?_
  refine Ev.congr (f := fun k => (pergolaplain_SameBytes.f k l l).bind fun t282 => (if t282 = true then ((pergolaplain_SameBytes.f k l l).bind fun t283 => (if t283 = true then ((pergolaplain_SameBytes.f k l l).bind fun t284 => (pergolalaw01_OctetsBack.j0 k s (!t284))) else (pergolalaw01_OctetsBack.j0 k s true))) else (pergolalaw01_OctetsBack.j0 k s true))) (fun k => ?_) ?_
  · simp only [pergolalaw01_num.f]
    rw [Option.bind_some, if_pos rfl, Option.bind_some, if_pos rfl, Option.bind_some, if_pos rfl]
  · have hsame := same_f l (by omega)
    refine Ev.bind hsame (Ev.congr (fun k => if_pos rfl) (Ev.bind hsame (Ev.congr (fun k => if_pos rfl) (Ev.bind hsame ?_))))
    exact back_j0 s hs
end Go.Proofs.Ytknmcpccljmfdaa.Pure
