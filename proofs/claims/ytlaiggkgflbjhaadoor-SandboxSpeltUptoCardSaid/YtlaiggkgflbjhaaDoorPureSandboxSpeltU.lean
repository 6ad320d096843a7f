/- Order, doubling, capital letters and white space change nothing, for any text of at most 1048576 bytes: the law SandboxSpelt answers true. -/
import Derived.Test.YtlaiggkgflbjhaaDoorPParse
import Derived.Test.YtlaiggkgflbjhaaDoorX7
namespace Go.Proofs.YtlaiggkgflbjhaaDoor.Pure
open Go.RowKit Go.Proofs.YtlaiggkgflbjhaaDoor.X Go.Proofs.YtlaiggkgflbjhaaDoorW.PrintWords Go.Proofs.YtlaiggkgflbjhaaDoorW.PrintLast Go.Proofs.YtlaiggkgflbjhaaDoorW.PrintMore

/-- The text that is written anew: of every word its capitals, and itself. -/
def tx (l : List (List Int)) : List Int := l.flatMap fun w => 10 :: (w.map upp ++ 9 :: w)
theorem tx_app (l m : List (List Int)) : tx (l ++ m) = tx l ++ tx m := List.flatMap_append
theorem tx_one (w : List Int) : tx [w] = 10 :: (w.map upp ++ 9 :: w) := by unfold tx; rw [List.flatMap_singleton]
theorem tx_len (l : List (List Int)) : (tx l).length = 2 * (l.map fun w => w.length + 1).sum := by
  induction l with
  | nil => rfl
  | cons w t ih =>
    rw [show w :: t = [w] ++ t from rfl, tx_app, List.length_append, ih, tx_one, List.map_append, List.sum_append]
    simp only [List.length_cons, List.length_append, List.length_map, List.map_cons, List.map_nil, List.sum_cons, List.sum_nil]
    omega
theorem bl_upp {c : Int} (h : 0 ≤ c ∧ c < 256) : bl c = false → bl (upp c) = false := byte_all (p := fun c => bl c = false → bl (upp c) = false) (by decide +kernel) h
theorem wd_nb (u : List Int) (hu : ∀ c ∈ u, bl c = false) : ∀ (t cur : List Int), wd (u ++ t) cur = wd t (cur ++ u) := by
  induction u with
  | nil => intro t cur; rw [List.nil_append, List.append_nil]
  | cons a u ih =>
    intro t cur
    have ha : bl a = false := hu a (by simp)
    rw [List.cons_append, wd, ha, if_neg (by decide), ih (fun c h => hu c (List.mem_cons_of_mem a h)), List.append_assoc]
    rfl
def Words (l : List (List Int)) : Prop := ∀ w ∈ l, w ≠ [] ∧ (∀ c ∈ w, bl c = false) ∧ Bytes w
theorem wd_tx (l : List (List Int)) : Words l → ∀ cur : List Int, wd (tx l) cur = (if cur = [] then [] else [cur]) ++ l.flatMap fun w => [w.map upp, w] := by
  induction l with
  | nil =>
    intro _ cur
    show wd [] cur = _
    rw [wd, List.flatMap_nil, List.append_nil]
  | cons w t ih =>
    intro h cur
    obtain ⟨h1, h2, h3⟩ := h w (by simp)
    have hu : ∀ c ∈ w.map upp, bl c = false := fun c hc => by
      obtain ⟨b, hb, rfl⟩ := List.mem_map.1 hc
      exact bl_upp (h3 b hb) (h2 b hb)
    have hne : w.map upp ≠ [] := fun e => h1 (List.map_eq_nil_iff.1 e)
    have e1 : wd (w.map upp ++ (9 :: (w ++ tx t))) [] = w.map upp :: ([w] ++ t.flatMap fun w => [w.map upp, w]) := by
      rw [wd_nb _ hu, List.nil_append, wd, if_pos (show bl 9 = true by decide), if_neg hne, wd_nb w h2, List.nil_append, ih (fun w hw => h w (List.mem_cons_of_mem _ hw)) w, if_neg h1]
    rw [show w :: t = [w] ++ t from rfl, tx_app, tx_one, List.cons_append, List.append_assoc, List.cons_append, wd, if_pos (show bl 10 = true by decide), e1, List.flatMap_append, List.flatMap_singleton]
    by_cases hc : cur = []
    · rw [if_pos hc, if_pos hc]
      rfl
    · rw [if_neg hc, if_neg hc]
      rfl
theorem ws_words (s : ByteArray) : Words (wd (bytesOf s) []) := fun w hw => by
  obtain ⟨h1, h2, h3⟩ := wd_ok (bytesOf s) [] (fun c h => by cases h) w hw
  refine ⟨h1, h2, fun c hc => ?_⟩
  rcases h3 c hc with e | e
  · cases e
  · exact Bytes.of s c e
theorem tx_bytes (l : List (List Int)) (h : Words l) : Bytes (tx l) := fun x hx => by
  obtain ⟨w, hw, hx⟩ := List.mem_flatMap.1 hx
  have hb := (h w hw).2.2
  rcases List.mem_cons.1 hx with rfl | hx
  · omega
  · rcases List.mem_append.1 hx with hx | hx
    · obtain ⟨c, hc, rfl⟩ := List.mem_map.1 hx
      exact upp_byte (hb c hc)
    · rcases List.mem_cons.1 hx with rfl | hx
      · omega
      · exact hb x hx
/-- The words of the text that is written anew, lowered: those of the text. -/
theorem tx_lows (l : List (List Int)) (h : Words l) (v : ByteArray) : v ∈ wl (strOfNums (tx l.reverse)) ↔ v ∈ (l.map strOfNums).map lw := by
  have hr : Words l.reverse := fun w hw => h w (List.mem_reverse.1 hw)
  have hlow : ∀ w ∈ l, lw (strOfNums (w.map upp)) = lw (strOfNums w) := fun w hw => by
    have hb := (h w hw).2.2
    have hbu : Bytes (w.map upp) := fun x hx => by
      obtain ⟨c, hc, rfl⟩ := List.mem_map.1 hx
      exact upp_byte (hb c hc)
    unfold lw
    rw [bytesOf_str hb, bytesOf_str hbu, List.map_map]
    congr 1
    exact List.map_congr_left fun c hc => low_upp (hb c hc)
  unfold wl ws
  rw [bytesOf_str (tx_bytes _ hr), wd_tx _ hr [], if_pos rfl, List.nil_append, List.mem_map, List.mem_map]
  constructor
  · rintro ⟨x, hx, rfl⟩
    obtain ⟨u, hu, rfl⟩ := List.mem_map.1 hx
    obtain ⟨w, hw, hu⟩ := List.mem_flatMap.1 hu
    have hw' := List.mem_reverse.1 hw
    refine ⟨strOfNums w, List.mem_map.2 ⟨w, hw', rfl⟩, ?_⟩
    rcases List.mem_cons.1 hu with rfl | hu
    · exact (hlow w hw').symm
    · obtain rfl := List.mem_singleton.1 hu
      rfl
  · rintro ⟨x, hx, rfl⟩
    obtain ⟨w, hw, rfl⟩ := List.mem_map.1 hx
    exact ⟨strOfNums w, List.mem_map.2 ⟨w, List.mem_flatMap.2 ⟨w, List.mem_reverse.2 hw, by simp⟩, rfl⟩, rfl⟩
theorem str_app (l m : List Int) : strOfNums (l ++ m) = strOfNums l ++ strOfNums m := by
  apply bytesOf_inj
  unfold bytesOf
  rw [ByteArray.data_append]
  unfold strOfNums
  simp
theorem spelt_l0 (s : ByteArray) (hs : s.size ≤ 1048576) (R : Bool)
    (h : Ev (fun k => pergolalaw17_SandboxSpelt.l0 k s (ws s) (strOfNums (tx (wd (bytesOf s) []).reverse)) (-1)) R) (d : Nat) : d ≤ (wd (bytesOf s) []).length →
    Ev (fun k => pergolalaw17_SandboxSpelt.l0 k s (ws s) (strOfNums (tx ((wd (bytesOf s) []).drop d).reverse)) ((d : Int) - 1)) R := by
  induction d with
  | zero => intro _; exact h
  | succ d ih =>
    intro hd
    have hW := ws_words s
    have hl := ws_len s
    have hlen : (ws s).length = (wd (bytesOf s) []).length := by unfold ws; rw [List.length_map]
    have hsum := wd_size (bytesOf s) []
    rw [bytesOf_length, List.length_nil] at hsum
    have hx : rdOf ByteArray.empty (ws s) (((d + 1 : Nat) : Int) - 1) = strOfNums ((wd (bytesOf s) []).getD d []) := by
      unfold rdOf ws
      rw [show (((d + 1 : Nat) : Int) - 1).toNat = d by omega, List.getD_eq_getElem?_getD, List.getD_eq_getElem?_getD, List.getElem?_map, List.getElem?_eq_getElem (by omega)]
      rfl
    have hm : (wd (bytesOf s) []).getD d [] ∈ wd (bytesOf s) [] := by
      rw [List.getD_eq_getElem?_getD, List.getElem?_eq_getElem (by omega)]
      exact List.getElem_mem _
    have hdrop := drop_at [] (show d < (wd (bytesOf s) []).length by omega)
    have hcut := congrArg (fun l => (l.map fun w => w.length + 1).sum) (List.take_append_drop d (wd (bytesOf s) []))
    simp only [List.map_append, List.sum_append] at hcut
    have hlt := tx_len ((wd (bytesOf s) []).drop (d + 1)).reverse
    rw [List.map_reverse, List.sum_reverse] at hlt
    rw [hdrop, List.map_cons, List.sum_cons] at hcut
    have ihd := ih (by omega)
    rw [hdrop, List.reverse_cons, tx_app, tx_one] at ihd
    have hwb := (hW _ hm).2.2
    generalize (wd (bytesOf s) []).getD d [] = w at *
    generalize tx ((wd (bytesOf s) []).drop (d + 1)).reverse = X at *
    have hup : octets_Upper.f (strOfNums w) = some (strOfNums (w.map upp)) := by
      rw [upper_f _ (by rw [size_str]; omega), bytesOf_str hwb]
    have e10 : (⟨#[10]⟩ : ByteArray) = strOfNums [10] := by decide +kernel
    have e9 : (⟨#[9]⟩ : ByteArray) = strOfNums [9] := by decide +kernel
    have hw : wrap64 (((d + 1 : Nat) : Int) - 1 - 1) = (d : Int) - 1 := by unfold wrap64; omega
    refine Ev.step (fun k => ?_) ihd
    rw [pergolalaw17_SandboxSpelt.l0, hx, hup, Option.bind_some, hw, e10, e9, ← str_app, ← str_app, ← str_app, ← str_app, if_pos (by omega), if_pos (by rw [size_str]; omega), if_pos (by omega), if_pos (by omega), if_pos (by simp only [size_str, List.length_append, List.length_singleton, List.length_map]; omega), if_pos (by simp only [size_str, List.length_append, List.length_singleton, List.length_map]; omega), if_pos (by simp only [size_str, List.length_append, List.length_singleton, List.length_map]; omega)]
    congr 2
    simp only [List.append_assoc, List.cons_append, List.nil_append]
theorem SandboxSpeltU : pergolalaw17_SandboxSpelt.PureU := by
  intro s hs
  have hW := ws_words s
  have hl := ws_len s
  have hlen : (ws s).length = (wd (bytesOf s) []).length := by unfold ws; rw [List.length_map]
  have hsum := wd_size (bytesOf s) []
  rw [bytesOf_length, List.length_nil] at hsum
  have hc := canon_len (unk (wl s))
  have hu : (unk (wl s)).length ≤ (wl s).length := List.length_filter_le _ _
  have hwl : (wl s).length = (ws s).length := by unfold wl; rw [List.length_map]
  have hlt := tx_len (wd (bytesOf s) []).reverse
  rw [List.map_reverse, List.sum_reverse] at hlt
  have hmem := tx_lows (wd (bytesOf s) []) hW
  have ef : flF (wl (strOfNums (tx (wd (bytesOf s) []).reverse))) 65535 = flF (wl s) 65535 := flF_ext hmem 65535 (by omega)
  have eu : canon (unk (wl (strOfNums (tx (wd (bytesOf s) []).reverse)))) = canon (unk (wl s)) := unk_ext hmem
  have p1 := parse_f s (by omega)
  have p2 := parse_f (strOfNums (tx (wd (bytesOf s) []).reverse)) (by rw [size_str]; omega)
  rw [ef, eu] at p2
  have last : Ev (fun k => pergolalaw17_SandboxSpelt.l0 k s (ws s) (strOfNums (tx (wd (bytesOf s) []).reverse)) (-1)) true := by
    refine Ev.step (f := fun k => (sandbox_Parse.f k s).bind fun bt164 => ((sandbox_Parse.f k (strOfNums (tx (wd (bytesOf s) []).reverse))).bind fun bt168 => (if bt164.1 = bt168.1 then ((pergolaplain_SameStrings.f k bt164.2 bt168.2).bind fun t172 => (some t172)) else (some false)))) (fun k => ?_) (Ev.bind p1 (Ev.bind p2 (Ev.congr (fun k => if_pos rfl) (Ev.bind (sames_f (canon (unk (wl s))) (by omega)) (Ev.now _)))))
    rw [pergolalaw17_SandboxSpelt.l0, if_neg (by omega)]
  have hgo := spelt_l0 s hs true last (wd (bytesOf s) []).length (Nat.le_refl _)
  rw [List.drop_of_length_le (Nat.le_refl _)] at hgo
  have h : Ev (fun k => pergolalaw17_SandboxSpelt.f k s) true := by
    refine Ev.bind sand_alive (Ev.congr (fun k => if_pos rfl) (Ev.bind (words_f s (by omega)) (Ev.congr (fun k => ?_) hgo)))
    show pergolalaw17_SandboxSpelt.l0 k s (ws s) _ (wrap64 (((ws s).length : Int) - 1)) = _
    rw [show wrap64 (((ws s).length : Int) - 1) = (((wd (bytesOf s) []).length : Nat) : Int) - 1 by rw [hlen]; unfold wrap64; omega]
    rfl
  obtain ⟨k, hk⟩ := h
  exact ⟨k, hk k (Nat.le_refl _)⟩
end Go.Proofs.YtlaiggkgflbjhaaDoor.Pure
