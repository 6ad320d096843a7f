/- What octets.Chars and octets.Bytes compute, on lists of bytes. -/
import Derived.Test.YtknmcpccljmfdaaPBase
import Derived.Test.YtknmcpccljmfdaaX14
import Derived.Test.YtknmcpccljmfdaaX12
namespace Go.Proofs.Ytknmcpccljmfdaa.Pure
open Go.RowKit Go.Proofs.Ytknmcpccljmfdaa.X Go.Proofs.YtknmcpccljmfdaaW.PrintWords Go.Proofs.YtknmcpccljmfdaaW.PrintLast Go.Proofs.YtknmcpccljmfdaaW.PrintMore

/-- A byte as a character's bytes. -/
def ch (c : Int) : List Int := if c < 128 then [c] else [192 + c / 64, 128 + c % 64]
def chL (l : List Int) : List Int := l.flatMap ch
theorem encode_ch {c : Int} (h : 0 ≤ c ∧ c < 256) : (Utf8.encode c).data.toList = (ch c).map fun n => UInt8.ofNat n.toNat :=
  byte_all (p := fun c => (Utf8.encode c).data.toList = (ch c).map fun n => UInt8.ofNat n.toNat) (by decide +kernel) h
theorem ch_bytes {c : Int} (h : 0 ≤ c ∧ c < 256) : Bytes (ch c) := by
  unfold ch
  by_cases h1 : c < 128
  · rw [if_pos h1]; exact Bytes.cons h Bytes.nil
  · rw [if_neg h1]; exact Bytes.cons (by omega) (Bytes.cons (by omega) Bytes.nil)
theorem chL_bytes (l : List Int) (h : Bytes l) : Bytes (chL l) := fun x hx => by
  obtain ⟨c, hc, hx⟩ := List.mem_flatMap.1 hx
  exact ch_bytes (h c hc) x hx
theorem ch_len (c : Int) : 1 ≤ (ch c).length ∧ (ch c).length ≤ 2 := by
  unfold ch
  split <;> simp
theorem chL_len (l : List Int) : (chL l).length ≤ 2 * l.length := by
  induction l with
  | nil => simp [chL]
  | cons c t ih =>
    have := ch_len c
    simp only [chL, List.flatMap_cons, List.length_append, List.length_cons] at ih ⊢
    omega
theorem runes_ch (l : List Int) (h : Bytes l) : runesBytes l = strOfNums (chL l) := by
  have key : ∀ (l : List Int), Bytes l → ∀ s : ByteArray, (l.foldl (fun r n => r ++ Utf8.encode n) s).data.toList = s.data.toList ++ (chL l).map fun n => UInt8.ofNat n.toNat := by
    intro l
    induction l with
    | nil => intro _ s; simp [chL]
    | cons c t ih =>
      intro hb s
      rw [List.foldl_cons, ih hb.tail]
      have e : (s ++ Utf8.encode c).data.toList = s.data.toList ++ (Utf8.encode c).data.toList := by
        rw [ByteArray.data_append, Array.toList_append]
      rw [e, encode_ch hb.head]
      simp [chL]
  have := key l h ByteArray.empty
  refine ByteArray.ext (Array.ext' ?_)
  unfold runesBytes
  rw [this, strOfNums_data]
  simp
theorem chars_l0 (l : List Int) (hl : Bytes l) (hn : l.length < 35184372088832) (d : Nat) : ∀ (i : Nat), i + d = l.length →
    Ev (fun k => octets_Chars.l0 k (l.take i) l (l.length : Int) (i : Int)) (strOfNums (chL l)) := by
  induction d with
  | zero =>
    intro i hi
    obtain rfl : i = l.length := by omega
    refine Ev.step (f := fun _ => some (strOfNums (chL l))) (fun k => ?_) (Ev.now _)
    simp only [octets_Chars.l0]
    rw [if_neg (by omega), List.take_of_length_le (Nat.le_refl _), runes_ch l hl]
  | succ d ih =>
    intro i hi
    have hc := hl.at_ i
    have hrd : rd l (i : Int) = l.getD i 0 := by unfold rd; rw [Int.toNat_natCast]
    have hw : wrap64 ((i : Int) + 1) = ((i + 1 : Nat) : Int) := by unfold wrap64; omega
    have hw2 : wrap32 (l.getD i 0) = l.getD i 0 := by unfold wrap32; omega
    refine Ev.step (f := fun k => octets_Chars.l0 k (l.take (i + 1)) l (l.length : Int) ((i + 1 : Nat) : Int)) (fun k => ?_) (ih (i + 1) (by omega))
    simp only [octets_Chars.l0]
    rw [if_pos (by omega), if_pos (by omega), if_pos (by omega), if_pos (by rw [List.length_take]; omega), hw, hrd, hw2]
    congr 1
    rw [List.take_succ_eq_append_getElem (show i < l.length by omega), List.getD_eq_getElem?_getD, List.getElem?_eq_getElem (show i < l.length by omega)]
    rfl
theorem chars_f (l : List Int) (hl : Bytes l) (hn : l.length < 35184372088832) : Ev (fun k => octets_Chars.f k l) (strOfNums (chL l)) := chars_l0 l hl hn l.length 0 (by omega)

/-! octets.Bytes -/
theorem get_bytes (s : ByteArray) (i : Nat) (hi : i < s.size) : ((s.get! i).toNat : Int) = (bytesOf s).getD i 0 := by
  have h1 : s.get! i = s.data[i]! := rfl
  have hi2 : i < s.data.size := hi
  rw [h1, getElem!_pos s.data i hi2, List.getD_eq_getElem?_getD]
  have hl : i < (bytesOf s).length := by rw [bytesOf_length]; exact hi
  rw [List.getElem?_eq_getElem hl]
  simp [bytesOf]
theorem decode_one (s : ByteArray) (pos b0 : Nat) (e0 : (s.get! (pos + 0)).toNat = b0) (h : b0 < 128) : Utf8.decode s pos = (b0, 1) := by
  unfold Utf8.decode
  simp only [e0]
  rw [if_pos h]
theorem decode_two (s : ByteArray) (pos b0 b1 : Nat) (hp : pos + 1 < s.size) (e0 : (s.get! (pos + 0)).toNat = b0) (e1 : (s.get! (pos + 1)).toNat = b1) (h0 : 194 ≤ b0 ∧ b0 ≤ 195) (h1 : b1 / 64 = 2) : Utf8.decode s pos = (b0 % 32 * 64 + b1 % 64, 2) := by
  unfold Utf8.decode
  simp only [e0, e1]
  rw [if_neg (by omega), if_pos (by simp; omega), if_pos (by omega)]
theorem decode_ch (s : ByteArray) (pos : Nat) (c : Int) (t : List Int) (hc : 0 ≤ c ∧ c < 256) (h : (bytesOf s).drop pos = ch c ++ t) : ((Utf8.decode s pos).1 : Int) = c ∧ (Utf8.decode s pos).2 = (ch c).length := by
  have hlen := bytesOf_length s
  have hpos : pos < s.size := by
    have := congrArg List.length h
    have := ch_len c
    simp at *
    omega
  have g0 := get_bytes s pos hpos
  have hd0 : (bytesOf s).getD pos 0 = (ch c ++ t).getD 0 0 := by rw [← h]; simp [List.getD_eq_getElem?_getD]
  unfold ch at *
  by_cases h1 : c < 128
  · rw [if_pos h1] at *
    have e0 : ((s.get! (pos + 0)).toNat : Int) = c := by rw [Nat.add_zero, g0, hd0]; rfl
    rw [decode_one s pos _ rfl (by omega)]
    exact ⟨e0, rfl⟩
  · rw [if_neg h1] at *
    have hpos2 : pos + 1 < s.size := by
      have := congrArg List.length h
      simp at this
      omega
    have g1 := get_bytes s (pos + 1) hpos2
    have hd1 : (bytesOf s).getD (pos + 1) 0 = 128 + c % 64 := by
      have := congrArg (fun l => l.getD 1 0) h
      simpa [List.getD_eq_getElem?_getD] using this
    have e0 : ((s.get! (pos + 0)).toNat : Int) = 192 + c / 64 := by rw [Nat.add_zero, g0, hd0]; rfl
    have e1 : ((s.get! (pos + 1)).toNat : Int) = 128 + c % 64 := by rw [g1, hd1]
    rw [decode_two s pos _ _ hpos2 rfl rfl (by omega) (by omega)]
    exact ⟨by simp only; omega, rfl⟩
theorem bytes_l0 (s : ByteArray) : ∀ (l out : List Int) (pos : Nat), Bytes l → (bytesOf s).drop pos = chL l → pos ≤ s.size → out.length + l.length < 140737488355328 → Ev (fun k => octets_Bytes.l0 k s pos out) (out ++ l, 0, 0) := by
  intro l
  have hlen := bytesOf_length s
  induction l with
  | nil =>
    intro out pos _ h hp _
    have : pos = s.size := by
      have := congrArg List.length h
      simp [chL] at this
      omega
    refine Ev.step (f := fun _ => some (out, 0, 0)) (fun k => ?_) (by rw [List.append_nil]; exact Ev.now _)
    rw [octets_Bytes.l0, if_neg (by omega)]
  | cons c t ih =>
    intro out pos hb h hp hn
    have h' : (bytesOf s).drop pos = ch c ++ chL t := by rw [h]; simp [chL]
    obtain ⟨d1, d2⟩ := decode_ch s pos c (chL t) hb.head h'
    have hc := hb.head
    have hl1 := ch_len c
    have hlt := congrArg List.length h'
    simp only [List.length_drop, List.length_append] at hlt
    have h2 : (bytesOf s).drop (pos + (ch c).length) = chL t := by
      rw [← List.drop_drop, h']
      simp
    have := ih (out ++ [c]) (pos + (ch c).length) hb.tail h2 (by omega) (by simp at hn ⊢; omega)
    refine Ev.step (f := fun k => octets_Bytes.l0 k s (pos + (ch c).length) (out ++ [c])) (fun k => ?_) (by simpa using this)
    rw [octets_Bytes.l0, if_pos (by omega), if_neg (by omega), if_pos (by simp at hn; omega), d2, d1]
theorem bytes_f (l : List Int) (hb : Bytes l) (hn : l.length ≤ 1048576) : Ev (fun k => octets_Bytes.f k (strOfNums (chL l))) (l, 0, 0) := by
  have hl := chL_len l
  have hs := size_str (chL l)
  refine Ev.congr (f := fun k => octets_Bytes.l0 k (strOfNums (chL l)) 0 []) (fun k => ?_) (bytes_l0 _ l [] 0 hb (by rw [List.drop_zero, bytesOf_str (chL_bytes l hb)]) (by omega) (by simp; omega))
  rw [octets_Bytes.f, if_pos (by omega)]
end Go.Proofs.Ytknmcpccljmfdaa.Pure
