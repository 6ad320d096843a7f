/- What octets.Lower, Upper compute. (Carved out of XPWords.) -/
import Derived.Test.YtjadlnmphcoioaaDoorPBase
import Derived.Test.YtjadlnmphcoioaaDoorX4
import Derived.Test.YtjadlnmphcoioaaDoorX4
namespace Go.Proofs.YtjadlnmphcoioaaDoor.Pure
open Go.RowKit Go.Proofs.YtjadlnmphcoioaaDoor.X Go.Proofs.YtjadlnmphcoioaaDoorW.PrintWords Go.Proofs.YtjadlnmphcoioaaDoorW.PrintLast Go.Proofs.YtjadlnmphcoioaaDoorW.PrintMore

/-! Small and capital letters -/
def low (c : Int) : Int := turn1 65 90 c
def upp (c : Int) : Int := turn1 97 122 c
theorem low_byte {c : Int} (h : 0 ≤ c ∧ c < 256) : 0 ≤ low c ∧ low c < 256 := byte_all (p := fun c => 0 ≤ low c ∧ low c < 256) (by decide +kernel) h
theorem upp_byte {c : Int} (h : 0 ≤ c ∧ c < 256) : 0 ≤ upp c ∧ upp c < 256 := byte_all (p := fun c => 0 ≤ upp c ∧ upp c < 256) (by decide +kernel) h
theorem low_upp {c : Int} (h : 0 ≤ c ∧ c < 256) : low (upp c) = low c := byte_all (p := fun c => low (upp c) = low c) (by decide +kernel) h
theorem upp_low {c : Int} (h : 0 ≤ c ∧ c < 256) : upp (low c) = upp c := byte_all (p := fun c => upp (low c) = upp c) (by decide +kernel) h
theorem map_bytes {f : Int → Int} (hf : ∀ c, 0 ≤ c ∧ c < 256 → 0 ≤ f c ∧ f c < 256) (s : ByteArray) : Bytes ((bytesOf s).map f) := fun x hx => by
  obtain ⟨c, hc, rfl⟩ := List.mem_map.1 hx
  exact hf c (Bytes.of s c hc)
theorem lower_f (s : ByteArray) (hs : s.size ≤ 140737488355328) : octets_Lower.f s = some (strOfNums ((bytesOf s).map low)) := by
  rw [octets_Lower.f, octets_turned.f, if_pos (by omega)]
  rfl
theorem upper_f (s : ByteArray) (hs : s.size ≤ 140737488355328) : octets_Upper.f s = some (strOfNums ((bytesOf s).map upp)) := by
  rw [octets_Upper.f, octets_turned.f, if_pos (by omega)]
  rfl
theorem size_map (f : Int → Int) (s : ByteArray) : (strOfNums ((bytesOf s).map f)).size = s.size := by rw [size_str, List.length_map, bytesOf_length]

end Go.Proofs.YtjadlnmphcoioaaDoor.Pure
