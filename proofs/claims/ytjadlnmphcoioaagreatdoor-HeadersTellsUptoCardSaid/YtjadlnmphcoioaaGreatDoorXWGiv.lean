import Derived.Test.YtjadlnmphcoioaaGreatDoorXW
/-! pergolaplain.Given with two pairs of lists (of []byte, and of rows of another kind): what was handed in, and what it was -/
namespace Go.Proofs.YtjadlnmphcoioaaGreatDoorW.PrintWords
open Go.RowKit
def rdK {α : Type} (xs : List (List α)) (i : Int) : List α := xs.getD i.toNat []
theorem at_K {α : Type} {d : Kd α} {e : Nat} {w : World} {A : Option Addr} {n : Nat} {xs : List (List α)} (h : Kd.C (Kd.slice e d) w A n xs) (i : Int) (h0 : 0 ≤ i) (h1 : i < n) :
    ∃ ad A0 c0, A = some ad ∧ w.cell? (ad.add i.toNat) = some (.slice A0 (rdK xs i).length c0) ∧ (rdK xs i).length ≤ c0 ∧ d.C w A0 (rdK xs i).length (rdK xs i) := by
  obtain ⟨ad, c, e, _, hK, hc0⟩ := Kd.C_get h ([] : List α) i h0 h1
  have hc : ∀ j u, c[j]? = some u → w.cell? (ad.add (i.toNat * 1 + j)) = some u := hc0
  obtain ⟨A0, c0, rfl, l0, g0⟩ := hK
  exact ⟨ad, A0, c0, e, by have hq := hc 0 _ rfl; rwa [Nat.mul_one, Nat.add_zero] at hq, l0, g0⟩
def givCells (s0 s1 s12 s13 : Value) : Array Value := #[s0, s1, .slice none 0 0, .slice none 0 0, .slice none 0 0, .slice none 0 0, .slice none 0 0, .slice none 0 0, .slice none 0 0, .slice none 0 0, .slice none 0 0, .slice none 0 0, s12, s13, .slice none 0 0, .slice none 0 0, .slice none 0 0, .slice none 0 0, .slice none 0 0, .slice none 0 0, .slice none 0 0, .slice none 0 0, .slice none 0 0, .slice none 0 0, .slice none 0 0, .slice none 0 0, .slice none 0 0, .slice none 0 0, .slice none 0 0, .slice none 0 0, .slice none 0 0, .slice none 0 0]
/-- hd: has a row of the other kind been handed in? -/
def GivK {α : Type} (kh : Kd α) (eh : Nat) (hd : Bool) (w : World) (g : Nat) : Prop :=
  ∃ (A1 A2 : Option Addr) (c1 c2 : Nat) (xss : List (List Int)) (B1 B2 : Option Addr) (d1 d2 : Nat) (hss : List (List α)) (b1 b2 b3 b4 : Nat) (ok1 ok2 ok3 ok4 : Nat → Prop),
    w.heap[g]? = some (.cells (givCells (.slice A1 xss.length c1) (.slice A2 xss.length c2) (.slice B1 hss.length d1) (.slice B2 hss.length d2)) 40 (0, 0)) ∧
    (Kd.slice 5 (Kd.int .u8)).R 63 w b1 ok1 (.slice A1 xss.length c1) xss ∧ (Kd.slice 5 (Kd.int .u8)).R 63 w b2 ok2 (.slice A2 xss.length c2) xss ∧
    (Kd.slice eh kh).R 22 w b3 ok3 (.slice B1 hss.length d1) hss ∧ (Kd.slice eh kh).R 22 w b4 ok4 (.slice B2 hss.length d2) hss ∧
    (∀ xs ∈ xss, xs.length ≤ 140737488355328) ∧ xss.length ≤ 140737488355328 ∧ (∀ xs ∈ hss, xs.length ≤ 8796093022208) ∧ hss.length ≤ 140737488355328 ∧ (hd = false → B1 = none ∧ d1 = 0 ∧ B2 = none ∧ d2 = 0 ∧ hss = [])
namespace GivK
variable {α : Type} {kh : Kd α} {eh g : Nat} {hd : Bool} {w w1 : World}
theorem below (h : GivK kh eh hd w g) (hb : Below w.heap.size w w1) : GivK kh eh hd w1 g := by
  obtain ⟨A1, A2, c1, c2, xss, B1, B2, d1, d2, hss, b1, b2, b3, b4, o1, o2, o3, o4, h0, h1, h2, h3, h4, h5⟩ := h
  exact ⟨A1, A2, c1, c2, xss, B1, B2, d1, d2, hss, b1, b2, b3, b4, o1, o2, o3, o4, blk_below h0 hb, Kd.R_below h1 hb, Kd.R_below h2 hb, Kd.R_below h3 hb, Kd.R_below h4 hb, h5⟩
theorem alloc (h : GivK kh eh hd w g) (o : Obj) : GivK kh eh hd (w.alloc o) g := h.below (below_alloc (Below.refl _ _) _)
theorem drewN (h : GivK kh eh hd w g) (n : Nat) : GivK kh eh hd (w.drewN n) g := h.below (pw_below_drewN (Below.refl _ _) _)
theorem drew (h : GivK kh eh hd w g) : GivK kh eh hd w.drew g := h.below (below_drew1 (Below.refl _ _))
theorem blk (h : GivK kh eh hd w g) : ∃ cs, w.heap[g]? = some (.cells cs 40 (0, 0)) := by
  obtain ⟨A1, A2, c1, c2, xss, B1, B2, d1, d2, hss, b1, b2, b3, b4, o1, o2, o3, o4, h0, _⟩ := h
  exact ⟨_, h0⟩
/-- A row that is no Given: it lives on where g's block alone is written. -/
theorem row {β : Type} {d : Kd β} {e base : Nat} {ok : Nat → Prop} {v : Value} {xs : List β} (h : GivK kh eh hd w g) (hk : KeepBut w w1 g none) (hr : d.R e w base ok v xs) (ht : ∀ q, q ∈ e :: d.E → q ≠ 40) : d.R e w1 base ok v xs := by
  obtain ⟨cs, hb⟩ := h.blk
  exact Kd.R_mono (Kd.R_keep (Kd.R_types hr hb ht) hk (fun _ hk => hk.2)) (fun _ hk => hk.1)
end GivK
end Go.Proofs.YtjadlnmphcoioaaGreatDoorW.PrintWords
