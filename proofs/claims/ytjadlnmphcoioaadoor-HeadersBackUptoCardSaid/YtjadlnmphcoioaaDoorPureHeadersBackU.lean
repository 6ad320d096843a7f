/- Of any list of at most 1048576 headers with names and values of at most 1048576 bytes, and of any block of at most 1048576 bytes: Parse of Print is the list where it may be; what Parse answers may be, and its Print is read as it: the law HeadersBack answers true. -/
import Derived.Test.YtjadlnmphcoioaaDoorPBlock
import Derived.Test.YtjadlnmphcoioaaDoorX9
import Derived.Test.YtjadlnmphcoioaaDoorX10
namespace Go.Proofs.YtjadlnmphcoioaaDoor.Pure
open Go.RowKit Go.Proofs.YtjadlnmphcoioaaDoor.X Go.Proofs.YtjadlnmphcoioaaDoorW.PrintWords Go.Proofs.YtjadlnmphcoioaaDoorW.PrintLast Go.Proofs.YtjadlnmphcoioaaDoorW.PrintMore

theorem head_alive : Ev (fun k => pergolalaw11_alive.f k) true := Ev.of pergolalaw11_alive.mono (k := 200) (by decide +kernel)
theorem ev_neg {α : Type} {c : Prop} [Decidable c] (h : ¬ c) {f g : Nat → Option α} {r : α} (hf : Ev g r) : Ev (fun k => if c then f k else g k) r := Ev.congr (fun _ => if_neg h) hf
theorem parse_f (l : List Int) (hl : Bytes l) (hn : l.length ≤ 1048576) :
    ∃ (m : List Hd) (e at_ : Int), Ev (fun k => headers_Parse.f k l) (m, e, at_) ∧ 0 ≤ at_ ∧ at_ ≤ (l.length : Int) ∧ (e = 0 → m.length ≤ 256 ∧ ∀ h ∈ m, Small h ∧ ok1 h) ∧ (e ≠ 0 → m = []) := by
  obtain ⟨m, e, a, h, r⟩ := parse_any l hl hn l.length 0 [] (by omega) (by simp) (fun h hh => by cases hh)
  exact ⟨m, e, a, Ev.congr (fun k => by rw [headers_Parse.f, if_neg (by omega)]; rfl) h, r⟩
theorem parse_back (m : List Hd) (hn : (prL m).length ≤ 1048576) (hl : m.length ≤ 256) (hg : ∀ h ∈ m, Small h ∧ ok1 h) : Ev (fun k => headers_Parse.f k (prL m)) (m, 0, ((prL m).length : Int)) := by
  have := parse_pr m [] [] (prL m) rfl hn (by simpa using hl) hg
  exact Ev.congr (fun k => by rw [headers_Parse.f, if_neg (by omega)]; rfl) this
theorem back_j2 (m : List Hd) (hl : m.length ≤ 256) (hg : ∀ h ∈ m, Small h ∧ ok1 h) : Ev (fun k => pergolalaw11_HeadersBack.j2 k m (prL m) false) true := by
  refine Ev.step (fun k => by rw [pergolalaw11_HeadersBack.j2, if_neg (by decide)]) ?_
  by_cases hn : ((prL m).length : Int) > 1048576
  · exact ev_pos hn (Ev.now _)
  · refine ev_neg hn (Ev.bind (parse_back m (by omega) hl hg) ?_)
    refine Ev.congr (fun k => by rw [pergolalaw11_num.f, Option.bind_some]) (ev_pos rfl (Ev.bind (sameh_f m (by omega)) (Ev.now _)))
theorem back_j1 (l : List Int) (hb : Bytes l) (hn : l.length ≤ 1048576) : Ev (fun k => pergolalaw11_HeadersBack.j1 k l) true := by
  obtain ⟨m, e, a, hp, ha0, ha1, hz, hne⟩ := parse_f l hb hn
  refine Ev.step (fun k => by rw [pergolalaw11_HeadersBack.j1]) (Ev.bind hp ?_)
  by_cases h0 : e = 0
  · obtain ⟨hl, hg⟩ := hz h0
    obtain ⟨c, q, hc, hiff⟩ := check_f m (by omega) (fun h hh => (hg h hh).1)
    obtain rfl : c = 0 := hiff.2 ⟨hl, fun h hh => (hg h hh).2⟩
    have hpr := print_good m hl (fun h hh => (hg h hh).1) (fun h hh => (hg h hh).2)
    refine Ev.congr (fun k => by rw [pergolalaw11_num.f, Option.bind_some]) (ev_pos h0 (Ev.bind hc (Ev.bind hpr ?_)))
    exact Ev.congr (fun k => by simp only [pergolalaw11_num.f, Option.bind_some, if_true]; rfl) (back_j2 m hl hg)
  · obtain rfl := hne h0
    refine Ev.congr (f := fun _ => some true) (fun k => ?_) (Ev.now _)
    show ((pergolalaw11_num.f e).bind fun t => _) = _
    rw [pergolalaw11_num.f, Option.bind_some, if_neg h0]
    show (if a ≥ 0 then some (decide (a ≤ (l.length : Int))) else some false) = _
    rw [if_pos ha0, decide_eq_true ha1]
theorem back_j0 (l0 : List Hd) (l1 x : List Int) (b : Bool) (hb : Bytes l1) (hn : l1.length ≤ 1048576) (h : b = true → x = prL l0 ∧ (prL l0).length ≤ 1048576 ∧ l0.length ≤ 256 ∧ ∀ h ∈ l0, Small h ∧ ok1 h) : Ev (fun k => pergolalaw11_HeadersBack.j0 k l0 l1 x b) true := by
  refine Ev.step (fun k => by rw [pergolalaw11_HeadersBack.j0]) ?_
  cases b
  · exact ev_neg (by decide) (back_j1 l1 hb hn)
  · obtain ⟨rfl, h1, h2, h3⟩ := h rfl
    refine ev_pos rfl (Ev.bind (parse_back l0 h1 h2 h3) ?_)
    refine Ev.congr (fun k => by rw [pergolalaw11_num.f, Option.bind_some]) (ev_pos rfl (ev_pos rfl (Ev.bind (sameh_f l0 (by omega)) ?_)))
    exact ev_pos rfl (back_j1 l1 hb hn)
theorem HeadersBack (l0 : List Hd) (l1 : List Int) (h0 : l0.length ≤ 1048576) (hs : ∀ h ∈ l0, Small h) (h1 : l1.length ≤ 1048576) (hb : Bytes l1) : ∃ k, pergolalaw11_HeadersBack.f k l0 l1 = some true := by
  have key : Ev (fun k => pergolalaw11_HeadersBack.f k l0 l1) true := by
    refine Ev.congr (fun k => by rw [pergolalaw11_HeadersBack.f]) (Ev.bind head_alive (ev_pos rfl ?_))
    by_cases hg : l0.length ≤ 256 ∧ ∀ h ∈ l0, ok1 h
    · refine Ev.bind (print_good l0 hg.1 hs hg.2) (Ev.congr (fun k => by rw [pergolalaw11_num.f, Option.bind_some]) (ev_pos rfl ?_))
      exact back_j0 l0 l1 _ _ hb h1 (fun h => ⟨rfl, by have h2 : ((prL l0).length : Int) ≤ 1048576 := of_decide_eq_true h; omega, hg.1, fun x hx => ⟨hs x hx, hg.2 x hx⟩⟩)
    · obtain ⟨e, he, hp⟩ := print_bad l0 h0 hs hg
      refine Ev.bind hp (Ev.congr (fun k => by rw [pergolalaw11_num.f, Option.bind_some]) (ev_neg he ?_))
      exact back_j0 l0 l1 _ _ hb h1 (fun h => by cases h)
  exact key.rounds
end Go.Proofs.YtjadlnmphcoioaaDoor.Pure
