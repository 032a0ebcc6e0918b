/- mail: two boxes side by side, one of ints, one of strings (or of ints); what each call does to them. -/
import Derived.Test.YtceedejjcillkaaMailE
namespace Go.Proofs.Ytceedejjcillkaa.M
open Go.Conc Go.RowKit Go.Proofs.YtceedejjcillkaaW.PrintWords
set_option linter.unusedVariables false
set_option linter.unusedSimpArgs false

theorem Box.only {b c c2 cap : Nat} {l : List Value} {w w' : World} (h : Box b c cap l w) (ho : Only c2 w w') (hn : c ≠ c2) : Box b c cap l w' := by
  obtain ⟨hp, s, r, hc⟩ := h
  exact ⟨by rw [ho.2.2.1]; exact hp, s, r, by rw [ho.1 c hn]; exact hc⟩
theorem size_alloc_one (w : World) (o : Obj) : (w.alloc o).heap.size = w.heap.size + 1 := Array.size_push ..
theorem Box.alloc {b c cap : Nat} {l : List Value} {w : World} (h : Box b c cap l w) (o : Obj) : Box b c cap l (w.alloc o) := by
  obtain ⟨hp, s, r, hc⟩ := h
  have hlt : c < w.heap.size := by
    rcases Nat.lt_or_ge c w.heap.size with h' | h'
    · exact h'
    · rw [Array.getElem?_eq_none h'] at hc; cases hc
  have hb : b < w.heap.size := by
    rcases Nat.lt_or_ge b w.heap.size with h' | h'
    · exact h'
    · unfold World.cell? at hp
      rw [show (⟨b, 0, none⟩ : Addr).block = b from rfl, Array.getElem?_eq_none h'] at hp
      cases hp
  refine ⟨?_, s, r, ?_⟩
  · rw [World.cell?_alloc_lt w _ _ hb]; exact hp
  · simp only [World.alloc, Array.getElem?_push]
    rw [if_neg (by omega)]
    exact hc
theorem new_box (cap : Nat) (t : TypeId) (w : World) : Box (w.heap.size + 1) w.heap.size cap [] ((w.alloc (.chan cap #[] false 0 0 false)).alloc (.cells #[.chan (some w.heap.size)] t (0, 0))) := by
  refine ⟨?_, 0, 0, ?_⟩
  · have hs : (w.alloc (.chan cap #[] false 0 0 false)).heap.size = w.heap.size + 1 := size_alloc_one w _
    rw [← hs, World.cell?_alloc_new]
    rfl
  · show ((w.heap.push _).push _)[w.heap.size]? = _
    rw [Array.getElem?_push, Array.size_push, if_neg (by omega), Array.getElem?_push, if_pos rfl]
/-- Two boxes that came after w0. -/
structure Two (w0 : World) (a ca na b cb nb : Nat) (l m : List Value) (w : World) : Prop where
  a : Box a ca na l w
  b : Box b cb nb m w
  ne : ca ≠ cb
  below : Below w0.heap.size w0 w
  la : w0.heap.size ≤ ca
  lb : w0.heap.size ≤ cb
theorem Two.onA {w0 : World} {a ca na b cb nb : Nat} {l m l' : List Value} {w w' : World} (h : Two w0 a ca na b cb nb l m w) (hb : Box a ca na l' w') (ho : Only ca w w') : Two w0 a ca na b cb nb l' m w' :=
  ⟨hb, h.b.only ho (fun e => h.ne e.symm), h.ne, ho.2.2.2 _ _ h.la h.below, h.la, h.lb⟩
theorem Two.onB {w0 : World} {a ca na b cb nb : Nat} {l m m' : List Value} {w w' : World} (h : Two w0 a ca na b cb nb l m w) (hb : Box b cb nb m' w') (ho : Only cb w w') : Two w0 a ca na b cb nb l m' w' :=
  ⟨h.a.only ho h.ne, hb, h.ne, ho.2.2.2 _ _ h.lb h.below, h.la, h.lb⟩
theorem Two.swap {w0 : World} {a ca na b cb nb : Nat} {l m : List Value} {w : World} (h : Two w0 a ca na b cb nb l m w) : Two w0 b cb nb a ca na m l w :=
  ⟨h.b, h.a, fun e => h.ne e.symm, h.below, h.lb, h.la⟩
theorem Two.alloc {w0 : World} {a ca na b cb nb : Nat} {l m : List Value} {w : World} (h : Two w0 a ca na b cb nb l m w) (o : Obj) : Two w0 a ca na b cb nb l m (w.alloc o) :=
  ⟨h.a.alloc o, h.b.alloc o, h.ne, h.below.alloc (below_size h.below) o, h.la, h.lb⟩
end Go.Proofs.Ytceedejjcillkaa.M
