/- tree: trees in memory: boxes of three cells, rows of pointers. -/
import Derived.Test.YtjhemobplcelbaaGreatDoorTreeP
import Derived.Test.YtjhemobplcelbaaGreatDoorProg
import Derived.Test.YtjhemobplcelbaaGreatDoorKit
import Derived.Deep.LoopGhost
import Derived.Deep.AppendLies
import Derived.Deep.CutBlock
import Derived.Deep.DeepCutAuto
import Derived.Deep.QuietTactic
import Derived.Deep.RegionHeld3
import Derived.BigQuiet
import Derived.KernelRfl
import Derived.RowKit3
import Derived.WideLaws
import Derived.OrdersHeld
import Derived.Laws.MakeOwn
import Derived.Laws.OwnMore
import Derived.Laws.BitsLemmas
import Derived.Tactics
import Derived.WalkKit
namespace Go.Proofs.YtjhemobplcelbaaGreatDoor.T
open Go.RowKit Go.Proofs.YtjhemobplcelbaaGreatDoorW.PrintWords Go.Proofs.YtjhemobplcelbaaGreatDoorW.PrintLast Go.Proofs.YtjhemobplcelbaaGreatDoorW.PrintMore
set_option linter.unusedVariables false
set_option linter.unusedSimpArgs false
def pv (X : Nat) : Value := .pointer (some ⟨X, 0, none⟩)
def kP : Kd Nat := Kd.scalar pv (fun _ => rfl)
/-- The trees that stand at these places are these. -/
def IsF (w : World) : List Nat → F → Prop
  | [], .nil => True
  | X :: ps, .cons r k kids rest => (∃ (A : Option Addr) (c : Nat) (qs : List Nat), w.heap[X]? = some (.cells #[.int .i64 r, .int .i64 k, .slice A qs.length c] 61 (0, 0)) ∧ Kd.C kP w A qs.length qs ∧ qs.length ≤ c ∧ IsF w qs kids) ∧ IsF w ps rest
  | [], .cons _ _ _ _ => False
  | _ :: _, .nil => False
theorem IsF.below {w w' : World} (hb : Below w.heap.size w w') : ∀ (f : F) (ps : List Nat), IsF w ps f → IsF w' ps f := by
  intro f
  induction f with
  | nil => intro ps h; cases ps with
    | nil => trivial
    | cons X ps => exact h.elim
  | cons r k kids rest ih1 ih2 =>
    intro ps h
    cases ps with
    | nil => exact h.elim
    | cons X ps =>
      obtain ⟨⟨A, c, qs, h1, h2, h3, h4⟩, h5⟩ := h
      exact ⟨⟨A, c, qs, (hb.block X (Array.getElem?_eq_some_iff.1 h1).1).trans h1, Kd.C_below h2 hb, h3, ih1 qs h4⟩, ih2 ps h5⟩
theorem IsF.one {w : World} {X : Nat} {r k : Int} {kids rest : F} {ps : List Nat} (h : IsF w (X :: ps) (.cons r k kids rest)) : IsF w [X] (.cons r k kids .nil) := ⟨h.1, trivial⟩
theorem IsF.len {w : World} : ∀ (f : F) (ps : List Nat), IsF w ps f → f.drop ps.length = .nil := by
  intro f
  induction f with
  | nil => intro ps h; cases ps with
    | nil => rfl
    | cons X ps => exact h.elim
  | cons r k kids rest ih1 ih2 =>
    intro ps h
    cases ps with
    | nil => exact h.elim
    | cons X ps => exact ih2 ps h.2
theorem IsF.at_ {w : World} : ∀ (f : F) (ps : List Nat), IsF w ps f → ∀ (i : Nat) (hi : i < ps.length), ∃ r k kids, f.drop i = .cons r k kids (f.drop (i + 1)) ∧ IsF w [ps[i]] (.cons r k kids .nil) := by
  intro f
  induction f with
  | nil => intro ps h i hi; cases ps with
    | nil => exact absurd hi (Nat.not_lt_zero i)
    | cons X ps => exact h.elim
  | cons r k kids rest ih1 ih2 =>
    intro ps h i hi
    cases ps with
    | nil => exact h.elim
    | cons X ps =>
      cases i with
      | zero => exact ⟨r, k, kids, rfl, h.1, trivial⟩
      | succ i => exact ih2 ps h.2 i (by simpa using hi)
theorem IsF.app {w : World} : ∀ (f g : F) (ps qs : List Nat), IsF w ps f → IsF w qs g → IsF w (ps ++ qs) (f.app g) := by
  intro f
  induction f with
  | nil => intro g ps qs h h2; cases ps with
    | nil => exact h2
    | cons X ps => exact h.elim
  | cons r k kids rest ih1 ih2 =>
    intro g ps qs h h2
    cases ps with
    | nil => exact h.elim
    | cons X ps => exact ⟨h.1, ih2 g ps qs h.2 h2⟩
/-- Each of the trees is so. -/
def AllF (P : Int → Int → F → Prop) : F → Prop
  | .nil => True
  | .cons r k kids rest => P r k kids ∧ AllF P rest
theorem AllF.at_ {P : Int → Int → F → Prop} : ∀ (f : F), AllF P f → ∀ (i : Nat) {r k : Int} {kids rest : F}, f.drop i = .cons r k kids rest → P r k kids := by
  intro f
  induction f with
  | nil => intro h i r k kids rest e; cases i <;> cases e
  | cons r0 k0 kids0 rest0 ih1 ih2 =>
    intro h i r k kids rest e
    cases i with
    | zero => cases e; exact h.1
    | succ i => exact ih2 h.2 i e
theorem AllF.of {P : Int → Int → F → Prop} (h : ∀ r k kids, AllF P kids → P r k kids) : ∀ f : F, AllF P f := by
  intro f
  induction f with
  | nil => trivial
  | cons r k kids rest ih1 ih2 => exact ⟨h r k kids ih1, ih2⟩
theorem row_at {w : World} {A : Option Addr} {n : Nat} {ps : List Nat} (h : Kd.C kP w A n ps) (i : Nat) (hi : i < ps.length) : ∃ ad, A = some ad ∧ w.cell? (ad.add i) = some (pv ps[i]) := by
  obtain ⟨ad, e, hc⟩ := h.2.2 (by have := h.1; omega)
  obtain ⟨c, hs, hr, hcell⟩ := hc i _ (List.getElem?_eq_getElem hi)
  obtain rfl : c = [pv ps[i]] := hr
  have := hcell 0 _ rfl
  simp only [Nat.add_zero] at this
  rw [show kP.sz = 1 from rfl, Nat.mul_one] at this
  exact ⟨ad, e, this⟩
/-- A box of one cell. -/
structure Cell1 (W : World) (N t : Nat) (v : Value) : Prop where
  heap : W.heap[N]? = some (.cells #[v] t (0, 0))
section
variable {W W' : World} {N M B t t' : Nat} {u v : Value}
theorem Cell1.lt (h : Cell1 W N t v) : N < W.heap.size := (Array.getElem?_eq_some_iff.1 h.heap).1
theorem Cell1.c (h : Cell1 W N t v) : W.cell? ⟨N, 0, none⟩ = some v := by simp [World.cell?, h.heap]
theorem Cell1.fz (h : Cell1 W N t v) (k : Nat) : W.frozen? ⟨N, k, none⟩ = false := by simp [World.frozen?, h.heap]
theorem Cell1.move (h : Cell1 W N t v) (hb : Below B W W') (hN : N < B) : Cell1 W' N t v := ⟨(hb.block N hN).trans h.heap⟩
theorem Cell1.new (w : World) (v : Value) (t : Nat) : Cell1 (w.alloc (.cells #[v] t)) w.heap.size t v := ⟨heap_alloc_new w _⟩
theorem Cell1.set (h : Cell1 W N t v) (u : Value) : Cell1 (W.setCell ⟨N, 0, none⟩ u) N t u := by
  refine ⟨?_⟩
  rw [setCell_eq_setRow W N 0 #[v] t (0, 0) u h.heap]
  exact setRow_heap W N #[v] _ t (0, 0) h.heap
theorem Cell1.far (h : Cell1 W N t v) (hN : N ≠ M) (j : Nat) (u : Value) : Cell1 (W.setCell ⟨M, j, none⟩ u) N t v := ⟨(Below.heap_setCell W ⟨M, j, none⟩ u N hN).trans h.heap⟩
end
/-- A node's box. -/
structure Node3 (W : World) (X : Nat) (a b c : Value) : Prop where
  heap : W.heap[X]? = some (.cells #[a, b, c] 61 (0, 0))
section
variable {W W' : World} {X B : Nat} {a b c : Value}
theorem Node3.lt (h : Node3 W X a b c) : X < W.heap.size := (Array.getElem?_eq_some_iff.1 h.heap).1
theorem Node3.c0 (h : Node3 W X a b c) : W.cell? ⟨X, 0, none⟩ = some a := by simp [World.cell?, h.heap]
theorem Node3.c1 (h : Node3 W X a b c) : W.cell? ⟨X, 1, none⟩ = some b := by simp [World.cell?, h.heap]
theorem Node3.c2 (h : Node3 W X a b c) : W.cell? ⟨X, 2, none⟩ = some c := by simp [World.cell?, h.heap]
theorem Node3.fz (h : Node3 W X a b c) (k : Nat) : W.frozen? ⟨X, k, none⟩ = false := by simp [World.frozen?, h.heap]
theorem Node3.move (h : Node3 W X a b c) (hb : Below B W W') (hX : X < B) : Node3 W' X a b c := ⟨(hb.block X hX).trans h.heap⟩
theorem Node3.new (w : World) (a b c : Value) : Node3 (w.alloc (.cells #[a, b, c] 61)) w.heap.size a b c := ⟨heap_alloc_new w _⟩
end
end Go.Proofs.YtjhemobplcelbaaGreatDoor.T
