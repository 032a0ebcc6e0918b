/- tree: grown trees: the plain side; two cells that are turned, all else kept. -/
import Derived.Test.YtjhemobplcelbaaGreatDoorTreeAC
namespace Go.Proofs.YtjhemobplcelbaaGreatDoor.T
open Go.RowKit Go.Proofs.YtjhemobplcelbaaGreatDoorW.PrintWords Go.Proofs.YtjhemobplcelbaaGreatDoorW.PrintLast Go.Proofs.YtjhemobplcelbaaGreatDoorW.PrintMore
open Go.Proofs.YtjhemobplcelbaaGreatDoor.U (SR kSR)
set_option linter.unusedVariables false
set_option linter.unusedSimpArgs false
/-- All older blocks but two are as they were. -/
structure Keep2 (AT LF : Nat) (w w' : World) : Prop where
  size : w.heap.size ≤ w'.heap.size
  block : ∀ b, b < w.heap.size → b ≠ AT → b ≠ LF → w'.heap[b]? = w.heap[b]?
section
variable {AT LF : Nat} {a b c : World}
theorem Keep2.refl (AT LF : Nat) (a : World) : Keep2 AT LF a a := ⟨Nat.le_refl _, fun _ _ _ _ => rfl⟩
theorem Keep2.of (h : Below a.heap.size a b) : Keep2 AT LF a b := ⟨h.size, fun x hx _ _ => h.block x hx⟩
theorem Keep2.trans (h : Keep2 AT LF a b) (k : Keep2 AT LF b c) : Keep2 AT LF a c := ⟨Nat.le_trans h.size k.size, fun x hx h1 h2 => (k.block x (Nat.lt_of_lt_of_le hx h.size) h1 h2).trans (h.block x hx h1 h2)⟩
theorem Keep2.set1 (h : Keep2 AT LF a b) (v : Value) : Keep2 AT LF a (b.setCell ⟨AT, 0, none⟩ v) := ⟨by rw [World.size_setCell]; exact h.size, fun x hx h1 h2 => (Below.heap_setCell b ⟨AT, 0, none⟩ v x h1).trans (h.block x hx h1 h2)⟩
theorem Keep2.set2 (h : Keep2 AT LF a b) (v : Value) : Keep2 AT LF a (b.setCell ⟨LF, 0, none⟩ v) := ⟨by rw [World.size_setCell]; exact h.size, fun x hx h1 h2 => (Below.heap_setCell b ⟨LF, 0, none⟩ v x h2).trans (h.block x hx h1 h2)⟩
end
theorem app_len (f g : F) : (f.app g).len = f.len + g.len := by
  induction f with
  | nil => simp [F.app, F.len]
  | cons r k kids rest _ ih => simp only [F.app, F.len, ih]; omega
theorem chk_snoc {t : Nat} {rs : List SR} {r k : Int} {kids : F} (hc : chkT t rs r k kids = true) : ∀ (f : F) (xs : List Int), f.chk t rs xs = true → ∀ (hl : f.len < xs.length), (r = -1 → k = xs[f.len]) → (0 ≤ r → (ruOf rs r).f0 = xs[f.len]) → (f.app (.cons r k kids .nil)).chk t rs xs = true := by
  intro f
  induction f with
  | nil =>
    intro xs _ hl h1 h2
    cases xs with
    | nil => exact absurd hl (Nat.not_lt_zero _)
    | cons x xs =>
      simp only [F.len, List.getElem_cons_zero] at h1 h2
      unfold chkT at hc
      simp only [F.app, F.chk, Bool.and_eq_true]
      refine ⟨⟨⟨hc, ?_⟩, ?_⟩, trivial⟩
      · by_cases hr : r = -1
        · rw [h1 hr]; simp
        · simp [hr]
      · by_cases hr : 0 ≤ r
        · rw [h2 hr]; simp
        · simp [hr]
  | cons r0 k0 kids0 rest ih1 ih2 =>
    intro xs h hl h1 h2
    cases xs with
    | nil => exact absurd hl (Nat.not_lt_zero _)
    | cons x xs =>
      simp only [F.len, List.getElem_cons_succ] at h1 h2
      simp only [F.app, F.chk, Bool.and_eq_true] at h ⊢
      exact ⟨h.1, ih2 xs h.2 (by simpa [F.len] using hl) h1 h2⟩
theorem Cell1.drew {W : World} {N t : Nat} {v : Value} (h : Cell1 W N t v) : Cell1 W.drew N t v := ⟨h.heap⟩
/-- What a grown tree is. -/
def GrowPost (B w : World) (AT LF t : Nat) (rs : List SR) (sym : Int) (l deep : Nat) (e : Ending) (w' : World) : Prop := Below B.heap.size B w' ∧ Keep2 AT LF w w' ∧ ((e = .returned (.tuple #[.pointer none, .bool false])) ∨ ∃ (X : Nat) (r k : Int) (f : F) (l' : Nat), e = .returned (.tuple #[.pointer (some ⟨X, 0, none⟩), .bool true]) ∧ OwnN w' (fun b => w.heap.size ≤ b ∧ b < w'.heap.size) X r k f ∧ chkT t rs r k f = true ∧ (r = -1 → k = sym) ∧ (0 ≤ r → (ruOf rs r).f0 = sym) ∧ l' ≤ l ∧ f.nodes ≤ 6 * (l - l') ∧ f.height + deep ≤ 13 ∧ Cell1 w' AT 3 (.int .i64 ((60 - l' : Nat) : Int)) ∧ Cell1 w' LF 3 (.int .i64 (l' : Int)))
end Go.Proofs.YtjhemobplcelbaaGreatDoor.T
