/- oset: where a member stands (plain), and slices.BinarySearchFunc. -/
import Derived.Test.YtldgofblflmcbaaProg
import Derived.Test.YtldgofblflmcbaaWWords
import Derived.Test.YtldgofblflmcbaaWLast
import Derived.Test.YtldgofblflmcbaaWMore
import Derived.Deep.Draws
import Derived.Below
import Derived.WalkKit
import Derived.WalkSpells
import Derived.WalkLawsBesides
import Derived.Tactics
import Derived.RowKit3
import Derived.OwnWalk
import Derived.Deep.LoopGhost
import Derived.Deep.QuietTactic
import Derived.BigQuiet
namespace Go.Proofs.Ytldgofblflmcbaa.S
open Go.RowKit Go.Proofs.YtldgofblflmcbaaW.PrintWords Go.Proofs.YtldgofblflmcbaaW.PrintLast Go.Proofs.YtldgofblflmcbaaW.PrintMore
set_option linter.unusedVariables false
set_option linter.unusedSimpArgs false

/-! ### Plain: where x stands in l, or would -/
/-- How many of l stand ahead of x. -/
def lo {α : Type} (c : α → α → Int) (x : α) (l : List α) : Nat := (l.takeWhile fun y => decide (c y x < 0)).length
/-- Is it there? -/
def hit {α : Type} (c : α → α → Int) (x : α) (l : List α) : Bool := match l[lo c x l]? with | some y => c y x == 0 | none => false
/-- What stands ahead of x stands ahead in l, too. -/
def Fits {α : Type} (c : α → α → Int) (x : α) (l : List α) : Prop := ∀ j k (hj : j < l.length) (hk : k < l.length), j ≤ k → c l[k] x < 0 → c l[j] x < 0
theorem lo_le {α : Type} (c : α → α → Int) (x : α) (l : List α) : lo c x l ≤ l.length := by
  unfold lo
  exact (List.takeWhile_prefix _).length_le
theorem lo_of {α : Type} {c : α → α → Int} {x : α} : ∀ {l : List α} {i : Nat}, i ≤ l.length → (∀ k (hk : k < l.length), k < i → c l[k] x < 0) → (∀ (h : i < l.length), ¬ c l[i] x < 0) → lo c x l = i := by
  intro l
  induction l with
  | nil =>
    intro i h _ _
    obtain rfl : i = 0 := by simpa using h
    rfl
  | cons y l ih =>
    intro i h h1 h2
    cases i with
    | zero =>
      have := h2 (by simp)
      unfold lo
      rw [List.takeWhile_cons, decide_eq_false (by simpa using this)]
      rfl
    | succ i =>
      have h0 := h1 0 (by simp) (by omega)
      have := ih (i := i) (by simpa using h) (fun k hk hki => by have := h1 (k + 1) (by simpa using hk) (by omega); simpa using this) (fun hi => by have := h2 (by simpa using hi); simpa using this)
      unfold lo at this ⊢
      rw [List.takeWhile_cons, decide_eq_true (by simpa using h0)]
      simp [this]
theorem lo_lt {α : Type} {c : α → α → Int} {x : α} : ∀ {l : List α} {k : Nat} (hk : k < l.length), k < lo c x l → c l[k] x < 0 := by
  intro l
  induction l with
  | nil => intro k hk; simp at hk
  | cons y l ih =>
    intro k hk h
    unfold lo at h
    rw [List.takeWhile_cons] at h
    by_cases hy : c y x < 0
    · rw [decide_eq_true hy] at h
      cases k with
      | zero => exact hy
      | succ k => exact ih (by simpa using hk) (by simpa [lo] using h)
    · rw [decide_eq_false hy] at h
      simp at h
theorem lo_at {α : Type} {c : α → α → Int} {x : α} : ∀ {l : List α} (h : lo c x l < l.length), ¬ c l[lo c x l] x < 0 := by
  intro l
  induction l with
  | nil => intro h; simp at h
  | cons y l ih =>
    intro h
    by_cases hy : c y x < 0
    · have e : lo c x (y :: l) = lo c x l + 1 := by
        unfold lo
        rw [List.takeWhile_cons, decide_eq_true hy]
        rfl
      have h' : lo c x l < l.length := by rw [e] at h; simpa using h
      have := ih h'
      simpa [e] using this
    · have e : lo c x (y :: l) = 0 := by
        unfold lo
        rw [List.takeWhile_cons, decide_eq_false hy]
        rfl
      simpa [e] using hy
/-- At a round's head of the search: x stands from i to j. -/
structure Srch {α : Type} (c : α → α → Int) (x : α) (l : List α) (i j : Nat) : Prop where
  le : i ≤ j
  top : j ≤ l.length
  lo : ∀ k (hk : k < l.length), k < i → c l[k] x < 0
  hi : ∀ k (hk : k < l.length), j ≤ k → ¬ c l[k] x < 0
theorem Srch.start {α : Type} (c : α → α → Int) (x : α) (l : List α) : Srch c x l 0 l.length := ⟨Nat.zero_le _, Nat.le_refl _, fun k _ h => by omega, fun k h h2 => by omega⟩
theorem Srch.up {α : Type} {c : α → α → Int} {x : α} {l : List α} {i j h : Nat} (s : Srch c x l i j) (hf : Fits c x l) (h1 : h < j) (hl : h < l.length) (h2 : c l[h] x < 0) : Srch c x l (h + 1) j :=
  ⟨h1, s.top, fun k hk hkh => hf k h hk hl (by omega) h2, s.hi⟩
theorem Srch.down {α : Type} {c : α → α → Int} {x : α} {l : List α} {i j h : Nat} (s : Srch c x l i j) (hf : Fits c x l) (h0 : i ≤ h) (h1 : h < j) (hl : h < l.length) (h2 : ¬ c l[h] x < 0) : Srch c x l i h :=
  ⟨h0, by omega, s.lo, fun k hk hkh hc => h2 (hf h k hl hk hkh hc)⟩
theorem Srch.done {α : Type} {c : α → α → Int} {x : α} {l : List α} {i : Nat} (s : Srch c x l i i) : S.lo c x l = i := lo_of s.top s.lo (fun h => s.hi i h (Nat.le_refl _))

/-! ### slices.BinarySearchFunc over whole numbers -/
theorem at_int {w : World} {A : Option Addr} {n : Nat} {xs : List Int} (h : Kd.C (Kd.int .i64) w A n xs) (i : Nat) (hi : i < xs.length) (hn : n = xs.length) : ∃ ad, A = some ad ∧ w.cell? (ad.add i) = some (.int .i64 xs[i]) := by
  obtain ⟨ad, cs, e, _, hK, hc⟩ := Kd.C_get h 0 (i : Int) (by omega) (by omega)
  obtain rfl : cs = [.int .i64 (xs.getD (i : Int).toNat 0)] := hK
  have := hc 0 _ rfl
  simp only [Kd.int, Kd.scalar, Int.toNat_natCast, Nat.mul_one, Nat.add_zero] at this
  rw [List.getD_eq_getElem?_getD, List.getElem?_eq_getElem hi] at this
  exact ⟨ad, e, this⟩
def SrchRel {α : Type} (c : α → α → Int) (x : α) (l : List α) (w : World) (kq : Nat) (v9 v10 : Value) (w' : World) : Prop :=
  ∃ i j : Nat, j - i ≤ kq ∧ v9 = .int .i64 (i : Int) ∧ v10 = .int .i64 (j : Int) ∧ Srch c x l i j ∧ w' = w
set_option maxHeartbeats 1000000 in
theorem search_calls (c : Int → Int → Int) (hc : ∀ a b w, Calls Try.prog 9 #[.int .i64 a, .int .i64 b] w fun e w' => e = .returned (.int .i64 (c a b)) ∧ w' = w) (x : Int) (l : List Int) (hf : Fits c x l) (A : Option Addr) (cp : Nat) (w : World) (hl : l.length ≤ 17592186044416) (hr : Kd.C (Kd.int .i64) w A l.length l) (hcp : l.length ≤ cp) :
    Calls Try.prog 46 #[.slice A l.length cp, .int .i64 x, .func (.func 9) #[] #[]] w fun e w' => e = .returned (.tuple #[.int .i64 (lo c x l : Int), .bool (hit c x l)]) ∧ w' = w := by
  have HR := Aside0.mk hr
  have HC := Aside0.mk hc
  clear hr hc
  go_enter Try.func46, Try.ntmps46
  go_wp2_with fail
  go_loopg [9, 10] l.length (fun kq v9 v10 w' => SrchRel c x l w kq v9 v10 w')
  case atStart => exact ⟨0, l.length, by omega, rfl, rfl, Srch.start c x l, rfl⟩
  case round =>
    obtain ⟨i, j, hk, rfl, rfl, hs, rfl⟩ := hrel
    have HK := Aside0.mk hk
    have HS := Aside0.mk hs
    have h1 := hs.le
    have h2 := hs.top
    clear hk hs
    by_cases hij : i < j
    · have t1 : decide ((i : Int) < (j : Int)) = true := by simp; omega
      obtain ⟨h, hh, hh1, hh2⟩ : ∃ h : Nat, ((i : Int) + (j : Int)) / 2 = (h : Int) ∧ i ≤ h ∧ h < j := ⟨(i + j) / 2, by omega, by omega, by omega⟩
      obtain ⟨ad, e1, hx⟩ := at_int HR.out h (by omega) rfl
      subst e1
      have HX := Aside0.mk hx
      by_cases hy : c l[h] x < 0
      · have t2 : decide (c l[h] x < 0) = true := decide_eq_true hy
        have H2 := Aside0.mk (HS.out.up hf hh2 (by omega) hy)
        clear hy
        go_wp2_with (go_at_call 9; (with_reducible refine (HC.out _ _ _).mono ?_); rintro e w' ⟨rfl, rfl⟩)
        go_roundg (gk - 1)
        case measure => have := HK.out; omega
        case rel => exact ⟨h + 1, j, by have := HK.out; omega, by go_num, rfl, H2.out, rfl⟩
      · have t2 : decide (c l[h] x < 0) = false := decide_eq_false hy
        have H2 := Aside0.mk (HS.out.down hf hh1 hh2 (by omega) hy)
        clear hy
        go_wp2_with (go_at_call 9; (with_reducible refine (HC.out _ _ _).mono ?_); rintro e w' ⟨rfl, rfl⟩)
        go_roundg (gk - 1)
        case measure => have := HK.out; omega
        case rel => exact ⟨i, h, by have := HK.out; omega, rfl, by go_num, H2.out, rfl⟩
    · obtain rfl : i = j := by omega
      have HL := Aside0.mk HS.out.done
      have t1 : decide ((i : Int) < (i : Int)) = false := by simp
      by_cases hil : i < l.length
      · have t2 : decide ((i : Int) < (l.length : Int)) = true := by simp; omega
        obtain ⟨ad, e1, hx⟩ := at_int HR.out i (by omega) rfl
        subst e1
        go_wp2_with (go_at_call 9; (with_reducible refine (HC.out _ _ _).mono ?_); rintro e w' ⟨rfl, rfl⟩)
        go_ret2
        refine ⟨?_, rfl⟩
        have hh : hit c x l = (c l[i] x == 0) := by unfold hit; rw [HL.out, List.getElem?_eq_getElem hil]
        rw [HL.out, hh]
        rfl
      · have t2 : decide ((i : Int) < (l.length : Int)) = false := by simp; omega
        go_wp2_with (go_at_call 9; (with_reducible refine (HC.out _ _ _).mono ?_); rintro e w' ⟨rfl, rfl⟩)
        go_ret2
        refine ⟨?_, rfl⟩
        have hh : hit c x l = false := by unfold hit; rw [HL.out, List.getElem?_eq_none (by omega)]
        rw [HL.out, hh]
        rfl
end Go.Proofs.Ytldgofblflmcbaa.S
