/- Votes that come in any order: what is counted behind each. Up to seven voters. -/
import Derived.Test.YtlieblnpkgnkfaaVoteG
namespace Go.Proofs.Ytlieblnpkgnkfaa.V
set_option linter.unusedVariables false
open Go.RowKit Go.Proofs.YtlieblnpkgnkfaaW.PrintWords Go.Proofs.YtlieblnpkgnkfaaW.PrintLast Go.Proofs.YtlieblnpkgnkfaaW.PrintMore

/-- How many numbers below n are so. -/
def K (p : Nat → Bool) : Nat → Nat
  | 0 => 0
  | n + 1 => K p n + (if p n = true then 1 else 0)
theorem K_le (p : Nat → Bool) (n : Nat) : K p n ≤ n := by
  induction n with
  | zero => exact Nat.le_refl _
  | succ n ih => simp only [K]; split <;> omega
theorem K_congr {p q : Nat → Bool} : ∀ {n : Nat}, (∀ j, j < n → p j = q j) → K p n = K q n := by
  intro n
  induction n with
  | zero => intro _; rfl
  | succ n ih => intro h; simp only [K]; rw [ih (fun j hj => h j (by omega)), h n (by omega)]
theorem K_more {p q : Nat → Bool} {a : Nat} : ∀ {n : Nat}, (∀ j, j < n → q j = (p j || decide (j = a))) → p a = false → K q n = K p n + (if a < n then 1 else 0) := by
  intro n
  induction n with
  | zero => intro _ _; rfl
  | succ n ih =>
    intro h ha
    simp only [K]
    rw [ih (fun j hj => h j (by omega)) ha, h n (by omega)]
    by_cases e : n = a
    · subst e
      rw [ha, if_neg (by omega), if_pos (by simp), if_neg (by decide), if_pos (by omega)]
    · rw [show decide (n = a) = false from decide_eq_false e, Bool.or_false]
      by_cases e2 : a < n
      · rw [if_pos e2, if_pos (show a < n + 1 by omega)]; omega
      · rw [if_neg e2, if_neg (show ¬ a < n + 1 by omega)]; omega
def ids : Nat → List Int
  | 0 => []
  | n + 1 => ids n ++ [(n : Int) + 1]
theorem ids_len (n : Nat) : (ids n).length = n := by
  induction n with
  | zero => rfl
  | succ n ih => simp only [ids, List.length_append, List.length_singleton, ih]
theorem mem_ids (n : Nat) (x : Int) : x ∈ ids n ↔ ∃ j : Nat, j < n ∧ x = (j : Int) + 1 := by
  induction n with
  | zero => simp [ids]
  | succ n ih =>
    simp only [ids, List.mem_append, List.mem_singleton, ih]
    constructor
    · rintro (⟨j, hj, rfl⟩ | rfl)
      · exact ⟨j, by omega, rfl⟩
      · exact ⟨n, by omega, rfl⟩
    · rintro ⟨j, hj, rfl⟩
      rcases Nat.lt_or_ge j n with h | h
      · exact .inl ⟨j, h, rfl⟩
      · obtain rfl : j = n := by omega
        exact .inr rfl
theorem cnt_ids (yes : List Int) (n : Nat) : cnt yes (ids n) = K (fun j => yes.contains ((j : Int) + 1)) n := by
  induction n with
  | zero => rfl
  | succ n ih =>
    simp only [ids, K]
    unfold cnt at ih ⊢
    rw [List.countP_append, ih]
    simp [List.countP_cons]
/-- The voters s 0, s 1, .., s (m - 1) have voted, as y says. -/
structure Cast (y : Nat → Bool) (s : Nat → Nat) (n m : Nat) (yes no : List Int) : Prop where
  len : yes.length + no.length = m
  count : cnt yes (ids n) = yes.length
  yes_ : ∀ x, x ∈ yes ↔ ∃ i, i < m ∧ y (s i) = true ∧ x = (s i : Int) + 1
  no_ : ∀ x, x ∈ no ↔ ∃ i, i < m ∧ y (s i) = false ∧ x = (s i : Int) + 1
theorem Cast.nil (y : Nat → Bool) (s : Nat → Nat) (n : Nat) : Cast y s n 0 [] [] := by
  refine ⟨rfl, ?_, fun x => ?_, fun x => ?_⟩
  · rw [cnt_ids]
    have := K_congr (p := fun j => ([] : List Int).contains ((j : Int) + 1)) (q := fun _ => false) (n := n) (fun j _ => rfl)
    rw [this]
    induction n with
    | zero => rfl
    | succ n ih => simp only [K] at ih ⊢; simpa using ih
  · simp
  · simp
section
variable {y : Nat → Bool} {s : Nat → Nat} {n m : Nat} {yes no : List Int}
theorem Cast.may (h : Cast y s n m yes no) (hi : ∀ i, i < m → s i ≠ s m) (hn : s m < n) : mayB (ids n) yes no ((s m : Int) + 1) = true := by
  have h1 : (ids n).contains ((s m : Int) + 1) = true := by
    rw [List.contains_iff_mem, mem_ids]
    exact ⟨s m, hn, rfl⟩
  have h2 : yes.contains ((s m : Int) + 1) = false := by
    rw [← Bool.not_eq_true, List.contains_iff_mem, h.yes_]
    rintro ⟨i, hlt, _, he⟩
    exact hi i hlt (by omega)
  have h3 : no.contains ((s m : Int) + 1) = false := by
    rw [← Bool.not_eq_true, List.contains_iff_mem, h.no_]
    rintro ⟨i, hlt, _, he⟩
    exact hi i hlt (by omega)
  unfold mayB
  rw [h1, h2, h3]
  rfl
theorem Cast.pushY (h : Cast y s n m yes no) (hi : ∀ i, i < m → s i ≠ s m) (hn : s m < n) (hy : y (s m) = true) : Cast y s n (m + 1) (yes ++ [(s m : Int) + 1]) no := by
  refine ⟨?_, ?_, fun x => ?_, fun x => ?_⟩
  · rw [List.length_append, List.length_singleton]
    have := h.len
    omega
  · have hc := h.count
    rw [cnt_ids] at hc ⊢
    have hno : yes.contains ((s m : Int) + 1) = false := by
      rw [← Bool.not_eq_true, List.contains_iff_mem, h.yes_]
      rintro ⟨i, hlt, _, he⟩
      exact hi i hlt (by omega)
    rw [K_more (p := fun j => yes.contains ((j : Int) + 1)) (a := s m) (fun j _ => ?_) hno, if_pos hn, hc, List.length_append, List.length_singleton]
    rw [Bool.eq_iff_iff]
    simp only [List.contains_iff_mem, List.mem_append, List.mem_singleton, Bool.or_eq_true, decide_eq_true_eq]
    constructor
    · rintro (h | h)
      · exact .inl h
      · exact .inr (by omega)
    · rintro (h | h)
      · exact .inl h
      · exact .inr (by omega)
  · rw [List.mem_append, List.mem_singleton, h.yes_]
    constructor
    · rintro (⟨i, hlt, h1, h2⟩ | rfl)
      · exact ⟨i, by omega, h1, h2⟩
      · exact ⟨m, by omega, hy, rfl⟩
    · rintro ⟨i, hlt, h1, h2⟩
      rcases Nat.lt_or_ge i m with hm | hm
      · exact .inl ⟨i, hm, h1, h2⟩
      · obtain rfl : i = m := by omega
        exact .inr h2
  · rw [h.no_]
    constructor
    · rintro ⟨i, hlt, h1, h2⟩
      exact ⟨i, by omega, h1, h2⟩
    · rintro ⟨i, hlt, h1, h2⟩
      rcases Nat.lt_or_ge i m with hm | hm
      · exact ⟨i, hm, h1, h2⟩
      · obtain rfl : i = m := by omega
        rw [hy] at h1
        cases h1
theorem Cast.pushN (h : Cast y s n m yes no) (hy : y (s m) = false) : Cast y s n (m + 1) yes (no ++ [(s m : Int) + 1]) := by
  refine ⟨?_, h.count, fun x => ?_, fun x => ?_⟩
  · rw [List.length_append, List.length_singleton]
    have := h.len
    omega
  · rw [h.yes_]
    constructor
    · rintro ⟨i, hlt, h1, h2⟩
      exact ⟨i, by omega, h1, h2⟩
    · rintro ⟨i, hlt, h1, h2⟩
      rcases Nat.lt_or_ge i m with hm | hm
      · exact ⟨i, hm, h1, h2⟩
      · obtain rfl : i = m := by omega
        rw [hy] at h1
        cases h1
  · rw [List.mem_append, List.mem_singleton, h.no_]
    constructor
    · rintro (⟨i, hlt, h1, h2⟩ | rfl)
      · exact ⟨i, by omega, h1, h2⟩
      · exact ⟨m, by omega, hy, rfl⟩
    · rintro ⟨i, hlt, h1, h2⟩
      rcases Nat.lt_or_ge i m with hm | hm
      · exact .inl ⟨i, hm, h1, h2⟩
      · obtain rfl : i = m := by omega
        exact .inr h2
/-- All have voted. -/
theorem Cast.all (h : Cast y s n n yes no) (hs : ∀ j, j < n → ∃ i, i < n ∧ s i = j) : cnt yes (ids n) = K y n ∧ no.length = n - K y n := by
  have h1 : cnt yes (ids n) = K y n := by
    rw [cnt_ids]
    refine K_congr (fun j hj => ?_)
    rw [Bool.eq_iff_iff, List.contains_iff_mem, h.yes_]
    constructor
    · rintro ⟨i, hlt, hy, he⟩
      obtain rfl : j = s i := by omega
      exact hy
    · intro hy
      obtain ⟨i, hlt, rfl⟩ := hs j hj
      exact ⟨i, hlt, hy, rfl⟩
  refine ⟨h1, ?_⟩
  have := h.count
  have := h.len
  omega
theorem mayC_ids (h1 : 1 ≤ n) (h7 : n ≤ 7) : mayC (ids n) = true := by
  have : n = 1 ∨ n = 2 ∨ n = 3 ∨ n = 4 ∨ n = 5 ∨ n = 6 ∨ n = 7 := by omega
  rcases this with rfl | rfl | rfl | rfl | rfl | rfl | rfl <;> decide
theorem Cast.won (h : Cast y s n n yes no) (hs : ∀ j, j < n → ∃ i, i < n ∧ s i = j) (h1 : 1 ≤ n) (h7 : n ≤ 7) : majB (ids n) yes = decide (n < 2 * K y n) := by
  unfold majB
  rw [mayC_ids h1 h7, (h.all hs).1, ids_len, Bool.true_and]
theorem Cast.lost (h : Cast y s n n yes no) (hs : ∀ j, j < n → ∃ i, i < n ∧ s i = j) (h1 : 1 ≤ n) : lostB (ids n) no = !decide (n < 2 * K y n) := by
  unfold lostB
  rw [(h.all hs).2, ids_len, decide_eq_true (show 0 < n by omega), Bool.true_and, ← decide_not]
  have := K_le y n
  exact decide_eq_decide.2 (by omega)
end
/-- The turned order. -/
def rot (n t i : Nat) : Nat := (i + t) % n
theorem rot_lt {n : Nat} (h : 1 ≤ n) (t i : Nat) : rot n t i < n := Nat.mod_lt _ (by omega)
theorem rot_ne {n t i m : Nat} (ht : t < n) (hm : m < n) (hi : i < m) : rot n t i ≠ rot n t m := by
  unfold rot
  intro h
  have e1 : (i + t) % n = if i + t < n then i + t else i + t - n := by
    split
    · exact Nat.mod_eq_of_lt ‹_›
    · rw [Nat.mod_eq_sub_mod (by omega), Nat.mod_eq_of_lt (by omega)]
  have e2 : (m + t) % n = if m + t < n then m + t else m + t - n := by
    split
    · exact Nat.mod_eq_of_lt ‹_›
    · rw [Nat.mod_eq_sub_mod (by omega), Nat.mod_eq_of_lt (by omega)]
  rw [e1, e2] at h
  split at h <;> split at h <;> omega
theorem rot_onto {n t : Nat} (ht : t < n) : ∀ j, j < n → ∃ i, i < n ∧ rot n t i = j := by
  intro j hj
  unfold rot
  by_cases h : t ≤ j
  · exact ⟨j - t, by omega, by rw [show j - t + t = j by omega]; exact Nat.mod_eq_of_lt hj⟩
  · exact ⟨j + n - t, by omega, by rw [show j + n - t + t = j + n by omega, Nat.add_mod_right]; exact Nat.mod_eq_of_lt hj⟩
end Go.Proofs.Ytlieblnpkgnkfaa.V
