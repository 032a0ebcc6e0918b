/- Who may vote, and who has more than half: what the program's and the document's functions answer, in plain words. Rows are shorter than 10^12. -/
import Derived.Test.YtlieblnpkgnkfaaVoteC
namespace Go.Proofs.Ytlieblnpkgnkfaa.V
open Go.RowKit Go.Proofs.YtlieblnpkgnkfaaW.PrintWords Go.Proofs.YtlieblnpkgnkfaaW.PrintLast Go.Proofs.YtlieblnpkgnkfaaW.PrintMore

def okAt (l : List Int) (i : Nat) : Bool := decide (1 ≤ l.getD i 0) && decide (l.getD i 0 ≤ 7) && (decide (i = 0) || decide (l.getD (i - 1) 0 < l.getD i 0))
theorem ok_iff (l : List Int) (i : Nat) : okAt l i = true ↔ 1 ≤ l.getD i 0 ∧ l.getD i 0 ≤ 7 ∧ (i = 0 ∨ l.getD (i - 1) 0 < l.getD i 0) := by
  unfold okAt
  simp only [Bool.and_eq_true, Bool.or_eq_true, decide_eq_true_eq, and_assoc]
theorem okT {l : List Int} {i : Nat} (h : 1 ≤ l.getD i 0 ∧ l.getD i 0 ≤ 7 ∧ (i = 0 ∨ l.getD (i - 1) 0 < l.getD i 0)) : okAt l i = true := (ok_iff l i).2 h
theorem okF {l : List Int} {i : Nat} (h : ¬ (1 ≤ l.getD i 0 ∧ l.getD i 0 ≤ 7 ∧ (i = 0 ∨ l.getD (i - 1) 0 < l.getD i 0))) : okAt l i = false := by
  cases e : okAt l i with
  | false => rfl
  | true => exact absurd ((ok_iff l i).1 e) h
def allFrom (l : List Int) : Nat → Nat → Bool
  | 0, _ => true
  | d + 1, j => okAt l j && allFrom l d (j + 1)
def mayC (l : List Int) : Bool := allFrom l l.length 0 && decide (0 < l.length)
def cnt (yes l : List Int) : Nat := l.countP (fun x => yes.contains x)
def majB (l yes : List Int) : Bool := mayC l && decide (l.length < 2 * cnt yes l)
def lostB (l no : List Int) : Bool := decide (0 < l.length) && decide (2 * ((l.length : Int) - no.length) ≤ l.length)

theorem may_ev (l : List Int) (hl : l.length ≤ 1000000000000) (d : Nat) : ∀ j : Nat, j + d = l.length → Ev (fun k => conf_May.l0 k l l (l.length : Int) (j : Int)) (allFrom l d j && decide (0 < l.length)) := by
  induction d with
  | zero =>
    intro j hj
    refine Ev.step (fun k => by rw [conf_May.l0]) (ev_neg (by omega) (ev_now ?_))
    simp [allFrom]
  | succ d ih =>
    intro j hj
    have hn := ih (j + 1) (by omega)
    have hw : wrap64 ((j : Int) + 1) = ((j + 1 : Nat) : Int) := by unfold wrap64; omega
    have hr : rd l (j : Int) = l.getD j 0 := by simp [rd]
    refine Ev.step (fun k => by rw [conf_May.l0]) (ev_pos (by omega) (ev_pos (by omega) (ev_pos (by omega) ?_)))
    rw [hr, hw]
    have he : allFrom l (d + 1) j = (okAt l j && allFrom l d (j + 1)) := rfl
    by_cases h1 : l.getD j 0 < 1
    · refine ev_pos h1 (ev_now ?_)
      rw [he, show okAt l j = false from okF (by omega)]
      rfl
    refine ev_neg h1 ?_
    by_cases h2 : l.getD j 0 > 7
    · refine ev_pos h2 (ev_now ?_)
      rw [he, show okAt l j = false from okF (by omega)]
      rfl
    refine ev_neg h2 ?_
    by_cases h3 : (j : Int) > 0
    · have hw2 : wrap64 ((j : Int) - 1) = ((j - 1 : Nat) : Int) := by unfold wrap64; omega
      have hr2 : rd l ((j - 1 : Nat) : Int) = l.getD (j - 1) 0 := by simp only [rd, Int.toNat_natCast]
      refine ev_pos h3 ?_
      rw [hw2, hr2]
      refine ev_pos (by omega) (ev_pos (by omega) ?_)
      by_cases h4 : l.getD (j - 1) 0 ≥ l.getD j 0
      · refine ev_pos h4 (ev_now ?_)
        rw [he, show okAt l j = false from okF (by omega)]
        rfl
      · refine ev_neg h4 ?_
        rw [he, show okAt l j = true from okT (by omega)]
        exact hn
    · refine ev_neg h3 ?_
      rw [he, show okAt l j = true from okT (by omega)]
      exact hn
theorem conf_may (l : List Int) (hl : l.length ≤ 1000000000000) : Ev (fun k => conf_May.f k l) (mayC l) := may_ev l hl l.length 0 (by omega)
theorem ref_may_ev (l : List Int) (hl : l.length ≤ 1000000000000) (d : Nat) : ∀ j : Nat, j + d = l.length → Ev (fun k => donatusref21_MayConf.l0 k l (j : Int)) (allFrom l d j && decide (0 < l.length)) := by
  induction d with
  | zero =>
    intro j hj
    refine Ev.step (fun k => by rw [donatusref21_MayConf.l0]) (ev_neg (by omega) (ev_now ?_))
    simp [allFrom]
  | succ d ih =>
    intro j hj
    have hn := ih (j + 1) (by omega)
    have hw : wrap64 ((j : Int) + 1) = ((j + 1 : Nat) : Int) := by unfold wrap64; omega
    have hr : rd l (j : Int) = l.getD j 0 := by simp [rd]
    refine Ev.step (fun k => by rw [donatusref21_MayConf.l0]) (ev_pos (by omega) (ev_pos (by omega) ?_))
    rw [hr, hw]
    have he : allFrom l (d + 1) j = (okAt l j && allFrom l d (j + 1)) := rfl
    by_cases h1 : l.getD j 0 < 1
    · refine ev_pos h1 (ev_now ?_)
      rw [he, show okAt l j = false from okF (by omega)]
      rfl
    refine ev_neg h1 ?_
    by_cases h2 : l.getD j 0 > 7
    · refine ev_pos h2 (ev_now ?_)
      rw [he, show okAt l j = false from okF (by omega)]
      rfl
    refine ev_neg h2 ?_
    by_cases h3 : (j : Int) > 0
    · have hw2 : wrap64 ((j : Int) - 1) = ((j - 1 : Nat) : Int) := by unfold wrap64; omega
      have hr2 : rd l ((j - 1 : Nat) : Int) = l.getD (j - 1) 0 := by simp only [rd, Int.toNat_natCast]
      refine ev_pos h3 ?_
      rw [hw2, hr2]
      refine ev_pos (by omega) (ev_pos (by omega) ?_)
      by_cases h4 : l.getD j 0 ≤ l.getD (j - 1) 0
      · refine ev_pos h4 (ev_now ?_)
        rw [he, show okAt l j = false from okF (by omega)]
        rfl
      · refine ev_neg h4 ?_
        rw [he, show okAt l j = true from okT (by omega)]
        exact hn
    · refine ev_neg h3 ?_
      rw [he, show okAt l j = true from okT (by omega)]
      exact hn
theorem ref_may (l : List Int) (hl : l.length ≤ 1000000000000) : Ev (fun k => donatusref21_MayConf.f k l) (mayC l) := ref_may_ev l hl l.length 0 (by omega)
theorem ref_has_ev (l : List Int) (x : Int) (hl : l.length ≤ 1000000000000) (d : Nat) : ∀ j : Nat, j + d = l.length → Ev (fun k => donatusref21_Has.l0 k l x (j : Int)) ((l.drop j).contains x) := by
  induction d with
  | zero =>
    intro j hj
    refine Ev.step (fun k => by rw [donatusref21_Has.l0]) (ev_neg (by omega) (ev_now ?_))
    rw [List.drop_eq_nil_of_le (by omega)]
    rfl
  | succ d ih =>
    intro j hj
    have hlt : j < l.length := by omega
    have hw : wrap64 ((j : Int) + 1) = ((j + 1 : Nat) : Int) := by unfold wrap64; omega
    refine Ev.step (fun k => by rw [donatusref21_Has.l0]) (ev_pos (by omega) (ev_pos (by omega) ?_))
    rw [rd_at l j hlt, hw, contains_drop l x j hlt]
    by_cases hx : l[j] = x
    · exact ev_pos hx (ev_now (by simp [hx]))
    · refine ev_neg hx ?_
      rw [show (x == l[j]) = false from by simp; exact fun h => hx h.symm]
      exact ih (j + 1) (by omega)
theorem ref_has (l : List Int) (x : Int) (hl : l.length ≤ 1000000000000) : Ev (fun k => donatusref21_Has.f k l x) (l.contains x) := ref_has_ev l x hl l.length 0 (by omega)
theorem cnt_step (yes l : List Int) (j : Nat) (h : j < l.length) : cnt yes (l.take (j + 1)) = cnt yes (l.take j) + (if yes.contains l[j] = true then 1 else 0) := by
  unfold cnt
  rw [List.take_succ_eq_append_getElem h, List.countP_append]
  simp [List.countP_cons]
theorem cnt_le (yes l : List Int) (j : Nat) : cnt yes (l.take j) ≤ j := by
  unfold cnt
  have := List.countP_le_length (p := fun x => yes.contains x) (l := l.take j)
  rw [List.length_take] at this
  omega
theorem maj_ev (l yes : List Int) (hl : l.length ≤ 1000000000000) (hy : yes.length ≤ 1000000000000) (d : Nat) : ∀ j : Nat, j + d = l.length → Ev (fun k => conf_Majority.l0 k l yes (cnt yes (l.take j) : Int) l (l.length : Int) (j : Int)) (majB l yes) := by
  induction d with
  | zero =>
    intro j hj
    refine Ev.step (fun k => by rw [conf_Majority.l0]) (ev_neg (by omega) (Ev.bind (conf_may l hl) ?_))
    have hc := cnt_le yes l j
    unfold majB
    cases mayC l with
    | false => exact ev_neg (by decide) (Ev.now _)
    | true =>
      refine ev_pos rfl (ev_now ?_)
      rw [show wrap64 (2 * (cnt yes (l.take j) : Int)) = 2 * (cnt yes (l.take j) : Int) from by unfold wrap64; omega, List.take_of_length_le (by omega), Bool.true_and]
      exact decide_eq_decide.2 (by omega)
  | succ d ih =>
    intro j hj
    have hlt : j < l.length := by omega
    have hw : wrap64 ((j : Int) + 1) = ((j + 1 : Nat) : Int) := by unfold wrap64; omega
    have hc := cnt_le yes l j
    have hn := ih (j + 1) (by omega)
    rw [cnt_step yes l j hlt] at hn
    refine Ev.step (fun k => by rw [conf_Majority.l0]) (ev_pos (by omega) (ev_pos (by omega) (ev_pos (by omega) ?_)))
    rw [rd_at l j hlt, hw]
    refine Ev.bind (has_ev yes l[j] (by omega)) ?_
    cases e : yes.contains l[j] with
    | true =>
      rw [e, if_pos rfl] at hn
      rw [show wrap64 ((cnt yes (l.take j) : Int) + 1) = ((cnt yes (l.take j) + 1 : Nat) : Int) from by unfold wrap64; omega]
      exact ev_pos rfl hn
    | false =>
      rw [e, if_neg (by decide), Nat.add_zero] at hn
      exact ev_neg (by decide) hn
theorem conf_maj (l yes : List Int) (hl : l.length ≤ 1000000000000) (hy : yes.length ≤ 1000000000000) : Ev (fun k => conf_Majority.f k l yes) (majB l yes) := maj_ev l yes hl hy l.length 0 (by omega)
theorem ref_maj_ev (l yes : List Int) (hl : l.length ≤ 1000000000000) (hy : yes.length ≤ 1000000000000) (d : Nat) : ∀ j : Nat, j + d = l.length → Ev (fun k => donatusref21_Majority.l0 k l yes (cnt yes (l.take j) : Int) (j : Int)) (majB l yes) := by
  induction d with
  | zero =>
    intro j hj
    refine Ev.step (fun k => by rw [donatusref21_Majority.l0]) (ev_neg (by omega) (Ev.bind (ref_may l hl) ?_))
    have hc := cnt_le yes l j
    unfold majB
    cases mayC l with
    | false => exact ev_neg (by decide) (Ev.now _)
    | true =>
      refine ev_pos rfl (ev_now ?_)
      rw [show wrap64 (2 * (cnt yes (l.take j) : Int)) = 2 * (cnt yes (l.take j) : Int) from by unfold wrap64; omega, List.take_of_length_le (by omega), Bool.true_and]
      exact decide_eq_decide.2 (by omega)
  | succ d ih =>
    intro j hj
    have hlt : j < l.length := by omega
    have hw : wrap64 ((j : Int) + 1) = ((j + 1 : Nat) : Int) := by unfold wrap64; omega
    have hc := cnt_le yes l j
    have hn := ih (j + 1) (by omega)
    rw [cnt_step yes l j hlt] at hn
    refine Ev.step (fun k => by rw [donatusref21_Majority.l0]) (ev_pos (by omega) (ev_pos (by omega) ?_))
    rw [rd_at l j hlt, hw]
    refine Ev.bind (ref_has yes l[j] (by omega)) ?_
    cases e : yes.contains l[j] with
    | true =>
      rw [e, if_pos rfl] at hn
      rw [show wrap64 ((cnt yes (l.take j) : Int) + 1) = ((cnt yes (l.take j) + 1 : Nat) : Int) from by unfold wrap64; omega]
      exact ev_pos rfl hn
    | false =>
      rw [e, if_neg (by decide), Nat.add_zero] at hn
      exact ev_neg (by decide) hn
theorem ref_maj (l yes : List Int) (hl : l.length ≤ 1000000000000) (hy : yes.length ≤ 1000000000000) : Ev (fun k => donatusref21_Majority.f k l yes) (majB l yes) := ref_maj_ev l yes hl hy l.length 0 (by omega)
end Go.Proofs.Ytlieblnpkgnkfaa.V
