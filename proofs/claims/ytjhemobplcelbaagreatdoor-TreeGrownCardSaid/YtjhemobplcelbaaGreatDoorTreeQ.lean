/- tree: which trees are a grammar's: the plain side. -/
import Derived.Test.YtjhemobplcelbaaGreatDoorTreeN
import Derived.Test.YtjhemobplcelbaaGreatDoorOfH
namespace Go.Proofs.YtjhemobplcelbaaGreatDoor.T
open Go.Proofs.YtjhemobplcelbaaGreatDoor.U (SR)
set_option linter.unusedVariables false
set_option linter.unusedSimpArgs false
/-- A rule by its number. -/
def ruOf (rs : List SR) (r : Int) : SR := rs.getD r.toNat ⟨0, [], 0, 0⟩
/-- Which symbol a tree is of. -/
def symF (t : Nat) (rs : List SR) (r k : Int) (kids : F) : Int := if r = -1 ∧ kids.len = 0 ∧ 0 ≤ k ∧ k < t then k else if 1 ≤ r ∧ r < rs.length ∧ k = 0 then (ruOf rs r).f0 else -1
/-- As the program tells it: does a forest fit symbols? -/
def F.fit (t : Nat) (rs : List SR) : F → List Int → Bool
  | .nil, [] => true
  | .cons r k kids rest, x :: xs => decide (symF t rs r k kids = x) && (if symF t rs r k kids < 0 then false else if r < 0 then true else kids.fit t rs (ruOf rs r).f1) && rest.fit t rs xs
  | _, _ => false
def fitT (t : Nat) (rs : List SR) (r k : Int) (kids : F) : Bool := if symF t rs r k kids < 0 then false else if r < 0 then true else kids.fit t rs (ruOf rs r).f1
/-- As the reference tells it. -/
def F.chk (t : Nat) (rs : List SR) : F → List Int → Bool
  | .nil, _ => true
  | .cons r k kids rest, [] => false
  | .cons r k kids rest, x :: xs => (if r = -1 then decide (0 ≤ k ∧ k < t ∧ kids.len = 0) else if r < 1 ∨ (rs.length : Int) ≤ r ∨ k ≠ 0 ∨ kids.len ≠ (ruOf rs r).f1.length then false else kids.chk t rs (ruOf rs r).f1) && !(decide (r = -1) && !decide (k = x)) && !(decide (0 ≤ r) && !decide ((ruOf rs r).f0 = x)) && rest.chk t rs xs
def chkT (t : Nat) (rs : List SR) (r k : Int) (kids : F) : Bool := if r = -1 then decide (0 ≤ k ∧ k < t ∧ kids.len = 0) else if r < 1 ∨ (rs.length : Int) ≤ r ∨ k ≠ 0 ∨ kids.len ≠ (ruOf rs r).f1.length then false else kids.chk t rs (ruOf rs r).f1
theorem fit_chk {t : Nat} {rs : List SR} (hl : ∀ r : Int, 1 ≤ r → r < rs.length → 0 ≤ (ruOf rs r).f0) : ∀ (f : F) (xs : List Int), f.fit t rs xs = (decide (f.len = xs.length) && f.chk t rs xs) := by
  intro f
  induction f with
  | nil => intro xs; cases xs <;> simp [F.fit, F.chk, F.len]
  | cons r k kids rest ih1 ih2 =>
    intro xs
    cases xs with
    | nil => simp [F.fit, F.len]
    | cons x xs =>
      have e : decide ((F.cons r k kids rest).len = (x :: xs).length) = decide (rest.len = xs.length) := decide_eq_decide.2 (by simp only [F.len, List.length_cons]; omega)
      rw [e]
      clear e
      simp only [F.fit, F.chk, ih1, ih2]
      by_cases hr : r = -1
      · subst hr
        by_cases hc : 0 ≤ k ∧ k < (t : Int) ∧ kids.len = 0
        · have hs : symF t rs (-1) k kids = k := if_pos ⟨rfl, hc.2.2, hc.1, hc.2.1⟩
          rw [hs, if_neg (by omega), if_pos (by decide), if_pos rfl, decide_eq_true hc]
          by_cases hx : k = x <;> cases decide (rest.len = xs.length) <;> simp [hx]
        · have hs : symF t rs (-1) k kids = -1 := by unfold symF; rw [if_neg (by omega), if_neg (by omega)]
          rw [hs, if_pos (by decide), if_pos rfl, decide_eq_false hc]
          cases decide (rest.len = xs.length) <;> simp
      · by_cases hc : 1 ≤ r ∧ r < (rs.length : Int) ∧ k = 0
        · have hs : symF t rs r k kids = (ruOf rs r).f0 := by unfold symF; rw [if_neg (by omega), if_pos hc]
          have h0 := hl r hc.1 hc.2.1
          rw [hs, if_neg (by omega), if_neg (by omega), if_neg hr, decide_eq_false hr, decide_eq_true (show (0 : Int) ≤ r by omega)]
          by_cases hk : kids.len = (ruOf rs r).f1.length
          · rw [decide_eq_true hk, if_neg (by omega)]
            by_cases hx : (ruOf rs r).f0 = x
            · rw [decide_eq_true hx]
              cases decide (rest.len = xs.length) <;> simp
            · rw [decide_eq_false hx]
              cases decide (rest.len = xs.length) <;> simp
          · rw [decide_eq_false hk, if_pos (by omega)]
            cases decide (rest.len = xs.length) <;> simp
        · have hs : symF t rs r k kids = -1 := by unfold symF; rw [if_neg (by omega), if_neg hc]
          rw [hs, if_pos (by decide), if_neg hr, if_pos (by omega)]
          cases decide (rest.len = xs.length) <;> simp
theorem fitT_chkT {t : Nat} {rs : List SR} (hl : ∀ r : Int, 1 ≤ r → r < rs.length → 0 ≤ (ruOf rs r).f0) (r k : Int) (kids : F) : fitT t rs r k kids = chkT t rs r k kids := by
  unfold fitT chkT
  rw [fit_chk hl]
  by_cases hr : r = -1
  · subst hr
    by_cases hc : 0 ≤ k ∧ k < (t : Int) ∧ kids.len = 0
    · have hs : symF t rs (-1) k kids = k := if_pos ⟨rfl, hc.2.2, hc.1, hc.2.1⟩
      rw [hs, if_neg (by omega), if_pos (by decide), if_pos rfl, decide_eq_true hc]
    · have hs : symF t rs (-1) k kids = -1 := by unfold symF; rw [if_neg (by omega), if_neg (by omega)]
      rw [hs, if_pos (by decide), if_pos rfl, decide_eq_false hc]
  · by_cases hc : 1 ≤ r ∧ r < (rs.length : Int) ∧ k = 0
    · have hs : symF t rs r k kids = (ruOf rs r).f0 := by unfold symF; rw [if_neg (by omega), if_pos hc]
      have h0 := hl r hc.1 hc.2.1
      rw [hs, if_neg (by omega), if_neg (by omega), if_neg hr]
      by_cases hk : kids.len = (ruOf rs r).f1.length
      · rw [decide_eq_true hk, if_neg (by omega), Bool.true_and]
      · rw [decide_eq_false hk, if_pos (by omega)]; rfl
    · have hs : symF t rs r k kids = -1 := by unfold symF; rw [if_neg (by omega), if_neg hc]
      rw [hs, if_pos (by decide), if_neg hr, if_pos (by omega)]
end Go.Proofs.YtjhemobplcelbaaGreatDoor.T
