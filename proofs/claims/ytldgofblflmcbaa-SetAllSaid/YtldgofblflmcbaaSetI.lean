/- oset: the statements' own helpers: place, in, has; and the methods of no set. -/
import Derived.Test.YtldgofblflmcbaaSetE
import Derived.Test.YtldgofblflmcbaaSetF
import Derived.Test.YtldgofblflmcbaaXx1
import Derived.Test.YtldgofblflmcbaaXx2
import Derived.Test.YtldgofblflmcbaaWNEv
namespace Go.Proofs.Ytldgofblflmcbaa.S
open Go.RowKit Go.Proofs.YtldgofblflmcbaaW.PrintWords Go.Proofs.YtldgofblflmcbaaW.PrintLast Go.Proofs.YtldgofblflmcbaaW.PrintMore Go.Proofs.Ytldgofblflmcbaa.X
set_option linter.unusedVariables false
set_option linter.unusedSimpArgs false
theorem ev_pos {α : Type} {c : Prop} [Decidable c] {g f : Nat → Option α} {r : α} (h : c) (k : Ev g r) : Ev (fun n => if c then g n else f n) r := Ev.congr (fun _ => if_pos h) k
theorem ev_neg {α : Type} {c : Prop} [Decidable c] {g f : Nat → Option α} {r : α} (h : ¬ c) (k : Ev f r) : Ev (fun n => if c then g n else f n) r := Ev.congr (fun _ => if_neg h) k
theorem ev_now {α : Type} {a r : α} (h : a = r) : Ev (fun _ => some a) r := h ▸ Ev.now _
theorem rd_at (l : List Int) (j : Nat) (h : j < l.length) : rd l (j : Int) = l[j] := by
  unfold rd
  rw [Int.toNat_natCast, List.getD_eq_getElem?_getD, List.getElem?_eq_getElem h]
  rfl
def cD (down : Bool) : Int → Int → Int := if down = true then cB else cI
theorem cmpD (down : Bool) : Cmp (cD down) := by cases down; exact cmpI; exact cmpB
theorem cI_lt (a b : Int) : cI a b < 0 ↔ a < b := by unfold cI; split; omega; split <;> omega
theorem cB_lt (a b : Int) : cB a b < 0 ↔ a > b := cI_lt b a
theorem cI_eq (a b : Int) : (cI a b == 0) = (a == b) := by
  rw [Bool.eq_iff_iff]
  simp only [beq_iff_eq]
  unfold cI
  split
  · omega
  · split <;> omega
theorem cB_eq (a b : Int) : (cB a b == 0) = (a == b) := by
  have := cI_eq b a
  unfold cB
  rw [this, Bool.eq_iff_iff]
  simp only [beq_iff_eq]
  exact eq_comm
theorem place_ev (l : List Int) (x : Int) (down : Bool) (hl : l.length ≤ 1000000) (d : Nat) : ∀ i : Nat, i + d = l.length → (∀ k (hk : k < l.length), k < i → cD down l[k] x < 0) →
    Ev (fun k => donatuslaw3_place.l0 k l x down (i : Int)) ((lo (cD down) x l : Int), hit (cD down) x l) := by
  have hstop : ∀ i : Nat, (hi : i < l.length) → (∀ k (hk : k < l.length), k < i → cD down l[k] x < 0) → ¬ cD down l[i] x < 0 → (((i : Int), cD down l[i] x == 0) : Int × Bool) = ((lo (cD down) x l : Int), hit (cD down) x l) := by
    intro i hi h1 h2
    have e : lo (cD down) x l = i := lo_of (by omega) h1 (fun _ => h2)
    unfold hit
    rw [e, List.getElem?_eq_getElem hi]
  induction d with
  | zero =>
    intro i hi h1
    obtain rfl : i = l.length := by omega
    have e : lo (cD down) x l = l.length := lo_of (Nat.le_refl _) h1 (fun h => by omega)
    refine Ev.step (fun k => by rw [donatuslaw3_place.l0]) (ev_neg (by omega) (ev_now ?_))
    unfold hit
    rw [e, List.getElem?_eq_none (Nat.le_refl _)]
  | succ d ih =>
    intro i hi h1
    have hlt : i < l.length := by omega
    have hw : wrap64 ((i : Int) + 1) = ((i + 1 : Nat) : Int) := by unfold wrap64; omega
    cases down with
    | true =>
      by_cases hx : l[i] > x
      · refine Ev.step (fun k => by rw [donatuslaw3_place.l0]) (ev_pos (by omega) (ev_pos rfl (ev_pos (by omega) ?_)))
        rw [rd_at l i hlt, hw]
        refine ev_pos hx (ih (i + 1) (by omega) (fun k hk hki => ?_))
        rcases Nat.lt_succ_iff_lt_or_eq.1 hki with h | rfl
        · exact h1 k hk h
        · exact (cB_lt _ _).2 hx
      · refine Ev.step (fun k => by rw [donatuslaw3_place.l0]) (ev_pos (by omega) (ev_pos rfl (ev_pos (by omega) ?_)))
        rw [rd_at l i hlt]
        refine ev_neg hx (ev_now ?_)
        rw [← hstop i hlt h1 (fun h => hx ((cB_lt _ _).1 h))]
        exact Prod.ext rfl (cB_eq _ _).symm
    | false =>
      by_cases hx : l[i] < x
      · refine Ev.step (fun k => by rw [donatuslaw3_place.l0]) (ev_pos (by omega) (ev_neg (by decide) (ev_pos (by omega) ?_)))
        rw [rd_at l i hlt, hw]
        refine ev_pos hx (ih (i + 1) (by omega) (fun k hk hki => ?_))
        rcases Nat.lt_succ_iff_lt_or_eq.1 hki with h | rfl
        · exact h1 k hk h
        · exact (cI_lt _ _).2 hx
      · refine Ev.step (fun k => by rw [donatuslaw3_place.l0]) (ev_pos (by omega) (ev_neg (by decide) (ev_pos (by omega) ?_)))
        rw [rd_at l i hlt]
        refine ev_neg hx (ev_now ?_)
        rw [← hstop i hlt h1 (fun h => hx ((cI_lt _ _).1 h))]
        exact Prod.ext rfl (cI_eq _ _).symm
theorem placef_ev (l : List Int) (x : Int) (down : Bool) (hl : l.length ≤ 1000000) : Ev (fun k => donatuslaw3_place.f k l x down) ((lo (cD down) x l : Int), hit (cD down) x l) :=
  place_ev l x down hl l.length 0 (by omega) (fun k hk h => by omega)
theorem place_calls (l : List Int) (x : Int) (down : Bool) (hl : l.length ≤ 1000000) (A : Option Addr) (c : Nat) (w : World) (hr : Kd.C (Kd.int .i64) w A l.length l) (hc : l.length ≤ c) :
    Calls Try.prog 12 #[.slice A l.length c, .int .i64 x, .bool down] w fun e w' => e = .returned (.tuple #[.int .i64 (lo (cD down) x l : Int), .bool (hit (cD down) x l)]) ∧ Drawn0 w w' := by
  obtain ⟨k, hk⟩ := (placef_ev l x down hl).rounds
  exact donatuslaw3_place.calls k A c l x _ _ _ w hr hc hk
theorem in_ev (l : List Int) (x : Int) (down : Bool) (hl : l.length ≤ 1000000) : Ev (fun k => donatuslaw3_in.f k l x down) (add (cD down) x l) := by
  have hll := lo_le (cD down) x l
  refine Ev.bind (placef_ev l x down hl) ?_
  by_cases hh : hit (cD down) x l = true
  · refine ev_pos hh (ev_now ?_)
    unfold add
    rw [if_pos hh]
  · refine ev_neg hh (ev_pos (by simp) (ev_pos (by simp; omega) ?_))
    refine Ev.bind (Ev.now _) (ev_pos (by simp; omega) (Ev.bind (Ev.now _) (ev_pos (by simp; omega) (Ev.bind (Ev.now _) (Ev.bind (Ev.now _) (ev_pos (by simp; omega) (ev_now ?_)))))))
    unfold add
    rw [if_neg hh]
    simp
/-- Some numbers that are read: what they lie in is told by G. -/
abbrev VI (w : World) (G : Nat → Prop) (v : Value) (l : List Int) : Prop := Kd.V (Kd.int .i64) 3 w 0 G v l
theorem in_calls (l : List Int) (x : Int) (down : Bool) (hl : l.length ≤ 1000000) (v : Value) (w : World) (G : Nat → Prop) (hv : VI w G v l) :
    Calls Try.prog 14 #[v, .int .i64 x, .bool down] w fun e w' => ∃ v', e = .returned v' ∧ VI w' (fun k => G k ∨ w.heap.size ≤ k) v' (add (cD down) x l) ∧ Below w.heap.size w w' := by
  obtain ⟨A, c, rfl⟩ := Kd.V_slice hv
  obtain ⟨k, hk⟩ := (in_ev l x down hl).rounds
  exact donatuslaw3_in.calls k G A c l x down _ w hv hk
theorem has_ev (l : List Int) (x : Int) (hl : l.length ≤ 1000000) (d : Nat) : ∀ j : Nat, j + d = l.length → Ev (fun k => donatuslaw3_has.l0 k l x (j : Int)) ((l.drop j).contains x) := by
  induction d with
  | zero =>
    intro j hj
    refine Ev.step (fun k => by rw [donatuslaw3_has.l0]) (ev_neg (by omega) (ev_now ?_))
    rw [List.drop_eq_nil_of_le (by omega)]
    rfl
  | succ d ih =>
    intro j hj
    have hlt : j < l.length := by omega
    have hw : wrap64 ((j : Int) + 1) = ((j + 1 : Nat) : Int) := by unfold wrap64; omega
    refine Ev.step (fun k => by rw [donatuslaw3_has.l0]) (ev_pos (by omega) (ev_pos (by omega) ?_))
    rw [rd_at l j hlt, List.drop_eq_getElem_cons hlt, List.contains_cons]
    by_cases hx : l[j] = x
    · exact ev_pos hx (ev_now (by simp [hx]))
    · refine ev_neg hx ?_
      rw [hw]
      have hx2 : (x == l[j]) = false := beq_eq_false_iff_ne.mpr (fun e => hx e.symm)
      rw [hx2, Bool.false_or]
      exact ih (j + 1) (by omega)
theorem has_calls (l : List Int) (x : Int) (hl : l.length ≤ 1000000) (A : Option Addr) (c : Nat) (w : World) (hr : Kd.C (Kd.int .i64) w A l.length l) (hc : l.length ≤ c) :
    Calls Try.prog 21 #[.slice A l.length c, .int .i64 x] w fun e w' => e = .returned (.bool (l.contains x)) ∧ Drawn0 w w' := by
  obtain ⟨k, hk⟩ := (has_ev l x hl l.length 0 (by omega)).rounds
  exact donatuslaw3_has.calls k A c l x _ w hr hc hk
/-- In a list in order a number is found just if it is there. -/
theorem hit_contains {down : Bool} {l : List Int} (h : Up (cD down) l) (x : Int) : hit (cD down) x l = l.contains x := by
  rw [Bool.eq_iff_iff, List.contains_iff_mem]
  have he : ∀ a, cD down a x = 0 ↔ a = x := fun a => by
    have h1 : (cD down a x == 0) = (a == x) := by cases down; exact cI_eq a x; exact cB_eq a x
    rw [Bool.eq_iff_iff] at h1
    simpa using h1
  constructor
  · intro hh
    have hlt := hit_lt hh
    unfold hit at hh
    rw [List.getElem?_eq_getElem hlt] at hh
    rw [← (he _).1 (by simpa using hh)]
    exact List.getElem_mem hlt
  · intro hm
    obtain ⟨k, hk, rfl⟩ := List.getElem_of_mem hm
    have e : lo (cD down) l[k] l = k := by
      refine lo_of (by omega) (fun j hj hjk => List.pairwise_iff_getElem.1 h j k hj hk hjk) (fun _ => ?_)
      have := (he l[k]).2 rfl
      omega
    unfold hit
    rw [e, List.getElem?_eq_getElem hk]
    simpa using (he l[k]).2 rfl
end Go.Proofs.Ytldgofblflmcbaa.S
