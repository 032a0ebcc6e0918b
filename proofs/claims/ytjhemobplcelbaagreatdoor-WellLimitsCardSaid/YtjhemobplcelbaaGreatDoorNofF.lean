/- wof: a drawn region some of whose operations are late: loads may be taken first though late operations write their cells. -/
import Derived.Test.YtjhemobplcelbaaGreatDoorOfW
namespace Go.Proofs.YtjhemobplcelbaaGreatDoor.O
open Go.Proofs.YtjhemobplcelbaaGreatDoorW.PrintWords
set_option linter.unusedVariables false
set_option linter.unusedSimpArgs false
section
variable {P : Program} {ops : Array Oper} {Q : Exit → Act → World → Prop} {md : Region.Mode} {S : World → Prop} {late : Nat → Bool}
/-- Whatever order is picked, and S holds behind every operation that is not late. -/
def AnyT (P : Program) (md : Region.Mode) (ops : Array Oper) (Q : Exit → Act → World → Prop) (S : World → Prop) (late : Nat → Bool) : Nat → Array Bool → Act → World → Prop
  | 0, listed, a, w => Region.ready md ops listed = [] ∧ Q .normal a w
  | fuel + 1, listed, a, w => (Region.ready md ops listed = [] → Q .normal a w) ∧
      ∀ i ∈ Region.ready md ops listed, wpOp P ops Q i (fun a' w' => (late i = false → S w') ∧ AnyT P md ops Q S late fuel (listed.setIfInBounds i true) a' w') a w
theorem anyT_of : ∀ (fuel : Nat) (listed : Array Bool) (a : Act) (w : World), AnyT P md ops Q S late fuel listed a w → wpAny P md ops Q fuel listed a w
  | 0, _, _, _, h => h
  | fuel + 1, _, _, _, h => ⟨h.1, fun i hi => wpOp_mono (fun a' w' k => anyT_of fuel _ a' w' k.2) (h.2 i hi)⟩
/-- Does operation j come behind operation i? -/
def behind (md : Region.Mode) (ops : Array Oper) : Nat → Nat → Nat → Bool
  | 0, _, _ => false
  | n + 1, j, i => match ops[j]? with | some o => o.after.any fun e => Region.binds md e && (e.on == i || behind md ops n e.on i) | none => false
/-- What is listed has all listed that it waits for. -/
def shutB (md : Region.Mode) (ops : Array Oper) (listed : Array Bool) : Bool := (List.range ops.size).all fun j => !(listed.getD j false) || (match ops[j]? with | some o => o.after.all fun e => !Region.binds md e || listed.getD e.on false | none => true)
def Shut1 (md : Region.Mode) (ops : Array Oper) (listed : Array Bool) : Prop := ∀ j o, ops[j]? = some o → listed.getD j false = true → ∀ e ∈ o.after, Region.binds md e = true → listed.getD e.on false = true
theorem shut_of {listed : Array Bool} (h : shutB md ops listed = true) : Shut1 md ops listed := by
  intro j o ho hj e he hb
  have h1 := List.all_eq_true.1 h j (List.mem_range.2 (Array.getElem?_eq_some_iff.1 ho).1)
  rw [hj, ho] at h1
  simp only [Bool.not_true, Bool.false_or] at h1
  have h2 := Array.all_eq_true'.1 h1 e he
  rw [hb] at h2
  simpa using h2
theorem ready_all {j : Nat} {listed : Array Bool} (hj : j ∈ Region.ready md ops listed) : listed.getD j true = false ∧ ∃ o, ops[j]? = some o ∧ ∀ e ∈ o.after, Region.binds md e = true → listed.getD e.on false = true := by
  obtain ⟨hjun, oj, hoj, hall⟩ := mem_ready.1 hj
  exact ⟨hjun, oj, hoj, hall⟩
theorem clash {i : Nat} {listed : Array Bool} (k0 : listed.getD i true = false) (k1 : listed.getD i false = true) : False := by
  rcases Nat.lt_or_ge i listed.size with h' | h'
  · simp [h'] at k0 k1; rw [k0] at k1; cases k1
  · simp [Array.getElem?_eq_none h'] at k1
theorem behind_listed {listed : Array Bool} (hs : Shut1 md ops listed) : ∀ (n j i : Nat), behind md ops n j i = true → listed.getD j false = true → (∃ o, ops[j]? = some o) → listed.getD i false = true := by
  intro n
  induction n with
  | zero => intro j i h; cases h
  | succ n ih =>
    rintro j i h hj ⟨o, ho⟩
    simp only [behind, ho] at h
    obtain ⟨k, hk, he⟩ := Array.any_eq_true.1 h
    simp only [Bool.and_eq_true, Bool.or_eq_true, beq_iff_eq] at he
    have h1 := hs j o ho hj _ (Array.getElem_mem hk) he.1
    rcases he.2 with h2 | h2
    · rw [← h2]; exact h1
    · refine ih _ i h2 h1 ?_
      cases n with
      | zero => cases h2
      | succ n =>
        simp only [behind] at h2
        split at h2
        · exact ⟨_, by assumption⟩
        · cases h2
theorem not_late {i j n : Nat} {listed : Array Bool} (hs : Shut1 md ops listed) (hl : ∀ j, late j = true → behind md ops n j i = true) (hi : i ∈ Region.ready md ops listed) (hj : j ∈ Region.ready md ops listed) : late j = false := by
  cases hlj : late j with
  | false => rfl
  | true =>
    exfalso
    have h := hl j hlj
    obtain ⟨_, oj, hoj, hall⟩ := ready_all hj
    have h0 := (ready_all hi).1
    cases n with
    | zero => cases h
    | succ n =>
      simp only [behind, hoj] at h
      obtain ⟨k, hk, he⟩ := Array.any_eq_true.1 h
      simp only [Bool.and_eq_true, Bool.or_eq_true, beq_iff_eq] at he
      have h1 := hall _ (Array.getElem_mem hk) he.1
      rcases he.2 with h2 | h2
      · rw [h2] at h1; exact clash h0 h1
      · have h3 := behind_listed hs n _ i h2 h1 (by
          cases n with
          | zero => cases h2
          | succ n =>
            simp only [behind] at h2
            split at h2
            · exact ⟨_, by assumption⟩
            · cases h2)
        exact clash h0 h3
theorem shut_add {j : Nat} {listed : Array Bool} (hs : Shut1 md ops listed) (hj : j ∈ Region.ready md ops listed) : Shut1 md ops (listed.setIfInBounds j true) := by
  have up : ∀ k, listed.getD k false = true → (listed.setIfInBounds j true).getD k false = true := by
    intro k hk
    by_cases e : j = k
    · subst e
      rcases Nat.lt_or_ge j listed.size with h | h
      · simp [h]
      · simp [Array.getElem?_eq_none h] at hk
    · rw [getD_set_ne false e]; exact hk
  intro k o ho hk e he hb
  by_cases ek : j = k
  · subst ek
    obtain ⟨_, oj, hoj, hall⟩ := ready_all hj
    rw [hoj] at ho
    cases ho
    exact up _ (hall e he hb)
  · rw [getD_set_ne false ek] at hk
    exact up _ (hs k o ho hk e he hb)
theorem anyT_first {i n : Nat} {oi : Oper} {v : Value} (hi : ops[i]? = some oi) (hl : ∀ j, late j = true → behind md ops n j i = true) (hsel : ∀ (j : Nat) (o : Oper) cs b, ops[j]? = some o → o.op ≠ .select cs b)
    (hQ : ∀ c a w, Q (.panic c) (a.put oi.dst v) w → Q (.panic c) a w) :
    ∀ (fuel : Nat) (listed : Array Bool) (a : Act) (w : World), Shut1 md ops listed →
      (∀ j oj, ops[j]? = some oj → j ≠ i → listed.getD j true = false → (∀ e ∈ oj.after, Region.binds md e = true → e.on ≠ i) → oi.apart ops oj = true) →
      i ∈ Region.ready md ops listed → YieldsIf P ops S oi v a → S w →
      AnyT P md ops Q S late fuel (listed.setIfInBounds i true) (a.put oi.dst v) w → AnyT P md ops Q S late (fuel + 1) listed a w := by
  intro fuel
  induction fuel with
  | zero =>
    intro listed a w hsh _ hr hy hS H
    refine ⟨fun h => (by rw [h] at hr; cases hr), fun j hj => ?_⟩
    by_cases e : j = i
    · subst e; exact hy.wpOp hi hS ⟨fun _ => hS, H⟩
    · have := ready_mono hj e
      rw [H.1] at this
      cases this
  | succ fuel ih =>
    intro listed a w hsh hfree hr hy hS H
    refine ⟨fun h => (by rw [h] at hr; cases hr), fun j hj => ?_⟩
    by_cases e : j = i
    · subst e; exact hy.wpOp hi hS ⟨fun _ => hS, H⟩
    · have h1 := H.2 j (ready_mono hj e)
      obtain ⟨hjun, oj, hoj, hall⟩ := mem_ready.1 hj
      have hnot : ∀ x ∈ oj.after, Region.binds md x = true → x.on ≠ i := fun x hx hb heq => by
        have k1 := hall x hx hb
        have k0 := (mem_ready.1 hr).1
        rw [heq] at k1
        rcases Nat.lt_or_ge i listed.size with h' | h'
        · simp [h'] at k0 k1; rw [k0] at k1; cases k1
        · simp [Array.getElem?_eq_none h'] at k1
      have h2 := wpOp_putIf hoj (hfree j oj hoj e hjun hnot) (fun cs b => hsel i oi cs b hi) (fun cs b => hsel j oj cs b hoj) hQ hy h1
      have hL := not_late hsh hl hr hj
      refine wpOp_mono (fun a' w' h3 => ⟨fun _ => h3.2.1 hL, ih (listed.setIfInBounds j true) a' w' (shut_add hsh hj) (fun k ok hk hki hun hno => ?_) (ready_mono hr (Ne.symm e)) h3.1 (h3.2.1 hL) ?_⟩) h2
      · refine hfree k ok hk hki ?_ hno
        by_cases hjk : j = k
        · subst hjk; exact hjun
        · rw [getD_set_ne true hjk] at hun; exact hun
      · rw [Array.setIfInBounds_comm _ _ e]
        exact h3.2.2
/-- Take i first. -/
theorem t_take {i n : Nat} {oi : Oper} {v : Value} {fuel : Nat} {listed : Array Bool} {a : Act} {w : World} {ls : List Nat} (hlate : late = fun j => ls.contains j) (hi : ops.toList[i]? = some oi) (hw : ls.all (fun j => behind md ops n j i) = true) (hsh : shutB md ops listed = true)
    (hs : Region.noSelect ops = true) (hf : Region.free md ops listed i = true) (hr : (Region.ready md ops listed).contains i = true)
    (hQ : ∀ c a w, Q (.panic c) (a.put oi.dst v) w → Q (.panic c) a w) (hy : YieldsIf P ops S oi v a) (hS : S w)
    (h : AnyT P md ops Q S late fuel (listed.setIfInBounds i true) (a.put oi.dst v) w) : AnyT P md ops Q S late (fuel + 1) listed a w :=
  anyT_first (list_at hi) (fun j hj => by rw [hlate] at hj; exact List.all_eq_true.1 hw j (by simpa using hj)) (Region.noSelect_spec hs) hQ fuel listed a w (shut_of hsh) (Region.free_spec (list_at hi) hf) (by simpa using hr) hy hS h
/-- One that is ready. -/
theorem t_step {i : Nat} {o : Oper} {fuel : Nat} {listed : Array Bool} {a : Act} {w : World} (hi : ops.toList[i]? = some o)
    (h : ∀ K' : Act → World → Prop, Aside0 (∀ a w, (late i = false → S w) → AnyT P md ops Q S late fuel (listed.setIfInBounds i true) a w → K' a w) → if Region.wanted o (yielded ops a.tmps) = true then Oper.wp P o a w K' Q else K' (a.put o.dst undef) w) : wpOp P ops Q i (fun a' w' => (late i = false → S w') ∧ AnyT P md ops Q S late fuel (listed.setIfInBounds i true) a' w') a w :=
  wpOp_step (list_at hi) (fun K' hK => h K' ⟨fun a w h1 h2 => hK a w ⟨h1, h2⟩⟩)
theorem t_one {i : Nat} {fuel : Nat} {listed : Array Bool} {a : Act} {w : World} (hr : Region.ready md ops listed = [i])
    (h : wpOp P ops Q i (fun a' w' => (late i = false → S w') ∧ AnyT P md ops Q S late fuel (listed.setIfInBounds i true) a' w') a w) : AnyT P md ops Q S late (fuel + 1) listed a w := by
  refine ⟨fun h0 => (by rw [hr] at h0; cases h0), fun j hj => ?_⟩
  rw [hr] at hj
  obtain rfl := List.mem_singleton.1 hj
  exact h
theorem t_two {i j : Nat} {fuel : Nat} {listed : Array Bool} {a : Act} {w : World} (hr : Region.ready md ops listed = [i, j])
    (h : wpOp P ops Q i (fun a' w' => (late i = false → S w') ∧ AnyT P md ops Q S late fuel (listed.setIfInBounds i true) a' w') a w)
    (h2 : wpOp P ops Q j (fun a' w' => (late j = false → S w') ∧ AnyT P md ops Q S late fuel (listed.setIfInBounds j true) a' w') a w) : AnyT P md ops Q S late (fuel + 1) listed a w := by
  refine ⟨fun h0 => (by rw [hr] at h0; cases h0), fun k hk => ?_⟩
  rw [hr] at hk
  simp only [List.mem_cons, List.not_mem_nil, or_false] at hk
  rcases hk with rfl | rfl
  · exact h
  · exact h2
theorem t_three {i j l : Nat} {fuel : Nat} {listed : Array Bool} {a : Act} {w : World} (hr : Region.ready md ops listed = [i, j, l])
    (h : wpOp P ops Q i (fun a' w' => (late i = false → S w') ∧ AnyT P md ops Q S late fuel (listed.setIfInBounds i true) a' w') a w)
    (h2 : wpOp P ops Q j (fun a' w' => (late j = false → S w') ∧ AnyT P md ops Q S late fuel (listed.setIfInBounds j true) a' w') a w)
    (h3 : wpOp P ops Q l (fun a' w' => (late l = false → S w') ∧ AnyT P md ops Q S late fuel (listed.setIfInBounds l true) a' w') a w) : AnyT P md ops Q S late (fuel + 1) listed a w := by
  refine ⟨fun h0 => (by rw [hr] at h0; cases h0), fun k hk => ?_⟩
  rw [hr] at hk
  simp only [List.mem_cons, List.not_mem_nil, or_false] at hk
  rcases hk with rfl | rfl | rfl
  · exact h
  · exact h2
  · exact h3
theorem t_done {listed : Array Bool} {a : Act} {w : World} {fuel : Nat} (hr : Region.ready md ops listed = []) (h : Q .normal a w) : AnyT P md ops Q S late fuel listed a w := by
  cases fuel with
  | zero => exact ⟨hr, h⟩
  | succ n => exact ⟨fun _ => h, by rw [hr]; simp⟩
theorem t_begin {id : Nat} {a : Act} {w : World} (S : World → Prop) (late : Nat → Bool) (hm : P.follows .mixedOrders = true) (h : AnyT P .any ops Q S late ops.size (Array.replicate ops.size false) a w.drew) : (Code.region id ops true).wp P Q a w :=
  wp_region_any hm (anyT_of _ _ _ _ h)
end
end Go.Proofs.YtjhemobplcelbaaGreatDoor.O
