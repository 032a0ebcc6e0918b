/- The machine for closed calls: regions whose order is the text's. Condition: no function of the program bears the name that the model asks for itself. -/
import Derived.Test.YtjhemobplcelbaaGreatDoorEvL
namespace Go.Proofs.YtjhemobplcelbaaGreatDoor.V
open Go.RowKit
set_option linter.unusedVariables false
set_option linter.unusedSimpArgs false
structure TsR (m : Map) (N : Nat) (ts : T Value) (tmps : Array Value) : Prop where
  size : tmps.size = N
  at_ : ∀ t, TR m ((ts.get t).getD undef) (tmps.getD t undef)
theorem TsR.mono {m m' : Map} {N : Nat} {ts : T Value} {tmps : Array Value} (h : TsR m N ts tmps) (hm : Map.le m m') : TsR m' N ts tmps := ⟨h.size, fun t => (h.at_ t).mono hm⟩
theorem opv_of {m : Map} {ts : T Value} {a : Act} {x : Operand} (h : ∀ t, x = .tmp t → TR m ((ts.get t).getD undef) (a.tmps.getD t undef)) : TR m (opv ts x) (a.eval x) := by
  cases x with
  | tmp t => exact h t rfl
  | const v =>
    show TR m (match af v with | true => v | false => .chan none) v
    cases hv : af v with
    | true => exact TR.same m hv
    | false => exact .junk v
  | global g => exact .junk _
  | func f => exact .o (.s (.func _ .nil .nil))
theorem putC_some {N : Nat} {ts ts' : T Value} {d : Option Tmp} {v : Value} (e : putC N ts d v = some ts') : ∀ t, ts'.get t = if d = some t then some v else ts.get t := by
  unfold putC at e
  intro t
  cases d with
  | none => obtain rfl := Option.some.inj e; rw [if_neg (by simp)]
  | some d =>
    simp only [] at e
    split at e
    · rw [vf_eq] at e
      rw [T.set_put _ _ _ _ _ e t]
      by_cases h : t = d
      · subst h; rw [if_pos rfl, if_pos rfl]
      · rw [if_neg h, if_neg (by simp; exact fun k => h k.symm)]
    · cases e
theorem putC_lt {N : Nat} {ts ts' : T Value} {d : Nat} {v : Value} (e : putC N ts (some d) v = some ts') : d < N := by
  unfold putC at e
  simp only [] at e
  split at e
  · exact blt_t ‹_›
  · cases e
theorem getD_put (a : Act) (d : Option Tmp) (v : Value) (t : Nat) (hd : ∀ k, d = some k → k < a.tmps.size) : (a.put d v).tmps.getD t undef = if d = some t then v else a.tmps.getD t undef := by
  cases d with
  | none => rw [if_neg (by simp)]; rfl
  | some d =>
    have hd := hd d rfl
    show (a.tmps.setIfInBounds d v).getD t undef = _
    by_cases h : d = t
    · subst h
      rw [if_pos rfl]
      simp [Array.getD_eq_getD_getElem?, Array.getElem?_setIfInBounds, hd]
    · rw [if_neg (by simp; exact h)]
      simp [Array.getD_eq_getD_getElem?, Array.getElem?_setIfInBounds, h]
theorem size_put (a : Act) (d : Option Tmp) (v : Value) : (a.put d v).tmps.size = a.tmps.size := by
  cases d with
  | none => rfl
  | some d => show (a.tmps.setIfInBounds d v).size = _; rw [Array.size_setIfInBounds]
theorem defers_put (a : Act) (d : Option Tmp) (v : Value) : (a.put d v).defers = a.defers := by cases d <;> rfl
theorem put_ok {m : Map} {N : Nat} {ts ts' : T Value} {a : Act} {d : Option Tmp} {v v' : Value} (h : TsR m N ts a.tmps) (hv : TR m v v') (e : putC N ts d v = some ts') : TsR m N ts' (a.put d v').tmps := by
  refine ⟨by rw [size_put]; exact h.size, fun t => ?_⟩
  rw [putC_some e t, getD_put a d v' t (fun k hk => by subst hk; rw [h.size]; exact putC_lt e)]
  by_cases ht : d = some t
  · rw [if_pos ht, if_pos ht]; exact hv
  · rw [if_neg ht, if_neg ht]; exact h.at_ t
theorem wanted_of {m : Map} {ts : T Value} {tmps : Array Value} {o : Oper} {ops : Array Oper} (h : ∀ j w d, o.guard = some (j, w) → (ops[j]?).bind (·.dst) = some d → TR m ((ts.get d).getD undef) (tmps.getD d undef)) {b : Bool} (e : wantedC o ops ts = some b) : Region.wanted o (yielded ops tmps) = b := by
  unfold wantedC at e
  unfold Region.wanted
  cases hg : o.guard with
  | none => rw [hg] at e; exact Option.some.inj e
  | some jw =>
    obtain ⟨j, want⟩ := jw
    rw [hg] at e
    simp only [] at e ⊢
    unfold yielded
    rw [Array.getElem?_toList] at e
    cases hd : (ops[j]?).bind (·.dst) with
    | none => rw [hd] at e; rw [Option.bind_none]; obtain rfl := Option.some.inj e; rfl
    | some d =>
      rw [hd] at e
      simp only [] at e
      rw [Option.bind_some]
      have hv := h j want d hg hd
      have key : ∀ c, tmps[d]? = some c → tmps.getD d undef = c := fun c hc => by rw [Array.getD_eq_getD_getElem?, hc]; rfl
      split at e
      · rename_i v b2 hb2
        obtain rfl := Option.some.inj e
        rw [hb2] at hv
        have hv := TR.bool hv
        cases hc : tmps[d]? with
        | none => rw [Array.getD_eq_getD_getElem?, hc] at hv; cases hv
        | some c => rw [key c hc] at hv; subst hv; rfl
      · cases e
      · rename_i hnb hnc
        obtain rfl := Option.some.inj e
        have hne : ∀ b2, tmps[d]? ≠ some (.bool b2) := by
          intro b2 hc
          rw [key _ hc] at hv
          cases hv' : (ts.get d).getD undef with
          | bool b3 => exact hnb b3 hv'
          | chan r => exact hnc r hv'
          | _ =>
            rw [hv'] at hv
            cases hv with
            | o hv => cases hv with
              | s hv => cases hv with
                | b hv => cases hv
        split
        · rename_i b2 hc; exact absurd hc (hne b2)
        · rfl
section
variable {P : Program} {call : Call'} {N : Nat}
theorem opsEv_can (hC : CallOk P call) {ops : Array Oper} : ∀ (l : List Oper) (ts ts' : T Value) (h h' : CH), opsEv P call N ops l ts h = some (ts', h') → Can h h' := by
  intro l
  induction l with
  | nil =>
    intro ts ts' h h' e
    have e := Option.some.inj e
    injection e with _ e
    subst e
    exact Can.refl h
  | cons o l ih =>
    intro ts ts' h h' e
    unfold opsEv at e
    split at e
    · rename_i v h1 hs
      split at e
      · exact (step_can hC hs).trans (ih _ _ _ _ e)
      · cases e
    · cases e
theorem ops_ok (hN : Named P) (hC : CallOk P call) (ops : Array Oper) (Q : Exit → Act → World → Prop) (D : Nat → Prop) (top : Nat) : ∀ (l : List Oper) (i : Nat) (ts ts' : T Value) (h h' : CH) (m : Map) (a : Act) (w : World), ops.toList.drop i = l → opsEv P call N ops l ts h = some (ts', h') → Sub h'.rd D → h'.n ≤ top → HR D top m h w → TsR m N ts a.tmps →
    (∀ m' a' w', Post D top m h w m' h' w' → TsR m' N ts' a'.tmps → a'.defers = a.defers → Q .normal a' w') → wpOps P ops Q (List.range' i l.length) a w := by
  intro l
  induction l with
  | nil =>
    intro i ts ts' h h' m a w _ e _ _ hr ht hQ
    have e := Option.some.inj e
    injection e with e1 e2
    subst e1 e2
    exact hQ m a w (Post.refl hr) ht rfl
  | cons o l ih =>
    intro i ts ts' h h' m a w hl e hT htop hr ht hQ
    have hoi : ops[i]? = some o := by
      rw [← Array.getElem?_toList]
      have := congrArg (fun l => l[0]?) hl
      simpa using this
    have hl' : ops.toList.drop (i + 1) = l := by
      rw [← List.drop_drop, hl]; rfl
    show wpOps P ops Q (i :: List.range' (i + 1) l.length) a w
    rw [wpOps_cons]
    unfold opsEv at e
    split at e
    · rename_i v h1 hs
      split at e
      · rename_i ts1 hp
        have hc1 := step_can hC hs
        have hc2 := opsEv_can hC _ _ _ _ _ e
        refine step_ok hN hC hoi hs (fun b hb => hT b (hc2.rd b hb)) (Nat.le_trans hc2.n htop) hr (fun x _ => opv_of fun t _ => ht.at_ t) (fun b hb => wanted_of (fun j w d _ _ => ht.at_ d) hb) fun m1 v' w1 hv p1 => ?_
        refine ih (i + 1) ts1 ts' h1 h' m1 _ w1 hl' e hT htop p1.hr (put_ok (ht.mono p1.le) hv hp) fun m2 a2 w2 p2 t2 d2 => hQ m2 a2 w2 (p1.trans p2 hc1 hc2) t2 (d2.trans (defers_put _ _ _))
      · cases e
    · cases e
end
end Go.Proofs.YtjhemobplcelbaaGreatDoor.V
