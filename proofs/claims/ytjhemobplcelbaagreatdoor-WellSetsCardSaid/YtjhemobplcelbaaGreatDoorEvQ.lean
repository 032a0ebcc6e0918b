/- The machine for closed calls: code. Conditions: no function of the program bears the name that the model asks for itself; the program's regions take any order. -/
import Derived.Test.YtjhemobplcelbaaGreatDoorEvP
namespace Go.Proofs.YtjhemobplcelbaaGreatDoor.V
open Go.RowKit
set_option linter.unusedVariables false
set_option linter.unusedSimpArgs false
section
variable {P : Program} {call : Call'} {N : Nat}
theorem opv_ok {m : Map} {ts : T Value} {a : Act} (h : TsR m N ts a.tmps) (x : Operand) : TR m (opv ts x) (a.eval x) := opv_of fun t _ => h.at_ t
def exitOf : Way → Exit
  | .normal => .normal
  | .exit id => .exit id
  | .ret => .ret
/-- A loop at the head of its round. -/
def LoopAt (P : Program) (c : Code) (Q : Exit → Act → World → Prop) (a : Act) (w : World) : Prop :=
  ∀ (b : Frame) (k : List Item) (cs : List Frame), ∃ e a' w', Q e a' w' ∧ Arrives P (lone (b.at a (.code c :: .inLoop c :: k)) cs w) b k cs e a' w'
theorem LoopAt.wp {c : Code} {Q : Exit → Act → World → Prop} {a : Act} {w : World} (h : LoopAt P c Q a w) : (Code.loop c).wp P Q a w := fun b k cs =>
  let ⟨e, a', w', q, r⟩ := h b k cs
  ⟨e, a', w', q, .of_steps (.one step_loop) r⟩
theorem LoopAt.unroll {c : Code} {Q : Exit → Act → World → Prop} {a : Act} {w : World} (h : c.wp P (fun e a w => match e with | .normal => LoopAt P c Q a w | e => Q e a w) a w) : LoopAt P c Q a w := by
  intro b k cs
  obtain ⟨e, a1, w1, hq, harr⟩ := h b (.inLoop c :: k) cs
  cases e with
  | normal =>
    obtain ⟨e2, a2, w2, hq2, harr2⟩ := hq b k cs
    exact ⟨e2, a2, w2, hq2, .of_steps (Steps.trans harr (.one step_inLoop)) harr2⟩
  | exit id => exact ⟨_, a1, w1, hq, .pass (x := .inLoop c) rfl (fun _ _ => .inl (by simp)) harr⟩
  | goto l => exact ⟨_, a1, w1, hq, .pass (x := .inLoop c) rfl (fun _ _ => .inl (by simp)) harr⟩
  | ret => exact ⟨_, a1, w1, hq, .pass (x := .inLoop c) rfl (fun _ _ => .inl (by simp)) harr⟩
  | panic ch => exact ⟨_, a1, w1, hq, .pass (x := .inLoop c) rfl (fun _ _ => .inl (by simp)) harr⟩
  | outgrown => exact ⟨_, a1, w1, hq, .pass (x := .inLoop c) rfl (fun _ _ => .inl (by simp)) harr⟩
theorem eq3 {a a' : Way} {b b' : T Value} {c c' : CH} (h : (some (a, b, c) : Option (Way × T Value × CH)) = some (a', b', c')) : a = a' ∧ b = b' ∧ c = c' := by
  have h := Option.some.inj h
  injection h with h1 h2
  injection h2 with h2 h3
  exact ⟨h1, h2, h3⟩
theorem opsD_can (hC : CallOk P call) {ops : Array Oper} {ts te : T Value} {h he : CH} (e : opsD P call N ops 0 [] ops.toList ts h = some (te, he)) : Can h he := by
  obtain ⟨L, k1, _⟩ := opsD_tr ops.toList 0 [] ts te h he rfl e
  exact k1.can hC
theorem code_can (hC : CallOk P call) : ∀ (k : Nat) (c : Code) (ts ts' : T Value) (h h' : CH) (way : Way), codeEv P call N k c ts h = some (way, ts', h') → Can h h' := by
  intro k
  induction k with
  | zero => intro c ts ts' h h' way e; cases e
  | succ k ih =>
    intro c ts ts' h h' way e
    cases c with
    | skip => obtain ⟨_, _, rfl⟩ := eq3 e; exact Can.refl _
    | region id ops draw =>
      cases draw with
      | false =>
        simp only [codeEv] at e
        split at e
        · rename_i ts1 h1 he
          obtain ⟨_, _, rfl⟩ := eq3 e
          exact opsEv_can hC _ _ _ _ _ he
        · cases e
      | true =>
        simp only [codeEv] at e
        split at e
        · split at e
          · rename_i ts1 h1 he
            obtain ⟨_, _, rfl⟩ := eq3 e
            exact opsD_can hC he
          · cases e
        · cases e
    | seq x y =>
      simp only [codeEv] at e
      split at e
      · rename_i ts1 h1 he
        exact (ih x ts ts1 h h1 _ he).trans (ih y ts1 ts' h1 h' _ e)
      · exact ih x ts ts' h h' _ e
    | cond x y z =>
      simp only [codeEv] at e
      split at e
      · exact ih y ts ts' h h' _ e
      · exact ih z ts ts' h h' _ e
      · cases e
    | block id c =>
      simp only [codeEv] at e
      split at e
      · rename_i j ts1 h1 he
        have := ih c ts ts1 h h1 _ he
        split at e
        · obtain ⟨_, _, rfl⟩ := eq3 e; exact this
        · obtain ⟨_, _, rfl⟩ := eq3 e; exact this
      · exact ih c ts ts' h h' _ e
    | loop c =>
      simp only [codeEv] at e
      split at e
      · rename_i ts1 h1 he
        exact (ih c ts ts1 h h1 _ he).trans (ih (.loop c) ts1 ts' h1 h' _ e)
      · exact ih c ts ts' h h' _ e
    | exit id => obtain ⟨_, _, rfl⟩ := eq3 e; exact Can.refl _
    | ret => obtain ⟨_, _, rfl⟩ := eq3 e; exact Can.refl _
    | rangeFunc => cases e
    | scope => cases e
    | label => cases e
    | goto => cases e
    | refuse => cases e
/-- The code of a function: its wp, and of a loop that it is at the head of a round. -/
theorem code_ok (hN : Named P) (hC : CallOk P call) (hM : P.follows .mixedOrders = true) (D : Nat → Prop) (top : Nat) : ∀ (k : Nat) (c : Code) (ts ts' : T Value) (h h' : CH) (way : Way) (m : Map) (a : Act) (w : World) (Q : Exit → Act → World → Prop), codeEv P call N k c ts h = some (way, ts', h') → Sub h'.rd D → h'.n ≤ top → HR D top m h w → TsR m N ts a.tmps →
    (∀ m' a' w', Post D top m h w m' h' w' → TsR m' N ts' a'.tmps → a'.defers = a.defers → Q (exitOf way) a' w') → c.wp P Q a w ∧ ∀ c0, c = .loop c0 → LoopAt P c0 Q a w := by
  intro k
  induction k with
  | zero => intro c ts ts' h h' way m a w Q e; cases e
  | succ k ih =>
    intro c ts ts' h h' way m a w Q e hT htop hr ht hQ
    cases c with
    | skip =>
      obtain ⟨rfl, rfl, rfl⟩ := eq3 e
      exact ⟨wp_skip (hQ m a w (Post.refl hr) ht rfl), fun _ h => by cases h⟩
    | region id ops draw =>
      refine ⟨?_, fun _ h => by cases h⟩
      cases draw with
      | false =>
        simp only [codeEv] at e
        split at e
        · rename_i ts1 h1 he
          obtain ⟨rfl, rfl, rfl⟩ := eq3 e
          refine wp_region ?_
          rw [List.range_eq_range']
          have := ops_ok hN hC ops Q D top ops.toList 0 ts ts1 h h1 m a w rfl he hT htop hr ht hQ
          rwa [Array.length_toList] at this
        · cases e
      | true =>
        simp only [codeEv] at e
        split at e
        · rename_i hlex
          split at e
          · rename_i ts1 h1 he
            obtain ⟨rfl, rfl, rfl⟩ := eq3 e
            obtain ⟨L, k1, k2, _, k4⟩ := opsD_tr ops.toList 0 [] ts ts1 h h1 rfl he
            have hb : Below w.heap.size w { w with drawn := w.drawn + 1 } := ⟨rfl, rfl, rfl, Nat.le_refl _, fun _ _ => rfl⟩
            refine wp_region_any hM ?_
            refine drawn_ok hN hC hlex k1 (by rw [k2, Array.length_toList]) (fun i k s s' h1 h2 h3 => by have := k4 i k s s' h1 h2 h3; rwa [Nat.zero_add, Nat.zero_add] at this) hT htop (hr.below hb) ht fun m' a' w' p t d => hQ m' a' w' ?_ t d
            exact ⟨p.le, p.hr, fun W hf => p.fr W ⟨hf.bel.trans (hb.mono hf.bel.size), hf.new⟩, p.sz, p.frame, p.newm⟩
          · cases e
        · cases e
    | seq x y =>
      refine ⟨?_, fun _ h => by cases h⟩
      simp only [codeEv] at e
      refine wp_seq ?_
      split at e
      · rename_i ts1 h1 he
        have c1 := code_can hC k x ts ts1 h h1 _ he
        have c2 := code_can hC k y ts1 ts' h1 h' _ e
        refine (ih x ts ts1 h h1 .normal m a w _ he (fun b hb => hT b (c2.rd b hb)) (Nat.le_trans c2.n htop) hr ht fun m1 a1 w1 p t d => ?_).1
        exact (ih y ts1 ts' h1 h' way m1 a1 w1 Q e hT htop p.hr t fun m2 a2 w2 p2 t2 d2 => hQ m2 a2 w2 (p.trans p2 c1 c2) t2 (d2.trans d)).1
      · rename_i hne
        refine (ih x ts ts' h h' way m a w _ e hT htop hr ht fun m1 a1 w1 p t d => ?_).1
        cases way with
        | normal => exact absurd e (hne _ _)
        | exit id => exact hQ m1 a1 w1 p t d
        | ret => exact hQ m1 a1 w1 p t d
    | cond x y z =>
      refine ⟨?_, fun _ h => by cases h⟩
      simp only [codeEv] at e
      split at e
      · rename_i hx
        have := TR.bool (hx ▸ opv_ok ht x)
        exact wp_cond_true this (ih y ts ts' h h' way m a w Q e hT htop hr ht hQ).1
      · rename_i hx
        have := TR.bool (hx ▸ opv_ok ht x)
        exact wp_cond_false this (ih z ts ts' h h' way m a w Q e hT htop hr ht hQ).1
      · cases e
    | block id c =>
      refine ⟨?_, fun _ h => by cases h⟩
      simp only [codeEv] at e
      refine wp_block ?_
      split at e
      · rename_i j ts1 h1 he
        have hh : h1 = h' := by
          split at e
          · exact (eq3 e).2.2
          · exact (eq3 e).2.2
        subst hh
        refine (ih c ts ts1 h h1 (.exit j) m a w _ he hT htop hr ht fun m1 a1 w1 p t d => ?_).1
        split at e
        · rename_i hj
          have hj := beq_t hj
          subst hj
          obtain ⟨rfl, rfl, _⟩ := eq3 e
          show (if j = j then Q .normal a1 w1 else Q (.exit j) a1 w1)
          rw [if_pos rfl]
          exact hQ m1 a1 w1 p t d
        · rename_i hj
          have hj := beq_f hj
          obtain ⟨rfl, rfl, _⟩ := eq3 e
          show (if j = id then Q .normal a1 w1 else Q (.exit j) a1 w1)
          rw [if_neg hj]
          exact hQ m1 a1 w1 p t d
      · rename_i hne
        refine (ih c ts ts' h h' way m a w _ e hT htop hr ht fun m1 a1 w1 p t d => ?_).1
        cases way with
        | normal => exact hQ m1 a1 w1 p t d
        | exit j => exact absurd e (hne _ _ _)
        | ret => exact hQ m1 a1 w1 p t d
    | loop c =>
      have key : LoopAt P c Q a w := by
        simp only [codeEv] at e
        split at e
        · rename_i ts1 h1 he
          have c1 := code_can hC k c ts ts1 h h1 _ he
          have c2 := code_can hC k (.loop c) ts1 ts' h1 h' _ e
          refine LoopAt.unroll (ih c ts ts1 h h1 .normal m a w _ he (fun b hb => hT b (c2.rd b hb)) (Nat.le_trans c2.n htop) hr ht fun m1 a1 w1 p t d => ?_).1
          exact (ih (.loop c) ts1 ts' h1 h' way m1 a1 w1 Q e hT htop p.hr t fun m2 a2 w2 p2 t2 d2 => hQ m2 a2 w2 (p.trans p2 c1 c2) t2 (d2.trans d)).2 c rfl
        · rename_i hne
          refine LoopAt.unroll (ih c ts ts' h h' way m a w _ e hT htop hr ht fun m1 a1 w1 p t d => ?_).1
          cases way with
          | normal => exact absurd e (hne _ _)
          | exit id => exact hQ m1 a1 w1 p t d
          | ret => exact hQ m1 a1 w1 p t d
      exact ⟨key.wp, fun c0 h => by injection h with h; subst h; exact key⟩
    | exit id =>
      obtain ⟨rfl, rfl, rfl⟩ := eq3 e
      exact ⟨wp_exit (hQ m a w (Post.refl hr) ht rfl), fun _ h => by cases h⟩
    | ret =>
      obtain ⟨rfl, rfl, rfl⟩ := eq3 e
      exact ⟨wp_ret (hQ m a w (Post.refl hr) ht rfl), fun _ h => by cases h⟩
    | rangeFunc => cases e
    | scope => cases e
    | label => cases e
    | goto => cases e
    | refuse => cases e
end
end Go.Proofs.YtjhemobplcelbaaGreatDoor.V
