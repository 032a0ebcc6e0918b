/- The machine for closed calls: one operation. Condition: no function of the program bears the name that the model asks for itself. -/
import Derived.Test.YtjhemobplcelbaaGreatDoorEvK
namespace Go.Proofs.YtjhemobplcelbaaGreatDoor.V
open Go.RowKit
set_option linter.unusedVariables false
set_option linter.unusedSimpArgs false
/-! What writing does to the table. -/
theorem new_can' {h h' : CH} {cs : List Value} {ty sz : Nat} {v u : Value} (e : (match h.new cs ty sz with | some h' => some (u, h') | none => none) = some (v, h')) : Can h h' := by
  split at e
  · rename_i h2 hh
    have e := Option.some.inj e
    injection e with _ e
    subst e
    exact new_can hh
  · cases e
theorem grow_can {h h' : CH} {e size n k : Nat} {base : Option Addr} {new : List Value} {v : Value} (he : growV h e size n k base new = some (v, h')) : Can h h' := by
  unfold growV at he
  split at he
  · split at he
    · exact new_can' he
    · cases he
  · split at he
    · rename_i y old hy hold
      split at he
      · split at he
        · rename_i h1 hd
          exact (drop_can hy hd).trans (new_can' (v := v) he)
        · cases he
      · cases he
    · cases he
  · cases he
theorem store_can' {h h' : CH} {b o : Nat} {vs : List Value} {v u : Value} (e : (match h.storeL b o vs with | some h' => some (u, h') | none => none) = some (v, h')) : Can h h' := by
  split at e
  · rename_i h2 hh
    have e := Option.some.inj e
    injection e with _ e
    subst e
    exact storeL_can hh
  · cases e
theorem same_can {h h' : CH} {v u : Value} (e : (some (u, h) : Option (Value × CH)) = some (v, h')) : Can h h' := by
  have e := Option.some.inj e
  injection e with _ e
  subst e
  exact Can.refl h
theorem append_can {P : Program} {h h' : CH} {st xt : TypeId} {s x v : Value} (he : appendV P h st xt s x = some (v, h')) : Can h h' := by
  unfold appendV at he
  repeat' (first | exact same_can he | exact store_can' he | exact grow_can he | (cases he; done) | split at he)
theorem write_can {P : Program} {h h' : CH} {op : Op} {ρ : Operand → Value} {v : Value} (he : writeEv P op ρ h = some (v, h')) : Can h h' := by
  unfold writeEv at he
  repeat' (first | exact same_can he | exact store_can' he | exact new_can' he | exact append_can he | (cases he; done) | split at he)
/-! What is read hangs on the operands alone. -/
section
variable {ρ σ : Operand → Value}
theorem opvL_congr : ∀ l : List Operand, (∀ x ∈ l, ρ x = σ x) → opvL ρ l = opvL σ l
  | [], _ => rfl
  | x :: xs, h => by
    show ρ x :: opvL ρ xs = σ x :: opvL σ xs
    rw [h x (by simp), opvL_congr xs fun y hy => h y (by simp [hy])]
theorem partsL_congr : ∀ l : List (Nat × Operand), (∀ x ∈ l, ρ x.2 = σ x.2) → partsL ρ l = partsL σ l
  | [], _ => rfl
  | (i, x) :: xs, h => by
    unfold partsL
    rw [h (i, x) (by simp), partsL_congr xs fun y hy => h y (by simp [hy])]
theorem maskL_congr : ∀ l : List Operand, (∀ x ∈ l, ρ x = σ x) → maskL ρ l = maskL σ l
  | [], _ => rfl
  | x :: xs, h => by
    unfold maskL
    rw [h x (by simp), maskL_congr xs fun y hy => h y (by simp [hy])]
theorem parts_of {ps : Array (Nat × Operand)} (h : ∀ x ∈ (ps.toList.map (·.2)).toArray, ρ x = σ x) : ∀ x ∈ ps.toList, ρ x.2 = σ x.2 := fun x hx => h x.2 (by
  rw [List.mem_toArray]
  exact List.mem_map.2 ⟨x, hx, rfl⟩)
theorem readEv_congr (P : Program) (H : CH) : ∀ op : Op, (∀ x ∈ op.operands, ρ x = σ x) → readEv P op ρ H = readEv P op σ H ∧ touch op ρ = touch op σ := by
  intro op h
  cases op with
  | move x => exact ⟨by simp only [readEv, h x (by simp [Op.operands])], rfl⟩
  | assign x => exact ⟨by simp only [readEv, h x (by simp [Op.operands])], rfl⟩
  | pick c a b => exact ⟨by simp only [readEv, h a (by simp [Op.operands]), h b (by simp [Op.operands]), h c (by simp [Op.operands])], rfl⟩
  | build t ps => exact ⟨by simp only [readEv, partsL_congr ps.toList (parts_of h)], rfl⟩
  | load t a => exact ⟨by simp only [readEv, h a (by simp [Op.operands])], by simp only [touch, h a (by simp [Op.operands])]⟩
  | nilCheck x => exact ⟨by simp only [readEv, h x (by simp [Op.operands])], rfl⟩
  | binOp op t x y yt => exact ⟨by simp only [readEv, h x (by simp [Op.operands]), h y (by simp [Op.operands])], by simp only [touch, h x (by simp [Op.operands]), h y (by simp [Op.operands])]⟩
  | unOp op t x => exact ⟨by simp only [readEv, h x (by simp [Op.operands])], rfl⟩
  | convert s d x => exact ⟨by simp only [readEv, h x (by simp [Op.operands])], by simp only [touch, h x (by simp [Op.operands])]⟩
  | makeFunc fn first cap => exact ⟨by simp only [readEv, opvL_congr first.toList fun x hx => h x (by simp [Op.operands, Array.mem_toList_iff.1 hx]), opvL_congr cap.toList fun x hx => h x (by simp [Op.operands, Array.mem_toList_iff.1 hx])], rfl⟩
  | slice t x lo hi mx =>
    cases mx with
    | some _ => exact ⟨rfl, by simp only [touch, h x (by simp [Op.operands])]⟩
    | none =>
      refine ⟨?_, by simp only [touch, h x (by simp [Op.operands])]⟩
      have hx : ρ x = σ x := h x (by simp [Op.operands])
      cases lo with
      | none => cases hi with
        | none => simp only [readEv, hx]
        | some r => simp only [readEv, hx, h r (by simp [Op.operands])]
      | some l => cases hi with
        | none => simp only [readEv, hx, h l (by simp [Op.operands])]
        | some r => simp only [readEv, hx, h l (by simp [Op.operands]), h r (by simp [Op.operands])]
  | fieldAddr t x i => exact ⟨by simp only [readEv, h x (by simp [Op.operands])], rfl⟩
  | field t x i => exact ⟨by simp only [readEv, h x (by simp [Op.operands])], rfl⟩
  | indexAddr t x i => exact ⟨by simp only [readEv, h x (by simp [Op.operands]), h i (by simp [Op.operands])], rfl⟩
  | index t x i => exact ⟨by simp only [readEv, h x (by simp [Op.operands]), h i (by simp [Op.operands])], rfl⟩
  | extract x i => exact ⟨by simp only [readEv, h x (by simp [Op.operands])], rfl⟩
  | call c =>
    obtain ⟨callee, args, ats⟩ := c
    have ha : ∀ x ∈ args.toList, ρ x = σ x := fun x hx => h x (by simp [Op.operands, Call.operands, Array.mem_toList_iff.1 hx])
    cases callee with
    | builtin b => exact ⟨by simp only [readEv, opvL_congr args.toList ha], by cases b <;> simp only [touch, maskL_congr args.toList ha]⟩
    | value f => exact ⟨rfl, rfl⟩
    | invoke r n => exact ⟨rfl, rfl⟩
  | _ => exact ⟨rfl, rfl⟩
theorem writeEv_congr (P : Program) (H : CH) : ∀ op : Op, (∀ x ∈ op.operands, ρ x = σ x) → writeEv P op ρ H = writeEv P op σ H := by
  intro op h
  cases op with
  | box e x => simp only [writeEv, h x (by simp [Op.operands])]
  | buildSlice t n ps => simp only [writeEv, partsL_congr ps.toList (parts_of h)]
  | store t a x => simp only [writeEv, h x (by simp [Op.operands]), h a (by simp [Op.operands])]
  | makeSlice t l c => simp only [writeEv, h l (by simp [Op.operands]), h c (by simp [Op.operands])]
  | call c =>
    obtain ⟨callee, args, ats⟩ := c
    have ha : ∀ x ∈ args.toList, ρ x = σ x := fun x hx => h x (by simp [Op.operands, Call.operands, Array.mem_toList_iff.1 hx])
    cases callee with
    | builtin b => simp only [writeEv, opvL_congr args.toList ha]
    | value f => rfl
    | invoke r n => rfl
  | _ => rfl
theorem callOf_congr : ∀ op : Op, (∀ x ∈ op.operands, ρ x = σ x) → callOf op ρ = callOf op σ := by
  intro op h
  cases op with
  | call c =>
    obtain ⟨callee, args, ats⟩ := c
    have ha : ∀ x ∈ args.toList, ρ x = σ x := fun x hx => h x (by simp [Op.operands, Call.operands, Array.mem_toList_iff.1 hx])
    cases callee with
    | value f => simp only [callOf, opvL_congr args.toList ha, h f (by simp [Op.operands, Call.operands])]
    | builtin b => rfl
    | invoke r n => rfl
  | _ => rfl
end
def Named (P : Program) : Prop := ∀ (f : FuncId) fn, P.funcs[f]? = some fn → (fn.name == "runtime.NumGoroutine") = false
theorem enter_run {P : Program} (hN : Named P) {f : FuncId} {fn : Func} {c : Code} (hf : P.funcs[f]? = some fn) (hb : fn.body = some c) (args : Array Value) (w : World) : (callFunc f args).run P w = .ok (.enter f args) w := by
  have h1 : fn.name ≠ "runtime.NumGoroutine" := by simpa using hN f fn hf
  simp [callFunc, hf, h1, hb]
theorem callOf_ok {P : Program} (hN : Named P) {m : Map} {ρ ρ' : Operand → Value} (hρ : ∀ x, TR m (ρ x) (ρ' x)) {op : Op} {f : FuncId} {args : List Value} (e : callOf op ρ = some (f, args)) (hf : ∃ fn c, P.funcs[f]? = some fn ∧ fn.body = some c) :
    ∃ args', F2 (TR m) args args' ∧ ∀ o : Oper, o.op = op → ∀ w, (execOp ρ' o).run P w = .ok (.enter f ⟨args'⟩) w := by
  unfold callOf at e
  split at e
  · rename_i x xs ats
    split at e
    · rename_i g first cap hx
      have e := Option.some.inj e
      injection e with e1 e2
      subst e1 e2
      obtain ⟨a', c', h1, h2, h3⟩ := TR.fn (hx ▸ hρ x)
      obtain ⟨fn, c, hf1, hf2⟩ := hf
      refine ⟨a' ++ xs.toList.map ρ' ++ c', ((h2.imp fun _ _ h => TR.o (.s (.b h))).append (opvL_ok hρ _)).append (h3.imp fun _ _ h => TR.o (.s (.b h))), fun o ho w => ?_⟩
      have ea : (⟨a'⟩ : Array Value) ++ xs.map ρ' ++ ⟨c'⟩ = ⟨a' ++ xs.toList.map ρ' ++ c'⟩ := Array.ext' (by simp)
      simp only [execOp, ho, resolve, h1, Deferred.ofValue, Sem.run_bind, Sem.run_pure, Result.andThen_ok, invoke, ea]
      exact enter_run hN hf1 hf2 _ w
    · cases e
  · cases e
/-- What is asked of a call. -/
def CallOk (P : Program) (call : Call') : Prop :=
  ∀ f args h v h', call f args h = some (v, h') → (∃ fn c, P.funcs[f]? = some fn ∧ fn.body = some c) ∧ Can h h' ∧
    ∀ D top m w args', Sub h'.rd D → h'.n ≤ top → HR D top m h w → F2 (TR m) args args' → Calls P f ⟨args'⟩ w fun e w' => ∃ m' v', e = .returned v' ∧ TR m' v v' ∧ Post D top m h w m' h' w'
section
variable {P : Program} {call : Call'} {N : Nat}
theorem step_can (hC : CallOk P call) {ops : Array Oper} {o : Oper} {ts : T Value} {h h' : CH} {v : Value} (e : stepEv P call ops o ts h = some (v, h')) : Can h h' := by
  unfold stepEv at e
  split at e
  · cases e
  · exact same_can e
  · split at e
    · split at e
      · have e := Option.some.inj e
        injection e with _ e
        subst e
        exact Can.look h _
      · cases e
    · exact (Can.look h _).trans (write_can e)
    · split at e
      · rename_i f args hc
        exact (hC f args h v h' e).2.1
      · cases e
/-- One operation: what it leaves. -/
theorem step_ok (hN : Named P) (hC : CallOk P call) {ops : Array Oper} {o : Oper} {i : Nat} (hi : ops[i]? = some o) {ts : T Value} {h h' : CH} {v : Value} (e : stepEv P call ops o ts h = some (v, h')) {D : Nat → Prop} {top : Nat} {m : Map} {a : Act} {w : World} (hT : Sub h'.rd D) (ht : h'.n ≤ top) (hr : HR D top m h w)
    (hρ : ∀ x ∈ o.op.operands, TR m (opv ts x) (a.eval x)) (hw : ∀ b, wantedC o ops ts = some b → Region.wanted o (yielded ops a.tmps) = b) {K : Act → World → Prop} {Q : Exit → Act → World → Prop}
    (hK : ∀ m' v' w', TR m' v v' → Post D top m h w m' h' w' → K (a.put o.dst v') w') : wpOp P ops Q i K a w := by
  unfold wpOp
  rw [hi]
  simp only []
  unfold stepEv at e
  split at e
  · cases e
  · rename_i hw0
    rw [hw _ hw0, if_neg (by decide)]
    have e := Option.some.inj e
    injection e with e1 e2
    subst e1 e2
    exact hK m undef w (TR.same m rfl) (Post.refl hr)
  · rename_i hw0
    rw [hw _ hw0, if_pos rfl]
    refine .inl ?_
    unfold Oper.wp
    -- what the operands are not, is not asked
    obtain ⟨σ, hσ1, hσ2⟩ : ∃ σ : Operand → Value, (∀ x ∈ o.op.operands, opv ts x = σ x) ∧ ∀ x, TR m (σ x) (a.eval x) := by
      classical
      refine ⟨fun x => if x ∈ o.op.operands then opv ts x else .chan none, fun x hx => by simp only [if_pos hx], fun x => ?_⟩
      by_cases hx : x ∈ o.op.operands
      · simp only [if_pos hx]; exact hρ x hx
      · simp only [if_neg hx]; exact .junk _
    split at e
    · split at e
      · rename_i u hu
        have e := Option.some.inj e
        injection e with e1 e2
        subst e1 e2
        obtain ⟨c1, c2⟩ := readEv_congr P h o.op hσ1
        obtain ⟨v', hv1, hv2⟩ := read_ok hr hσ2 (op := o.op) (by rw [← c2]; exact fun b hb => hT b (on_or.2 (.inr hb))) (c1 ▸ hu)
        rw [hv2 w (Below.refl _ _) o rfl]
        exact hK m v' w hv1 (Post.look hr _)
      · cases e
    · obtain ⟨_, c2⟩ := readEv_congr P h o.op hσ1
      rw [writeEv_congr P _ o.op hσ1] at e
      have hT1 : Sub (touch o.op σ) D := by
        rw [← c2]
        exact fun b hb => hT b ((write_can e).rd b (on_or.2 (.inr hb)))
      obtain ⟨m1, v', w1, nx, k2, k3, k7, k8⟩ := write_ok (hr.masks _ _) ht hT hσ2 hT1 e
      rw [k8 o rfl]
      have k9 : Post D top m h w m1 h' w1 := ⟨k3.le, k3.hr, k3.fr, k3.sz, k3.frame, k3.newm⟩
      have := hK m1 v' w1 k2 k9
      rcases k7 with rfl | ⟨rfl, rfl⟩
      · exact this
      · exact this
    · split at e
      · rename_i f args hc
        obtain ⟨hf, _, hcall⟩ := hC f args h v h' e
        rw [callOf_congr o.op hσ1] at hc
        obtain ⟨args', ha, hrun⟩ := callOf_ok hN hσ2 hc hf
        rw [hrun o rfl w]
        rw [Oper.upon_enter]
        refine (hcall D top m w args' hT ht hr ha).mono fun e1 w1 hh => ?_
        obtain ⟨m1, v', rfl, hv', hp1⟩ := hh
        exact hK m1 v' w1 hv' hp1
      · cases e
end
end Go.Proofs.YtjhemobplcelbaaGreatDoor.V
