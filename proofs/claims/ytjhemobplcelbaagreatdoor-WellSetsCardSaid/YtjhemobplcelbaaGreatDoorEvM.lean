/- The machine for closed calls: what it answers is what a call answers. Conditions: no function of the program bears the name that the model asks for itself; the program's regions take any order; the calls that others answer are answered so. -/
import Derived.Test.YtjhemobplcelbaaGreatDoorEvQ
namespace Go.Proofs.YtjhemobplcelbaaGreatDoor.V
open Go.RowKit
set_option linter.unusedVariables false
set_option linter.unusedSimpArgs false
section
variable {P : Program} {E : Ext} {D : Nat → Prop} {top : Nat}
theorem putArgs_get : ∀ (vs : List Value) (i : Nat) (ts ts' : T Value), putArgs vs i ts = some ts' → ∀ j, ts'.get j = if i ≤ j ∧ j < i + vs.length then vs[j - i]? else ts.get j := by
  intro vs
  induction vs with
  | nil =>
    intro i ts ts' e j
    obtain rfl := Option.some.inj e
    rw [if_neg (by simp)]
  | cons v vs ih =>
    intro i ts ts' e j
    unfold putArgs at e
    split at e
    · rename_i t1 h1
      have hp := T.set_put _ _ _ _ _ h1
      rw [ih (i + 1) t1 ts' e j, hp j]
      by_cases c1 : j = i
      · subst c1
        rw [if_neg (by omega), if_pos rfl, if_pos (by simp), Nat.sub_self]
        rfl
      · by_cases c2 : i + 1 ≤ j ∧ j < i + 1 + vs.length
        · rw [if_pos c2, if_pos (by simp; omega)]
          have : j - i = (j - (i + 1)) + 1 := by omega
          rw [this]
          rfl
        · rw [if_neg c2, if_neg c1, if_neg (by simp; omega)]
    · cases e
theorem args_ok {m : Map} {args args' : List Value} {ts : T Value} {N : Nat} (e : putArgs args 0 .nil = some ts) (hf : F2 (TR m) args args') (hN : args.length ≤ N) : TsR m N ts ((⟨args'⟩ : Array Value) ++ Array.replicate (N - args'.length) undef) := by
  have hl := hf.len
  refine ⟨by simp; omega, fun t => ?_⟩
  rw [putArgs_get args 0 .nil ts e t, T.get_nil]
  have hu : TR m undef undef := TR.same m (v := undef) rfl
  rw [Array.getD_eq_getD_getElem?, Array.getElem?_append]
  by_cases ht : t < args.length
  · rw [if_pos (by omega), Nat.sub_zero, if_pos (by show t < args'.length; omega), List.getElem?_eq_getElem ht]
    obtain ⟨b, hb, hR⟩ := hf.at (List.getElem?_eq_getElem ht)
    have : (⟨args'⟩ : Array Value)[t]? = some b := by rw [← Array.getElem?_toList]; exact hb
    rw [this]
    exact hR
  · rw [if_neg (by omega), if_neg (by show ¬ t < args'.length; omega)]
    have : ((Array.replicate (N - args'.length) undef)[t - (⟨args'⟩ : Array Value).size]?).getD undef = undef := by
      rw [Array.getElem?_replicate]
      split <;> rfl
    rw [this]
    exact hu
theorem andThen_val {r : Result Value} {v : Value} {w : World} (h : r.andThen (fun a w => .ok (Next.value a) w) = .ok (.value v) w) : r = .ok v w := by
  cases r with
  | ok u w2 =>
    have h : (Result.ok (Next.value u) w2 : Result Next) = .ok (.value v) w := h
    injection h with h1 h2
    injection h1 with h1
    rw [h1, h2]
  | halt x w2 => cases h
def rsem (tmps : Array Value) : ResultVar → Sem Value
  | .tmp t => pure (tmps.getD t undef)
  | .cell a t => do loadVar t (← asAddr (tmps.getD a undef))
theorem res_ok {m : Map} {h : CH} {w : World} {N : Nat} {ts : T Value} {tmps : Array Value} (hr : HR D top m h w) (ht : TsR m N ts tmps) : ∀ (rs : List ResultVar) (vs : List Value), Sub (resT ts rs) D → resVs P ts h rs = some vs →
    ∃ vs', F2 (TR m) vs vs' ∧ (rs.mapM (rsem tmps)).run P w = .ok vs' w := by
  intro rs
  induction rs with
  | nil => intro vs _ e; obtain rfl := Option.some.inj e; exact ⟨[], .nil, rfl⟩
  | cons r rs ih =>
    intro vs hT e
    unfold resVs at e
    split at e
    · rename_i v vs1 hv hvs
      obtain rfl := Option.some.inj e
      obtain ⟨vs', h1, h2⟩ := ih vs1 (by cases r with | tmp t => exact hT | cell a t => exact hT.or.2) hvs
      have key : ∃ v', TR m v v' ∧ (rsem tmps r).run P w = .ok v' w := by
        cases r with
        | tmp t =>
          have hv : ts.get t = some v := hv
          have := ht.at_ t
          rw [hv] at this
          exact ⟨_, this, rfl⟩
        | cell a t =>
          unfold resV at hv
          simp only [] at hv
          split at hv
          · rename_i b o hg
            have hp := ht.at_ a
            rw [hg] at hp
            obtain ⟨p, hp1, hp2⟩ := TR.ptr hp
            -- as a load of an operand
            obtain ⟨v', k1, k2⟩ := read_load (P := P) (ρ := fun _ => .pointer (some ⟨b, o, none⟩)) (ρ' := fun _ => .pointer (some ⟨p.r, p.s + o, none⟩)) hr (fun _ => .o (.s (.b (.ptr hp1)))) (t := t) (a := .tmp 0) (hT.or.1 b (by show On (maskV ((ts.get a).getD undef)) b; rw [hg]; exact on_pow b)) rfl hv
            refine ⟨v', k1, ?_⟩
            have k3 := k2 w (Below.refl _ _) { (default : Oper) with op := .load t (.tmp 0) } rfl
            have k4 : ((loadVar t ⟨p.r, p.s + o, none⟩).run P w).andThen (fun a w => .ok (Next.value a) w) = .ok (.value v') w := by
              rw [← k3]
              simp only [execOp, Instr.loadAt, Instr.sureAddr, Sem.run_bind, Sem.run_pure, Result.andThen_ok]
            simp only [rsem, hp2, asAddr, Sem.run_bind, Sem.run_pure, Result.andThen_ok]
            exact andThen_val k4
          · cases hv
      obtain ⟨v', k1, k2⟩ := key
      refine ⟨v' :: vs', .cons k1 h1, ?_⟩
      rw [List.mapM_cons]
      simp only [Sem.run_bind, k2, Result.andThen_ok, h2, Sem.run_pure]
    · cases e
theorem results_ok {m : Map} {h : CH} {w : World} {N : Nat} {ts : T Value} {tmps : Array Value} {fn : Func} {vs : List Value} {v : Value} (hr : HR D top m h w) (ht : TsR m N ts tmps) (hT : Sub (resT ts fn.results.toList) D) (e : resVs P ts h fn.results.toList = some vs) (e2 : one? vs = some v) :
    ∃ v', TR m v v' ∧ (results fn tmps).run P w = .ok v' w := by
  obtain ⟨vs', h1, h2⟩ := res_ok (P := P) hr ht _ _ hT e
  have h3 : (fn.results.mapM (rsem tmps)).run P w = .ok ⟨vs'⟩ w := by
    rw [Array.mapM_eq_mapM_toList, Sem.run_map, h2]; rfl
  have h4 : (results fn tmps).run P w = .ok (if h : (⟨vs'⟩ : Array Value).size = 1 then (⟨vs'⟩ : Array Value)[0] else .tuple ⟨vs'⟩) w := by
    unfold results
    rw [Sem.run_bind]
    exact (congrArg (fun r => Result.andThen r fun vs w => Sem.run P (Pure.pure (if h : vs.size = 1 then vs[0] else Value.tuple vs)) w) h3).trans rfl
  rw [h4]
  have tup : ∀ (l l' : List Value), F2 (TR m) l l' → l.all vr = true → F2 (VR m) l l' := by
    intro l l' h
    induction h with
    | nil => intro _; exact .nil
    | cons h _ ih =>
      intro ha
      rw [List.all_cons, Bool.and_eq_true] at ha
      exact .cons (h.vr ha.1) (ih ha.2)
  cases h1 with
  | nil =>
    obtain rfl := Option.some.inj e2
    exact ⟨_, .tup .nil, rfl⟩
  | cons k1 k2 =>
    cases k2 with
    | nil =>
      obtain rfl := Option.some.inj e2
      exact ⟨_, k1, rfl⟩
    | cons k2 k3 =>
      unfold one? at e2
      simp only [] at e2
      split at e2
      · rename_i ha
        obtain rfl := Option.some.inj e2
        exact ⟨_, .tup (tup _ _ (.cons k1 (.cons k2 k3)) ha), by rw [dif_neg (by simp)]⟩
      · cases e2
/-- What the machine for closed calls answers is what is answered. -/
theorem callEv_ok (hN : Named P) (hM : P.follows .mixedOrders = true) (hE : CallOk P E) : ∀ k, CallOk P (callEv P E k) := by
  intro k
  induction k with
  | zero => intro f args h v h' e; cases e
  | succ k ih =>
    intro f args h v h' e
    unfold callEv at e
    split at e
    · rename_i r hu
      rw [Option.some.inj e] at hu
      exact hE f args h v h' hu
    · split at e
      · cases e
      · rename_i fn hfn
        split at e
        · cases e
        · rename_i c hc
          split at e
          · cases e
          · rename_i hle
            split at e
            · cases e
            · rename_i ts hts
              split at e
              · cases e
              · rename_i way ts1 h1 hne hcode
                split at e
                · rename_i vs hvs
                  split at e
                  · rename_i u hu
                    have e := Option.some.inj e
                    injection e with e1 e2
                    subst e1 e2
                    have hcan := code_can ih (k + 1) c ts ts1 h h1 way hcode
                    refine ⟨⟨fn, c, hfn, hc⟩, hcan.trans (Can.look h1 _), fun D top m w args' hT htop hr ha => ?_⟩
                    have hA := args_ok hts ha (ble_t hle)
                    refine calls_of_wp hfn hc ?_
                    refine (code_ok hN ih hM D top (k + 1) c ts ts1 h h1 way m _ w _ hcode (fun b hb => hT b (on_or.2 (.inl hb))) htop hr hA fun m1 a1 w1 p t d => ?_).1
                    obtain ⟨v', k1, k2⟩ := results_ok (P := P) p.hr t (fun b hb => hT b (on_or.2 (.inr hb))) hvs hu
                    have p2 : Post D top m h w m1 (h1.look (resT ts1 fn.results.toList)) w1 := ⟨p.le, p.hr.masks _ _, p.fr, p.sz, p.frame, p.newm⟩
                    have post : a1.defers = [] ∧ ∃ v, (results fn a1.tmps).run P w1 = .ok v w1 ∧ ∃ m' v'_1, Ending.returned v = .returned v'_1 ∧ TR m' u v'_1 ∧ Post D top m h w m' (h1.look (resT ts1 fn.results.toList)) w1 := ⟨d, v', k2, m1, v', rfl, k1, p2⟩
                    cases way with
                    | normal => exact post
                    | ret => exact post
                    | exit id => exact (hne id rfl).elim
                  · cases e
                · cases e
              · cases e
/-- A closed call. -/
theorem closed (hN : Named P) (hM : P.follows .mixedOrders = true) (hE : CallOk P E) {k : Nat} {f : FuncId} {v : Value} {h' : CH} (e : callEv P E k f [] ⟨.nil, 0, 0, 0⟩ = some (v, h')) (hv : af v = true) (w : World) :
    Calls P f #[] w fun e w' => e = .returned v ∧ Below w.heap.size w w' := by
  have hr : HR (fun _ => True) h'.n (fun _ => none) ⟨.nil, 0, 0, 0⟩ w := ⟨fun b p h => (by cases h), fun b p h => (by cases h), fun b x _ h => (by rw [T.get_nil] at h; cases h), fun b1 b2 x1 x2 p1 p2 _ _ h => (by rw [T.get_nil] at h; cases h), fun _ _ _ => trivial, fun b _ => T.get_nil b⟩
  refine ((callEv_ok hN hM hE k f [] _ v h' e).2.2 _ _ _ w [] (fun _ _ => trivial) (Nat.le_refl _) hr .nil).mono fun e w' hh => ?_
  obtain ⟨m', v', rfl, h1, h2⟩ := hh
  have := h1.afEq hv
  subst this
  exact ⟨rfl, (h2.fr w ⟨Below.refl _ _, fun b p h => (by cases h)⟩).bel⟩
end
end Go.Proofs.YtjhemobplcelbaaGreatDoor.V
