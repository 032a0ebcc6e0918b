/- The machine for closed calls: operations that only read, the rest of them. No condition. -/
import Derived.Test.YtjhemobplcelbaaGreatDoorEvF
namespace Go.Proofs.YtjhemobplcelbaaGreatDoor.V
open Go.RowKit
set_option linter.unusedVariables false
set_option linter.unusedSimpArgs false
theorem opvL_ok {m : Map} {ρ ρ' : Operand → Value} (hρ : ∀ x, TR m (ρ x) (ρ' x)) : ∀ l : List Operand, F2 (TR m) (opvL ρ l) (l.map ρ')
  | [] => .nil
  | x :: xs => .cons (hρ x) (opvL_ok hρ xs)
theorem opvL_br {m : Map} {ρ ρ' : Operand → Value} (hρ : ∀ x, TR m (ρ x) (ρ' x)) : ∀ l : List Operand, (opvL ρ l).all br = true → F2 (BR m) (opvL ρ l) (l.map ρ')
  | [], _ => .nil
  | x :: xs, h => by
    have h : (ρ x :: opvL ρ xs).all br = true := h
    rw [List.all_cons, Bool.and_eq_true] at h
    exact .cons (SR.of_TR_br (hρ x) h.1) (opvL_br hρ xs h.2)
section
variable {P : Program} {D : Nat → Prop} {top : Nat} {m : Map} {h : CH} {w : World} {ρ ρ' : Operand → Value}
theorem read_val {op : Op} {x : Operand} (hρ : ∀ x, TR m (ρ x) (ρ' x)) (he : ∀ o : Oper, o.op = op → execOp ρ' o = Sem.pure (.value (ρ' x))) : Reads P m w ρ' op (ρ x) :=
  ⟨ρ' x, hρ x, fun w2 hb o ho => by rw [he o ho]; rfl⟩
theorem read_pick (hρ : ∀ x, TR m (ρ x) (ρ' x)) {c a b : Operand} {v : Value} (e : readEv P (.pick c a b) ρ h = some v) : Reads P m w ρ' (.pick c a b) v := by
  simp only [readEv] at e
  split at e
  · rename_i ec
    obtain rfl := Option.some.inj e
    have := TR.bool (ec ▸ hρ c)
    exact ⟨ρ' a, hρ a, fun w2 hb o ho => by simp [execOp, ho, this, asBool]⟩
  · rename_i ec
    obtain rfl := Option.some.inj e
    have := TR.bool (ec ▸ hρ c)
    exact ⟨ρ' b, hρ b, fun w2 hb o ho => by simp [execOp, ho, this, asBool]⟩
  · cases e
theorem read_nilCheck (hρ : ∀ x, TR m (ρ x) (ρ' x)) {x : Operand} {v : Value} (e : readEv P (.nilCheck x) ρ h = some v) : Reads P m w ρ' (.nilCheck x) v := by
  simp only [readEv] at e
  split at e
  · rename_i a ea
    obtain rfl := Option.some.inj e
    obtain ⟨b, o, p, rfl, hp, e2⟩ := TR.ptrA (ea ▸ hρ x)
    exact ⟨_, .o (.s (.b (.ptr hp))), fun w2 hb o ho => by simp [execOp, ho, e2]⟩
  · cases e
theorem read_un (hρ : ∀ x, TR m (ρ x) (ρ' x)) {op : UnOp} {t : TypeId} {x : Operand} {v : Value} (e : readEv P (.unOp op t x) ρ h = some v) : Reads P m w ρ' (.unOp op t x) v := by
  simp only [readEv] at e
  split at e
  · rename_i hx
    have e1 := (hρ x).afEq hx
    refine read_crun e fun w2 o ho => ?_
    simp only [execOp, ho, e1]
    rw [Sem.run_bind]
    rfl
  · cases e
theorem bytes_loop (P : Program) (l : List Value) (bs : List UInt8) (w : World) : ∀ s : ByteArray, bytesOfL l = some bs → (forIn l s fun c s => (match c with
      | .int .u8 n => pure (ForInStep.yield (s.push (UInt8.ofNat n.toNat)))
      | _ => (do (stuck "bytesToString: byte expected" : Sem PUnit); pure (ForInStep.yield s)) : Sem (ForInStep ByteArray))).run P w = .ok ⟨⟨s.data.toList ++ bs⟩⟩ w := by
  induction l generalizing bs with
  | nil =>
    intro s h
    obtain rfl := Option.some.inj h
    simp
  | cons v l ih =>
    intro s h
    unfold bytesOfL at h
    split at h
    · cases ‹_ :: _ = []›
    · rename_i n l2 heq
      injection heq with h1 h2
      subst h1 h2
      split at h
      · rename_i bs2 hbs
        obtain rfl := Option.some.inj h
        rw [List.forIn_cons]
        simp only [pure_bind]
        rw [ih bs2 _ hbs]
        congr 3
        show (s.data.push _).toList ++ bs2 = _
        simp
      · cases h
    · cases h
theorem read_convert (hr : HR D top m h w) (hρ : ∀ x, TR m (ρ x) (ρ' x)) {s d : TypeId} {x : Operand} (hT : Sub (maskV (ρ x)) D) {v : Value} (e : readEv P (.convert s d x) ρ h = some v) : Reads P m w ρ' (.convert s d x) v := by
  simp only [readEv] at e
  split at e
  · rename_i b o n c ex
    split at e
    · rename_i el hs hd
      split at e
      · rename_i hel
        split at e
        · rename_i l hl
          split at e
          · rename_i bs hbs
            obtain rfl := Option.some.inj e
            obtain ⟨q, l', hq, hl', hlen, _, hw⟩ := hr.load (hT b (by rw [ex]; exact on_pow b)) hl
            have hl2 : l' = l := by
              have : ∀ (l : List Value) (bs : List UInt8), bytesOfL l = some bs → l.all afS = true := by
                intro l
                induction l with
                | nil => intro _ _; rfl
                | cons v l ih =>
                  intro bs h
                  unfold bytesOfL at h
                  split at h
                  · cases ‹_ :: _ = []›
                  · rename_i n l2 heq
                    injection heq with h1 h2
                    subst h1 h2
                    split at h
                    · rename_i bs2 hb2
                      rw [List.all_cons, ih _ hb2]; rfl
                    · cases h
                  · cases h
              exact F2.afEq hl' (this l bs hbs)
            subst hl2
            have key : ∀ w2, Below w.heap.size w w2 → (convert s d (ρ' x)).run P w2 = .ok (.string ⟨⟨bs⟩⟩) w2 := by
              intro w2 hb
              have hbl := bytes_loop P l' bs w2 ByteArray.empty hbs
              rcases TR.sl (ex ▸ hρ x) with ⟨p, c', hp, _, _, e2⟩ | ⟨hn, hc, p, o', c', hp, _, e2⟩
              · obtain rfl := Option.some.inj (hp.symm.trans hq)
                have h2 := (hw w2 hb).2 P
                simp only [convert, e2, Sem.run_bind, run_underlying hs, run_underlying hd, run_underlying hel, Result.andThen_ok, Conv.bytesToString, h2]
                simp only [Array.forIn_toList.symm]
                exact (congrArg (fun r => Result.andThen r fun a w' => Sem.run P (pure (Value.string a)) w') hbl).trans rfl
              · subst hn
                have : l' = [] := List.eq_nil_of_length_eq_zero hlen
                subst this
                simp only [convert, e2, Sem.run_bind, run_underlying hs, run_underlying hd, run_underlying hel, Result.andThen_ok, Conv.bytesToString]
                have h2 : (loadCells ⟨p.r, o', none⟩ 0).run P w2 = .ok #[] w2 := rfl
                simp only [h2, Result.andThen_ok, Array.forIn_toList.symm]
                exact (congrArg (fun r => Result.andThen r fun a w' => Sem.run P (pure (Value.string a)) w') hbl).trans rfl
            refine ⟨_, TR.same m rfl, fun w2 hb o ho => ?_⟩
            simp only [execOp, ho, Sem.run_bind, key w2 hb]
            rfl
          · cases e
        · cases e
      · cases e
    · cases e
  · split at e
    · rename_i hx
      have e1 := (hρ x).afEq hx
      refine read_crun e fun w2 o ho => ?_
      simp only [execOp, ho, e1]
      rw [Sem.run_bind]
      rfl
    · cases e
end
end Go.Proofs.YtjhemobplcelbaaGreatDoor.V
