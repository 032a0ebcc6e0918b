/- The machine for closed calls: operations that only read, all of them. No condition. -/
import Derived.Test.YtjhemobplcelbaaGreatDoorEvE
namespace Go.Proofs.YtjhemobplcelbaaGreatDoor.V
open Go.RowKit
set_option linter.unusedVariables false
set_option linter.unusedSimpArgs false
theorem str_append (a b : List UInt8) : (⟨⟨a⟩⟩ : ByteArray) ++ ⟨⟨b⟩⟩ = ⟨⟨a ++ b⟩⟩ := by
  apply ByteArray.ext
  rw [ByteArray.data_append]
  simp
theorem strOp_run {P : Program} {op : BinOp} {a b : List UInt8} {v : Value} (hl : a.length + b.length ≤ 1000000) (e : strOp op a b = some v) (t : TypeId) (w : World) : (binOp op t (.string ⟨⟨a⟩⟩) (.string ⟨⟨b⟩⟩)).run P w = .ok v w ∧ af v = true := by
  have e1 : (⟨⟨a⟩⟩ : ByteArray).toList = a := Lib.toList_data _
  have e2 : (⟨⟨b⟩⟩ : ByteArray).toList = b := Lib.toList_data _
  have sz : ((((⟨⟨a⟩⟩ : ByteArray).size + (⟨⟨b⟩⟩ : ByteArray).size : Nat) : Int) > IntKind.i64.max) = False := by
    rw [eq_iff_iff, iff_false]
    show ¬ (((a.length + b.length : Nat) : Int) > IntKind.i64.max)
    have : IntKind.i64.max = 9223372036854775807 := by decide
    omega
  unfold strOp at e
  split at e <;> first | (obtain rfl := Option.some.inj e; refine ⟨?_, rfl⟩; simp only [binOp, Op.stringOp, e1, e2, sz, if_false, str_append]; first | done | rfl | (simp only [bne]; rfl)) | (cases e; done)
section
variable {P : Program} {D : Nat → Prop} {top : Nat} {m : Map} {h : CH} {w : World} {ρ ρ' : Operand → Value}
theorem guard_str (op : BinOp) (t : TypeId) (x y : Operand) (a b : ByteArray) (w : World) : (eqGuard op t x y (.string a) (.string b)).run P w = .ok () w := by
  unfold eqGuard; cases op <;> rfl
theorem guard_ptr (op : BinOp) (t : TypeId) (x y : Operand) (a b : Option Addr) (w : World) : (eqGuard op t x y (.pointer a) (.pointer b)).run P w = .ok () w := by
  unfold eqGuard; cases op <;> rfl
theorem guard_sl (op : BinOp) (t : TypeId) (x y : Operand) (a b : Option Addr) (n c n' c' : Nat) (w : World) : (eqGuard op t x y (.slice a n c) (.slice b n' c')).run P w = .ok () w := by
  unfold eqGuard; cases op <;> rfl
theorem equal_ptr_nil {t e : TypeId} (hu : P.underlying t = some (.pointer e)) (a b : Option Addr) (hn : a = none ∨ b = none) (w2 : World) : (Op.equal t (.pointer a) (.pointer b)).run P w2 = .ok (a.isNone && b.isNone) w2 := by
  unfold Op.equal Op.maxDepth
  rw [show (10000 : Nat) = 9999 + 1 from rfl]
  unfold Op.equalIn
  rw [Sem.run_bind, run_underlying hu, Result.andThen_ok]
  cases a with
  | none => cases b <;> rfl
  | some a => cases b with
    | none => rfl
    | some b => rcases hn with h | h <;> cases h
theorem equal_ptr {t e n : Nat} (hu : P.underlying t = some (.pointer e)) (hn : szOf P e = some (n + 1)) (a b : Addr) (w2 : World) (hs : a.block ≠ b.block → (sameAddr a b).run P w2 = .ok false w2) : (Op.equal t (.pointer (some a)) (.pointer (some b))).run P w2 = .ok (a == b && a.block == b.block) w2 := by
  unfold Op.equal Op.maxDepth
  rw [show (10000 : Nat) = 9999 + 1 from rfl]
  unfold Op.equalIn
  rw [Sem.run_bind, run_underlying hu, Result.andThen_ok]
  simp only [Sem.run_bind, szOf_run hn, Result.andThen_ok]
  rw [if_pos (by simp)]
  by_cases hb : a.block = b.block
  · have e1 : (a.block == b.block) = true := beq_iff_eq.2 hb
    unfold sameAddr
    rw [if_pos e1, e1, Bool.and_true]
    rfl
  · rw [hs hb]
    have e1 : (a.block == b.block) = false := beq_eq_false_iff_ne.2 hb
    rw [e1, Bool.and_false]
theorem sameAddr_apart {a b : Addr} {w2 : World} {cs cs' : Array Value} {ty ty' : TypeId} (hne : a.block ≠ b.block) (ha : w2.heap[a.block]? = some (.cells cs ty (0, 0))) (hb : w2.heap[b.block]? = some (.cells cs' ty' (0, 0))) : (sameAddr a b).run P w2 = .ok false w2 := by
  have f1 : ∀ o s, w2.frozen? ⟨a.block, o, s⟩ = false := fun o s => by simp [World.frozen?, ha]
  have f2 : ∀ o s, w2.frozen? ⟨b.block, o, s⟩ = false := fun o s => by simp [World.frozen?, hb]
  have s1 : w2.shape? a.block = some (ty, cs.size) := by simp [World.shape?, ha]
  have s2 : w2.shape? b.block = some (ty', cs'.size) := by simp [World.shape?, hb]
  have e1 : (a.block == b.block) = false := beq_eq_false_iff_ne.2 hne
  have e2 : w2.frozen? a = false := f1 a.off a.spot
  have e3 : w2.frozen? b = false := f2 b.off b.spot
  unfold sameAddr
  simp [e1, frozen, Sem.run, e2, e3, noView, viewAt, shape, s1, s2, mayBeOne, stringish, f1, f2, bind, Sem.bind, pure]
theorem read_bin (hr : HR D top m h w) (hρ : ∀ x, TR m (ρ x) (ρ' x)) {x y : Operand} (hT : Sub (maskV (ρ x) ||| maskV (ρ y)) D) {op : BinOp} {t yt : TypeId} {v : Value} (e : readEv P (.binOp op t x y yt) ρ h = some v) : Reads P m w ρ' (.binOp op t x y yt) v := by
  simp only [readEv] at e
  split at e
  · rename_i a b ea eb
    have ea' := TR.str (ea ▸ hρ x)
    have eb' := TR.str (eb ▸ hρ y)
    split at e
    · rename_i hl
      have hs := fun w2 => strOp_run (P := P) (ble_t hl) e t w2
      refine ⟨v, TR.same m (hs w).2, fun w2 hb o ho => ?_⟩
      simp only [execOp, ho, ea', eb', Sem.run_bind, guard_str, Result.andThen_ok, (hs w2).1]
      rfl
    · cases e
  · rename_i a b ea eb
    have hx := ea ▸ hρ x
    have hy := eb ▸ hρ y
    split at e
    · rename_i el hu
      split at e
      · rename_i r hrr
        have key : ∃ a' b', ρ' x = .pointer a' ∧ ρ' y = .pointer b' ∧ ∀ w2, Below w.heap.size w w2 → (Op.equal t (.pointer a') (.pointer b')).run P w2 = .ok r w2 := by
          split at hrr
          · obtain rfl := Option.some.inj hrr
            exact ⟨none, none, hx.afEq rfl, hy.afEq rfl, fun w2 hb => equal_ptr_nil hu _ _ (.inl rfl) w2⟩
          · obtain rfl := Option.some.inj hrr
            obtain ⟨_, _, _, rfl, _, e2⟩ := TR.ptrA hy
            exact ⟨none, _, hx.afEq rfl, e2, fun w2 hb => equal_ptr_nil hu _ _ (.inl rfl) w2⟩
          · obtain rfl := Option.some.inj hrr
            obtain ⟨_, _, _, rfl, _, e2⟩ := TR.ptrA hx
            exact ⟨_, none, e2, hy.afEq rfl, fun w2 hb => equal_ptr_nil hu _ _ (.inr rfl) w2⟩
          · rename_i a i b j
            split at hrr
            · rename_i n xa xb hsz hxa hxb
              obtain rfl := Option.some.inj hrr
              obtain ⟨p, hp, e1⟩ := TR.ptr hx
              obtain ⟨q, hq, e2⟩ := TR.ptr hy
              refine ⟨_, _, e1, e2, fun w2 hb => ?_⟩
              have hDa : D a := hT.or.1 a (by rw [ea]; exact on_pow a)
              have hDb : D b := hT.or.2 b (by rw [eb]; exact on_pow b)
              obtain ⟨p', csa, k1, k2, _⟩ := hr.blk a xa hDa hxa
              obtain rfl := Option.some.inj (hp.symm.trans k1)
              obtain ⟨q', csb, l1, l2, _⟩ := hr.blk b xb hDb hxb
              obtain rfl := Option.some.inj (hq.symm.trans l1)
              rw [equal_ptr hu hsz _ _ w2 fun hne => sameAddr_apart hne ((hb.block _ (hr.lt a p hp)).trans k2) ((hb.block _ (hr.lt b q hq)).trans l2)]
              congr 1
              rw [Bool.eq_iff_iff]
              simp only [Bool.and_eq_true, beq_iff_eq]
              constructor
              · rintro ⟨h1, h2⟩
                have hab := hr.inj a b xa xb p q hDa hDb hxa hxb hp hq h2
                subst hab
                obtain rfl := Option.some.inj (hp.symm.trans hq)
                injection h1 with _ h3
                have : i = j := by omega
                subst this
                exact ⟨Nat.beq_refl _, Nat.beq_refl _⟩
              · rintro ⟨h1, h2⟩
                have h1 := beq_t h1
                have h2 := beq_t h2
                subst h1 h2
                obtain rfl := Option.some.inj (hp.symm.trans hq)
                exact ⟨rfl, rfl⟩
            · cases hrr
          · cases hrr
        obtain ⟨a', b', e1, e2, hq⟩ := key
        split at e
        · obtain rfl := Option.some.inj e
          refine ⟨_, TR.same m rfl, fun w2 hb o ho => ?_⟩
          simp only [execOp, ho, e1, e2, Sem.run_bind, guard_ptr, Result.andThen_ok, binOp, hq w2 hb]
          rfl
        · obtain rfl := Option.some.inj e
          refine ⟨_, TR.same m rfl, fun w2 hb o ho => ?_⟩
          simp only [execOp, ho, e1, e2, Sem.run_bind, guard_ptr, Result.andThen_ok, binOp, hq w2 hb]
          rfl
        · cases e
      · cases e
    · cases e
  · rename_i a n c n' c' ea eb
    obtain ⟨a', c2, e1, _, e3, e4⟩ := TR.slA (ea ▸ hρ x)
    have e2 : ρ' y = .slice none n' c' := (eb ▸ hρ y).afEq rfl
    split at e
    · rename_i el hu
      have hq : ∀ w2, (Op.equal t (.slice a' n c2) (.slice none n' c')).run P w2 = .ok a.isNone w2 := by
        intro w2
        unfold Op.equal Op.maxDepth
        rw [show (10000 : Nat) = 9999 + 1 from rfl]
        unfold Op.equalIn
        rw [Sem.run_bind, run_underlying hu, Result.andThen_ok, ← e4]
        cases a' <;> rfl
      split at e
      · obtain rfl := Option.some.inj e
        refine ⟨_, TR.same m rfl, fun w2 hb o ho => ?_⟩
        simp only [execOp, ho, e1, e2, Sem.run_bind, guard_sl, Result.andThen_ok, binOp, hq w2]
        rfl
      · obtain rfl := Option.some.inj e
        refine ⟨_, TR.same m rfl, fun w2 hb o ho => ?_⟩
        simp only [execOp, ho, e1, e2, Sem.run_bind, guard_sl, Result.andThen_ok, binOp, hq w2]
        cases a <;> rfl
      · cases e
    · cases e
  · split at e
    · rename_i hab
      rw [Bool.and_eq_true] at hab
      have e1 := (hρ x).afEq hab.1
      have e2 := (hρ y).afEq hab.2
      refine read_crun e fun w2 o ho => ?_
      simp only [execOp, ho, e1, e2]
      rw [Sem.run_bind]
      rfl
    · cases e
end
end Go.Proofs.YtjhemobplcelbaaGreatDoor.V
