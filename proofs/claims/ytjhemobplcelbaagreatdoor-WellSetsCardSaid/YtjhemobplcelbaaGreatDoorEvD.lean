/- The machine for closed calls: operations that only read. No condition. -/
import Derived.Test.YtjhemobplcelbaaGreatDoorEvC
import Derived.Lib.Strings
namespace Go.Proofs.YtjhemobplcelbaaGreatDoor.V
open Go.RowKit
set_option linter.unusedVariables false
set_option linter.unusedSimpArgs false
theorem crunP_run {α : Type} {P : Program} : ∀ (s : Sem α) (a : α), crunP P s = some a → ∀ w, s.run P w = .ok a w := by
  intro s
  induction s with
  | pure a => intro b h w; obtain rfl := Option.some.inj h; rfl
  | program k ih => intro b h w; exact ih P b h w
  | mark m k ih => intro b h w; exact ih b h w
  | load => intro b h; cases h
  | store => intro b h; cases h
  | new => intro b h; cases h
  | shape => intro b h; cases h
  | freeze => intro b h; cases h
  | frozen => intro b h; cases h
  | getObj => intro b h; cases h
  | setObj => intro b h; cases h
  | choose => intro b h; cases h
  | sys => intro b h; cases h
  | halt => intro b h; cases h
section
variable {m : Map} {v' : Value}
theorem TR.ptr {b o : Nat} (h : TR m (.pointer (some ⟨b, o, none⟩)) v') : ∃ p, m b = some p ∧ v' = .pointer (some ⟨p.r, p.s + o, none⟩) := by
  cases h with
  | o h => cases h with
    | s h => cases h with
      | b h => cases h with
        | ptr h => exact ⟨_, h, rfl⟩
theorem TR.ptrA {a : Addr} (h : TR m (.pointer (some a)) v') : ∃ b o p, a = ⟨b, o, none⟩ ∧ m b = some p ∧ v' = .pointer (some ⟨p.r, p.s + o, none⟩) := by
  cases h with
  | o h => cases h with
    | s h => cases h with
      | b h => cases h with
        | ptr h => exact ⟨_, _, _, rfl, h, rfl⟩
theorem TR.sl {b o n c : Nat} (h : TR m (.slice (some ⟨b, o, none⟩) n c) v') : (∃ p c', m b = some p ∧ c ≤ c' ∧ (p.s + o + c' * p.sz ≤ p.R ∧ c' ≤ 9223372036854775807) ∧ v' = .slice (some ⟨p.r, p.s + o, none⟩) n c') ∨ (n = 0 ∧ c = 0 ∧ ∃ p o' c', m b = some p ∧ (o' + c' * p.sz ≤ p.R ∧ c' ≤ 9223372036854775807) ∧ v' = .slice (some ⟨p.r, o', none⟩) 0 c') := by
  cases h with
  | o h => cases h with
    | s h => cases h with
      | b h => cases h with
        | sl h1 h2 h3 => exact .inl ⟨_, _, h1, h2, h3, rfl⟩
        | slE h1 h2 => exact .inr ⟨rfl, rfl, _, _, _, h1, h2, rfl⟩
theorem TR.slA {a : Option Addr} {n c : Nat} (h : TR m (.slice a n c) v') : ∃ a' c', v' = .slice a' n c' ∧ c ≤ c' ∧ a'.isSome = a.isSome ∧ a'.isNone = a.isNone := by
  cases h with
  | o h => cases h with
    | s h => cases h with
      | b h => cases h with
        | slN => exact ⟨_, _, rfl, Nat.le_refl _, rfl, rfl⟩
        | sl h1 h2 h3 => exact ⟨_, _, rfl, h2, rfl, rfl⟩
        | slE h1 h2 => exact ⟨_, _, rfl, Nat.zero_le _, rfl, rfl⟩
theorem TR.agg {l : List Value} (h : TR m (.agg ⟨l⟩) v') : ∃ l', v' = .agg ⟨l'⟩ ∧ F2 (SR m) l l' := by
  cases h with
  | o h => cases h with
    | s h => cases h with
      | b h => cases h
    | agg h => exact ⟨_, rfl, h⟩
theorem TR.tupl {l : List Value} (h : TR m (.tuple ⟨l⟩) v') : ∃ l', v' = .tuple ⟨l'⟩ ∧ F2 (VR m) l l' := by
  cases h with
  | o h => cases h with
    | s h => cases h with
      | b h => cases h
  | tup h => exact ⟨_, rfl, h⟩
theorem TR.fn {f : Fn} {a c : List Value} (h : TR m (.func f ⟨a⟩ ⟨c⟩) v') : ∃ a' c', v' = .func f ⟨a'⟩ ⟨c'⟩ ∧ F2 (BR m) a a' ∧ F2 (BR m) c c' := by
  cases h with
  | o h => cases h with
    | s h => cases h with
      | b h => cases h
      | func fn h1 h2 => exact ⟨_, _, rfl, h1, h2⟩
theorem TR.str {s : ByteArray} (h : TR m (.string s) v') : v' = .string s := h.afEq rfl
theorem TR.int {k : IntKind} {n : Int} (h : TR m (.int k n) v') : v' = .int k n := h.afEq rfl
theorem TR.bool {b : Bool} (h : TR m (.bool b) v') : v' = .bool b := h.afEq rfl
end
theorem natOf_some {v : Value} {n : Nat} (h : natOf v = some n) : ∃ k, v = .int k (.ofNat n) := by
  unfold natOf at h
  split at h
  · rename_i k x; obtain rfl := Option.some.inj h; exact ⟨k, rfl⟩
  · cases h
theorem isAgg_run {P : Program} {t : TypeId} {b : Bool} (h : isAggB P t = some b) (w : World) : (isAgg t).run P w = .ok b w := by
  unfold isAggB at h
  cases hu : P.underlying t with
  | none => rw [hu] at h; cases h
  | some d =>
    rw [hu] at h
    unfold isAgg
    rw [Sem.run_bind, run_underlying hu, Result.andThen_ok]
    cases d <;> (obtain rfl := Option.some.inj h; rfl)
theorem szOf_run {P : Program} {t : TypeId} {n : Nat} (h : szOf P t = some n) (w : World) : (sizeOf t).run P w = .ok n w := by
  unfold szOf at h
  cases hi : P.info? t with
  | none => rw [hi] at h; cases h
  | some i =>
    rw [hi] at h
    obtain rfl := Option.some.inj h
    simp [sizeOf, typeInfo, hi]
theorem zeroOf_run {P : Program} {t : TypeId} {z : Value} (h : zeroOf P t = some z) (w : World) : (zeroValue t).run P w = .ok z w := by
  unfold zeroOf at h
  cases hi : P.info? t with
  | none => rw [hi] at h; cases h
  | some i =>
    rw [hi] at h
    have h : i.zero = some z := h
    simp [zeroValue, typeInfo, hi, h]
section
variable {P : Program} {D : Nat → Prop} {top : Nat} {m : Map} {h : CH} {w : World} {ρ ρ' : Operand → Value}
/-- What is asked of an operation that reads. -/
def Reads (P : Program) (m : Map) (w : World) (ρ' : Operand → Value) (op : Op) (v : Value) : Prop :=
  ∃ v', TR m v v' ∧ ∀ w2, Below w.heap.size w w2 → ∀ o : Oper, o.op = op → (execOp ρ' o).run P w2 = .ok (.value v') w2
theorem read_load (hr : HR D top m h w) (hρ : ∀ x, TR m (ρ x) (ρ' x)) {t : TypeId} {a : Operand} {v : Value} {b o : Nat} (hD : D b) (ea : ρ a = .pointer (some ⟨b, o, none⟩)) (e : loadV P h t b o = some v) : Reads P m w ρ' (.load t a) v := by
  obtain ⟨p, hp, ea'⟩ := TR.ptr (ea ▸ hρ a)
  unfold loadV at e
  split at e
  · rename_i hag
    split at e
    · rename_i n hn
      split at e
      · rename_i l hl
        obtain rfl := Option.some.inj e
        obtain ⟨q, l', hq, hl', hlen, _, hw⟩ := hr.load hD hl
        obtain rfl := Option.some.inj (hp.symm.trans hq)
        refine ⟨.agg ⟨l'⟩, .o (.agg hl'), fun w2 hb o ho => ?_⟩
        simp [execOp, ho, Instr.loadAt, ea', Instr.sureAddr, loadVar, isAgg_run hag, szOf_run hn, (hw w2 hb).2 P]
      · cases e
    · cases e
  · rename_i hag
    split at e
    · rename_i l hl
      obtain rfl := Option.some.inj e
      obtain ⟨q, v', hq, hv, hw⟩ := hr.one hD hl
      obtain rfl := Option.some.inj (hp.symm.trans hq)
      refine ⟨v', .o (.s hv), fun w2 hb o ho => ?_⟩
      simp [execOp, ho, Instr.loadAt, ea', Instr.sureAddr, loadVar, isAgg_run hag, hw w2 hb]
    · cases e
  · cases e
theorem read_crun {op : Op} {s : Sem Value} {v : Value} (e : crunA P s = some v) (he : ∀ w2, ∀ o : Oper, o.op = op → (execOp ρ' o).run P w2 = (s.run P w2).andThen fun v w => .ok (.value v) w) : Reads P m w ρ' op v :=
by
  unfold crunA at e
  split at e
  · rename_i u hu
    split at e
    · rename_i hv
      obtain rfl := Option.some.inj e
      exact ⟨u, TR.same m hv, fun w2 hb o ho => by rw [he w2 o ho, crunP_run _ _ hu w2]; rfl⟩
    · cases e
  · cases e
end
end Go.Proofs.YtjhemobplcelbaaGreatDoor.V
