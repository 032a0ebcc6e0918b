/- The machine for closed calls at this program. No condition. -/
import Derived.Test.YtjhemobplcelbaaGreatDoorEvX
import Derived.KernelRfl
namespace Go.Proofs.YtjhemobplcelbaaGreatDoor.V
open Go.RowKit
set_option linter.unusedVariables false
def nameOk (fn : Func) : Bool := !(fn.name == "runtime.NumGoroutine")
theorem names_ok : (Tryz.prog.funcs.toList.all nameOk) = true := by decide +kernel
theorem named : Named Tryz.prog := by
  intro f fn h
  rw [← Array.getElem?_toList] at h
  have := List.all_eq_true.1 names_ok fn (List.mem_of_getElem? h)
  unfold nameOk at this
  simpa using this
theorem mixed : Tryz.prog.follows .mixedOrders = true := by kernel_rfl
/-- Is it true? -/
def isTrue : Option (Value × CH) → Bool
  | some (.bool true, _) => true
  | _ => false
/-- What is asked of a function without arguments. -/
def Yes (f : FuncId) : Prop := ∀ w, Calls Tryz.prog f #[] w fun e w' => e = .returned (.bool true) ∧ Below w.heap.size w w'
theorem yes {E : Ext} {k : Nat} {f : FuncId} (hE : CallOk Tryz.prog E) (h : isTrue (callEv Tryz.prog E k f [] ⟨.nil, 0, 0, 0⟩) = true) : Yes f := by
  intro w
  unfold isTrue at h
  split at h
  · rename_i h' e
    exact closed named mixed hE e rfl w
  · cases h
/-- One more that answers true. -/
def also (E : Ext) (f : FuncId) : Ext := fun g args h => match Nat.beq g f with
  | true => match args with
    | [] => some (.bool true, h)
    | _ => none
  | false => E g args h
theorem also_ok {E : Ext} (hE : CallOk Tryz.prog E) {f : FuncId} (hf : ∃ fn c, Tryz.prog.funcs[f]? = some fn ∧ fn.body = some c) (hy : Yes f) : CallOk Tryz.prog (also E f) := by
  intro g args h v h' e
  unfold also at e
  split at e
  · rename_i hg
    obtain rfl := beq_t hg
    split at e
    · have e := Option.some.inj e
      injection e with e1 e2
      subst e1 e2
      refine ⟨hf, Can.refl _, fun D top m w args' hT htop hr ha => ?_⟩
      cases ha
      refine (hy w).mono fun e w' hh => ?_
      obtain ⟨rfl, hB⟩ := hh
      exact ⟨m, _, rfl, TR.same m rfl, ⟨Map.le.refl m, hr.below hB, fun W hf => ⟨hf.bel.trans (hB.mono (hf.bel.size)), hf.new⟩, hB.size, fun r hr' _ => hB.block r hr', fun b p h => .inl h⟩⟩
    · cases e
  · exact hE g args h v h' e
end Go.Proofs.YtjhemobplcelbaaGreatDoor.V
