/- What a closed call of this program answers, run in the kernel: donatus/donatuslaw7.begun. No condition. -/
import Derived.Test.YtjhemobplcelbaaGreatDoorEvY6
namespace Go.Proofs.YtjhemobplcelbaaGreatDoor.V
set_option maxRecDepth 1000000
def fn_Y7 : FuncId := 34
def ext_Y7 : Ext := (also ext_Y6 fn_Y6)
theorem extok_Y7 : CallOk Tryz.prog ext_Y7 := also_ok extok_Y6 body_Y6 yes_Y6
theorem run_Y7 : isTrue (callEv Tryz.prog ext_Y7 20000 34 [] ⟨.nil, 0, 0, 0⟩) = true := by decide +kernel
theorem body_Y7 : ∃ fn c, Tryz.prog.funcs[fn_Y7]? = some fn ∧ fn.body = some c := ⟨_, _, Tryz.func34, rfl⟩
theorem yes_Y7 : Yes fn_Y7 := yes extok_Y7 run_Y7
end Go.Proofs.YtjhemobplcelbaaGreatDoor.V
