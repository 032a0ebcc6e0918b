/- What a closed call of this program answers, run in the kernel: donatus/donatuslaw6.begun. No condition. -/
import Derived.Test.YtjhemobplcelbaaGreatDoorEvY5
namespace Go.Proofs.YtjhemobplcelbaaGreatDoor.V
set_option maxRecDepth 1000000
def fn_Y6 : FuncId := 73
def ext_Y6 : Ext := (also ext_Y5 fn_Y5)
theorem extok_Y6 : CallOk Tryz.prog ext_Y6 := also_ok extok_Y5 body_Y5 yes_Y5
theorem run_Y6 : isTrue (callEv Tryz.prog ext_Y6 20000 73 [] ⟨.nil, 0, 0, 0⟩) = true := by decide +kernel
theorem body_Y6 : ∃ fn c, Tryz.prog.funcs[fn_Y6]? = some fn ∧ fn.body = some c := ⟨_, _, Tryz.func73, rfl⟩
theorem yes_Y6 : Yes fn_Y6 := yes extok_Y6 run_Y6
end Go.Proofs.YtjhemobplcelbaaGreatDoor.V
