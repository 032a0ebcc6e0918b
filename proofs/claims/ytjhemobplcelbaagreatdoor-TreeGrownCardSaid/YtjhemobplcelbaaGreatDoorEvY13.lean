/- What a closed call of this program answers, run in the kernel: donatus/donatuslaw13.begun. No condition. -/
import Derived.Test.YtjhemobplcelbaaGreatDoorEvY7
namespace Go.Proofs.YtjhemobplcelbaaGreatDoor.V
set_option maxRecDepth 1000000
def fn_Y13 : FuncId := 13
def ext_Y13 : Ext := (also ext_Y7 fn_Y7)
theorem extok_Y13 : CallOk Tryz.prog ext_Y13 := also_ok extok_Y7 body_Y7 yes_Y7
theorem run_Y13 : isTrue (callEv Tryz.prog ext_Y13 20000 13 [] ⟨.nil, 0, 0, 0⟩) = true := by decide +kernel
theorem body_Y13 : ∃ fn c, Tryz.prog.funcs[fn_Y13]? = some fn ∧ fn.body = some c := ⟨_, _, Tryz.func13, rfl⟩
theorem yes_Y13 : Yes fn_Y13 := yes extok_Y13 run_Y13
end Go.Proofs.YtjhemobplcelbaaGreatDoor.V
