/- What a closed call of this program answers, run in the kernel: donatus/donatuslaw5.begun. No condition. -/
import Derived.Test.YtjhemobplcelbaaGreatDoorEvY
namespace Go.Proofs.YtjhemobplcelbaaGreatDoor.V
set_option maxRecDepth 1000000
def fn_Y5 : FuncId := 106
def ext_Y5 : Ext := extS
theorem extok_Y5 : CallOk Tryz.prog ext_Y5 := extS_ok
theorem run_Y5 : isTrue (callEv Tryz.prog ext_Y5 20000 106 [] ⟨.nil, 0, 0, 0⟩) = true := by decide +kernel
theorem body_Y5 : ∃ fn c, Tryz.prog.funcs[fn_Y5]? = some fn ∧ fn.body = some c := ⟨_, _, Tryz.func106, rfl⟩
theorem yes_Y5 : Yes fn_Y5 := yes extok_Y5 run_Y5
end Go.Proofs.YtjhemobplcelbaaGreatDoor.V
