/- What a closed call of this program answers, run in the kernel: donatus/donatuslaw8.begun. No condition. -/
import Derived.Test.YtinaojhbeoddcaaGreatDoorEvY7
import Derived.Test.YtinaojhbeoddcaaGreatDoorEvW
namespace Go.Proofs.YtinaojhbeoddcaaGreatDoor.V
set_option maxRecDepth 1000000
def fn_Y8 : FuncId := 59
def ext_Y8 : Ext := inserts (also ext_Y7 fn_Y7)
theorem extok_Y8 : CallOk Tryz.prog ext_Y8 := inserts_ok (also_ok extok_Y7 body_Y7 yes_Y7)
theorem run_Y8 : isTrue (callEv Tryz.prog ext_Y8 20000 59 [] ⟨.nil, 0, 0, 0⟩) = true := by decide +kernel
theorem body_Y8 : ∃ fn c, Tryz.prog.funcs[fn_Y8]? = some fn ∧ fn.body = some c := ⟨_, _, Tryz.func59, rfl⟩
theorem yes_Y8 : Yes fn_Y8 := yes extok_Y8 run_Y8
end Go.Proofs.YtinaojhbeoddcaaGreatDoor.V
