/- What a closed call of this program answers, run in the kernel: donatus/donatuslaw8.FirstNone. No condition. -/
import Derived.Test.YtinaojhbeoddcaaGreatDoorEvY8
import Derived.Test.YtinaojhbeoddcaaGreatDoorEvW
namespace Go.Proofs.YtinaojhbeoddcaaGreatDoor.V
set_option maxRecDepth 1000000
def fn_YF : FuncId := 22
def ext_YF : Ext := (also ext_Y8 fn_Y8)
theorem extok_YF : CallOk Tryz.prog ext_YF := also_ok extok_Y8 body_Y8 yes_Y8
theorem run_YF : isTrue (callEv Tryz.prog ext_YF 20000 22 [] ⟨.nil, 0, 0, 0⟩) = true := by decide +kernel
theorem body_YF : ∃ fn c, Tryz.prog.funcs[fn_YF]? = some fn ∧ fn.body = some c := ⟨_, _, Tryz.func22, rfl⟩
theorem yes_YF : Yes fn_YF := yes extok_YF run_YF
end Go.Proofs.YtinaojhbeoddcaaGreatDoor.V
