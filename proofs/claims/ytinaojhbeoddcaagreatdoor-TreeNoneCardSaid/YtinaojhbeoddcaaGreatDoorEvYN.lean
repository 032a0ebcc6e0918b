/- What a closed call of this program answers, run in the kernel: donatus/donatuslaw13.TreeNone. No condition. -/
import Derived.Test.YtinaojhbeoddcaaGreatDoorEvY13
namespace Go.Proofs.YtinaojhbeoddcaaGreatDoor.V
set_option maxRecDepth 1000000
def fn_YN : FuncId := 16
def ext_YN : Ext := (also ext_Y13 fn_Y13)
theorem extok_YN : CallOk Tryz.prog ext_YN := also_ok extok_Y13 body_Y13 yes_Y13
theorem run_YN : isTrue (callEv Tryz.prog ext_YN 20000 16 [] ⟨.nil, 0, 0, 0⟩) = true := by decide +kernel
theorem body_YN : ∃ fn c, Tryz.prog.funcs[fn_YN]? = some fn ∧ fn.body = some c := ⟨_, _, Tryz.func16, rfl⟩
theorem yes_YN : Yes fn_YN := yes extok_YN run_YN
end Go.Proofs.YtinaojhbeoddcaaGreatDoor.V
