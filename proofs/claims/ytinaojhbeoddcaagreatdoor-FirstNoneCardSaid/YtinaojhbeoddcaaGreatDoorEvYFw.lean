/- The law FirstNone answers true, whatever the world. No condition. -/
import Derived.Test.YtinaojhbeoddcaaGreatDoorEvYF
namespace Go.Proofs.YtinaojhbeoddcaaGreatDoor.V
open Go.RowKit
theorem walk_YF (w : World) : Calls Tryz.prog 22 #[] w fun e w' => e = .returned (.bool true) ∧ Below w.heap.size w w' := yes_YF w
end Go.Proofs.YtinaojhbeoddcaaGreatDoor.V
