/- The law TreeNone answers true, whatever the world. No condition. -/
import Derived.Test.YtinaojhbeoddcaaGreatDoorEvYN
namespace Go.Proofs.YtinaojhbeoddcaaGreatDoor.V
open Go.RowKit
theorem walk_YN (w : World) : Calls Tryz.prog 16 #[] w fun e w' => e = .returned (.bool true) ∧ Below w.heap.size w w' := yes_YN w
end Go.Proofs.YtinaojhbeoddcaaGreatDoor.V
