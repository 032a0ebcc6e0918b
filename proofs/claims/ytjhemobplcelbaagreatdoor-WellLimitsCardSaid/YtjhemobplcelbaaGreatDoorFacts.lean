/- What the rows ask of the program alone, reckoned once for all of a seat's laws. No condition. -/
import Derived.Test.YtjhemobplcelbaaGreatDoorCards
import Derived.ProofKit
import Derived.JoinedOf
namespace Go.Proofs.YtjhemobplcelbaaGreatDoor.Facts
open Go.RowKit
theorem and2 {a b : Bool} (ha : a = true) (hb : b = true) : (a && b) = true := by rw [ha, hb]; rfl
theorem laidOut : laidOutB Tryz.pinned.checked.prog = true := by kernel_rfl
theorem mapsRowed : Go.mapsRowed Tryz.pinned.checked.prog = true := by kernel_rfl
theorem mayEnter : Tryz.pinned.checked.prog.mayEnter = true := by kernel_rfl
theorem liftsFinal : (Rows.treeNoneRow.lifted == Tryz.pinned.checked.prog.liftsFinal) = true := by kernel_rfl
theorem make : (Tryz.pinned.checked.prog.make == some Rows.treeNoneRow.make) = true := by kernel_rfl
theorem plainKeys : (Rows.treeNoneRow.plainKeys == Tryz.pinned.checked.prog.plainKeys) = true := by kernel_rfl
theorem stopsHeard : Tryz.pinned.checked.prog.stopsHeard = true := by kernel_rfl
theorem looks : true = Tryz.pinned.checked.prog.looks [] := by kernel_rfl
end Go.Proofs.YtjhemobplcelbaaGreatDoor.Facts
