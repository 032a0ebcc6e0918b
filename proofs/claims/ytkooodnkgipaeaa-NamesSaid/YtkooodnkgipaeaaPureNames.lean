/- The law donatuslaw0.Names answers true: every name of package api has the document's number. No condition. -/
import Derived.Test.YtkooodnkgipaeaaPNamesx1
namespace Go.Proofs.Ytkooodnkgipaeaa.Pure
open Go.RowKit Go.Proofs.Ytkooodnkgipaeaa.PNames Go.Proofs.YtkooodnkgipaeaaW.PrintWords Go.Proofs.YtkooodnkgipaeaaW.PrintLast

theorem Names : donatuslaw0_Names.Pure := ⟨80, by decide +kernel⟩

end Go.Proofs.Ytkooodnkgipaeaa.Pure
