/- Printed by a session's own program (a turned print): each Go function as a plain Lean function, and the proof that a call of it answers just that. -/
import Derived.Test.YtkooodnkgipaeaaProg
import Derived.Below
import Derived.Deep.Draws
import Derived.Deep.AppendLies
import Derived.Maps.AppendAt
import Derived.OwnWalk
import Derived.Laws.BytesArg
import Derived.Laws.MakeOwn
import Derived.Laws.OwnMore
import Derived.Deep.OwnRows
import Derived.Tactics
import Derived.Lib.ConvBytes
import Derived.Laws.Slices
import Derived.WalkKit
import Derived.KernelRfl
import Derived.RowKit3
import Derived.Deep.LoopGhost
import Derived.Deep.QuietTactic
import Derived.BigQuiet
import Derived.WideLaws
import Derived.Deep.DeepCutAuto
import Derived.Deep.CutBlock
import Derived.Deep.RegionHeld3
import Derived.Laws.Rows
import Derived.Lib.AppendStr
import Derived.ArgAppend
import Derived.Laws.IdiomCopy
import Derived.OrdersHeld
import Derived.Laws.BitsLemmas
import Derived.RowKit
import Derived.Test.YtkooodnkgipaeaaWWords
import Derived.Test.YtkooodnkgipaeaaWLast
import Derived.Test.YtkooodnkgipaeaaWTab
import Derived.Test.YtkooodnkgipaeaaWFour
import Derived.Test.YtkooodnkgipaeaaWQPut
import Derived.Test.YtkooodnkgipaeaaWApart
import Derived.Test.YtkooodnkgipaeaaWArr
import Derived.Test.YtkooodnkgipaeaaWZeros
import Derived.Test.YtkooodnkgipaeaaWFoot
import Derived.Test.YtkooodnkgipaeaaWKept
import Derived.Test.YtkooodnkgipaeaaWShare
import Derived.Test.YtkooodnkgipaeaaWN
import Derived.Test.YtkooodnkgipaeaaWFootNe
import Derived.Test.YtkooodnkgipaeaaWAt
import Derived.Test.YtkooodnkgipaeaaWEqStruct
import Derived.Test.YtkooodnkgipaeaaWRepsOne
import Derived.Test.YtkooodnkgipaeaaWInv
import Derived.Test.YtkooodnkgipaeaaWInvWords
import Derived.Test.YtkooodnkgipaeaaWGuard
import Derived.Test.YtkooodnkgipaeaaWNEv
import Derived.Test.YtkooodnkgipaeaaWMore
namespace Go.Proofs.Ytkooodnkgipaeaa.Crc
open Go.RowKit Go.Proofs.YtkooodnkgipaeaaW.PrintWords Go.Proofs.YtkooodnkgipaeaaW.PrintLast Go.Proofs.YtkooodnkgipaeaaW.PrintMore
attribute [local go_sem] max2_int min2_int max_two min_two max_three min_three max_four min_four   -- for this text's walks alone
set_option linter.unusedVariables false
set_option linter.unusedSimpArgs false



def errW : Option Int → Value
  | none => .nilIface
  | some c => .iface 0 (.int .i64 c)
theorem errW_none : errW none = .nilIface := rfl
theorem errW_some (c : Int) : errW (some c) = .iface 0 (.int .i64 c) := rfl

theorem info5 : (Try.prog.info? 5).map (fun i => (i.zero, i.size, i.bytes)) = some (some (.int .u8 0), 1, 1) := by kernel_rfl
-- the values' own types

end Go.Proofs.Ytkooodnkgipaeaa.Crc
