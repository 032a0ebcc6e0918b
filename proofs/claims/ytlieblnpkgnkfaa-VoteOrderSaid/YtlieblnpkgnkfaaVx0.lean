/- Printed by a session's own program (a turned print): each Go function as a plain Lean function, and the proof that a call of it answers just that. -/
import Derived.Test.YtlieblnpkgnkfaaProg
import Derived.Below
import Derived.Deep.Draws
import Derived.Deep.AppendLies
import Derived.Maps.AppendAt
import Derived.OwnWalk
import Derived.Laws.BytesArg
import Derived.Laws.MakeOwn
import Derived.Laws.OwnMore
import Derived.Deep.OwnRows
import Derived.Tactics
import Derived.Lib.ConvBytes
import Derived.Laws.Slices
import Derived.WalkKit
import Derived.KernelRfl
import Derived.RowKit3
import Derived.Deep.LoopGhost
import Derived.Deep.QuietTactic
import Derived.BigQuiet
import Derived.WideLaws
import Derived.Deep.DeepCutAuto
import Derived.Deep.CutBlock
import Derived.Deep.RegionHeld3
import Derived.Laws.Rows
import Derived.Lib.AppendStr
import Derived.ArgAppend
import Derived.Laws.IdiomCopy
import Derived.OrdersHeld
import Derived.Laws.BitsLemmas
import Derived.RowKit
import Derived.Test.YtlieblnpkgnkfaaWWords
import Derived.Test.YtlieblnpkgnkfaaWLast
import Derived.Test.YtlieblnpkgnkfaaWTab
import Derived.Test.YtlieblnpkgnkfaaWFour
import Derived.Test.YtlieblnpkgnkfaaWQPut
import Derived.Test.YtlieblnpkgnkfaaWApart
import Derived.Test.YtlieblnpkgnkfaaWArr
import Derived.Test.YtlieblnpkgnkfaaWZeros
import Derived.Test.YtlieblnpkgnkfaaWFoot
import Derived.Test.YtlieblnpkgnkfaaWKept
import Derived.Test.YtlieblnpkgnkfaaWShare
import Derived.Test.YtlieblnpkgnkfaaWN
import Derived.Test.YtlieblnpkgnkfaaWFootNe
import Derived.Test.YtlieblnpkgnkfaaWAt
import Derived.Test.YtlieblnpkgnkfaaWEqStruct
import Derived.Test.YtlieblnpkgnkfaaWRepsOne
import Derived.Test.YtlieblnpkgnkfaaWInv
import Derived.Test.YtlieblnpkgnkfaaWInvWords
import Derived.Test.YtlieblnpkgnkfaaWGuard
import Derived.Test.YtlieblnpkgnkfaaWNEv
import Derived.Test.YtlieblnpkgnkfaaWMore
namespace Go.Proofs.Ytlieblnpkgnkfaa.V
open Go.RowKit Go.Proofs.YtlieblnpkgnkfaaW.PrintWords Go.Proofs.YtlieblnpkgnkfaaW.PrintLast Go.Proofs.YtlieblnpkgnkfaaW.PrintMore
attribute [local go_sem] max2_int min2_int max_two min_two max_three min_three max_four min_four   -- for this text's walks alone
set_option linter.unusedVariables false
set_option linter.unusedSimpArgs false



def errW : Option Int → Value
  | none => .nilIface
  | some c => .iface 0 (.int .i64 c)
theorem errW_none : errW none = .nilIface := rfl
theorem errW_some (c : Int) : errW (some c) = .iface 0 (.int .i64 c) := rfl

-- the values' own types

end Go.Proofs.Ytlieblnpkgnkfaa.V
