/- The Go functions in Lean, with the proofs that the code comes to these answers: printed by this session's program (wip/px) out of the seat's translation. Conditions: each theorem's own. -/
import Derived.Test.YtmkgjibmfabbdaaProg
import Derived.Below
import Derived.Deep.Draws
import Derived.Deep.AppendLies
import Derived.Maps.AppendAt
import Derived.OwnWalk
import Derived.Laws.BytesArg
import Derived.Laws.MakeOwn
import Derived.Laws.OwnMore
import Derived.Deep.OwnRows
import Derived.Tactics
import Derived.Lib.ConvBytes
import Derived.Laws.Slices
import Derived.WalkKit
import Derived.KernelRfl
import Derived.RowKit3
import Derived.Deep.LoopGhost
import Derived.Deep.QuietTactic
import Derived.BigQuiet
import Derived.WideLaws
import Derived.Deep.DeepCutAuto
import Derived.Deep.CutBlock
import Derived.Deep.RegionHeld3
import Derived.Laws.Rows
import Derived.Lib.AppendStr
import Derived.ArgAppend
import Derived.Laws.IdiomCopy
import Derived.OrdersHeld
import Derived.Laws.BitsLemmas
import Derived.RowKit
import Derived.Test.YtmkgjibmfabbdaaExt
import Derived.Test.YtmkgjibmfabbdaaWWords
import Derived.Test.YtmkgjibmfabbdaaWLast
import Derived.Test.YtmkgjibmfabbdaaWTab
import Derived.Test.YtmkgjibmfabbdaaWFour
import Derived.Test.YtmkgjibmfabbdaaWQPut
import Derived.Test.YtmkgjibmfabbdaaWApart
import Derived.Test.YtmkgjibmfabbdaaWArr
import Derived.Test.YtmkgjibmfabbdaaWZeros
import Derived.Test.YtmkgjibmfabbdaaWFoot
import Derived.Test.YtmkgjibmfabbdaaWKept
import Derived.Test.YtmkgjibmfabbdaaWShare
import Derived.Test.YtmkgjibmfabbdaaWN
import Derived.Test.YtmkgjibmfabbdaaWFootNe
import Derived.Test.YtmkgjibmfabbdaaWAt
import Derived.Test.YtmkgjibmfabbdaaWEqStruct
import Derived.Test.YtmkgjibmfabbdaaWRepsOne
import Derived.Test.YtmkgjibmfabbdaaWInv
import Derived.Test.YtmkgjibmfabbdaaWInvWords
import Derived.Test.YtmkgjibmfabbdaaWGuard
import Derived.Test.YtmkgjibmfabbdaaWNEv
import Derived.Test.YtmkgjibmfabbdaaWMore
namespace Go.Proofs.Ytmkgjibmfabbdaa.Q
open Go.RowKit Go.Proofs.YtmkgjibmfabbdaaW.PrintWords Go.Proofs.YtmkgjibmfabbdaaW.PrintLast Go.Proofs.YtmkgjibmfabbdaaW.PrintMore
attribute [local go_sem] max2_int min2_int max_two min_two max_three min_three max_four min_four   -- for this text's walks alone
attribute [local go_sem ↓] Ext.isSome_setCell
set_option linter.unusedVariables false
set_option linter.unusedSimpArgs false



def errW : Option Int → Value
  | none => .nilIface
  | some c => .iface 0 (.int .i64 c)
theorem errW_none : errW none = .nilIface := rfl
theorem errW_some (c : Int) : errW (some c) = .iface 0 (.int .i64 c) := rfl

-- the values' own types

end Go.Proofs.Ytmkgjibmfabbdaa.Q
