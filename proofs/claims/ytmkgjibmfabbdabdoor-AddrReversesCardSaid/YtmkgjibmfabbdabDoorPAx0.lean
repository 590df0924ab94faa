/- The Go functions in Lean, with the proofs that the code comes to these answers: printed by this session's program (wip/px) out of the seat's translation. Conditions: each theorem's own. -/
import Derived.Test.YtmkgjibmfabbdabDoorProg
import Derived.Handy
import Derived.RegionTactic
import Derived.ChangeAlike
import Derived.BigRegion
import Derived.Laws.CopyOwn
import Derived.Lib.TrailingZeros
import Derived.Lib.AppendIntMem
import Derived.Below
import Derived.Deep.Draws
import Derived.Deep.AppendLies
import Derived.Maps.AppendAt
import Derived.OwnWalk
import Derived.Laws.BytesArg
import Derived.Laws.MakeOwn
import Derived.Laws.OwnMore
import Derived.Deep.OwnRows
import Derived.Tactics
import Derived.Lib.ConvBytes
import Derived.Laws.Slices
import Derived.WalkKit
import Derived.KernelRfl
import Derived.RowKit3
import Derived.Deep.LoopGhost
import Derived.Deep.QuietTactic
import Derived.BigQuiet
import Derived.WideLaws
import Derived.Deep.DeepCutAuto
import Derived.Deep.CutBlock
import Derived.Deep.RegionHeld3
import Derived.Laws.Rows
import Derived.Lib.AppendStr
import Derived.ArgAppend
import Derived.Laws.IdiomCopy
import Derived.OrdersHeld
import Derived.Laws.BitsLemmas
import Derived.RowKit
import Derived.Test.YtmkgjibmfabbdabDoorExt
import Derived.Test.YtmkgjibmfabbdabDoorOpenLaid
import Derived.Test.YtmkgjibmfabbdabDoorShelf
import Derived.Test.YtmkgjibmfabbdabDoorWWords
import Derived.Test.YtmkgjibmfabbdabDoorWLast
import Derived.Test.YtmkgjibmfabbdabDoorWTab
import Derived.Test.YtmkgjibmfabbdabDoorWFour
import Derived.Test.YtmkgjibmfabbdabDoorWQPut
import Derived.Test.YtmkgjibmfabbdabDoorWApart
import Derived.Test.YtmkgjibmfabbdabDoorWArr
import Derived.Test.YtmkgjibmfabbdabDoorWZeros
import Derived.Test.YtmkgjibmfabbdabDoorWFoot
import Derived.Test.YtmkgjibmfabbdabDoorWKept
import Derived.Test.YtmkgjibmfabbdabDoorWShare
import Derived.Test.YtmkgjibmfabbdabDoorWN
import Derived.Test.YtmkgjibmfabbdabDoorWFootNe
import Derived.Test.YtmkgjibmfabbdabDoorWAt
import Derived.Test.YtmkgjibmfabbdabDoorWEqStruct
import Derived.Test.YtmkgjibmfabbdabDoorWRepsOne
import Derived.Test.YtmkgjibmfabbdabDoorWInv
import Derived.Test.YtmkgjibmfabbdabDoorWInvWords
import Derived.Test.YtmkgjibmfabbdabDoorWGuard
import Derived.Test.YtmkgjibmfabbdabDoorWNEv
import Derived.Test.YtmkgjibmfabbdabDoorWMore
namespace Go.Proofs.YtmkgjibmfabbdabDoor.PA
open Go.RowKit Go.Proofs.YtmkgjibmfabbdabDoorW.PrintWords Go.Proofs.YtmkgjibmfabbdabDoorW.PrintLast Go.Proofs.YtmkgjibmfabbdabDoorW.PrintMore
attribute [local go_sem] max2_int min2_int max_two min_two max_three min_three max_four min_four   -- for this text's walks alone
attribute [local go_sem ↓] Ext.isSome_setCell
set_option linter.unusedVariables false
set_option linter.unusedSimpArgs false



def errW : Option Int → Value
  | none => .nilIface
  | some c => .iface 0 (.int .i64 c)
theorem errW_none : errW none = .nilIface := rfl
theorem errW_some (c : Int) : errW (some c) = .iface 0 (.int .i64 c) := rfl

theorem info5 : (Tryd.prog.info? 5).map (fun i => (i.zero, i.size, i.bytes)) = some (some (.int .u8 0), 1, 1) := by kernel_rfl
theorem info9 : (Tryd.prog.info? 9).map (fun i => (i.zero, i.size, i.bytes)) = some (some (.string ⟨#[]⟩), 1, 16) := by kernel_rfl
theorem info50 : (Tryd.prog.info? 50).map (fun i => (i.zero, i.size, i.bytes)) = some (some (.int .u16 0), 1, 2) := by kernel_rfl
-- the values' own types

/-- What the library's contracts ask of the world: its shape, and two of its tables. -/
structure Laid (w : World) : Prop where
  shape : w.ShapedOpen Tryd.prog
  pow10 : Lib.TabIs Tryd.prog w "internal/strconv.uint64pow10" .u64 Lib.pow10Tab
  bruijn : Lib.TabIs Tryd.prog w "math/bits.deBruijn64tab" .u8 (Lib.deBruijn64tab.map fun n : Nat => (n : Int))
theorem Laid.below {w w' : World} (h : Laid w) (hb : Below w.heap.size w w') : Laid w' :=
  ⟨Open.shaped_below h.shape hb, Joins.var_stays (show Tryd.prog.globalNamed "internal/strconv.uint64pow10" = some 0 by kernel_rfl) h.pow10 hb (Nat.le_refl _), Joins.var_stays (show Tryd.prog.globalNamed "math/bits.deBruijn64tab" = some 3 by kernel_rfl) h.bruijn hb (Nat.le_refl _)⟩

end Go.Proofs.YtmkgjibmfabbdabDoor.PA
