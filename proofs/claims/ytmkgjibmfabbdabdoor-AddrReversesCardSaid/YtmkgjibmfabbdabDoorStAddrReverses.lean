/-
  The plain statement of the law AddrReverses: what its printed function answers. Conditions: the sizes and ranges that its arguments have.
-/
import Derived.Test.YtmkgjibmfabbdabDoorPAx8
import Derived.Test.YtmkgjibmfabbdabDoorOpen
namespace Go.Proofs.YtmkgjibmfabbdabDoor
open Go.RowKit Go.Proofs.YtmkgjibmfabbdabDoorW.PrintWords Go.Proofs.YtmkgjibmfabbdabDoorW.PrintLast
def StAddrReverses.Pure : Prop := ∀ (a0_0 : Bool) (a0_1 : Int) (a0_2 : Int) (a1 : ByteArray), (Lit.int .u64 a0_1).wf = true → (Lit.int .u64 a0_2).wf = true → a1.size ≤ 140737488351232 → ∃ k, PA.ddilaw02_AddrReverses.f k a0_0 a0_1 a0_2 a1 = some true
end Go.Proofs.YtmkgjibmfabbdabDoor
