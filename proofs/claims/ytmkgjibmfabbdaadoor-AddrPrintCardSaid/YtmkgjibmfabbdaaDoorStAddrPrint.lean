/-
  The plain statement of the law AddrPrint: what its printed function answers. Conditions: the sizes and ranges that its arguments have.
-/
import Derived.Test.YtmkgjibmfabbdaaDoorPBx5
import Derived.Test.YtmkgjibmfabbdaaDoorOpen
namespace Go.Proofs.YtmkgjibmfabbdaaDoor
open Go.RowKit Go.Proofs.YtmkgjibmfabbdaaDoorW.PrintWords Go.Proofs.YtmkgjibmfabbdaaDoorW.PrintLast
def StAddrPrint.Pure : Prop := ∀ (a0_0 : Bool) (a0_1 : Int) (a0_2 : Int), (Lit.int .u64 a0_1).wf = true → (Lit.int .u64 a0_2).wf = true → ∃ k, PB.ddilaw02_AddrPrint.f k a0_0 a0_1 a0_2 = some true
end Go.Proofs.YtmkgjibmfabbdaaDoor
