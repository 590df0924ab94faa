/-
  The plain statement of the law AddrParse: what its printed function answers. Conditions: the sizes and ranges that its arguments have.
-/
import Derived.Test.YtmkgjibmfabbdaaDoorPAx8
import Derived.Test.YtmkgjibmfabbdaaDoorOpen
namespace Go.Proofs.YtmkgjibmfabbdaaDoor
open Go.RowKit Go.Proofs.YtmkgjibmfabbdaaDoorW.PrintWords Go.Proofs.YtmkgjibmfabbdaaDoorW.PrintLast
def StAddrParse.Pure : Prop := ∀ (a0 : ByteArray) (a1_0 : Bool) (a1_1 : Int) (a1_2 : Int), a0.size ≤ 140737488351232 → (Lit.int .u64 a1_1).wf = true → (Lit.int .u64 a1_2).wf = true → ∃ k, PA.ddilaw02_AddrParse.f k a0 a1_0 a1_1 a1_2 = some true
end Go.Proofs.YtmkgjibmfabbdaaDoor
