/-
  The plain statement of the law AddrBytes: what its printed function answers. Conditions: the sizes and ranges that its arguments have.
-/
import Derived.Test.YtmkgjibmfabbdaaPx4
import Derived.Test.YtmkgjibmfabbdaaOpen
namespace Go.Proofs.Ytmkgjibmfabbdaa
open Go.RowKit Go.Proofs.YtmkgjibmfabbdaaW.PrintWords Go.Proofs.YtmkgjibmfabbdaaW.PrintLast
def StAddrBytes.Pure : Prop := ∀ (a0_0 : Bool) (a0_1 : Int) (a0_2 : Int) (a1 : ByteArray), (Lit.int .u64 a0_1).wf = true → (Lit.int .u64 a0_2).wf = true → a1.size ≤ 140737488351232 → ∃ k, P.ddilaw02_AddrBytes.f k a0_0 a0_1 a0_2 a1 = some true
end Go.Proofs.Ytmkgjibmfabbdaa
