/-
  The plain statement of the law AddrSteps: what its printed function answers. Conditions: the sizes and ranges that its arguments have.
-/
import Derived.Test.YtmkgjibmfabbdaaPx7
import Derived.Test.YtmkgjibmfabbdaaOpen
namespace Go.Proofs.Ytmkgjibmfabbdaa
open Go.RowKit Go.Proofs.YtmkgjibmfabbdaaW.PrintWords Go.Proofs.YtmkgjibmfabbdaaW.PrintLast
def StAddrSteps.Pure : Prop := ∀ (a0_0 : Bool) (a0_1 : Int) (a0_2 : Int) (a1 : Int) (a2 : Int), (Lit.int .u64 a0_1).wf = true → (Lit.int .u64 a0_2).wf = true → (Lit.int .u64 a1).wf = true → (Lit.int .u64 a2).wf = true → ∃ k, P.ddilaw02_AddrSteps.f k a0_0 a0_1 a0_2 a1 a2 = some true
end Go.Proofs.Ytmkgjibmfabbdaa
