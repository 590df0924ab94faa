/-
  The plain statement of the law AddrOrder: what its printed function answers. Conditions: the sizes and ranges that its arguments have.
-/
import Derived.Test.YtmkgjibmfabbdaaQx3
import Derived.Test.YtmkgjibmfabbdaaOpen
namespace Go.Proofs.Ytmkgjibmfabbdaa
open Go.RowKit Go.Proofs.YtmkgjibmfabbdaaW.PrintWords Go.Proofs.YtmkgjibmfabbdaaW.PrintLast
def StAddrOrder.Pure : Prop := ∀ (a0_0 : Bool) (a0_1 : Int) (a0_2 : Int) (a0_3 : Bool) (a0_4 : Int) (a0_5 : Int) (a0_6 : Bool) (a0_7 : Int) (a0_8 : Int), (Lit.int .u64 a0_1).wf = true → (Lit.int .u64 a0_2).wf = true → (Lit.int .u64 a0_4).wf = true → (Lit.int .u64 a0_5).wf = true → (Lit.int .u64 a0_7).wf = true → (Lit.int .u64 a0_8).wf = true → ∃ k, Q.ddilaw02_AddrOrder.f k a0_0 a0_1 a0_2 a0_3 a0_4 a0_5 a0_6 a0_7 a0_8 = some true
end Go.Proofs.Ytmkgjibmfabbdaa
