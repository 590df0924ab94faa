/-
  The plain statement of the law RdataTypes: what its printed function answers. Conditions: the sizes and ranges that its arguments have.
-/
import Derived.Test.YtaehonmfoanloaaPx2
import Derived.Test.YtaehonmfoanloaaOpen
namespace Go.Proofs.Ytaehonmfoanloaa
open Go.RowKit Go.Proofs.YtaehonmfoanloaaW.PrintWords Go.Proofs.YtaehonmfoanloaaW.PrintLast
def StRdataTypes.Pure : Prop := ∀ (a0 : Int) (a1 : ByteArray), (Lit.int .i64 a0).wf = true → a1.size ≤ 140737488351232 → ∃ k, P.ddilaw05_RdataTypes.f k a0 a1 = some true
end Go.Proofs.Ytaehonmfoanloaa
