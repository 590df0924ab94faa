/-
  The plain statement of the law RdataLists: what its printed function answers. Conditions: the sizes and ranges that its arguments have.
-/
import Derived.Test.YtaehonmfoanloaaPx4
import Derived.Test.YtaehonmfoanloaaOpen
namespace Go.Proofs.Ytaehonmfoanloaa
open Go.RowKit Go.Proofs.YtaehonmfoanloaaW.PrintWords Go.Proofs.YtaehonmfoanloaaW.PrintLast
def StRdataLists.Pure : Prop := ∀ (l0 : List (Int)) (a1 : Int), (Open.SliceB (Try.prog.bytesOf 3) (fun x => (Lit.int .i64 x).wf = true)) l0 → (Lit.int .u64 a1).wf = true → ∃ k, P.ddilaw05_RdataLists.f k l0 a1 = some true
end Go.Proofs.Ytaehonmfoanloaa
