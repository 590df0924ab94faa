/-
  The plain statement of the law PrefixWhole: what its printed function answers. Conditions: the sizes and ranges that its arguments have.
-/
import Derived.Test.YteflcmmandlknaaDoorPAx18
import Derived.Test.YteflcmmandlknaaDoorOpen
namespace Go.Proofs.YteflcmmandlknaaDoor
open Go.RowKit Go.Proofs.YteflcmmandlknaaDoorW.PrintWords Go.Proofs.YteflcmmandlknaaDoorW.PrintLast
def StPrefixWhole.Pure : Prop := ∀ (a0_0 : Bool) (a0_1 : Int) (a0_2 : Int) (a0_3 : Bool) (a0_4 : Int) (a0_5 : Int) (a1_0 : Bool) (a1_1 : Int) (a1_2 : Int), (Lit.int .u64 a0_1).wf = true → (Lit.int .u64 a0_2).wf = true → (Lit.int .u64 a0_4).wf = true → (Lit.int .u64 a0_5).wf = true → (Lit.int .u64 a1_1).wf = true → (Lit.int .u64 a1_2).wf = true → ∃ k, PA.ddilaw03_PrefixWhole.f k a0_0 a0_1 a0_2 a0_3 a0_4 a0_5 a1_0 a1_1 a1_2 = some true
end Go.Proofs.YteflcmmandlknaaDoor
