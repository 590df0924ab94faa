/-
  The plain statement of the law PrefixCovers: what its printed function answers. Conditions: the sizes and ranges that its arguments have.
-/
import Derived.Test.YteflcmmandlknaaGreatDoorPAx22
import Derived.Test.YteflcmmandlknaaGreatDoorOpen
namespace Go.Proofs.YteflcmmandlknaaGreatDoor
open Go.RowKit Go.Proofs.YteflcmmandlknaaGreatDoorW.PrintWords Go.Proofs.YteflcmmandlknaaGreatDoorW.PrintLast
def StPrefixCovers.Pure : Prop := ∀ (a0_0 : Bool) (a0_1 : Int) (a0_2 : Int) (a0_3 : Bool) (a0_4 : Int) (a0_5 : Int), (Lit.int .u64 a0_1).wf = true → (Lit.int .u64 a0_2).wf = true → (Lit.int .u64 a0_4).wf = true → (Lit.int .u64 a0_5).wf = true → ∃ k, PA.ddilaw03_PrefixCovers.f k a0_0 a0_1 a0_2 a0_3 a0_4 a0_5 = some true
end Go.Proofs.YteflcmmandlknaaGreatDoor
