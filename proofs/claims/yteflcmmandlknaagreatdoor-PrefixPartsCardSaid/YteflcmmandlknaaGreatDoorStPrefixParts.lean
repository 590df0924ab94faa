/-
  The plain statement of the law PrefixParts: what its printed function answers. Conditions: the sizes and ranges that its arguments have.
-/
import Derived.Test.YteflcmmandlknaaGreatDoorPAx19
import Derived.Test.YteflcmmandlknaaGreatDoorOpen
namespace Go.Proofs.YteflcmmandlknaaGreatDoor
open Go.RowKit Go.Proofs.YteflcmmandlknaaGreatDoorW.PrintWords Go.Proofs.YteflcmmandlknaaGreatDoorW.PrintLast
def StPrefixParts.Pure : Prop := ∀ (a0_0 : Bool) (a0_1 : Int) (a0_2 : Int) (a0_3 : Int) (a1 : Int) (a2 : Int), (Lit.int .u64 a0_1).wf = true → (Lit.int .u64 a0_2).wf = true → (Lit.int .i64 a0_3).wf = true → (Lit.int .i64 a1).wf = true → (Lit.int .u64 a2).wf = true → ∃ k, PA.ddilaw03_PrefixParts.f k a0_0 a0_1 a0_2 a0_3 a1 a2 = some true
end Go.Proofs.YteflcmmandlknaaGreatDoor
