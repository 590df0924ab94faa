/-
  The plain statement of the law PrefixTells: what its printed function answers. Conditions: the sizes and ranges that its arguments have.
-/
import Derived.Test.YteflcmmandlknaaGreatDoorPAx16
import Derived.Test.YteflcmmandlknaaGreatDoorOpen
namespace Go.Proofs.YteflcmmandlknaaGreatDoor
open Go.RowKit Go.Proofs.YteflcmmandlknaaGreatDoorW.PrintWords Go.Proofs.YteflcmmandlknaaGreatDoorW.PrintLast
def StPrefixTells.Pure : Prop := ∀ (a0_0 : Bool) (a0_1 : Int) (a0_2 : Int) (a0_3 : Int) (a0_4 : Bool) (a0_5 : Int) (a0_6 : Int) (a0_7 : Int) (a0_8 : Bool) (a0_9 : Int) (a0_10 : Int) (a0_11 : Int), (Lit.int .u64 a0_1).wf = true → (Lit.int .u64 a0_2).wf = true → (Lit.int .i64 a0_3).wf = true → (Lit.int .u64 a0_5).wf = true → (Lit.int .u64 a0_6).wf = true → (Lit.int .i64 a0_7).wf = true → (Lit.int .u64 a0_9).wf = true → (Lit.int .u64 a0_10).wf = true → (Lit.int .i64 a0_11).wf = true → ∃ k, PA.ddilaw03_PrefixTells.f k a0_0 a0_1 a0_2 a0_3 a0_4 a0_5 a0_6 a0_7 a0_8 a0_9 a0_10 a0_11 = some true
end Go.Proofs.YteflcmmandlknaaGreatDoor
