/-
  The plain statement of the law PrefixReads: what its printed function answers. Conditions: the sizes and ranges that its arguments have.
-/
import Derived.Test.YteflcmmandlknaaGreatDoorPAx19
import Derived.Test.YteflcmmandlknaaGreatDoorOpen
namespace Go.Proofs.YteflcmmandlknaaGreatDoor
open Go.RowKit Go.Proofs.YteflcmmandlknaaGreatDoorW.PrintWords Go.Proofs.YteflcmmandlknaaGreatDoorW.PrintLast
def StPrefixReads.Pure : Prop := ∀ (a0 : ByteArray), a0.size ≤ 140737488351232 → ∃ k, PA.ddilaw03_PrefixReads.f k a0 = some true
end Go.Proofs.YteflcmmandlknaaGreatDoor
