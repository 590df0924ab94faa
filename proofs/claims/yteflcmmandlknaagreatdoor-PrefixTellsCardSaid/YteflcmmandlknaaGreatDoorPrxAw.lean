/-
  The examples of the chapter answer as the law asks. Conditions: none.
-/
import Derived.Test.YteflcmmandlknaaGreatDoorPAx11
import Derived.Test.YteflcmmandlknaaGreatDoorNum
namespace Go.Proofs.YteflcmmandlknaaGreatDoor.PrxAw
open Go.RowKit Go.Proofs.YteflcmmandlknaaGreatDoorW.PrintWords Go.Proofs.YteflcmmandlknaaGreatDoor.PA
set_option maxRecDepth 100000
set_option linter.unusedVariables false
theorem awake_at : ddilaw03_awake.f 400 = some true := by decide +kernel
theorem haw : ∀ m, 400 ≤ m → ddilaw03_awake.f m = some true := fun m hm => at_rounds ddilaw03_awake.mono hm awake_at
end Go.Proofs.YteflcmmandlknaaGreatDoor.PrxAw
