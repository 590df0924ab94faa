/-
  The plain statement of PrefixReads: the program and the reference read the same text alike. Conditions: none.
-/
import Derived.Test.YteflcmmandlknaaGreatDoorPrxAw
import Derived.Test.YteflcmmandlknaaGreatDoorPrxRd
import Derived.Test.YteflcmmandlknaaGreatDoorStPrefixReads
namespace Go.Proofs.YteflcmmandlknaaGreatDoor.Pure
open Go.RowKit Go.Proofs.YteflcmmandlknaaGreatDoorW.PrintWords Go.Proofs.YteflcmmandlknaaGreatDoor.Num Go.Proofs.YteflcmmandlknaaGreatDoor.PA Go.Proofs.YteflcmmandlknaaGreatDoor.PrxS
theorem PrefixReads : StPrefixReads.Pure := by
  intro s hs
  exact Ev.rounds (g := fun k => ddilaw03_PrefixReads.f k s) (PrxRd.reads_ev PrxAw.haw s (by omega))
end Go.Proofs.YteflcmmandlknaaGreatDoor.Pure
