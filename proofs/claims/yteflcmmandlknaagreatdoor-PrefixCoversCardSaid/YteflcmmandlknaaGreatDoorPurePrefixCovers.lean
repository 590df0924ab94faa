/-
  The plain statement of PrefixCovers: the covers of the program and of the reference are the same. Conditions: none.
-/
import Derived.Test.YteflcmmandlknaaGreatDoorPrxAw
import Derived.Test.YteflcmmandlknaaGreatDoorPrxRc
import Derived.Test.YteflcmmandlknaaGreatDoorStPrefixCovers
namespace Go.Proofs.YteflcmmandlknaaGreatDoor.Pure
open Go.RowKit Go.Proofs.YteflcmmandlknaaGreatDoorW.PrintWords Go.Proofs.YteflcmmandlknaaGreatDoor.Num Go.Proofs.YteflcmmandlknaaGreatDoor.PA Go.Proofs.YteflcmmandlknaaGreatDoor.PrxS
theorem PrefixCovers : StPrefixCovers.Pure := by
  intro v h1 l1 w h2 l2 u1 u2 u3 u4
  obtain ⟨N, g, rfl, rfl⟩ := to_N (u64_of_wf u1) (u64_of_wf u2)
  obtain ⟨A, ga, rfl, rfl⟩ := to_N (u64_of_wf u3) (u64_of_wf u4)
  exact Ev.rounds (g := fun k => ddilaw03_PrefixCovers.f k v (iH N) (iL N) w (iH A) (iL A)) (PrxRc.covers_ev PrxAw.haw v N w A g ga)
end Go.Proofs.YteflcmmandlknaaGreatDoor.Pure
