/-
  The plain statement of PrefixTells: the program and the reference tell the same of prefixes. Conditions: none.
-/
import Derived.Test.YteflcmmandlknaaGreatDoorPrxAw
import Derived.Test.YteflcmmandlknaaGreatDoorPrxTl
import Derived.Test.YteflcmmandlknaaGreatDoorStPrefixTells
namespace Go.Proofs.YteflcmmandlknaaGreatDoor.Pure
open Go.RowKit Go.Proofs.YteflcmmandlknaaGreatDoorW.PrintWords Go.Proofs.YteflcmmandlknaaGreatDoor.Num Go.Proofs.YteflcmmandlknaaGreatDoor.PA Go.Proofs.YteflcmmandlknaaGreatDoor.PrxS
theorem PrefixTells : StPrefixTells.Pure := by
  intro v h1 l1 b w h2 l2 c va h3 l3 d u1 u2 _ u3 u4 _ u5 u6 _
  obtain ⟨N, g, rfl, rfl⟩ := to_N (u64_of_wf u1) (u64_of_wf u2)
  obtain ⟨M, g', rfl, rfl⟩ := to_N (u64_of_wf u3) (u64_of_wf u4)
  obtain ⟨A, ga, rfl, rfl⟩ := to_N (u64_of_wf u5) (u64_of_wf u6)
  exact Ev.rounds (g := fun k => ddilaw03_PrefixTells.f k v (iH N) (iL N) b w (iH M) (iL M) c va (iH A) (iL A) d) (PrxTl.tells_ev PrxAw.haw v N b w M c va A d g g' ga)
end Go.Proofs.YteflcmmandlknaaGreatDoor.Pure
