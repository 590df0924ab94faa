/-
  The plain statement of PrefixWhole: each address of a range is in exactly one prefix of its cover. Conditions: none.
-/
import Derived.Test.YteflcmmandlknaaDoorPrxAw
import Derived.Test.YteflcmmandlknaaDoorPrxWh
import Derived.Test.YteflcmmandlknaaDoorStPrefixWhole
namespace Go.Proofs.YteflcmmandlknaaDoor.Pure
open Go.RowKit Go.Proofs.YteflcmmandlknaaDoorW.PrintWords Go.Proofs.YteflcmmandlknaaDoor.Num Go.Proofs.YteflcmmandlknaaDoor.PA Go.Proofs.YteflcmmandlknaaDoor.PrxS
theorem PrefixWhole : StPrefixWhole.Pure := by
  intro v h1 l1 v' h2 l2 va h3 l3 u1 u2 u3 u4 u5 u6
  obtain ⟨F, g, rfl, rfl⟩ := to_N (u64_of_wf u1) (u64_of_wf u2)
  obtain ⟨R, g', rfl, rfl⟩ := to_N (u64_of_wf u3) (u64_of_wf u4)
  obtain ⟨A, ga, rfl, rfl⟩ := to_N (u64_of_wf u5) (u64_of_wf u6)
  exact Ev.rounds (PrxWh.whole_ev PrxAw.haw v F v' R va A g g' ga)
end Go.Proofs.YteflcmmandlknaaDoor.Pure
