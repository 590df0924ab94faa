/-
  The plain statement of PrefixHalves: each address of a prefix is in exactly one of its halves. Conditions: none.
-/
import Derived.Test.YteflcmmandlknaaDoorPrxAw
import Derived.Test.YteflcmmandlknaaDoorPrxHl
import Derived.Test.YteflcmmandlknaaDoorStPrefixHalves
namespace Go.Proofs.YteflcmmandlknaaDoor.Pure
open Go.RowKit Go.Proofs.YteflcmmandlknaaDoorW.PrintWords Go.Proofs.YteflcmmandlknaaDoor.Num Go.Proofs.YteflcmmandlknaaDoor.PA Go.Proofs.YteflcmmandlknaaDoor.PrxN Go.Proofs.YteflcmmandlknaaDoor.PrxS
theorem PrefixHalves : StPrefixHalves.Pure := by
  intro v h1 l1 b va h2 l2 u1 u2 _ u3 u4
  obtain ⟨N, g, rfl, rfl⟩ := to_N (u64_of_wf u1) (u64_of_wf u2)
  obtain ⟨A, ga, rfl, rfl⟩ := to_N (u64_of_wf u3) (u64_of_wf u4)
  by_cases c : VP v N b ∧ b + 1 ≤ (L v : Int)
  · exact ⟨405, PrxHl.halves_yes PrxAw.haw 400 (Nat.le_refl _) v N b va A g ga c.1 c.2⟩
  · exact ⟨402, PrxHl.halves_no PrxAw.haw 400 (Nat.le_refl _) v N b va A g c⟩
end Go.Proofs.YteflcmmandlknaaDoor.Pure
