/-
  The plain statement of PrefixZones: reverse names end with the zone of the prefix. Conditions: none.
-/
import Derived.Test.YteflcmmandlknaaDoorPrxAw
import Derived.Test.YteflcmmandlknaaDoorPrxZn
import Derived.Test.YteflcmmandlknaaDoorStPrefixZones
namespace Go.Proofs.YteflcmmandlknaaDoor.Pure
open Go.RowKit Go.Proofs.YteflcmmandlknaaDoorW.PrintWords Go.Proofs.YteflcmmandlknaaDoor.Num Go.Proofs.YteflcmmandlknaaDoor.PA Go.Proofs.YteflcmmandlknaaDoor.PrxS
theorem PrefixZones : StPrefixZones.Pure := by
  intro v h1 l1 b va h2 l2 u1 u2 _ u3 u4
  obtain ⟨N, g, rfl, rfl⟩ := to_N (u64_of_wf u1) (u64_of_wf u2)
  obtain ⟨A, ga, rfl, rfl⟩ := to_N (u64_of_wf u3) (u64_of_wf u4)
  refine Ev.rounds (g := fun k => ddilaw03_PrefixZones.f k v (iH N) (iL N) b va (iH A) (iL A)) ?_
  by_cases c : VP v N b ∧ b.toNat % PrxZn.step v = 0
  · obtain ⟨c1, c2⟩ := c
    obtain ⟨n, rfl⟩ : ∃ n : Nat, b = (n : Int) := ⟨b.toNat, by have := c1.2.1; omega⟩
    rw [Int.toNat_natCast] at c2
    exact PrxZn.zones_yes PrxAw.haw v N n va A g ga c1 c2
  · exact PrxZn.zones_no PrxAw.haw v N b va A g c
end Go.Proofs.YteflcmmandlknaaDoor.Pure
