/-
  The plain statement of PrefixBack: what is printed is read as the same prefix. Conditions: none.
-/
import Derived.Test.YteflcmmandlknaaDoorPrxAw
import Derived.Test.YteflcmmandlknaaDoorPrxBk
import Derived.Test.YteflcmmandlknaaDoorStPrefixBack
namespace Go.Proofs.YteflcmmandlknaaDoor.Pure
open Go.RowKit Go.Proofs.YteflcmmandlknaaDoorW.PrintWords Go.Proofs.YteflcmmandlknaaDoor.Num Go.Proofs.YteflcmmandlknaaDoor.PA Go.Proofs.YteflcmmandlknaaDoor.PrxS
theorem PrefixBack : StPrefixBack.Pure := by
  intro v h1 l1 b va h2 l2 u1 u2 _ u3 u4
  obtain ⟨N, g, rfl, rfl⟩ := to_N (u64_of_wf u1) (u64_of_wf u2)
  obtain ⟨A, ga, rfl, rfl⟩ := to_N (u64_of_wf u3) (u64_of_wf u4)
  refine Ev.rounds (g := fun k => ddilaw03_PrefixBack.f k v (iH N) (iL N) b va (iH A) (iL A)) ?_
  by_cases c : VP v N b
  · obtain ⟨n, rfl⟩ : ∃ n : Nat, b = (n : Int) := ⟨b.toNat, by have := c.2.1; omega⟩
    exact PrxBk.back_yes PrxAw.haw v N n va A g ga c
  · exact PrxBk.back_no PrxAw.haw v N b va A g ga c
end Go.Proofs.YteflcmmandlknaaDoor.Pure
