/-
  The plain statement of PrefixParts: bounds, halves, parts, sizes and zones of the program and of the reference are the same. Conditions: none.
-/
import Derived.Test.YteflcmmandlknaaGreatDoorPrxAw
import Derived.Test.YteflcmmandlknaaGreatDoorPrxRz
import Derived.Test.YteflcmmandlknaaGreatDoorStPrefixParts
namespace Go.Proofs.YteflcmmandlknaaGreatDoor.Pure
open Go.RowKit Go.Proofs.YteflcmmandlknaaGreatDoorW.PrintWords Go.Proofs.YteflcmmandlknaaGreatDoor.Num Go.Proofs.YteflcmmandlknaaGreatDoor.PA Go.Proofs.YteflcmmandlknaaGreatDoor.PrxS
theorem PrefixParts : StPrefixParts.Pure := by
  intro v h1 l1 b n i u1 u2 _ _ u5
  obtain ⟨N, g, rfl, rfl⟩ := to_N (u64_of_wf u1) (u64_of_wf u2)
  have hu := u64_of_wf u5
  unfold U64 at hu
  obtain ⟨j, rfl⟩ : ∃ j : Nat, i = (j : Int) := ⟨i.toNat, by omega⟩
  exact Ev.rounds (g := fun k => ddilaw03_PrefixParts.f k v (iH N) (iL N) b n (j : Int)) (PrxRz.parts_ev PrxAw.haw v N b n j g (by omega))
end Go.Proofs.YteflcmmandlknaaGreatDoor.Pure
