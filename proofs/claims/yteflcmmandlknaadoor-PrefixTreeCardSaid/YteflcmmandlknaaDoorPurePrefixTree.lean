/-
  The plain statement of PrefixTree: two prefixes are disjoint, or one is within the other. Conditions: none.
-/
import Derived.Test.YteflcmmandlknaaDoorPrxAw
import Derived.Test.YteflcmmandlknaaDoorPrxTree
import Derived.Test.YteflcmmandlknaaDoorStPrefixTree
namespace Go.Proofs.YteflcmmandlknaaDoor.Pure
open Go.RowKit Go.Proofs.YteflcmmandlknaaDoorW.PrintWords Go.Proofs.YteflcmmandlknaaDoor.Num Go.Proofs.YteflcmmandlknaaDoor.PA Go.Proofs.YteflcmmandlknaaDoor.PrxS
theorem PrefixTree : StPrefixTree.Pure := by
  intro v h1 l1 b v' h2 l2 b' va h3 l3 ba u1 u2 _ u3 u4 _ u5 u6 _
  obtain ⟨N, g, rfl, rfl⟩ := to_N (u64_of_wf u1) (u64_of_wf u2)
  obtain ⟨M, g', rfl, rfl⟩ := to_N (u64_of_wf u3) (u64_of_wf u4)
  obtain ⟨A, ga, rfl, rfl⟩ := to_N (u64_of_wf u5) (u64_of_wf u6)
  exact ⟨403, PrxTree.tree_eq PrxAw.haw 400 (Nat.le_refl _) (by decide) v N b v' M b' va A ba g g' ga⟩
end Go.Proofs.YteflcmmandlknaaDoor.Pure
