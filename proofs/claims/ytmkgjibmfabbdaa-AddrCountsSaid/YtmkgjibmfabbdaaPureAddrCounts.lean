/-
  Add and Sub of package addr answer what their references answer, for any addresses and any number: the plain statement of AddrCounts. Conditions: the numbers are of uint64.
-/
import Derived.Test.YtmkgjibmfabbdaaStAddrCounts
import Derived.Test.YtmkgjibmfabbdaaAd
namespace Go.Proofs.Ytmkgjibmfabbdaa.Pure
open Go.RowKit Go.Proofs.Ytmkgjibmfabbdaa.Num Go.Proofs.Ytmkgjibmfabbdaa.Ad Go.Proofs.Ytmkgjibmfabbdaa.P
theorem AddrCounts : StAddrCounts.Pure := by
  intro v hi lo v' hi' lo' n w1 w2 w3 w4 w5
  have h1 := u64_of_wf w1
  have h2 := u64_of_wf w2
  have h3 := u64_of_wf w3
  have h4 := u64_of_wf w4
  have h5 := u64_of_wf w5
  refine ⟨9, ?_⟩
  unfold ddilaw02_AddrCounts.f
  rw [addr_Add_eq (v := false) (hi := 0) (lo := 4294967294) (n := 1) (by unfold U64; omega) (by unfold U64; omega) (by unfold U64; omega)]
  have e : addS false 0 4294967294 1 = (false, 0, 4294967295, true) := rfl
  rw [e]
  simp only [Option.bind_some, ddilaw02_AddrCounts.j0, if_true]
  rw [addr_Add_eq h1 h2 h5, ref_Add_eq h1 h2 h5]
  simp only [Option.bind_some, ddilaw02_AddrCounts.j1]
  rw [addr_Sub_eq 6 h1 h2 h3 h4, ref_Sub_eq 6 h1 h2 h3 h4]
  simp
end Go.Proofs.Ytmkgjibmfabbdaa.Pure
