/-
  The plain statement of AddrPrint: both Print answer alike. Conditions: none.
-/
import Derived.Test.YtmkgjibmfabbdaaDoorAddrQc
import Derived.Test.YtmkgjibmfabbdaaDoorStAddrPrint
namespace Go.Proofs.YtmkgjibmfabbdaaDoor.Pure
open Go.RowKit Go.Proofs.YtmkgjibmfabbdaaDoorW.PrintWords Go.Proofs.YtmkgjibmfabbdaaDoorW.PrintLast Go.Proofs.YtmkgjibmfabbdaaDoor.Num Go.Proofs.YtmkgjibmfabbdaaDoor.PB Go.Proofs.YtmkgjibmfabbdaaDoor.Qa Go.Proofs.YtmkgjibmfabbdaaDoor.Qb Go.Proofs.YtmkgjibmfabbdaaDoor.Qc
theorem AddrPrint : StAddrPrint.Pure := by
  intro v hi lo h1 h2
  have u1 := u64_of_wf h1
  have u2 := u64_of_wf h2
  refine Ev.rounds (g := fun k => ddilaw02_AddrPrint.f k v hi lo) ?_
  unfold ddilaw02_AddrPrint.f
  have h0 := Print_ev false 0 167772161 ⟨by decide, by decide⟩ ⟨by decide, by decide⟩
  have e0 : outP false 0 167772161 = (bs [49, 48, 46, 48, 46, 48, 46, 49], 0) := by
    unfold outP
    rw [if_neg (by decide), if_pos (by decide), out4_eq]
    decide
  rw [e0] at h0
  refine Ev.bind h0 (ev_if_pos (by decide +kernel) ?_)
  refine Ev.step (fun k => by rw [ddilaw02_AddrPrint.j0]) (ev_if_neg (by decide) ?_)
  refine Ev.bind (Print_ev v hi lo u1 u2) (Ev.bind (ref_Print_ev v hi lo u1 u2) ?_)
  refine ev_if_pos rfl ?_
  exact ev_const (by simp)
end Go.Proofs.YtmkgjibmfabbdaaDoor.Pure
