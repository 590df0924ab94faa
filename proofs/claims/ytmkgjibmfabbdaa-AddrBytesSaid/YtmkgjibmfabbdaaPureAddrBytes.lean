/-
  Wire and Read of package addr answer what their references answer: the plain statement of AddrBytes. Conditions: the numbers are of uint64, the string of the reach.
-/
import Derived.Test.YtmkgjibmfabbdaaStAddrBytes
import Derived.Test.YtmkgjibmfabbdaaAdBytes
namespace Go.Proofs.Ytmkgjibmfabbdaa.Pure
open Go.RowKit Go.Proofs.YtmkgjibmfabbdaaW.PrintWords Go.Proofs.Ytmkgjibmfabbdaa.Num Go.Proofs.Ytmkgjibmfabbdaa.Ad Go.Proofs.Ytmkgjibmfabbdaa.AdBytes Go.Proofs.Ytmkgjibmfabbdaa.P
theorem AddrBytes : StAddrBytes.Pure := by
  intro v hi lo s w1 w2 hs
  have h1 := u64_of_wf w1
  have h2 := u64_of_wf w2
  refine Ev.rounds (g := fun k => ddilaw02_AddrBytes.f k v hi lo s) ?_
  unfold ddilaw02_AddrBytes.f
  have e : readS (⟨#[10, 0, 0, 1]⟩ : ByteArray) = (false, 0, 167772161, 0) := by decide +kernel
  have t0 := addr_Read_ev (⟨#[10, 0, 0, 1]⟩ : ByteArray) (by decide)
  rw [e] at t0
  refine Ev.bind t0 (ev_if_pos rfl ?_)
  refine Ev.step (fun k => by rw [ddilaw02_AddrBytes.j0]) (ev_if_neg (by decide) ?_)
  refine Ev.bind (addr_Wire_ev h1 h2) (Ev.bind (ref_Wire_ev h1 h2) (ev_if_pos rfl ?_))
  refine Ev.step (fun k => by rw [ddilaw02_AddrBytes.j1]) (ev_if_neg (by simp) ?_)
  refine Ev.bind (addr_Read_ev s hs) (Ev.bind (ref_Read_ev s hs) (ev_if_pos (by simp) ?_))
  exact ev_const (by simp)
end Go.Proofs.Ytmkgjibmfabbdaa.Pure
