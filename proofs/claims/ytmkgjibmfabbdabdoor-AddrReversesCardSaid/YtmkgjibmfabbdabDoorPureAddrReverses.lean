/-
  The plain statement of AddrReverses: Reverse and FromReverse answer what their references answer. Conditions: none.
-/
import Derived.Test.YtmkgjibmfabbdabDoorRefG
import Derived.Test.YtmkgjibmfabbdabDoorStAddrReverses
namespace Go.Proofs.YtmkgjibmfabbdabDoor.Pure
open Go.RowKit Go.Proofs.YtmkgjibmfabbdabDoorW.PrintWords Go.Proofs.YtmkgjibmfabbdabDoorW.PrintLast Go.Proofs.YtmkgjibmfabbdabDoor.Num Go.Proofs.YtmkgjibmfabbdabDoor.PA Go.Proofs.YtmkgjibmfabbdabDoor.AdW Go.Proofs.YtmkgjibmfabbdabDoor.AddrP Go.Proofs.YtmkgjibmfabbdabDoor.Qs Go.Proofs.YtmkgjibmfabbdabDoor.Rv
set_option linter.unusedVariables false
set_option linter.unusedSimpArgs false
theorem same_from (n : ByteArray) (hn : n.size ≤ 1000) : ∃ r, Ev (fun k => addr_FromReverse.f k n) r ∧ Ev (fun k => ddiref02_FromReverse.f k n) r := by
  by_cases h : Nobody n
  · exact ⟨_, FR_no n h, ref_no n hn h⟩
  · have h' : ∃ v hi lo, U64 hi ∧ U64 lo ∧ vld v hi lo = true ∧ revT v (lowB v hi lo) = by_ n := by
      apply Classical.byContradiction
      intro hc
      exact h (fun v hi lo h1 h2 hv e => hc ⟨v, hi, lo, h1, h2, hv, e⟩)
    obtain ⟨v, hi, lo, h1, h2, hv, e⟩ := h'
    have en : n = bs (revT v (lowB v hi lo)) := by
      apply ByteArray.ext
      apply Array.toList_inj.mp
      show by_ n = by_ (bs (revT v (lowB v hi lo)))
      rw [← e]
      exact (bs_list _).symm
    rw [en]
    exact ⟨_, FR_yes h1 h2 hv, ref_yes h1 h2 hv⟩
theorem AddrReverses : StAddrReverses.Pure := by
  intro v hi lo n w1 w2 _
  have h1 := u64_of_wf w1
  have h2 := u64_of_wf w2
  refine Ev.rounds (g := fun k => ddilaw02_AddrReverses.f k v hi lo n) ?_
  unfold ddilaw02_AddrReverses.f
  have e0 : (RevS false 0 167772161).1.toList = [49, 46, 48, 46, 48, 46, 49, 48, 46, 105, 110, 45, 97, 100, 100, 114, 46, 97, 114, 112, 97, 46] ∧ (RevS false 0 167772161).2 = 0 := by decide +kernel
  refine Ev.bind (addr_Reverse_ev (v := false) (hi := 0) (lo := 167772161) ⟨by decide, by decide⟩ ⟨by decide, by decide⟩) (ev_if_pos e0.1 ?_)
  rw [e0.2]
  refine Ev.step (fun k => by rw [ddilaw02_AddrReverses.j0]) (ev_if_neg (by decide) ?_)
  refine Ev.bind (addr_Reverse_ev h1 h2) (Ev.bind (ref_Reverse_ev h1 h2) (ev_if_pos rfl ?_))
  rw [show ((RevS v hi lo).2 != (RevS v hi lo).2) = false from by simp]
  refine Ev.step (fun k => by rw [ddilaw02_AddrReverses.j1]) (ev_if_neg (by decide) ?_)
  by_cases hn : (n.size : Int) > 300
  · refine ev_if_pos hn ?_
    exact Ev.now _
  · obtain ⟨r, hr1, hr2⟩ := same_from n (by omega)
    refine ev_if_neg hn (Ev.bind hr1 (Ev.bind hr2 (ev_if_pos (by simp) ?_)))
    exact ev_const (by simp)
end Go.Proofs.YtmkgjibmfabbdabDoor.Pure
