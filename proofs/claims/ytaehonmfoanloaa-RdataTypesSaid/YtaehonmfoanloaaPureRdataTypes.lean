/-
  Known, Mnemonic, Type and Single of package rdata answer what their references answer: the plain statement of RdataTypes. Conditions: none beyond the row's.
-/
import Derived.Test.YtaehonmfoanloaaStRdataTypes
import Derived.Test.YtaehonmfoanloaaRd
namespace Go.Proofs.Ytaehonmfoanloaa.Pure
open Go.RowKit Go.Proofs.YtaehonmfoanloaaW.PrintWords Go.Proofs.Ytaehonmfoanloaa.Num Go.Proofs.Ytaehonmfoanloaa.Rd Go.Proofs.Ytaehonmfoanloaa.P
theorem RdataTypes : StRdataTypes.Pure := by
  intro t s _ _
  refine Ev.rounds (g := fun k => ddilaw05_RdataTypes.f k t s) ?_
  unfold ddilaw05_RdataTypes.f
  refine Ev.bind (Mnemonic_ev 28) (ev_if_pos (by decide +kernel) ?_)
  refine Ev.bind (Known_ev 47) (ev_if_pos (by decide +kernel) ?_)
  refine ev_bind_const (a := true) (by decide) ?_
  refine Ev.step (fun k => by rw [ddilaw05_RdataTypes.j0]) (ev_if_neg (by decide) ?_)
  refine Ev.bind (Known_ev t) (ev_bind_const (ref_Known_eq t) (ev_if_neg (by simp) ?_))
  refine Ev.bind (Mnemonic_ev t) (ev_bind_const (ref_Mnemonic_eq t) (ev_if_pos rfl ?_))
  obtain ⟨b, hb⟩ := Single_some t
  refine ev_bind_const hb (ev_bind_const ((Single_eq t).symm.trans hb) ?_)
  refine Ev.step (fun k => by rw [ddilaw05_RdataTypes.j1]) (ev_if_neg (by simp) ?_)
  refine Ev.bind (Type_ev s) (Ev.bind (ref_Type_ev s) (ev_if_pos rfl ?_))
  exact ev_const (by simp)
end Go.Proofs.Ytaehonmfoanloaa.Pure
