/-
  Valid and Parse of package addr answer what their references answer: the plain statement of AddrParse. Conditions: none beyond the row's.
-/
import Derived.Test.YtmkgjibmfabbdaaDoorStAddrParse
import Derived.Test.YtmkgjibmfabbdaaDoorAddrPf
namespace Go.Proofs.YtmkgjibmfabbdaaDoor.Pure
open Go.RowKit Go.Proofs.YtmkgjibmfabbdaaDoorW.PrintWords Go.Proofs.YtmkgjibmfabbdaaDoor.Num Go.Proofs.YtmkgjibmfabbdaaDoor.AddrP Go.Proofs.YtmkgjibmfabbdaaDoor.PA
theorem small : parseS (by_ (⟨#[49, 48, 46, 48, 46, 48, 46, 49]⟩ : ByteArray)) = (false, 0, 167772161, 0) := by decide +kernel
theorem AddrParse : StAddrParse.Pure := by
  intro s v hi lo _ _ _
  refine Ev.rounds (g := fun k => ddilaw02_AddrParse.f k s v hi lo) ?_
  unfold ddilaw02_AddrParse.f
  have h0 := addr_Parse_ev (⟨#[49, 48, 46, 48, 46, 48, 46, 49]⟩ : ByteArray)
  rw [small] at h0
  refine Ev.bind h0 (ev_if_pos rfl ?_)
  refine Ev.step (fun k => by rw [ddilaw02_AddrParse.j0]) (ev_if_neg (by decide) ?_)
  obtain ⟨e, b, hb⟩ := valid_same v hi lo
  refine ev_bind_const (e.trans hb) (ev_bind_const hb (ev_if_neg (by simp) ?_))
  by_cases hs : (s.size : Int) > 200
  · refine ev_if_pos hs ?_
    exact Ev.now _
  · refine ev_if_neg hs ?_
    refine Ev.bind (addr_Parse_ev s) (Ev.bind (ref_Parse_ev s) (ev_if_pos (by simp) ?_))
    exact ev_const (by simp)
end Go.Proofs.YtmkgjibmfabbdaaDoor.Pure
