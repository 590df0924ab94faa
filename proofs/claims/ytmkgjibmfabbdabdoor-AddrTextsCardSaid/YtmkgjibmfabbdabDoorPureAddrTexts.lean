/-
  The plain statement of AddrTexts: the text of an address is read as that address, and what is read is an address. Conditions: none.
-/
import Derived.Test.YtmkgjibmfabbdabDoorAddrT
import Derived.Test.YtmkgjibmfabbdabDoorStAddrTexts
namespace Go.Proofs.YtmkgjibmfabbdabDoor.Pure
open Go.RowKit Go.Proofs.YtmkgjibmfabbdabDoorW.PrintWords Go.Proofs.YtmkgjibmfabbdabDoorW.PrintLast Go.Proofs.YtmkgjibmfabbdabDoor.Num Go.Proofs.YtmkgjibmfabbdabDoor.PA Go.Proofs.YtmkgjibmfabbdabDoor.AddrP Go.Proofs.YtmkgjibmfabbdabDoor.Qa Go.Proofs.YtmkgjibmfabbdabDoor.Tx
set_option linter.unusedVariables false
set_option linter.unusedSimpArgs false
theorem valid_ev (v : Bool) (hi lo : Int) (h : Vl v hi lo) : addr_Valid.f v hi lo = some true := by
  unfold addr_Valid.f
  rcases h.2.2 with e | ⟨e1, e2⟩
  · rw [if_pos e]
  · by_cases hv : v = true
    · rw [if_pos hv]
    · rw [if_neg hv, if_pos e1, decide_eq_true e2]
theorem texts_j2 (s : ByteArray) : Ev (fun k => ddilaw02_AddrTexts.j2 k s) true := by
  refine Ev.step (fun k => by rw [ddilaw02_AddrTexts.j2]) ?_
  by_cases h : (s.size : Int) > 200
  · refine ev_if_pos h ?_
    exact Ev.now _
  · refine ev_if_neg h (Ev.bind (addr_Parse_ev s) ?_)
    obtain ⟨v, hi, lo, e, hp⟩ : ∃ v hi lo e, parseS (by_ s) = (v, hi, lo, e) := ⟨_, _, _, _, rfl⟩
    rw [hp]
    rcases parse_ok hp with ⟨rfl, hv⟩ | ⟨rfl, rfl, rfl, rfl⟩
    · obtain ⟨o1, o2⟩ := parse_out v hi lo hv
      refine ev_if_pos rfl (Ev.bind (Print_ev v hi lo hv.1 hv.2.1) (Ev.bind (addr_Parse_ev _) ?_))
      rw [o2]
      refine ev_if_pos o1 (ev_if_pos rfl (ev_if_pos (by simp) ?_))
      exact ev_bind_const (valid_ev v hi lo hv) (Ev.now _)
    · refine ev_if_neg (by decide) ?_
      exact ev_const (by decide)
theorem AddrTexts : StAddrTexts.Pure := by
  intro v hi lo s h1 h2 _
  have u1 := u64_of_wf h1
  have u2 := u64_of_wf h2
  refine Ev.rounds (g := fun k => ddilaw02_AddrTexts.f k v hi lo s) ?_
  unfold ddilaw02_AddrTexts.f
  have h0 := addr_Parse_ev (⟨#[58, 58, 49]⟩ : ByteArray)
  have e0 : parseS (by_ (⟨#[58, 58, 49]⟩ : ByteArray)) = (true, 0, 1, 0) := by decide +kernel
  rw [e0] at h0
  refine Ev.bind h0 (ev_if_pos rfl (ev_if_pos rfl ?_))
  refine Ev.step (fun k => by rw [ddilaw02_AddrTexts.j0]) (ev_if_neg (by decide) ?_)
  have hgood : Vl v hi lo → Ev (fun k => ddilaw02_AddrTexts.j1 k s true v hi lo) true := by
    intro hv
    obtain ⟨o1, o2⟩ := parse_out v hi lo hv
    refine Ev.step (fun k => by rw [ddilaw02_AddrTexts.j1]) (ev_if_pos rfl ?_)
    refine Ev.bind (Print_ev v hi lo u1 u2) (Ev.bind (addr_Parse_ev _) ?_)
    rw [o2]
    refine ev_if_pos o1 (ev_if_pos rfl (ev_if_neg (by simp) ?_))
    exact texts_j2 s
  have hbad : Ev (fun k => ddilaw02_AddrTexts.j1 k s false v hi lo) true := by
    refine Ev.step (fun k => by rw [ddilaw02_AddrTexts.j1]) (ev_if_neg (by decide) ?_)
    exact texts_j2 s
  by_cases hv : v = true
  · refine ev_if_pos hv ?_
    exact hgood ⟨u1, u2, Or.inl hv⟩
  · refine ev_if_neg hv ?_
    by_cases h3 : hi = 0
    · refine ev_if_pos h3 ?_
      by_cases h4 : lo < 4294967296
      · rw [decide_eq_true h4]
        exact hgood ⟨u1, u2, Or.inr ⟨h3, by omega⟩⟩
      · rw [decide_eq_false h4]
        exact hbad
    · refine ev_if_neg h3 ?_
      exact hbad
end Go.Proofs.YtmkgjibmfabbdabDoor.Pure
