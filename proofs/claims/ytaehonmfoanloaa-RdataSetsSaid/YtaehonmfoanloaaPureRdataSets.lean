/-
  Set and Types of package rdata answer what their references answer: the plain statement of RdataSets. Conditions: none beyond the row's.
-/
import Derived.Test.YtaehonmfoanloaaPx2
import Derived.Test.YtaehonmfoanloaaStRdataSets
import Derived.Test.YtaehonmfoanloaaRd
namespace Go.Proofs.Ytaehonmfoanloaa.Pure
open Go.RowKit Go.Proofs.YtaehonmfoanloaaW.PrintWords Go.Proofs.Ytaehonmfoanloaa.Num Go.Proofs.Ytaehonmfoanloaa.Bits Go.Proofs.Ytaehonmfoanloaa.Rd Go.Proofs.Ytaehonmfoanloaa.P
theorem same_l0 (l : List Int) (hl : l.length ≤ 140737488351232) (d : Nat) : ∀ i : Nat, i + d = l.length → Ev (fun k => ddilaw05_same.l0 k l l (i : Int)) true := by
  induction d with
  | zero =>
    intro i h
    refine ev_of_eq 1 (fun k => ?_)
    simp only [ddilaw05_same.l0]
    rw [if_neg (by omega)]
  | succ d ih =>
    intro i h
    refine Ev.step (fun k => by rw [ddilaw05_same.l0]) (ev_if_pos (by omega) (ev_if_pos (by omega) (ev_if_pos (by omega) (ev_if_pos rfl ?_))))
    rw [wrap64_id (by omega) (by omega), show (i : Int) + 1 = ((i + 1 : Nat) : Int) by omega]
    exact ih (i + 1) (by omega)
theorem same_ev (l : List Int) (hl : l.length ≤ 140737488351232) : Ev (fun k => ddilaw05_same.f k l l) true := by
  unfold ddilaw05_same.f
  exact ev_if_pos rfl (same_l0 l hl l.length 0 (by omega))
theorem typesS_short (a : Nat) : (typesS a).length ≤ 14 := by
  unfold typesS
  exact Nat.le_trans (List.length_filter_le _ _) (by decide)
theorem bytes8 : Try.prog.bytesOf 3 = 8 := by kernel_rfl
theorem RdataSets : StRdataSets.Pure := by
  intro l a hl ha
  obtain ⟨hlen, hwf⟩ := hl
  rw [bytes8] at hlen
  obtain ⟨n, rfl, hn⟩ := u64_nat (u64_of_wf ha)
  refine Ev.rounds (g := fun k => ddilaw05_RdataSets.f k l (n : Int)) ?_
  unfold ddilaw05_RdataSets.f
  refine Ev.bind (Set_ev [2, 1] (by decide)) (ev_if_pos (by decide +kernel) ?_)
  refine Ev.step (fun k => by rw [ddilaw05_RdataSets.j0]) (ev_if_neg (by decide +kernel) ?_)
  refine Ev.bind (Types_ev hn) (Ev.bind (ref_Types_ev hn) (Ev.bind (same_ev _ (by have := typesS_short n; omega)) (ev_if_pos rfl ?_)))
  by_cases h2 : (l.length : Int) > 200
  · exact ev_if_pos h2 (Ev.now _)
  · refine ev_if_neg h2 (Ev.bind (Set_ev l (by omega)) (Ev.bind (ref_Set_ev l (by omega)) (ev_if_pos rfl ?_)))
    exact ev_const (by simp)
end Go.Proofs.Ytaehonmfoanloaa.Pure
