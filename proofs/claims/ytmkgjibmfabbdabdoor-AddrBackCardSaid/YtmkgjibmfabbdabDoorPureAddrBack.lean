/-
  The plain statement of AddrBack: bytes and names of addresses lead back to them, and bytes are in the order of the addresses. Conditions: none.
-/
import Derived.Test.YtmkgjibmfabbdabDoorAdR
import Derived.Test.YtmkgjibmfabbdabDoorRevF
import Derived.Test.YtmkgjibmfabbdabDoorStAddrBack
namespace Go.Proofs.YtmkgjibmfabbdabDoor.Pure
open Go.RowKit Go.Proofs.YtmkgjibmfabbdabDoorW.PrintWords Go.Proofs.YtmkgjibmfabbdabDoorW.PrintLast Go.Proofs.YtmkgjibmfabbdabDoor.Num Go.Proofs.YtmkgjibmfabbdabDoor.PA Go.Proofs.YtmkgjibmfabbdabDoor.AdW Go.Proofs.YtmkgjibmfabbdabDoor.AddrP Go.Proofs.YtmkgjibmfabbdabDoor.Qs Go.Proofs.YtmkgjibmfabbdabDoor.Rv Go.Proofs.YtmkgjibmfabbdabDoor.AdR
set_option linter.unusedVariables false
set_option linter.unusedSimpArgs false
theorem back_j4 {v : Bool} {hi lo : Int} {hi' lo' : Int} (h1 : U64 hi) (h2 : U64 lo) (h3 : U64 hi') (h4 : U64 lo') (hv : vld v hi lo = true) (hv' : vld v hi' lo' = true) : Ev (fun k => ddilaw02_AddrBack.j4 k (wireS v hi lo).1 (wireS v hi' lo').1 false v hi lo v hi' lo') true := by
  obtain ⟨n1, l1⟩ := num_wire h1 h2 hv
  obtain ⟨n2, l2⟩ := num_wire h3 h4 hv'
  have hl : (by_ (wireS v hi lo).1).length = (by_ (wireS v hi' lo').1).length := by rw [l1, l2]
  have hless := less_num _ _ hl
  have hcmp : ∀ k, addr_Compare.f (k + 1) v hi lo v hi' lo' = some (cmpS v hi lo v hi' lo') := fun k => addr_Compare_eq k h1 h2 h3 h4
  have hev : Ev (fun k => addr_Compare.f k v hi lo v hi' lo') (cmpS v hi lo v hi' lo') := ev_of_eq 1 hcmp
  refine Ev.step (fun k => by rw [ddilaw02_AddrBack.j4]) (ev_if_neg (by decide) (Ev.bind hev ?_))
  have c0 : cmpS v hi lo v hi' lo' = if total hi lo < total hi' lo' then -1 else if total hi' lo' < total hi lo then 1 else 0 := if_pos rfl
  have t1 : (wireS v hi lo).1.toList = by_ (wireS v hi lo).1 := ByteArray.toList_eq _
  have t2 : (wireS v hi' lo').1.toList = by_ (wireS v hi' lo').1 := ByteArray.toList_eq _
  rw [t1, t2, hless, c0]
  rcases Int.lt_trichotomy (total hi lo) (total hi' lo') with c | c | c
  · have hne : ¬ by_ (wireS v hi lo).1 = by_ (wireS v hi' lo').1 := by
      intro e
      rw [e] at n1
      omega
    rw [if_pos c, decide_eq_true (show num (by_ (wireS v hi lo).1) < num (by_ (wireS v hi' lo').1) by omega)]
    refine ev_if_pos (by decide) (Ev.bind hev ?_)
    rw [c0, if_pos c, beq_eq_false_iff_ne.mpr hne]
    exact ev_const (by decide)
  · have heq : by_ (wireS v hi lo).1 = by_ (wireS v hi' lo').1 := num_inj _ _ hl (by omega)
    rw [if_neg (by omega), if_neg (by omega), decide_eq_false (show ¬ num (by_ (wireS v hi lo).1) < num (by_ (wireS v hi' lo').1) by omega)]
    refine ev_if_pos (by decide) (Ev.bind hev ?_)
    rw [c0, if_neg (by omega), if_neg (by omega), heq, beq_self_eq_true]
    exact ev_const (by decide)
  · have hne : ¬ by_ (wireS v hi lo).1 = by_ (wireS v hi' lo').1 := by
      intro e
      rw [e] at n1
      omega
    rw [if_neg (by omega), if_pos c, decide_eq_false (show ¬ num (by_ (wireS v hi lo).1) < num (by_ (wireS v hi' lo').1) by omega)]
    refine ev_if_pos (by decide) (Ev.bind hev ?_)
    rw [c0, if_neg (by omega), if_pos c, beq_eq_false_iff_ne.mpr hne]
    exact ev_const (by decide)
theorem AddrBack : StAddrBack.Pure := by
  intro v hi lo v' hi' lo' w1 w2 w3 w4
  have h1 := u64_of_wf w1
  have h2 := u64_of_wf w2
  have h3 := u64_of_wf w3
  have h4 := u64_of_wf w4
  refine Ev.rounds (g := fun k => ddilaw02_AddrBack.f k v hi lo v' hi' lo') ?_
  unfold ddilaw02_AddrBack.f
  have e0 : (wireS false 0 1).1.toList = [0, 0, 0, 1] ∧ (wireS false 0 1).2 = 0 := by decide +kernel
  refine Ev.bind (addr_Wire_ev (v := false) (hi := 0) (lo := 1) ⟨by decide, by decide⟩ ⟨by decide, by decide⟩) (ev_if_pos e0.1 ?_)
  rw [e0.2]
  refine Ev.step (fun k => by rw [ddilaw02_AddrBack.j0]) (ev_if_neg (by decide) ?_)
  have hgood : vld v hi lo = true → Ev (fun k => ddilaw02_AddrBack.j1 k false v hi lo v' hi' lo') true := by
    intro hv
    obtain ⟨z0, _⟩ := wire_low h1 h2 hv
    have hr := read_wire h1 h2 hv
    have hsz : (wireS v hi lo).1.size ≤ 140737488351232 := by
      have := (num_wire h1 h2 hv).2
      rw [by_length] at this
      split at this <;> omega
    have hread := addr_Read_ev (wireS v hi lo).1 hsz
    rw [hr] at hread
    refine Ev.step (fun k => by rw [ddilaw02_AddrBack.j1]) (ev_if_neg (by decide) (Ev.bind (addr_Wire_ev h1 h2) (Ev.bind hread (ev_if_pos z0 (ev_if_pos rfl ?_)))))
    rw [show (!(v == v) || (!(hi == hi) || (!(lo == lo)))) = false from by simp]
    have hrev := addr_Reverse_ev (v := v) h1 h2
    rw [RevS_yes hv] at hrev
    refine Ev.step (fun k => by rw [ddilaw02_AddrBack.j2]) (ev_if_neg (by decide) (Ev.bind hrev (Ev.bind (FR_yes h1 h2 hv) (ev_if_pos rfl (ev_if_pos rfl ?_)))))
    rw [show (!(v == v) || (!(hi == hi) || (!(lo == lo)))) = false from by simp]
    refine Ev.step (fun k => by rw [ddilaw02_AddrBack.j3]) (ev_if_neg (by decide) (Ev.bind (addr_Wire_ev h3 h4) ?_))
    have hj4t : ∀ x y : ByteArray, Ev (fun k => ddilaw02_AddrBack.j4 k x y true v hi lo v' hi' lo') true := by
      intro x y
      refine Ev.step (fun k => by rw [ddilaw02_AddrBack.j4]) (ev_if_pos rfl ?_)
      exact Ev.now _
    cases hv' : vld v' hi' lo' with
    | true =>
      obtain ⟨z1, _⟩ := wire_low h3 h4 hv'
      refine ev_if_pos z1 ?_
      by_cases hvv : v' = v
      · subst hvv
        rw [show (v' != v') = false from by simp]
        exact back_j4 h1 h2 h3 h4 hv hv'
      · rw [show (v' != v) = true from bne_iff_ne.mpr hvv]
        exact hj4t _ _
    | false =>
      have e : wireS v' hi' lo' = ((⟨#[]⟩ : ByteArray), 3) := by unfold wireS; rw [hv', if_neg (by decide)]
      rw [e]
      refine ev_if_neg (by decide) ?_
      exact hj4t _ _
  have hbad : vld v hi lo = false → Ev (fun k => ddilaw02_AddrBack.j1 k true v hi lo v' hi' lo') true := by
    intro hv
    have e : wireS v hi lo = ((⟨#[]⟩ : ByteArray), 3) := by unfold wireS; rw [hv, if_neg (by decide)]
    have hw := addr_Wire_ev (v := v) h1 h2
    rw [e] at hw
    refine Ev.step (fun k => by rw [ddilaw02_AddrBack.j1]) (ev_if_pos rfl (Ev.bind hw (ev_if_pos (c := ((⟨#[]⟩ : ByteArray).toList = ([] : List UInt8))) (by decide +kernel) ?_)))
    exact ev_const (by decide)
  by_cases hv : v = true
  · refine ev_if_pos hv ?_
    exact hgood (by unfold vld; rw [hv]; rfl)
  · have hvf : v = false := by cases v <;> simp_all
    refine ev_if_neg hv ?_
    by_cases h0 : hi = 0
    · refine ev_if_pos h0 ?_
      by_cases hl : lo ≥ 4294967296
      · rw [decide_eq_true hl]
        refine hbad ?_
        unfold vld
        rw [hvf, decide_eq_false (by omega)]
        simp
      · rw [decide_eq_false hl]
        refine hgood ?_
        unfold vld
        rw [hvf, decide_eq_true (by omega), h0]
        rfl
    · refine ev_if_neg h0 ?_
      refine hbad ?_
      unfold vld
      rw [hvf, beq_eq_false_iff_ne.mpr h0]
      rfl
end Go.Proofs.YtmkgjibmfabbdabDoor.Pure
