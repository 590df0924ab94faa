/-
  What Of, Contains, Within, Overlap and Compare of the reference answer, told with numbers. Conditions: each theorem's own.
-/
import Derived.Test.YteflcmmandlknaaGreatDoorPAx14
import Derived.Test.YteflcmmandlknaaGreatDoorPAx15
import Derived.Test.YteflcmmandlknaaGreatDoorPrxRm
namespace Go.Proofs.YteflcmmandlknaaGreatDoor.PrxR
open Go.RowKit Go.Proofs.YteflcmmandlknaaGreatDoorW.PrintWords Go.Proofs.YteflcmmandlknaaGreatDoor.Num Go.Proofs.YteflcmmandlknaaGreatDoor.Bits Go.Proofs.YteflcmmandlknaaGreatDoor.PrxN Go.Proofs.YteflcmmandlknaaGreatDoor.PrxS Go.Proofs.YteflcmmandlknaaGreatDoor.PrxT Go.Proofs.YteflcmmandlknaaGreatDoor.PA
set_option linter.unusedVariables false
set_option linter.unusedSimpArgs false
set_option maxRecDepth 100000

theorem ROf_ev (v : Bool) (N : Nat) (b : Int) (h : N < M128) : Ev (fun k => ddiref03_Of.f k v (iH N) (iL N) b) (OfS v N b) := by
  have hL := L_le v
  have hbad : ¬ (N < 2 ^ L v ∧ 0 ≤ b ∧ b ≤ (L v : Int)) → Ev (fun k => ddiref03_Of.j0 k b true v (iH N) (iL N)) (OfS v N b) := fun q => by
    have e : OfS v N b = _ := if_neg q
    rw [e]
    refine Ev.step (fun k => by rw [ddiref03_Of.j0]) ?_
    refine ev_if_pos rfl ?_
    exact Ev.now _
  unfold ddiref03_Of.f
  refine ev_bind_const (rvalid2 v N h) ?_
  by_cases c1 : N < 2 ^ L v
  · refine ev_if_pos (decide_eq_true c1) ?_
    by_cases c2 : b < 0
    · exact ev_if_pos c2 (hbad (fun q => by omega))
    · refine ev_if_neg c2 (ev_bind_const (long_eq v) ?_)
      by_cases c3 : b > (L v : Int)
      · rw [decide_eq_true c3]
        exact hbad (fun q => by omega)
      · rw [decide_eq_false c3]
        obtain ⟨n, rfl⟩ : ∃ n : Nat, b = (n : Int) := ⟨b.toNat, by omega⟩
        have hn : n ≤ L v := by omega
        refine Ev.step (fun k => by rw [ddiref03_Of.j0]) ?_
        refine ev_if_neg (by decide) (ev_bind_const (long_eq v) ?_)
        rw [w_len hn]
        refine Ev.bind (ones_ev (L v - n) (by omega)) ?_
        obtain ⟨s1, s2⟩ := sub_i (k := L v - n) h (by omega)
        have e : OfS v N (n : Int) = _ := if_pos ⟨c1, by omega, by omega⟩
        rw [e, Int.toNat_natCast]
        refine ev_const ?_
        show some (v, IntKind.u64.wrap (iH N - Go.bits .and .u64 (iH N) (iH (2 ^ (L v - n) - 1))), IntKind.u64.wrap (iL N - Go.bits .and .u64 (iL N) (iL (2 ^ (L v - n) - 1))), (n : Int), true) = _
        rw [s1, s2]
  · exact ev_if_neg (by rw [decide_eq_false c1]; decide) (hbad (fun q => c1 q.1))
theorem RContains_ev (v : Bool) (N : Nat) (b : Int) (v' : Bool) (M : Nat) (h : N < M128) (g : M < M128) : Ev (fun k => ddiref03_Contains.f k v (iH N) (iL N) b v' (iH M) (iL M)) (decide (CT v N b v' M)) := by
  unfold ddiref03_Contains.f
  refine Ev.bind (RValid_ev v N b h) ?_
  by_cases c1 : VP v N b
  · refine ev_if_pos (decide_eq_true c1) (ev_bind_const (rvalid2 v' M g) ?_)
    by_cases c2 : M < 2 ^ L v'
    · refine ev_if_pos (decide_eq_true c2) ?_
      by_cases c3 : v = v'
      · subst c3
        refine ev_if_neg (by simp) (Ev.bind (ROf_ev v M b g) ?_)
        have e : OfS v M b = _ := if_pos ⟨c2, c1.2.1, c1.2.2.1⟩
        rw [e]
        refine ev_const ?_
        show some ((v == v && (iH (M - M % 2 ^ (L v - b.toNat)) == iH N && (iL (M - M % 2 ^ (L v - b.toNat)) == iL N))) && (b == b)) = _
        rw [eqB]
        congr 1
        apply decide_eq_decide.mpr
        exact ⟨fun q => ⟨c1, rfl, c2, q.2.1⟩, fun q => ⟨rfl, q.2.2.2, rfl⟩⟩
      · refine ev_if_pos (by simpa using c3) ?_
        rw [decide_eq_false (fun q => c3 q.2.1)]
        exact Ev.now _
    · refine ev_if_neg (by rw [decide_eq_false c2]; decide) ?_
      rw [decide_eq_false (fun q => c2 (by rw [← q.2.1]; exact q.2.2.1))]
      exact Ev.now _
  · refine ev_if_neg (by rw [decide_eq_false c1]; decide) ?_
    rw [decide_eq_false (fun q => c1 q.1)]
    exact Ev.now _
theorem RWithin_ev (v : Bool) (N : Nat) (b : Int) (v' : Bool) (M : Nat) (b' : Int) (h : N < M128) (g : M < M128) : Ev (fun k => ddiref03_Within.f k v (iH N) (iL N) b v' (iH M) (iL M) b') (decide (WI v N b v' M b')) := by
  unfold ddiref03_Within.f
  refine Ev.bind (RValid_ev v N b h) ?_
  by_cases c1 : VP v N b
  · refine ev_if_pos (decide_eq_true c1) ?_
    by_cases c2 : b ≥ b'
    · refine ev_if_pos c2 (Ev.bind (RContains_ev v' M b' v N g h) ?_)
      have e : decide (CT v' M b' v N) = decide (WI v N b v' M b') := by
        apply decide_eq_decide.mpr
        exact ⟨fun q => ⟨c1, q.1, c2, q⟩, fun q => q.2.2.2⟩
      rw [e]
      exact Ev.now _
    · refine ev_if_neg c2 ?_
      rw [decide_eq_false (fun q => c2 q.2.2.1)]
      exact Ev.now _
  · refine ev_if_neg (by rw [decide_eq_false c1]; decide) ?_
    rw [decide_eq_false (fun q => c1 q.1)]
    exact Ev.now _
theorem ROverlap_ev (v : Bool) (N : Nat) (b : Int) (v' : Bool) (M : Nat) (b' : Int) (h : N < M128) (g : M < M128) : Ev (fun k => ddiref03_Overlap.f k v (iH N) (iL N) b v' (iH M) (iL M) b') (decide (WI v N b v' M b' ∨ WI v' M b' v N b)) := by
  unfold ddiref03_Overlap.f
  refine Ev.bind (RWithin_ev v N b v' M b' h g) ?_
  by_cases c : WI v N b v' M b'
  · refine ev_if_pos (decide_eq_true c) ?_
    rw [decide_eq_true (Or.inl c)]
    exact Ev.now _
  · refine ev_if_neg (by rw [decide_eq_false c]; decide) (Ev.bind (RWithin_ev v' M b' v N b g h) ?_)
    have e : decide (WI v' M b' v N b) = decide (WI v N b v' M b' ∨ WI v' M b' v N b) := by
      apply decide_eq_decide.mpr
      exact ⟨Or.inr, fun q => q.resolve_left c⟩
    rw [e]
    exact Ev.now _
theorem RcmpP_eq (v : Bool) (N : Nat) (b : Int) (v' : Bool) (M : Nat) (b' : Int) : ddiref03_Compare.f v (iH N) (iL N) b v' (iH M) (iL M) b' = some (cmpP v N b v' M b') := by
  unfold ddiref03_Compare.f cmpP
  rw [RcmpA_eq]
  simp only [Option.bind_some]
  by_cases h : cmpA v N v' M = 0
  · rw [if_pos h, if_pos h]
    by_cases h1 : b < b'
    · rw [if_pos h1, if_pos h1]
    · rw [if_neg h1, if_neg h1]
      by_cases h2 : b > b'
      · rw [if_pos h2, if_pos h2]
      · rw [if_neg h2, if_neg h2]
  · rw [if_neg h, if_neg h]
end Go.Proofs.YteflcmmandlknaaGreatDoor.PrxR
