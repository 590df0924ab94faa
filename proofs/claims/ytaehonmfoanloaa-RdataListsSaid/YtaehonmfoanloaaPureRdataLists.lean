/-
  Set and Types of package rdata invert each other for known types: the plain statement of RdataLists. Conditions: none beyond the row's.
-/
import Derived.Test.YtaehonmfoanloaaPx2
import Derived.Test.YtaehonmfoanloaaPx3
import Derived.Test.YtaehonmfoanloaaStRdataLists
import Derived.Test.YtaehonmfoanloaaRd
namespace Go.Proofs.Ytaehonmfoanloaa.Pure
open Go.RowKit Go.Proofs.YtaehonmfoanloaaW.PrintWords Go.Proofs.Ytaehonmfoanloaa.Num Go.Proofs.Ytaehonmfoanloaa.Bits Go.Proofs.Ytaehonmfoanloaa.Rd Go.Proofs.Ytaehonmfoanloaa.P
set_option linter.unusedVariables false
set_option linter.unusedSimpArgs false
theorem same_l0 (l : List Int) (hl : l.length ≤ 140737488351232) (d : Nat) : ∀ i : Nat, i + d = l.length → Ev (fun k => ddilaw05_same.l0 k l l (i : Int)) true := by
  induction d with
  | zero =>
    intro i h
    refine ev_of_eq 1 (fun k => ?_)
    simp only [ddilaw05_same.l0]
    rw [if_neg (by omega)]
  | succ d ih =>
    intro i h
    refine Ev.step (fun k => by rw [ddilaw05_same.l0]) (ev_if_pos (by omega) (ev_if_pos (by omega) (ev_if_pos (by omega) (ev_if_pos rfl ?_))))
    rw [wrap64_id (by omega) (by omega), show (i : Int) + 1 = ((i + 1 : Nat) : Int) by omega]
    exact ih (i + 1) (by omega)
theorem same_ev (l : List Int) (hl : l.length ≤ 140737488351232) : Ev (fun k => ddilaw05_same.f k l l) true := by
  unfold ddilaw05_same.f
  exact ev_if_pos rfl (same_l0 l hl l.length 0 (by omega))
theorem has_l0 (l : List Int) (x : Int) (hl : l.length ≤ 140737488351232) (r : List Int) : ∀ i : Nat, l.drop i = r → i ≤ l.length → Ev (fun k => ddilaw05_has.l0 k l x (i : Int)) (decide (x ∈ r)) := by
  induction r with
  | nil =>
    intro i h hi
    have := drop_nil_le h
    refine ev_of_eq 1 (fun k => ?_)
    simp only [ddilaw05_has.l0]
    rw [if_neg (by omega)]; rfl
  | cons y r ih =>
    intro i h hi
    obtain ⟨e, hlt, hd⟩ := rd_drop h
    refine Ev.step (fun k => by rw [ddilaw05_has.l0]) (ev_if_pos (by omega) (ev_if_pos (by omega) ?_))
    rw [e]
    by_cases c : y = x
    · refine ev_if_pos c ?_
      rw [show decide (x ∈ y :: r) = true by simp [c]]
      exact Ev.now _
    · refine ev_if_neg c ?_
      rw [wrap64_id (by omega) (by omega), show (i : Int) + 1 = ((i + 1 : Nat) : Int) by omega]
      have c' : ¬ x = y := fun h => c h.symm
      rw [show decide (x ∈ y :: r) = decide (x ∈ r) by simp [c']]
      exact ih (i + 1) hd (by omega)
theorem has_ev (l : List Int) (x : Int) (hl : l.length ≤ 140737488351232) (h : x ∈ l) : Ev (fun k => ddilaw05_has.f k l x) true := by
  unfold ddilaw05_has.f
  have := has_l0 l x hl l 0 rfl (by omega)
  rw [show decide (x ∈ l) = true by simp [h]] at this
  exact this
theorem setS_known : ∀ (l : List Int) (a : Nat), (setS l a).2 = true → ∀ t ∈ l, known t = true
  | [], _, _, t, h => by cases h
  | x :: r, a, h, t, ht => by
    unfold setS at h
    cases hk : known x
    · rw [hk] at h; simp at h
    · rw [hk] at h
      rcases List.mem_cons.1 ht with rfl | ht
      · exact hk
      · exact setS_known r _ h t ht
theorem setS_ok : ∀ (l : List Int) (a : Nat), (∀ t ∈ l, known t = true) → (setS l a).2 = true
  | [], _, _ => rfl
  | x :: r, a, h => by
    unfold setS
    rw [h x (List.mem_cons_self ..), if_pos rfl]
    exact setS_ok r _ (fun t ht => h t (List.mem_cons_of_mem _ ht))
theorem setS_bits : ∀ (l : List Int) (a : Nat), (∀ t ∈ l, known t = true) → ∀ i : Nat, (setS l a).1.testBit i = (a.testBit i || decide ((i : Int) ∈ l))
  | [], a, _, i => by simp [setS]
  | x :: r, a, h, i => by
    have hx := h x (List.mem_cons_self ..)
    unfold setS
    rw [hx, if_pos rfl, setS_bits r _ (fun t ht => h t (List.mem_cons_of_mem _ ht)) i, Nat.testBit_or, Nat.testBit_two_pow, Bool.or_assoc]
    congr 1
    have hr := known_range hx
    have e : decide (x.toNat = i) = decide ((i : Int) = x) := by
      rw [decide_eq_decide]; omega
    rw [e]
    simp
theorem typesS_mem (a : Nat) (t : Int) : t ∈ typesS a ↔ known t = true ∧ bitOf a t = true := by
  unfold typesS
  rw [List.mem_filter, known_mem]
theorem typesS_short (a : Nat) : (typesS a).length ≤ 14 := by
  unfold typesS
  exact Nat.le_trans (List.length_filter_le _ _) (by decide)
theorem types_rise : types.Pairwise (· < ·) := by decide
theorem typesS_rise (a : Nat) : (typesS a).Pairwise (· < ·) := types_rise.filter _
theorem rd_getElem {l : List Int} {i : Nat} (h : i < l.length) : rd l (i : Int) = l[i] := by
  unfold rd; simp [h]
theorem j4_ev (ts : List Int) (n : Nat) (hn : n < 18446744073709551616) (e : typesS n = ts) : Ev (fun k => ddilaw05_RdataLists.j4 k ts (n : Int) false) true := by
  have hs := typesS_short n
  refine Ev.step (fun k => by rw [ddilaw05_RdataLists.j4]) (ev_if_neg (by decide) ?_)
  refine Ev.bind (Types_ev hn) ?_
  rw [e]
  exact Ev.bind (same_ev ts (by rw [← e]; omega)) (Ev.now _)
theorem typesS_bits {a n : Nat} (h : ∀ i : Nat, known (i : Int) = true → n.testBit i = a.testBit i) : typesS n = typesS a := by
  unfold typesS
  apply List.filter_congr
  intro t ht
  obtain ⟨m, rfl, _, _⟩ := known_nat (known_mem.2 ht)
  exact h m (known_mem.2 ht)
theorem j3_ev {a : Nat} (ha : a < 18446744073709551616) : Ev (fun k => ddilaw05_RdataLists.j3 k (a : Int)) true := by
  have hs := typesS_short a
  have hkn : ∀ t ∈ typesS a, known t = true := fun t ht => ((typesS_mem a t).1 ht).1
  have hlt := setS_lt (typesS a) 0 (by decide)
  have hb := setS_bits (typesS a) 0 hkn
  have hok := setS_ok (typesS a) 0 hkn
  refine Ev.step (fun k => by rw [ddilaw05_RdataLists.j3]) ?_
  refine Ev.bind (Types_ev ha) (Ev.bind (Set_ev _ (by omega)) (ev_if_pos hok ?_))
  have e0 : Go.bits .andNot .u64 (castS (setS (typesS a) 0)).1 (a : Int) = 0 := by
    refine andNot_bits hlt ha (fun i hi => ?_)
    rw [hb i] at hi
    simp only [Nat.zero_testBit, Bool.false_or, decide_eq_true_eq] at hi
    exact ((typesS_mem a _).1 hi).2
  rw [e0]
  refine j4_ev (typesS a) (setS (typesS a) 0).1 hlt (typesS_bits (fun i hk => ?_))
  rw [hb i]
  simp only [Nat.zero_testBit, Bool.false_or]
  rw [Bool.eq_iff_iff, decide_eq_true_eq, typesS_mem]
  exact ⟨fun h => h.2, fun h => ⟨hk, h⟩⟩
theorem l1_ev (l ts : List Int) {a : Nat} (ha : a < 18446744073709551616) (hl : l.length ≤ 200) (ht : ts.length ≤ 14) (hm : ∀ x ∈ l, x ∈ ts) (d : Nat) : ∀ j : Nat, j + d = l.length → Ev (fun k => ddilaw05_RdataLists.l1 k l (a : Int) ts (j : Int)) true := by
  induction d with
  | zero =>
    intro j h
    exact Ev.step (fun k => by rw [ddilaw05_RdataLists.l1]) (ev_if_neg (by omega) (j3_ev ha))
  | succ d ih =>
    intro j h
    refine Ev.step (fun k => by rw [ddilaw05_RdataLists.l1]) (ev_if_pos (by omega) (ev_if_pos (by omega) ?_))
    rw [rd_getElem (by omega : j < l.length)]
    refine Ev.bind (has_ev ts _ (by omega) (hm _ (List.getElem_mem _))) (ev_if_pos rfl ?_)
    rw [wrap64_id (by omega) (by omega), show (j : Int) + 1 = ((j + 1 : Nat) : Int) by omega]
    exact ih (j + 1) (by omega)
theorem l0_ev (l ts : List Int) {a : Nat} (ha : a < 18446744073709551616) (hl : l.length ≤ 200) (ht : ts.length ≤ 14) (hm : ∀ x ∈ l, x ∈ ts) (hm' : ∀ x ∈ ts, x ∈ l) (hr : ts.Pairwise (· < ·)) (d : Nat) : ∀ i : Nat, i + d = ts.length → Ev (fun k => ddilaw05_RdataLists.l0 k l (a : Int) ts (i : Int)) true := by
  induction d with
  | zero =>
    intro i h
    have z : Ev (fun k => ddilaw05_RdataLists.l1 k l (a : Int) ts 0) true := l1_ev l ts ha hl ht hm l.length 0 (by omega)
    exact Ev.step (fun k => by rw [ddilaw05_RdataLists.l0]) (ev_if_neg (by omega) z)
  | succ d ih =>
    intro i h
    refine Ev.step (fun k => by rw [ddilaw05_RdataLists.l0]) (ev_if_pos (by omega) (ev_if_pos (by omega) ?_))
    rw [rd_getElem (by omega : i < ts.length)]
    refine Ev.bind (has_ev l _ (by omega) (hm' _ (List.getElem_mem _))) (ev_if_pos rfl ?_)
    rw [wrap64_id (x := (i : Int) + 1) (by omega) (by omega), show (i : Int) + 1 = ((i + 1 : Nat) : Int) by omega]
    by_cases c : (i : Int) > 0
    · refine ev_if_pos c ?_
      rw [wrap64_id (by omega) (by omega), show (i : Int) - 1 = ((i - 1 : Nat) : Int) by omega]
      refine ev_if_pos (by omega) (ev_if_pos (by omega) ?_)
      rw [rd_getElem (by omega : i - 1 < ts.length)]
      have := List.pairwise_iff_getElem.1 hr (i - 1) i (by omega) (by omega) (by omega)
      exact ev_if_neg (by omega) (ih (i + 1) (by omega))
    · exact ev_if_neg c (ih (i + 1) (by omega))
theorem bytes8 : Try.prog.bytesOf 3 = 8 := by kernel_rfl
theorem RdataLists : StRdataLists.Pure := by
  intro l a hl ha
  obtain ⟨hlen, hwf⟩ := hl
  rw [bytes8] at hlen
  obtain ⟨n, rfl, hn⟩ := u64_nat (u64_of_wf ha)
  refine Ev.rounds (g := fun k => ddilaw05_RdataLists.f k l (n : Int)) ?_
  unfold ddilaw05_RdataLists.f
  refine Ev.bind (Set_ev [48, 1, 1] (by decide)) (ev_if_pos (by decide +kernel) ?_)
  refine Ev.step (fun k => by rw [ddilaw05_RdataLists.j0]) (ev_if_neg (by decide +kernel) ?_)
  by_cases h2 : (l.length : Int) > 200
  · exact ev_if_pos h2 (Ev.now _)
  · refine ev_if_neg h2 (Ev.bind (Set_ev l (by omega)) ?_)
    cases hok : (setS l 0).2
    · exact ev_if_neg (by simp [castS, hok]) (j3_ev hn)
    · refine ev_if_pos hok ?_
      have hkn := setS_known l 0 hok
      have hb := setS_bits l 0 hkn
      have hlt := setS_lt l 0 (by decide)
      refine Ev.bind (Types_ev hlt) ?_
      have hiff : ∀ t, t ∈ typesS (setS l 0).1 ↔ t ∈ l := by
        intro t
        rw [typesS_mem]
        constructor
        · rintro ⟨h1, h2⟩
          obtain ⟨m, rfl, _, _⟩ := known_nat h1
          unfold bitOf at h2
          rw [Int.toNat_natCast, hb m] at h2
          simpa using h2
        · intro h
          have h1 := hkn t h
          refine ⟨h1, ?_⟩
          obtain ⟨m, rfl, _, _⟩ := known_nat h1
          unfold bitOf
          rw [Int.toNat_natCast, hb m]
          simp [h]
      exact l0_ev l _ hn (by omega) (typesS_short _) (fun x hx => (hiff x).2 hx) (fun x hx => (hiff x).1 hx) (typesS_rise _) (typesS (setS l 0).1).length 0 (by omega)
end Go.Proofs.Ytaehonmfoanloaa.Pure
