/-
  The text of an address: the reference's Print answers as the program's. Conditions: numbers within their kinds.
-/
import Derived.Test.YteflcmmandlknaaGreatDoorAddrQb
namespace Go.Proofs.YteflcmmandlknaaGreatDoor.Qc
open Go.RowKit Go.Proofs.YteflcmmandlknaaGreatDoorW.PrintWords Go.Proofs.YteflcmmandlknaaGreatDoorW.PrintLast Go.Proofs.YteflcmmandlknaaGreatDoor.Num Go.Proofs.YteflcmmandlknaaGreatDoor.PA Go.Proofs.YteflcmmandlknaaGreatDoor.Qa Go.Proofs.YteflcmmandlknaaGreatDoor.Qb
set_option linter.unusedVariables false
set_option linter.unusedSimpArgs false

/-- The text ahead of the j-th group, the gap at A of N groups. -/
def Wt (g : List Int) (A N j : Nat) : List UInt8 := if j ≤ A then J (g.take j) else J (g.take A) ++ ([58, 58] ++ J ((g.take j).drop (A + N)))
theorem Wt_len (g : List Int) (hg : g.length = 8) (A N j : Nat) : (Wt g A N j).length ≤ 90 := by
  unfold Wt
  by_cases h : j ≤ A
  · rw [if_pos h]
    have := J_len (g.take j)
    rw [List.length_take] at this
    omega
  · rw [if_neg h]
    have h1 := J_len (g.take A)
    have h2 := J_len ((g.take j).drop (A + N))
    rw [List.length_take] at h1
    rw [List.length_drop, List.length_take] at h2
    simp only [List.length_append, List.length_cons, List.length_nil]
    omega
theorem take_one (g : List Int) (j : Nat) (h : j < g.length) : g.take (j + 1) = g.take j ++ [g[j]] := by
  rw [List.take_add_one, List.getElem?_eq_getElem h]
  rfl
theorem j4_ev (v : Bool) (hi lo : Int) (h1 : U64 hi) (h2 : U64 lo) (A N : Int) (j : Nat) (hj : j < 8) (f : Bool) (s : List UInt8) (hs : s.length ≤ 100) (r : ByteArray × Int)
    (hn : Ev (fun k => ddiref02_Print.l0 k A N (bs (s ++ ((if f = true then [58] else []) ++ hx (rd (grp8 hi lo) (j : Int))))) ((j + 1 : Nat) : Int) v hi lo) r) :
    Ev (fun k => ddiref02_Print.j4 k A N (bs s) (j : Int) f v hi lo) r := by
  have hr : 0 ≤ rd (grp8 hi lo) (j : Int) ∧ rd (grp8 hi lo) (j : Int) < 65536 := by
    rw [rd_at (grp8 hi lo) j hj]
    exact grp_range hi lo _ (List.getElem_mem _)
  have hl := hx_len (rd (grp8 hi lo) (j : Int))
  have e : (⟨#[58]⟩ : ByteArray) = bs [58] := rfl
  refine Ev.step (fun k => by rw [ddiref02_Print.j4]) ?_
  rw [wrap64_id (by omega) (by omega)]
  cases f with
  | true =>
    refine ev_if_pos rfl (ev_if_pos (by rw [bs_size]; omega) ?_)
    refine Ev.bind (part_ev v hi lo h1 h2 j hj) (Ev.bind (groupText_ev _ hr.1 hr.2) ?_)
    rw [e, bs_app, bs_app]
    refine ev_if_pos (by rw [bs_size, bs_size, List.length_append]; simp only [List.length_cons, List.length_nil]; omega) ?_
    rw [List.append_assoc]
    exact hn
  | false =>
    refine ev_if_neg (by decide) ?_
    refine Ev.bind (part_ev v hi lo h1 h2 j hj) (Ev.bind (groupText_ev _ hr.1 hr.2) ?_)
    rw [bs_app]
    refine ev_if_pos (by rw [bs_size, bs_size]; omega) ?_
    exact hn
theorem l0_ev (v : Bool) (hi lo : Int) (h1 : U64 hi) (h2 : U64 lo) (A N : Nat) (hAN : (A = 8 ∧ N = 0) ∨ (2 ≤ N ∧ A + N ≤ 8)) :
    ∀ (d j : Nat), j + d = 8 → Ev (fun k => ddiref02_Print.l0 k (A : Int) (N : Int) (bs (Wt (grp8 hi lo) A N j)) (j : Int) v hi lo) (bs (Wt (grp8 hi lo) A N 8), 0)
  | 0, j, hd => by
    have hj : j = 8 := by omega
    subst hj
    refine Ev.step (fun k => by rw [ddiref02_Print.l0]) (ev_if_neg (by decide) ?_)
    exact Ev.now _
  | d + 1, j, hd => by
    have ih := l0_ev v hi lo h1 h2 A N hAN d (j + 1) (by omega)
    have hlen : (grp8 hi lo).length = 8 := rfl
    have hW := Wt_len (grp8 hi lo) hlen A N j
    have hg : rd (grp8 hi lo) (j : Int) = (grp8 hi lo)[j]'(by omega) := rd_at _ _ _
    have hw1 : wrap64 ((A : Int) + (N : Int)) = ((A + N : Nat) : Int) := by rw [wrap64_id (by omega) (by omega)]; omega
    have hw2 : wrap64 ((j : Int) + 1) = ((j + 1 : Nat) : Int) := by rw [wrap64_id (by omega) (by omega)]; omega
    refine Ev.step (fun k => by rw [ddiref02_Print.l0]) (ev_if_pos (by omega) ?_)
    by_cases hA : j = A
    · -- the gap begins
      refine ev_if_pos (by omega) (ev_if_pos (by rw [bs_size]; omega) (Ev.step (fun k => by rw [ddiref02_Print.j2]) (ev_if_pos (by omega) ?_)))
      refine Ev.step (fun k => by rw [ddiref02_Print.j3]) (ev_if_pos (by rw [hw1]; exact decide_eq_true (by omega)) ?_)
      rw [hw2, show (⟨#[58, 58]⟩ : ByteArray) = bs [58, 58] from rfl, bs_app]
      have e : Wt (grp8 hi lo) A N j ++ [58, 58] = Wt (grp8 hi lo) A N (j + 1) := by
        unfold Wt
        rw [if_pos (by omega), if_neg (by omega), List.drop_of_length_le (by rw [List.length_take]; omega), J_nil, List.append_nil, hA]
      rw [e]
      exact ih
    · refine ev_if_neg (by omega) (Ev.step (fun k => by rw [ddiref02_Print.j2]) ?_)
      by_cases hlt : j < A
      · -- ahead of the gap
        refine ev_if_neg (by omega) (Ev.step (fun k => by rw [ddiref02_Print.j3]) (ev_if_neg (by decide) ?_))
        have e : Wt (grp8 hi lo) A N (j + 1) = Wt (grp8 hi lo) A N j ++ ((if decide (0 < j) = true then [58] else []) ++ hx (rd (grp8 hi lo) (j : Int))) := by
          unfold Wt
          rw [if_pos (by omega), if_pos (by omega), take_one _ _ (by omega), J_snoc, hg]
          by_cases h0 : j = 0
          · subst h0
            rfl
          · rw [if_neg (by intro h; have := congrArg List.length h; rw [List.length_take] at this; simp only [List.length_nil] at this; omega), if_pos (decide_eq_true (by omega))]
        rw [e] at ih
        by_cases h0 : j = 0
        · refine ev_if_neg (by omega) ?_
          rw [show (decide (0 < j)) = false from decide_eq_false (by omega)] at ih
          exact j4_ev v hi lo h1 h2 _ _ j (by omega) false _ (by omega) _ ih
        · refine ev_if_pos (by omega) ?_
          rw [show (decide (0 < j)) = true from decide_eq_true (by omega)] at ih
          rw [hw1, show ((j : Int) != ((A + N : Nat) : Int)) = true from by rw [bne_iff_ne]; omega]
          exact j4_ev v hi lo h1 h2 _ _ j (by omega) true _ (by omega) _ ih
      · refine ev_if_pos (by omega) (Ev.step (fun k => by rw [ddiref02_Print.j3]) ?_)
        rw [hw1]
        by_cases hin : j < A + N
        · -- within the gap
          refine ev_if_pos (decide_eq_true (by omega)) ?_
          have e : Wt (grp8 hi lo) A N j = Wt (grp8 hi lo) A N (j + 1) := by
            unfold Wt
            rw [if_neg (by omega), if_neg (by omega), List.drop_of_length_le (by rw [List.length_take]; omega), List.drop_of_length_le (by rw [List.length_take]; omega)]
          rw [hw2, e]
          exact ih
        · -- behind the gap
          refine ev_if_neg (by rw [decide_eq_false (by omega)]; decide) (ev_if_pos (by omega) ?_)
          have e : Wt (grp8 hi lo) A N (j + 1) = Wt (grp8 hi lo) A N j ++ ((if decide (A + N < j) = true then [58] else []) ++ hx (rd (grp8 hi lo) (j : Int))) := by
            unfold Wt
            rw [if_neg (by omega), if_neg (by omega), take_one _ _ (by omega), List.drop_append_of_le_length (by rw [List.length_take]; omega), J_snoc, hg]
            by_cases h0 : j = A + N
            · have hnil : List.drop (A + N) (List.take j (grp8 hi lo)) = [] := List.drop_of_length_le (by rw [List.length_take]; omega)
              rw [hnil, if_pos rfl, if_neg (by rw [decide_eq_false (by omega)]; decide), J_nil, List.append_nil, List.append_assoc, List.nil_append]
            · rw [if_neg (by intro h; have := congrArg List.length h; rw [List.length_drop, List.length_take] at this; simp only [List.length_nil] at this; omega), if_pos (decide_eq_true (by omega))]
              simp only [List.append_assoc]
          rw [e] at ih
          by_cases h0 : j = A + N
          · rw [show (decide (A + N < j)) = false from decide_eq_false (by omega)] at ih
            rw [show ((j : Int) != ((A + N : Nat) : Int)) = false from by rw [h0]; exact bne_self_eq_false _]
            exact j4_ev v hi lo h1 h2 _ _ j (by omega) false _ (by omega) _ ih
          · rw [show (decide (A + N < j)) = true from decide_eq_true (by omega)] at ih
            rw [show ((j : Int) != ((A + N : Nat) : Int)) = true from by rw [bne_iff_ne]; omega]
            exact j4_ev v hi lo h1 h2 _ _ j (by omega) true _ (by omega) _ ih
theorem six_ev (v : Bool) (hi lo : Int) (h1 : U64 hi) (h2 : U64 lo) (A N : Nat) (hAN : (A = 8 ∧ N = 0) ∨ (2 ≤ N ∧ A + N ≤ 8)) :
    Ev (fun k => ddiref02_Print.j0 k (A : Int) (N : Int) v hi lo) (bs (Wt (grp8 hi lo) A N 8), 0) := by
  refine Ev.step (fun k => by rw [ddiref02_Print.j0]) ?_
  have h := l0_ev v hi lo h1 h2 A N hAN 8 0 (by omega)
  have e : bs (Wt (grp8 hi lo) A N 0) = (⟨#[]⟩ : ByteArray) := by
    unfold Wt
    rw [if_pos (by omega)]
    rfl
  rw [e] at h
  exact h
theorem ref_Print_ev (v : Bool) (hi lo : Int) (h1 : U64 hi) (h2 : U64 lo) : Ev (fun k => ddiref02_Print.f k v hi lo) (outP v hi lo) := by
  unfold ddiref02_Print.f outP
  cases v with
  | true =>
    simp only [if_true]
    refine ev_bind_const (a := true) (by unfold ddiref02_Valid.f; rw [if_pos rfl]) ?_
    refine ev_if_pos rfl ?_
    refine Ev.bind (run_ev true hi lo h1 h2) ?_
    have hle := longest_le (grp8 hi lo) rfl
    unfold out6
    by_cases h : (longest (grp8 hi lo)).2 < 2
    · rw [if_pos h]
      refine ev_if_pos (by show ((longest (grp8 hi lo)).2 : Int) < 2; omega) ?_
      exact six_ev true hi lo h1 h2 8 0 (Or.inl ⟨rfl, rfl⟩)
    · rw [if_neg h]
      refine ev_if_neg (by show ¬ ((longest (grp8 hi lo)).2 : Int) < 2; omega) ?_
      have h6 := six_ev true hi lo h1 h2 (longest (grp8 hi lo)).1 (longest (grp8 hi lo)).2 (Or.inr ⟨by omega, hle⟩)
      have e : Wt (grp8 hi lo) (longest (grp8 hi lo)).1 (longest (grp8 hi lo)).2 8 = J ((grp8 hi lo).take (longest (grp8 hi lo)).1) ++ [58, 58] ++ J ((grp8 hi lo).drop ((longest (grp8 hi lo)).1 + (longest (grp8 hi lo)).2)) := by
        unfold Wt
        rw [if_neg (by omega), List.append_assoc]
        rfl
      rw [e] at h6
      exact h6
  | false =>
    simp only [Bool.false_eq_true, if_false]
    by_cases h : hi = 0 ∧ lo ≤ 4294967295
    · rw [if_pos h]
      refine ev_bind_const (a := true) (by unfold ddiref02_Valid.f; rw [if_neg (by decide), if_pos h.1, decide_eq_true (by omega)]) ?_
      refine ev_if_pos rfl ?_
      obtain ⟨n, rfl⟩ : ∃ n : Nat, lo = n := ⟨lo.toNat, by have := h2.1; omega⟩
      have hn : n ≤ 4294967295 := by have := h.2; omega
      have l0 := dd_len (n / 16777216 % 256)
      have l1 := dd_len (n / 65536 % 256)
      have l2 := dd_len (n / 256 % 256)
      have l3 := dd_len (n % 256)
      have q0 : IntKind.u64.wrap (Int.tdiv (n : Int) 16777216) = ((n / 16777216 % 256 : Nat) : Int) := by
        rw [show (16777216 : Int) = ((16777216 : Nat) : Int) from rfl, tdiv_nat, wrap_nat _ (by omega)]
        omega
      have q1 : Int.tmod (IntKind.u64.wrap (Int.tdiv (n : Int) 65536)) 256 = ((n / 65536 % 256 : Nat) : Int) := by
        rw [show (65536 : Int) = ((65536 : Nat) : Int) from rfl, tdiv_nat, wrap_nat _ (by omega), show (256 : Int) = ((256 : Nat) : Int) from rfl, tmod_nat]
      have q2 : Int.tmod (IntKind.u64.wrap (Int.tdiv (n : Int) 256)) 256 = ((n / 256 % 256 : Nat) : Int) := by
        rw [show (256 : Int) = ((256 : Nat) : Int) from rfl, tdiv_nat, wrap_nat _ (by omega), tmod_nat]
      have q3 : Int.tmod (n : Int) 256 = ((n % 256 : Nat) : Int) := by
        rw [show (256 : Int) = ((256 : Nat) : Int) from rfl, tmod_nat]
      have hdot : (⟨#[46]⟩ : ByteArray) = bs [46] := rfl
      have c0 : (bs (dd (n / 16777216 % 256))).size + 1 ≤ 9223372036854775807 := by rw [bs_size]; omega
      rw [q0, q1, q2, q3, Int.toNat_natCast, out4_eq]
      refine ev_bind_const (dec_at _ (by omega)) ?_
      refine ev_if_pos c0 ?_
      refine ev_bind_const (dec_at _ (by omega)) ?_
      rw [hdot, bs_app, bs_app]
      refine ev_if_pos (by rw [bs_size, bs_size]; simp only [List.length_append, List.length_cons, List.length_nil]; omega) (ev_if_pos (by rw [bs_size]; simp only [List.length_append, List.length_cons, List.length_nil]; omega) ?_)
      refine ev_bind_const (dec_at _ (by omega)) ?_
      rw [bs_app, bs_app]
      refine ev_if_pos (by rw [bs_size, bs_size]; simp only [List.length_append, List.length_cons, List.length_nil]; omega) (ev_if_pos (by rw [bs_size]; simp only [List.length_append, List.length_cons, List.length_nil]; omega) ?_)
      refine ev_bind_const (dec_at _ (by omega)) ?_
      rw [bs_app, bs_app]
      refine ev_if_pos (by rw [bs_size, bs_size]; simp only [List.length_append, List.length_cons, List.length_nil]; omega) ?_
      simp only [List.append_assoc]
      exact Ev.now _
    · rw [if_neg h]
      refine ev_bind_const (a := false) ?_ ?_
      · unfold ddiref02_Valid.f
        rw [if_neg (by decide)]
        by_cases h0 : hi = 0
        · rw [if_pos h0, decide_eq_false (fun hc => h ⟨h0, by omega⟩)]
        · rw [if_neg h0]
      · refine ev_if_neg (by decide) ?_
        exact Ev.now _
end Go.Proofs.YteflcmmandlknaaGreatDoor.Qc
