/-
  Compare of package addr is a total order of any three values, with IPv4 first: the plain statement of AddrOrder. Conditions: the numbers are of uint64.
-/
import Derived.Test.YtmkgjibmfabbdaaStAddrOrder
import Derived.Test.YtmkgjibmfabbdaaNum
namespace Go.Proofs.Ytmkgjibmfabbdaa.Pure
open Go.RowKit Go.Proofs.YtmkgjibmfabbdaaW.PrintWords Go.Proofs.Ytmkgjibmfabbdaa.Num Go.Proofs.Ytmkgjibmfabbdaa.Q
set_option linter.unusedVariables false
set_option linter.unusedSimpArgs false
def tot (hi lo : Int) : Int := hi * 18446744073709551616 + lo
def cmpT (v : Bool) (t : Int) (v' : Bool) (t' : Int) : Int := if v = v' then (if t < t' then -1 else if t' < t then 1 else 0) else if v' then -1 else 1
theorem number_eq (a b : Int) : addr_number.f a b = some (if a < b then -1 else if b < a then 1 else 0) := by
  unfold addr_number.f
  by_cases h : a < b
  · simp [h]
  · by_cases g : b < a <;> simp [h, g]
theorem compare_eq (k : Nat) {v v' : Bool} {hi lo hi' lo' : Int} (h1 : U64 hi) (h2 : U64 lo) (h3 : U64 hi') (h4 : U64 lo') : addr_Compare.f (k + 1) v hi lo v' hi' lo' = some (cmpT v (tot hi lo) v' (tot hi' lo')) := by
  unfold U64 at h1 h2 h3 h4
  unfold addr_Compare.f cmpT
  simp only [addr_Compare.j0, number_eq, Option.bind_some]
  cases v <;> cases v' <;> simp
  all_goals
    unfold tot
    by_cases c : hi = hi'
    · subst c; simp
    · rw [if_neg c]
      by_cases d : hi < hi'
      · simp [d]; omega
      · have d' : hi' < hi := by omega
        simp [d, d']; omega
theorem same_iff {v v' : Bool} {hi lo hi' lo' : Int} (h1 : U64 hi) (h2 : U64 lo) (h3 : U64 hi') (h4 : U64 lo') : (v == v' && (hi == hi' && lo == lo')) = (cmpT v (tot hi lo) v' (tot hi' lo') == 0) := by
  unfold U64 at h1 h2 h3 h4
  unfold cmpT tot
  rw [Bool.eq_iff_iff]
  cases v <;> cases v' <;> simp
  all_goals
    by_cases c : hi * 18446744073709551616 + lo < hi' * 18446744073709551616 + lo'
    · rw [if_pos c]; simp; omega
    · rw [if_neg c]
      by_cases d : hi' * 18446744073709551616 + lo' < hi * 18446744073709551616 + lo
      · rw [if_pos d]; simp; omega
      · rw [if_neg d]; simp; omega
theorem cmpT_range (v : Bool) (t : Int) (v' : Bool) (t' : Int) : cmpT v t v' t' = -1 ∨ cmpT v t v' t' = 0 ∨ cmpT v t v' t' = 1 := by
  unfold cmpT; repeat' split
  all_goals omega
theorem cmpT_neg (v : Bool) (t : Int) (v' : Bool) (t' : Int) : cmpT v' t' v t = - cmpT v t v' t' := by
  unfold cmpT
  cases v <;> cases v' <;> simp
  all_goals (split <;> split <;> omega)
theorem cmpT_le (v : Bool) (t : Int) (v' : Bool) (t' : Int) (v'' : Bool) (t'' : Int) (h1 : cmpT v t v' t' ≤ 0) (h2 : cmpT v' t' v'' t'' ≤ 0) : cmpT v t v'' t'' ≤ 0 := by
  unfold cmpT at *
  cases v <;> cases v' <;> cases v'' <;> simp at *
  all_goals (repeat' split at h1)
  all_goals (repeat' split at h2)
  all_goals (repeat' split)
  all_goals omega
theorem cmpT_v6 (v : Bool) (t : Int) (v' : Bool) (t' : Int) (h : v ≠ v') : decide (cmpT v t v' t' < 0) = v' := by
  unfold cmpT; cases v <;> cases v' <;> simp_all
theorem AddrOrder : StAddrOrder.Pure := by
  intro v0 h0 l0 v1 h1 l1 v2 h2 l2 w1 w2 w3 w4 w5 w6
  have u1 := u64_of_wf w1
  have u2 := u64_of_wf w2
  have u3 := u64_of_wf w3
  have u4 := u64_of_wf w4
  have u5 := u64_of_wf w5
  have u6 := u64_of_wf w6
  refine ⟨9, ?_⟩
  unfold ddilaw02_AddrOrder.f
  rw [compare_eq 8 (v := false) (hi := 0) (lo := 9) (v' := true) (hi' := 0) (lo' := 0) (by unfold U64; omega) (by unfold U64; omega) (by unfold U64; omega) (by unfold U64; omega)]
  rw [compare_eq 8 (v := true) (hi := 1) (lo := 0) (v' := true) (hi' := 0) (lo' := 2) (by unfold U64; omega) (by unfold U64; omega) (by unfold U64; omega) (by unfold U64; omega)]
  have e1 : cmpT false (tot 0 9) true (tot 0 0) = -1 := rfl
  have e2 : cmpT true (tot 1 0) true (tot 0 2) = 1 := rfl
  rw [e1, e2]
  simp only [Option.bind_some, if_true, ddilaw02_AddrOrder.j0]
  rw [compare_eq 7 u1 u2 u3 u4, compare_eq 7 u3 u4 u5 u6, compare_eq 7 u1 u2 u5 u6, compare_eq 7 u3 u4 u1 u2, same_iff u1 u2 u3 u4]
  simp only [Option.bind_some]
  have r1 := cmpT_range v0 (tot h0 l0) v1 (tot h1 l1)
  have n1 := cmpT_neg v0 (tot h0 l0) v1 (tot h1 l1)
  rw [n1, wrap64_id (by omega) (by omega)]
  have hle := cmpT_le v0 (tot h0 l0) v1 (tot h1 l1) v2 (tot h2 l2)
  have hge := cmpT_le v2 (tot h2 l2) v1 (tot h1 l1) v0 (tot h0 l0)
  rw [n1, cmpT_neg v1 (tot h1 l1) v2 (tot h2 l2), cmpT_neg v0 (tot h0 l0) v2 (tot h2 l2)] at hge
  have h6 := cmpT_v6 v0 (tot h0 l0) v1 (tot h1 l1)
  generalize cmpT v0 (tot h0 l0) v1 (tot h1 l1) = x at *
  generalize cmpT v1 (tot h1 l1) v2 (tot h2 l2) = y at *
  generalize cmpT v0 (tot h0 l0) v2 (tot h2 l2) = z at *
  rw [if_neg (by decide), if_neg (by omega), if_neg (by omega), if_neg (by simp)]
  simp only [ddilaw02_AddrOrder.j1, ddilaw02_AddrOrder.j2, ddilaw02_AddrOrder.j3]
  by_cases hv : v0 = v1
  · simp [hv]
    by_cases c1 : x ≤ 0
    · by_cases c2 : y ≤ 0
      · simp [c1, c2, hle c1 c2]
      · simp [c1, c2]
        by_cases c3 : 0 ≤ x
        · simp [c3]; intro c4; have := hge (by omega) (by omega); omega
        · simp [c3]
    · by_cases c3 : 0 ≤ y
      · have := hge (by omega) (by omega)
        simp [c1, c3]; omega
      · simp [c1, c3]
  · have hx := h6 hv
    simp [hv, hx]
    by_cases c1 : x ≤ 0
    · by_cases c2 : y ≤ 0
      · simp [c1, c2, hle c1 c2]
      · simp [c1, c2]
        by_cases c3 : 0 ≤ x
        · simp [c3]; intro c4; have := hge (by omega) (by omega); omega
        · simp [c3]
    · by_cases c3 : 0 ≤ y
      · have := hge (by omega) (by omega)
        simp [c1, c3]; omega
      · simp [c1, c3]
end Go.Proofs.Ytmkgjibmfabbdaa.Pure
