/-
  Sub inverts Add, and two additions are one: the plain statement of AddrSteps. Conditions: the numbers are of uint64.
-/
import Derived.Test.YtmkgjibmfabbdaaStAddrSteps
import Derived.Test.YtmkgjibmfabbdaaAd
namespace Go.Proofs.Ytmkgjibmfabbdaa.Pure
open Go.RowKit Go.Proofs.Ytmkgjibmfabbdaa.Num Go.Proofs.Ytmkgjibmfabbdaa.Ad Go.Proofs.Ytmkgjibmfabbdaa.P
theorem steps_j1 {v : Bool} {hi lo n p : Int} (h1 : U64 hi) (h2 : U64 lo) (h3 : U64 n) (h4 : U64 p) (hp : p ≤ n) (hv : vld v hi lo = true) (ht : total hi lo + n < limit v) :
    ddilaw02_AddrSteps.j1 8 n p v hi lo v ((total hi lo + n) / 18446744073709551616) ((total hi lo + n) % 18446744073709551616) = some true := by
  have hb : U64 ((total hi lo + n) / 18446744073709551616) ∧ U64 ((total hi lo + n) % 18446744073709551616) := by
    have := addS_u64 (v := v) h1 h2 h3
    rw [addS_pos hv ht] at this; exact this
  have htt : total ((total hi lo + n) / 18446744073709551616) ((total hi lo + n) % 18446744073709551616) = total hi lo + n := by unfold total; omega
  have hvb : vld v ((total hi lo + n) / 18446744073709551616) ((total hi lo + n) % 18446744073709551616) = true := by
    cases v
    · rw [limit_false] at ht
      unfold U64 at *
      unfold vld; unfold total at *; simp; omega
    · rfl
  simp only [ddilaw02_AddrSteps.j1]
  rw [addr_Sub_eq 6 hb.1 hb.2 h1 h2, addr_Add_eq h1 h2 h4]
  have hp' : total hi lo + p < limit v := by omega
  unfold U64 at h3 h4
  rw [subS_pos hvb hv (by rw [htt]; omega) (by rw [htt]; omega), htt, addS_pos hv hp']
  simp only [Option.bind_some]
  have hc : U64 ((total hi lo + p) / 18446744073709551616) ∧ U64 ((total hi lo + p) % 18446744073709551616) := by
    have := addS_u64 (v := v) h1 h2 (n := p) h4
    rw [addS_pos hv hp'] at this; exact this
  have hw : IntKind.u64.wrap (n - p) = n - p := wrap_u64_id (by unfold U64; omega)
  have htc : total ((total hi lo + p) / 18446744073709551616) ((total hi lo + p) % 18446744073709551616) = total hi lo + p := by unfold total; omega
  have hvc : vld v ((total hi lo + p) / 18446744073709551616) ((total hi lo + p) % 18446744073709551616) = true := by
    cases v
    · rw [limit_false] at hp'
      unfold U64 at *
      unfold vld; unfold total at *; simp; omega
    · rfl
  rw [hw, addr_Add_eq hc.1 hc.2 (by unfold U64; omega), addS_pos hvc (by rw [htc]; omega), htc]
  simp only [Option.bind_some]
  rw [addr_Compare_eq 6 h1 h2 hb.1 hb.2, addr_Valid_eq, hvb]
  have e1 : total hi lo + p + (n - p) = total hi lo + n := by omega
  have e2 : total hi lo + n - total hi lo = n := by omega
  have e3 : cmpS v hi lo v ((total hi lo + n) / 18446744073709551616) ((total hi lo + n) % 18446744073709551616) ≤ 0 := by
    unfold cmpS
    rw [if_pos rfl, htt]
    by_cases c : total hi lo < total hi lo + n
    · rw [if_pos c]; omega
    · rw [if_neg c, if_neg (by omega)]; omega
  rw [e1, e2]
  simp [e3]
theorem AddrSteps : StAddrSteps.Pure := by
  intro v hi lo n p w1 w2 w3 w4
  have h1 := u64_of_wf w1
  have h2 := u64_of_wf w2
  have h3 := u64_of_wf w3
  have h4 := u64_of_wf w4
  refine ⟨9, ?_⟩
  unfold ddilaw02_AddrSteps.f
  rw [addr_Sub_eq 8 (by unfold U64; omega) (by unfold U64; omega) (by unfold U64; omega) (by unfold U64; omega)]
  have e : subS false 0 5 false 0 3 = (2, true) := rfl
  rw [e]
  simp only [Option.bind_some, if_true, ddilaw02_AddrSteps.j0]
  rw [addr_Add_eq h1 h2 h3]
  simp only [Option.bind_some]
  cases hv : vld v hi lo
  · rw [addS_bad hv]
    simp [addr_Valid_eq, hv]
  · by_cases ht : total hi lo + n < limit v
    · rw [addS_pos hv ht]
      simp only [if_true]
      by_cases hp : p > n
      · have := steps_j1 h1 h2 h3 h3 (Int.le_refl n) hv ht
        simp [hp, this]
      · have := steps_j1 h1 h2 h3 h4 (by omega) hv ht
        simp [hp, this]
    · rw [addS_neg ht]
      have hn : n > 0 := by
        unfold U64 at *
        rcases vld_true hv with rfl | ⟨rfl, g0, g1⟩
        · rw [limit_true] at ht; unfold total at ht; omega
        · rw [limit_false] at ht; unfold total at ht; omega
      simp [hn]
end Go.Proofs.Ytmkgjibmfabbdaa.Pure
