/-
  The law PrefixTree, told with numbers. Conditions: each theorem's own.
-/
import Derived.Test.YteflcmmandlknaaDoorPAx13
import Derived.Test.YteflcmmandlknaaDoorPAx16
import Derived.Test.YteflcmmandlknaaDoorPrxT
namespace Go.Proofs.YteflcmmandlknaaDoor.PrxTree
open Go.RowKit Go.Proofs.YteflcmmandlknaaDoorW.PrintWords Go.Proofs.YteflcmmandlknaaDoor.Num Go.Proofs.YteflcmmandlknaaDoor.PrxN Go.Proofs.YteflcmmandlknaaDoor.PrxS Go.Proofs.YteflcmmandlknaaDoor.PrxT Go.Proofs.YteflcmmandlknaaDoor.PA
set_option linter.unusedVariables false
set_option linter.unusedSimpArgs false
set_option maxRecDepth 100000

section
variable {K0 : Nat} (haw : ∀ m, K0 ≤ m → ddilaw03_awake.f m = some true)
include haw
theorem j2_eq (n : Nat) (hn : K0 ≤ n) (i : Bool) (v : Bool) (N : Nat) (b : Int) (v' : Bool) (M : Nat) (b' : Int) (va : Bool) (A : Nat) (ba : Int) (hi : i = true → b ≥ b') (h1 : 1 ≤ n) : ddilaw03_PrefixTree.j2 (n + 1) i false v (iH N) (iL N) b v' (iH M) (iL M) b' va (iH A) (iL A) ba = some true := by
  obtain ⟨n, rfl⟩ : ∃ m, n = m + 1 := ⟨n - 1, by omega⟩
  simp only [ddilaw03_PrefixTree.j2, Bool.false_eq_true, if_false]
  rw [cmpP_eq, cmpP_eq]
  simp only [Option.bind_some]
  have hr := cmpP_range v N b v' M b'
  have ha := cmpP_anti v N b v' M b'
  rw [ha, wrap64_id (by omega) (by omega), if_pos (by omega), eqB, haw _ hn]
  have he : ((cmpP v N b v' M b' == 0) == decide (v = v' ∧ N = M ∧ b = b')) = true := by
    by_cases c : v = v' ∧ N = M ∧ b = b'
    · rw [decide_eq_true c, (cmpP_zero v N b v' M b').mpr c]
      decide
    · rw [decide_eq_false c]
      have : ¬ cmpP v N b v' M b' = 0 := fun q => c ((cmpP_zero v N b v' M b').mp q)
      simp [this]
  rw [if_pos he]
  cases i
  · rfl
  · rw [if_pos rfl, if_pos (hi rfl)]
    rfl
theorem j1_eq (n : Nat) (hn : K0 ≤ n) (h1 : 1 ≤ n) {v : Bool} {N : Nat} {b : Int} {v' : Bool} {M : Nat} {b' : Int} (va : Bool) (A : Nat) (ba : Int) (g : N < M128) (g' : M < M128) (ga : A < M128) (h : VP v N b) (h' : VP v' M b') (i o bo : Bool) (hi : i = decide (WI v N b v' M b')) (ho : o = decide (WI v' M b' v N b)) (hb : bo = (i || o)) : ddilaw03_PrefixTree.j1 (n + 2) i o bo false v (iH N) (iL N) b v' (iH M) (iL M) b' va (iH A) (iL A) ba = some true := by
  have hj := fun hi => j2_eq haw n hn i v N b v' M b' va A ba hi h1
  have hin : i = true → WI v N b v' M b' := fun q => by rw [hi] at q; exact of_decide_eq_true q
  have hout : o = true → WI v' M b' v N b := fun q => by rw [ho] at q; exact of_decide_eq_true q
  have hj' := hj (fun q => (hin q).2.2.1)
  have k1 : CT v N b va A → CT v' M b' va A → i = true ∨ o = true := fun q1 q2 => by
    rcases ct_wi h h' q1 q2 with w | w
    · exact Or.inl (by rw [hi]; exact decide_eq_true w)
    · exact Or.inr (by rw [ho]; exact decide_eq_true w)
  have k2 : i = true → CT v N b va A → CT v' M b' va A := fun q q1 => wi_ct h h' (hin q) q1
  have k3 : o = true → CT v' M b' va A → CT v N b va A := fun q q1 => wi_ct h' h (hout q) q1
  clear hj hi ho hin hout
  simp only [ddilaw03_PrefixTree.j1, Bool.false_eq_true, if_false]
  rw [Contains_eq v N b va A g ga, Contains_eq v' M b' va A g' ga]
  simp only [Option.bind_some, decide_eq_true_eq]
  by_cases c1 : CT v N b va A
  · by_cases c2 : CT v' M b' va A
    · have := k1 c1 c2
      cases i <;> cases o <;> simp_all
    · cases i <;> cases o <;> simp_all
  · by_cases c2 : CT v' M b' va A
    · cases i <;> cases o <;> simp_all
    · cases i <;> cases o <;> simp_all
theorem bad (n : Nat) (hn : K0 ≤ n) (v : Bool) (N : Nat) (b : Int) (v' : Bool) (M : Nat) (b' : Int) (va : Bool) (A : Nat) (ba : Int) (g : N < M128) (g' : M < M128) (h : ¬ (VP v N b ∧ VP v' M b')) : ddilaw03_PrefixTree.j0 (n + 1) true v (iH N) (iL N) b v' (iH M) (iL M) b' va (iH A) (iL A) ba = some true := by
  have n1 : ¬ WI v N b v' M b' := fun q => h ⟨q.1, q.2.1⟩
  have n2 : ¬ WI v' M b' v N b := fun q => h ⟨q.2.1, q.1⟩
  simp only [ddilaw03_PrefixTree.j0, if_true]
  rw [Overlap_eq v N b v' M b' g g', Within_eq v N b v' M b' g g', decide_eq_false n1, decide_eq_false (fun q => q.elim n1 n2), haw _ hn]
  rfl
theorem tree_eq (n : Nat) (hn : K0 ≤ n) (h1 : 1 ≤ n) (v : Bool) (N : Nat) (b : Int) (v' : Bool) (M : Nat) (b' : Int) (va : Bool) (A : Nat) (ba : Int) (g : N < M128) (g' : M < M128) (ga : A < M128) : ddilaw03_PrefixTree.f (n + 3) v (iH N) (iL N) b v' (iH M) (iL M) b' va (iH A) (iL A) ba = some true := by
  unfold ddilaw03_PrefixTree.f
  rw [Valid_eq v N b g, Valid_eq v' M b' g']
  simp only [Option.bind_some]
  by_cases c1 : VP v N b
  · rw [decide_eq_true c1, if_pos rfl]
    by_cases c2 : VP v' M b'
    · rw [decide_eq_true c2]
      have hi := fun bo hb => j1_eq haw n hn h1 va A ba g g' ga c1 c2 (decide (WI v N b v' M b')) (decide (WI v' M b' v N b)) bo rfl rfl hb
      have hbt := wi_both c1 c2
      simp only [ddilaw03_PrefixTree.j0, Bool.not_true, Bool.false_eq_true, if_false]
      rw [Within_eq v N b v' M b' g g', Within_eq v' M b' v N b g' g, Overlap_eq v N b v' M b' g g', Overlap_eq v' M b' v N b g' g]
      simp only [Option.bind_some]
      rw [eqB]
      by_cases w1 : WI v N b v' M b'
      · rw [decide_eq_true w1] at hi ⊢
        by_cases w2 : WI v' M b' v N b
        · rw [decide_eq_true w2] at hi ⊢
          rw [decide_eq_true (hbt.mp ⟨w1, w2⟩), decide_eq_true (Or.inl w1), decide_eq_true (Or.inr w1)]
          exact hi true rfl
        · rw [decide_eq_false w2] at hi ⊢
          rw [decide_eq_false (fun q => w2 (hbt.mpr q).2), decide_eq_true (Or.inl w1), decide_eq_true (Or.inr w1)]
          exact hi true rfl
      · rw [decide_eq_false w1] at hi ⊢
        have hne : ¬ (v = v' ∧ N = M ∧ b = b') := fun q => w1 (hbt.mpr q).1
        by_cases w2 : WI v' M b' v N b
        · rw [decide_eq_true w2] at hi ⊢
          rw [decide_eq_false hne, decide_eq_true (Or.inr w2), decide_eq_true (Or.inl w2)]
          exact hi true rfl
        · rw [decide_eq_false w2] at hi ⊢
          rw [decide_eq_false hne, decide_eq_false (fun q => q.elim w1 w2), decide_eq_false (fun q => q.elim w2 w1)]
          exact hi false rfl
    · rw [decide_eq_false c2]
      exact bad haw (n + 2) (by omega) v N b v' M b' va A ba g g' (fun q => c2 q.2)
  · rw [decide_eq_false c1]
    exact bad haw (n + 2) (by omega) v N b v' M b' va A ba g g' (fun q => c1 q.1)
end
end Go.Proofs.YteflcmmandlknaaDoor.PrxTree
