/-
  What the package addr (layer 2) answers, in plain words: Valid, Compare, Add, Sub, and their references. Conditions: the numbers are of uint64.
-/
import Derived.Test.YtmkgjibmfabbdaaPx2
import Derived.Test.YtmkgjibmfabbdaaPx3
import Derived.Test.YtmkgjibmfabbdaaPx4
import Derived.Test.YtmkgjibmfabbdaaPx5
import Derived.Test.YtmkgjibmfabbdaaNum
namespace Go.Proofs.Ytmkgjibmfabbdaa.Ad
open Go.RowKit Go.Proofs.YtmkgjibmfabbdaaW.PrintWords Go.Proofs.Ytmkgjibmfabbdaa.Num Go.Proofs.Ytmkgjibmfabbdaa.P
set_option linter.unusedVariables false
set_option linter.unusedSimpArgs false

/-- Is it an address? -/
def vld (v : Bool) (hi lo : Int) : Bool := v || (hi == 0 && decide (lo < 4294967296))
theorem addr_Valid_eq (v : Bool) (hi lo : Int) : addr_Valid.f v hi lo = some (vld v hi lo) := by
  unfold addr_Valid.f vld
  cases v
  · by_cases h : hi = 0
    · simp [h]; omega
    · simp [h]
  · simp
theorem ref_Valid_eq (v : Bool) (hi lo : Int) : ddiref02_Valid.f v hi lo = some (vld v hi lo) := by
  unfold ddiref02_Valid.f vld
  cases v
  · by_cases h : hi = 0 <;> simp [h]
  · simp

def total (hi lo : Int) : Int := hi * 18446744073709551616 + lo
def limit (v : Bool) : Int := if v then 340282366920938463463374607431768211456 else 4294967296
def addS (v : Bool) (hi lo n : Int) : Bool × Int × Int × Bool :=
  if vld v hi lo = true ∧ total hi lo + n < limit v then (v, (total hi lo + n) / 18446744073709551616, (total hi lo + n) % 18446744073709551616, true) else (false, 0, 0, false)
def subS (v : Bool) (hi lo : Int) (v' : Bool) (hi' lo' : Int) : Int × Bool :=
  if vld v hi lo = true ∧ vld v' hi' lo' = true ∧ v = v' ∧ 0 ≤ total hi lo - total hi' lo' ∧ total hi lo - total hi' lo' < 18446744073709551616 then (total hi lo - total hi' lo', true) else (0, false)
def cmpS (v : Bool) (hi lo : Int) (v' : Bool) (hi' lo' : Int) : Int :=
  if v = v' then (if total hi lo < total hi' lo' then -1 else if total hi' lo' < total hi lo then 1 else 0) else if v' then -1 else 1

theorem vld_true {v : Bool} {hi lo : Int} (h : vld v hi lo = true) : v = true ∨ (v = false ∧ hi = 0 ∧ lo < 4294967296) := by
  unfold vld at h; cases v <;> simp_all
theorem vld_false {v : Bool} {hi lo : Int} (h : vld v hi lo = false) : v = false ∧ (hi ≠ 0 ∨ 4294967296 ≤ lo) := by
  unfold vld at h
  cases v
  · by_cases h0 : hi = 0
    · simp [h0] at h; exact ⟨rfl, Or.inr h⟩
    · exact ⟨rfl, Or.inl h0⟩
  · simp at h

theorem addS_pos {v : Bool} {hi lo n : Int} (hv : vld v hi lo = true) (h : total hi lo + n < limit v) : addS v hi lo n = (v, (total hi lo + n) / 18446744073709551616, (total hi lo + n) % 18446744073709551616, true) := if_pos ⟨hv, h⟩
theorem addS_neg {v : Bool} {hi lo n : Int} (h : ¬ total hi lo + n < limit v) : addS v hi lo n = (false, 0, 0, false) := if_neg (fun g => h g.2)
theorem addS_bad {v : Bool} {hi lo n : Int} (h : vld v hi lo = false) : addS v hi lo n = (false, 0, 0, false) := if_neg (fun g => by rw [h] at g; exact absurd g.1 (by decide))
theorem limit_true : limit true = 340282366920938463463374607431768211456 := rfl
theorem limit_false : limit false = 4294967296 := rfl
theorem addr_Add_eq {v : Bool} {hi lo n : Int} (h1 : U64 hi) (h2 : U64 lo) (h3 : U64 n) : addr_Add.f v hi lo n = some (addS v hi lo n) := by
  unfold U64 at h1 h2 h3
  unfold addr_Add.f
  rw [addr_Valid_eq]; simp only [Option.bind_some]
  cases hv : vld v hi lo
  · rw [addS_bad hv]; rfl
  · have hc : Ext.add64c lo n 0 ≤ 1 := by unfold Ext.add64c; omega
    simp only [if_true]
    rw [if_pos hc, addr_Valid_eq]
    simp only [Option.bind_some]
    have e1 : (Ext.add64s lo n 0) = (total hi lo + n) % 18446744073709551616 := by unfold Ext.add64s total; omega
    rw [e1]
    rcases vld_true hv with rfl | ⟨rfl, h0, hl⟩
    · by_cases ht : total hi lo + n < 340282366920938463463374607431768211456
      · have e2 : Ext.add64c hi 0 (Ext.add64c lo n 0) = 0 := by unfold Ext.add64c; unfold total at ht; omega
        have e3 : Ext.add64s hi 0 (Ext.add64c lo n 0) = (total hi lo + n) / 18446744073709551616 := by unfold Ext.add64s Ext.add64c; unfold total at ht ⊢; omega
        rw [if_pos e2, e3, addS_pos hv (by rw [limit_true]; exact ht)]
        rfl
      · have e2 : ¬ Ext.add64c hi 0 (Ext.add64c lo n 0) = 0 := by unfold Ext.add64c; unfold total at ht; omega
        rw [if_neg e2, addS_neg (by rw [limit_true]; exact ht)]
    · subst h0
      have e2 : Ext.add64c 0 0 (Ext.add64c lo n 0) = 0 := by unfold Ext.add64c; omega
      have e3 : Ext.add64s 0 0 (Ext.add64c lo n 0) = (total 0 lo + n) / 18446744073709551616 := by unfold Ext.add64s Ext.add64c total; omega
      rw [if_pos e2, e3]
      by_cases ht : total 0 lo + n < 4294967296
      · have e4 : vld false ((total 0 lo + n) / 18446744073709551616) ((total 0 lo + n) % 18446744073709551616) = true := by
          unfold vld; unfold total at ht ⊢; simp; omega
        rw [e4, if_pos rfl, addS_pos hv (by rw [limit_false]; exact ht)]
      · have e4 : vld false ((total 0 lo + n) / 18446744073709551616) ((total 0 lo + n) % 18446744073709551616) = false := by
          unfold vld; unfold total at ht ⊢; simp; omega
        rw [e4, addS_neg (by rw [limit_false]; exact ht)]; rfl

theorem ref_Add_eq {v : Bool} {hi lo n : Int} (h1 : U64 hi) (h2 : U64 lo) (h3 : U64 n) : ddiref02_Add.f v hi lo n = some (addS v hi lo n) := by
  unfold U64 at h1 h2 h3
  unfold ddiref02_Add.f
  rw [ref_Valid_eq]; simp only [Option.bind_some, wrap_u64]
  cases hv : vld v hi lo
  · rw [addS_bad hv]; rfl
  · simp only [if_true]
    rcases vld_true hv with rfl | ⟨rfl, h0, hl⟩
    · rw [if_pos rfl]
      by_cases c1 : (lo + n) % 18446744073709551616 < lo
      · rw [if_pos c1]
        by_cases c2 : hi = 18446744073709551615
        · rw [if_pos c2, addS_neg (by rw [limit_true]; unfold total; omega)]
        · rw [if_neg c2, addS_pos hv (by rw [limit_true]; unfold total; omega)]
          have e0 : (total hi lo + n) % 18446744073709551616 = (lo + n) % 18446744073709551616 := by unfold total; omega
          have e1 : (total hi lo + n) / 18446744073709551616 = (hi + 1) % 18446744073709551616 := by unfold total; omega
          rw [e0, e1]
      · rw [if_neg c1, addS_pos hv (by rw [limit_true]; unfold total; omega)]
        have e0 : (total hi lo + n) % 18446744073709551616 = (lo + n) % 18446744073709551616 := by unfold total; omega
        have e1 : (total hi lo + n) / 18446744073709551616 = hi := by unfold total; omega
        rw [e0, e1]
    · subst h0
      rw [if_neg (by decide)]
      by_cases c1 : n > (4294967295 - lo) % 18446744073709551616
      · rw [if_pos c1, addS_neg (by rw [limit_false]; unfold total; omega)]
      · rw [if_neg c1, addS_pos hv (by rw [limit_false]; unfold total; omega)]
        have e1 : (total 0 lo + n) / 18446744073709551616 = 0 := by unfold total; omega
        have e2 : (total 0 lo + n) % 18446744073709551616 = (lo + n) % 18446744073709551616 := by unfold total; omega
        rw [e1, e2]

theorem addr_number_eq (a b : Int) : addr_number.f a b = some (if a < b then -1 else if b < a then 1 else 0) := by
  unfold addr_number.f
  by_cases h : a < b
  · simp [h]
  · by_cases g : b < a <;> simp [h, g]
theorem addr_Compare_eq (k : Nat) {v v' : Bool} {hi lo hi' lo' : Int} (h1 : U64 hi) (h2 : U64 lo) (h3 : U64 hi') (h4 : U64 lo') : addr_Compare.f (k + 1) v hi lo v' hi' lo' = some (cmpS v hi lo v' hi' lo') := by
  unfold U64 at h1 h2 h3 h4
  unfold addr_Compare.f cmpS
  simp only [addr_Compare.j0, addr_number_eq, Option.bind_some]
  cases v <;> cases v' <;> simp
  all_goals
    unfold total
    by_cases c : hi = hi'
    · subst c; simp
    · rw [if_neg c]
      by_cases d : hi < hi'
      · simp [d]; omega
      · have d' : hi' < hi := by omega
        simp [d, d']; omega
theorem ref_Compare_eq {v v' : Bool} {hi lo hi' lo' : Int} (h1 : U64 hi) (h2 : U64 lo) (h3 : U64 hi') (h4 : U64 lo') : ddiref02_Compare.f v hi lo v' hi' lo' = some (cmpS v hi lo v' hi' lo') := by
  unfold U64 at h1 h2 h3 h4
  unfold ddiref02_Compare.f cmpS
  cases v <;> cases v' <;> simp
  all_goals
    unfold total
    by_cases c : hi = hi'
    · subst c; simp
      by_cases d : lo < lo'
      · simp [d]
      · by_cases e : lo' < lo <;> simp [d, e]
    · rw [if_neg c]
      by_cases d : hi < hi'
      · simp [d]; omega
      · have d' : hi' < hi := by omega
        simp [d]; omega

theorem subS_pos {v : Bool} {hi lo hi' lo' : Int} (h0 : vld v hi lo = true) (h1 : vld v hi' lo' = true) (c : 0 ≤ total hi lo - total hi' lo') (d : total hi lo - total hi' lo' < 18446744073709551616) : subS v hi lo v hi' lo' = (total hi lo - total hi' lo', true) := if_pos ⟨h0, h1, rfl, c, d⟩
theorem subS_neg {v v' : Bool} {hi lo hi' lo' : Int} (h : vld v hi lo = false ∨ vld v' hi' lo' = false ∨ v ≠ v' ∨ total hi lo - total hi' lo' < 0 ∨ 18446744073709551616 ≤ total hi lo - total hi' lo') : subS v hi lo v' hi' lo' = (0, false) := by
  refine if_neg (fun g => ?_)
  obtain ⟨g0, g1, g2, g3, g4⟩ := g
  rcases h with h | h | h | h | h
  · rw [h] at g0; cases g0
  · rw [h] at g1; cases g1
  · exact h g2
  · omega
  · omega
theorem addr_Sub_eq (k : Nat) {v v' : Bool} {hi lo hi' lo' : Int} (h1 : U64 hi) (h2 : U64 lo) (h3 : U64 hi') (h4 : U64 lo') : addr_Sub.f (k + 1) v hi lo v' hi' lo' = some (subS v hi lo v' hi' lo') := by
  unfold U64 at h1 h2 h3 h4
  unfold addr_Sub.f
  rw [addr_Valid_eq, addr_Valid_eq]
  simp only [Option.bind_some, addr_Sub.j0]
  cases hv : vld v hi lo
  · rw [subS_neg (Or.inl hv)]; simp
  · cases hv' : vld v' hi' lo'
    · rw [subS_neg (Or.inr (Or.inl hv'))]; simp
    · simp only [if_true]
      by_cases e : v = v'
      · subst e
        have hb : Ext.sub64b lo lo' 0 ≤ 1 := by unfold Ext.sub64b; split <;> omega
        simp only [bne_self_eq_false, Bool.false_eq_true, if_false]
        rw [if_pos hb]
        by_cases c1 : 0 ≤ total hi lo - total hi' lo'
        · have b0 : Ext.sub64b hi hi' (Ext.sub64b lo lo' 0) = 0 := by
            unfold Ext.sub64b; unfold total at c1; split <;> split <;> omega
          rw [if_pos b0]
          by_cases c2 : total hi lo - total hi' lo' < 18446744073709551616
          · have s0 : Ext.sub64s hi hi' (Ext.sub64b lo lo' 0) = 0 := by
              unfold Ext.sub64s Ext.sub64b; unfold total at c1 c2; split <;> omega
            have s1 : Ext.sub64s lo lo' 0 = total hi lo - total hi' lo' := by
              unfold Ext.sub64s; unfold total at c1 c2 ⊢; omega
            rw [if_pos s0, subS_pos hv hv' c1 c2, s1]
          · have s0 : ¬ Ext.sub64s hi hi' (Ext.sub64b lo lo' 0) = 0 := by
              unfold Ext.sub64s Ext.sub64b; unfold total at c1 c2; split <;> omega
            rw [if_neg s0, subS_neg (by omega)]
        · have b0 : ¬ Ext.sub64b hi hi' (Ext.sub64b lo lo' 0) = 0 := by
            unfold Ext.sub64b; unfold total at c1; split <;> split <;> omega
          rw [if_neg b0, subS_neg (by omega)]
      · have hb : (v != v') = true := by simp [e]
        rw [hb, subS_neg (Or.inr (Or.inr (Or.inl e)))]; simp
theorem ref_Sub_eq (k : Nat) {v v' : Bool} {hi lo hi' lo' : Int} (h1 : U64 hi) (h2 : U64 lo) (h3 : U64 hi') (h4 : U64 lo') : ddiref02_Sub.f (k + 1) v hi lo v' hi' lo' = some (subS v hi lo v' hi' lo') := by
  have hc := ref_Compare_eq (v := v) (v' := v') h1 h2 h3 h4
  unfold U64 at h1 h2 h3 h4
  unfold ddiref02_Sub.f
  rw [ref_Valid_eq, ref_Valid_eq]
  simp only [Option.bind_some, ddiref02_Sub.j0, wrap_u64]
  cases hv : vld v hi lo
  · rw [subS_neg (Or.inl hv)]; simp
  · cases hv' : vld v' hi' lo'
    · rw [subS_neg (Or.inr (Or.inl hv'))]; simp
    · simp only [if_true]
      by_cases e : v = v'
      · subst e
        rw [hc]
        simp only [bne_self_eq_false, Bool.false_eq_true, if_false, Option.bind_some]
        have hcm : cmpS v hi lo v hi' lo' = if total hi lo < total hi' lo' then -1 else if total hi' lo' < total hi lo then 1 else 0 := by simp [cmpS]
        rw [hcm]
        by_cases c1 : 0 ≤ total hi lo - total hi' lo'
        · have hlt : ¬ total hi lo < total hi' lo' := by omega
          have hd : decide ((if total hi lo < total hi' lo' then (-1 : Int) else if total hi' lo' < total hi lo then 1 else 0) < 0) = false := by
            rw [if_neg hlt]; split <;> simp
          rw [hd]
          simp only [Bool.false_eq_true, if_false]
          by_cases d : lo < lo'
          · rw [if_pos d]
            by_cases c2 : total hi lo - total hi' lo' < 18446744073709551616
            · rw [if_pos (by unfold total at c1 c2; omega), subS_pos hv hv' c1 c2]
              congr 2; unfold total at c1 c2 ⊢; omega
            · rw [if_neg (by unfold total at c1 c2; omega), subS_neg (by omega)]
          · rw [if_neg d]
            by_cases c2 : total hi lo - total hi' lo' < 18446744073709551616
            · rw [if_pos (by unfold total at c1 c2; omega), subS_pos hv hv' c1 c2]
              congr 2; unfold total at c1 c2 ⊢; omega
            · rw [if_neg (by unfold total at c1 c2; omega), subS_neg (by omega)]
        · have hlt : total hi lo < total hi' lo' := by omega
          have hd : decide ((if total hi lo < total hi' lo' then (-1 : Int) else if total hi' lo' < total hi lo then 1 else 0) < 0) = true := by
            rw [if_pos hlt]; rfl
          rw [hd, if_pos rfl, subS_neg (by omega)]
      · have hb : (v != v') = true := by simp [e]
        rw [hb, if_pos rfl, subS_neg (Or.inr (Or.inr (Or.inl e)))]

theorem addS_u64 {v : Bool} {hi lo n : Int} (h1 : U64 hi) (h2 : U64 lo) (h3 : U64 n) : U64 (addS v hi lo n).2.1 ∧ U64 (addS v hi lo n).2.2.1 := by
  unfold U64 at *
  unfold addS
  split
  · next h =>
    have hl : limit v ≤ 340282366920938463463374607431768211456 := by unfold limit; split <;> omega
    have := h.2
    unfold total at *
    simp only
    omega
  · simp
end Go.Proofs.Ytmkgjibmfabbdaa.Ad
