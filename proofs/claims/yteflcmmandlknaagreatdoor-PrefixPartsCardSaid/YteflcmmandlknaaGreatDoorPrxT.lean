/-
  Which prefixes lie in which, and their order. Conditions: each theorem's own.
-/
import Derived.Test.YteflcmmandlknaaGreatDoorPrxS
namespace Go.Proofs.YteflcmmandlknaaGreatDoor.PrxT
open Go.RowKit Go.Proofs.YteflcmmandlknaaGreatDoorW.PrintWords Go.Proofs.YteflcmmandlknaaGreatDoor.Num Go.Proofs.YteflcmmandlknaaGreatDoor.PrxN Go.Proofs.YteflcmmandlknaaGreatDoor.PrxS Go.Proofs.YteflcmmandlknaaGreatDoor.PA
set_option linter.unusedVariables false
set_option linter.unusedSimpArgs false

theorem eqB (v : Bool) (N : Nat) (b : Int) (v' : Bool) (M : Nat) (b' : Int) : ((v == v' && (iH N == iH M && (iL N == iL M))) && (b == b')) = decide (v = v' ∧ N = M ∧ b = b') := by
  by_cases h : v = v' ∧ N = M ∧ b = b'
  · rw [decide_eq_true h]
    obtain ⟨rfl, rfl, rfl⟩ := h
    simp
  · rw [decide_eq_false h]
    cases hq : ((v == v' && (iH N == iH M && (iL N == iL M))) && (b == b'))
    · rfl
    · simp only [Bool.and_eq_true, beq_iff_eq] at hq
      exact absurd ⟨hq.1.1, i_inj hq.1.2.1 hq.1.2.2, hq.2⟩ h
theorem eqA (v : Bool) (N : Nat) (v' : Bool) (M : Nat) : (v == v' && (iH N == iH M && (iL N == iL M))) = decide (v = v' ∧ N = M) := by
  by_cases h : v = v' ∧ N = M
  · rw [decide_eq_true h]
    obtain ⟨rfl, rfl⟩ := h
    simp
  · rw [decide_eq_false h]
    cases hq : (v == v' && (iH N == iH M && (iL N == iL M)))
    · rfl
    · simp only [Bool.and_eq_true, beq_iff_eq] at hq
      exact absurd ⟨hq.1, i_inj hq.2.1 hq.2.2⟩ h
/-- Two numbers with the same high bits. -/
theorem sub_mod_iff (M N k : Nat) (h : N % 2 ^ k = 0) : M - M % 2 ^ k = N ↔ M / 2 ^ k = N / 2 ^ k := by
  have hp : 0 < 2 ^ k := Nat.pow_pos (by decide)
  have e1 := Nat.div_add_mod M (2 ^ k)
  have e2 := Nat.div_add_mod N (2 ^ k)
  generalize 2 ^ k = p at *
  constructor
  · intro q
    have : p * (M / p) = p * (N / p) := by omega
    exact Nat.eq_of_mul_eq_mul_left hp this
  · intro q
    rw [q] at e1
    omega
theorem ct_iff {v : Bool} {N : Nat} {b : Int} (h : VP v N b) (v' : Bool) (M : Nat) : CT v N b v' M ↔ v = v' ∧ M < 2 ^ L v ∧ M / 2 ^ (L v - b.toNat) = N / 2 ^ (L v - b.toNat) := by
  unfold CT
  rw [sub_mod_iff M N _ h.2.2.2]
  exact ⟨fun q => q.2, fun q => ⟨h, q⟩⟩
theorem div_up {M N j k : Nat} (h : j ≤ k) (e : M / 2 ^ j = N / 2 ^ j) : M / 2 ^ k = N / 2 ^ k := by
  have hk : 2 ^ k = 2 ^ j * 2 ^ (k - j) := by rw [← Nat.pow_add, show j + (k - j) = k by omega]
  rw [hk, ← Nat.div_div_eq_div_mul, ← Nat.div_div_eq_div_mul, e]
theorem wi_iff {v : Bool} {N : Nat} {b : Int} {v' : Bool} {M : Nat} {b' : Int} (h : VP v N b) (g : VP v' M b') : WI v N b v' M b' ↔ b ≥ b' ∧ v = v' ∧ N / 2 ^ (L v' - b'.toNat) = M / 2 ^ (L v' - b'.toNat) := by
  unfold WI
  rw [ct_iff g]
  constructor
  · rintro ⟨_, _, h3, h4, h5, h6⟩
    exact ⟨h3, h4.symm, h6⟩
  · rintro ⟨h3, rfl, h6⟩
    exact ⟨h, g, h3, rfl, h.1, h6⟩
theorem wi_both {v : Bool} {N : Nat} {b : Int} {v' : Bool} {M : Nat} {b' : Int} (h : VP v N b) (g : VP v' M b') : WI v N b v' M b' ∧ WI v' M b' v N b ↔ v = v' ∧ N = M ∧ b = b' := by
  rw [wi_iff h g, wi_iff g h]
  constructor
  · rintro ⟨⟨h1, rfl, h3⟩, h4, _, h6⟩
    have hb : b = b' := by omega
    subst hb
    refine ⟨rfl, ?_, rfl⟩
    have e1 := Nat.div_add_mod N (2 ^ (L v - b.toNat))
    have e2 := Nat.div_add_mod M (2 ^ (L v - b.toNat))
    rw [h.2.2.2] at e1
    rw [g.2.2.2] at e2
    rw [h3] at e1
    omega
  · rintro ⟨rfl, rfl, rfl⟩
    exact ⟨⟨by omega, rfl, rfl⟩, by omega, rfl, rfl⟩
theorem wi_ct {v : Bool} {N : Nat} {b : Int} {v' : Bool} {M : Nat} {b' : Int} {va : Bool} {A : Nat} (h : VP v N b) (g : VP v' M b') (hw : WI v N b v' M b') (hc : CT v N b va A) : CT v' M b' va A := by
  rw [wi_iff h g] at hw
  rw [ct_iff h] at hc
  rw [ct_iff g]
  obtain ⟨h1, rfl, h3⟩ := hw
  obtain ⟨rfl, c2, c3⟩ := hc
  have hb := h.2.1
  have hb' := g.2.1
  exact ⟨rfl, c2, by rw [← h3]; exact div_up (by omega) c3⟩
theorem ct_wi {v : Bool} {N : Nat} {b : Int} {v' : Bool} {M : Nat} {b' : Int} {va : Bool} {A : Nat} (h : VP v N b) (g : VP v' M b') (h1 : CT v N b va A) (h2 : CT v' M b' va A) : WI v N b v' M b' ∨ WI v' M b' v N b := by
  rw [wi_iff h g, wi_iff g h]
  rw [ct_iff h] at h1
  rw [ct_iff g] at h2
  obtain ⟨rfl, c2, c3⟩ := h1
  obtain ⟨rfl, d2, d3⟩ := h2
  have hb := h.2.1
  have hb' := g.2.1
  by_cases c : b ≥ b'
  · exact Or.inl ⟨c, rfl, by rw [← d3]; exact (div_up (by omega) c3).symm⟩
  · exact Or.inr ⟨by omega, rfl, by rw [← c3]; exact (div_up (by omega) d3).symm⟩
theorem cmpA_anti (v : Bool) (N : Nat) (v' : Bool) (M : Nat) : cmpA v' M v N = - cmpA v N v' M := by
  unfold cmpA
  cases v <;> cases v' <;> simp
  all_goals
    by_cases c : N < M
    · rw [if_pos c, if_neg (by omega), if_pos c]
      decide
    · by_cases d : M < N
      · rw [if_pos d, if_neg c, if_pos d]
      · rw [if_neg d, if_neg c, if_neg c, if_neg d]
        rfl
theorem cmpA_zero (v : Bool) (N : Nat) (v' : Bool) (M : Nat) : cmpA v N v' M = 0 ↔ v = v' ∧ N = M := by
  unfold cmpA
  cases v <;> cases v' <;> simp
  all_goals
    by_cases c : N < M
    · rw [if_pos c]
      constructor
      · intro h; exact absurd h (by decide)
      · intro h; omega
    · rw [if_neg c]
      by_cases d : M < N
      · rw [if_pos d]
        constructor
        · intro h; exact absurd h (by decide)
        · intro h; omega
      · rw [if_neg d]
        constructor
        · intro _; omega
        · intro _; rfl
theorem cmpA_range (v : Bool) (N : Nat) (v' : Bool) (M : Nat) : cmpA v N v' M = -1 ∨ cmpA v N v' M = 0 ∨ cmpA v N v' M = 1 := by
  unfold cmpA
  split
  · split
    · exact Or.inl rfl
    · split
      · exact Or.inr (Or.inr rfl)
      · exact Or.inr (Or.inl rfl)
  · split
    · exact Or.inl rfl
    · exact Or.inr (Or.inr rfl)
theorem cmpP_anti (v : Bool) (N : Nat) (b : Int) (v' : Bool) (M : Nat) (b' : Int) : cmpP v' M b' v N b = - cmpP v N b v' M b' := by
  unfold cmpP
  rw [cmpA_anti v N v' M]
  by_cases h : cmpA v N v' M = 0
  · rw [h, if_pos (by decide), if_pos rfl]
    repeat' split
    all_goals omega
  · rw [if_neg (by omega), if_neg h]
theorem cmpP_zero (v : Bool) (N : Nat) (b : Int) (v' : Bool) (M : Nat) (b' : Int) : cmpP v N b v' M b' = 0 ↔ v = v' ∧ N = M ∧ b = b' := by
  unfold cmpP
  by_cases h : cmpA v N v' M = 0
  · rw [if_pos h]
    obtain ⟨h1, h2⟩ := (cmpA_zero v N v' M).mp h
    by_cases c : b < b'
    · rw [if_pos c]
      constructor
      · intro h; exact absurd h (by decide)
      · intro h; omega
    · rw [if_neg c]
      by_cases d : b > b'
      · rw [if_pos d]
        constructor
        · intro h; exact absurd h (by decide)
        · intro h; omega
      · rw [if_neg d]
        constructor
        · intro _; exact ⟨h1, h2, by omega⟩
        · intro _; rfl
  · rw [if_neg h]
    constructor
    · intro q; exact absurd q h
    · intro q; exact absurd ((cmpA_zero v N v' M).mpr ⟨q.1, q.2.1⟩) h
theorem cmpP_range (v : Bool) (N : Nat) (b : Int) (v' : Bool) (M : Nat) (b' : Int) : -1 ≤ cmpP v N b v' M b' ∧ cmpP v N b v' M b' ≤ 1 := by
  unfold cmpP
  have h := cmpA_range v N v' M
  split
  · split
    · omega
    · split <;> omega
  · omega
end Go.Proofs.YteflcmmandlknaaGreatDoor.PrxT
