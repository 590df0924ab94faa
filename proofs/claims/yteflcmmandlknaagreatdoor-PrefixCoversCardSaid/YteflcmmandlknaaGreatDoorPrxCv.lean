/-
  The cover of a range, told with numbers: again and again the largest block that begins where the range does. Conditions: each theorem's own.
-/
import Derived.Test.YteflcmmandlknaaGreatDoorPAx10
import Derived.Test.YteflcmmandlknaaGreatDoorPrxZ
namespace Go.Proofs.YteflcmmandlknaaGreatDoor.PrxCv
open Go.RowKit Go.Proofs.YteflcmmandlknaaGreatDoorW.PrintWords Go.Proofs.YteflcmmandlknaaGreatDoor.Num Go.Proofs.YteflcmmandlknaaGreatDoor.PrxN Go.Proofs.YteflcmmandlknaaGreatDoor.PrxS Go.Proofs.YteflcmmandlknaaGreatDoor.PrxZ Go.Proofs.YteflcmmandlknaaGreatDoor.PA
set_option linter.unusedVariables false
set_option linter.unusedSimpArgs false
set_option maxRecDepth 100000

/-- The largest aligned block that begins at N and does not reach beyond R. -/
structure Blk (l R N j : Nat) : Prop where
  al : N % 2 ^ j = 0
  le : j ≤ l
  fit : N + 2 ^ j ≤ R + 1
  max : ¬ (N % 2 ^ (j + 1) = 0 ∧ j + 1 ≤ l ∧ N + 2 ^ (j + 1) ≤ R + 1)
inductive Cov (l R : Nat) : Nat → List (Nat × Nat) → Prop
  | last {N j : Nat} (b : Blk l R N j) (e : N + 2 ^ j = R + 1) : Cov l R N [(N, j)]
  | cons {N j : Nat} {t : List (Nat × Nat)} (b : Blk l R N j) (e : N + 2 ^ j < R + 1) (h : Cov l R (N + 2 ^ j) t) : Cov l R N ((N, j) :: t)
/-- How many blocks there may still be. -/
def St (l R m N : Nat) : Prop := (∃ b, b ≤ m ∧ N % 2 ^ b = 0 ∧ R + 1 < N + 2 ^ b) ∨ (∃ a, a ≤ l ∧ N % 2 ^ a = 0 ∧ 2 * l + 1 ≤ m + a)
theorem st_pos {l R m N : Nat} (h : St l R m N) (hN : N ≤ R) : 0 < m := by
  rcases h with ⟨b, h1, _, h3⟩ | ⟨a, h1, _, h3⟩
  · rcases Nat.eq_zero_or_pos m with rfl | h
    · have : b = 0 := by omega
      subst this
      rw [Nat.pow_zero] at h3
      omega
    · exact h
  · omega
theorem al_next {N j : Nat} (h : N % 2 ^ j = 0) : (N + 2 ^ j) % 2 ^ j = 0 := by rw [Nat.add_mod_right]; exact h
theorem al_down {N i j : Nat} (h : N % 2 ^ j = 0) (hi : i ≤ j) : N % 2 ^ i = 0 :=
  Nat.mod_eq_zero_of_dvd (Nat.dvd_trans ⟨2 ^ (j - i), by rw [← Nat.pow_add, show i + (j - i) = j by omega]⟩ (Nat.dvd_of_mod_eq_zero h))
theorem al_odd {N j : Nat} (h : N % 2 ^ j = 0) (g : N % 2 ^ (j + 1) ≠ 0) : (N + 2 ^ j) % 2 ^ (j + 1) = 0 := by
  obtain ⟨q, rfl⟩ := Nat.dvd_of_mod_eq_zero h
  have hp : 0 < 2 ^ j := Nat.pow_pos (by decide)
  have e : 2 ^ j * q + 2 ^ j = 2 ^ j * (q + 1) := by rw [Nat.mul_add, Nat.mul_one]
  rw [e, Nat.pow_succ, Nat.mul_mod_mul_left]
  rw [Nat.pow_succ, Nat.mul_mod_mul_left] at g
  have : q % 2 = 1 := by
    rcases Nat.mod_two_eq_zero_or_one q with w | w
    · rw [w, Nat.mul_zero] at g
      exact absurd rfl g
    · exact w
  have : (q + 1) % 2 = 0 := by omega
  rw [this, Nat.mul_zero]
theorem full_zero {l R N : Nat} (h : N % 2 ^ l = 0) (hN : N ≤ R) (hR : R < 2 ^ l) : N = 0 := by
  rw [Nat.mod_eq_of_lt (by omega)] at h
  exact h
theorem st_next {l R m N j : Nat} (h : St l R m N) (hR : R < 2 ^ l) (b : Blk l R N j) (e : N + 2 ^ j < R + 1) : St l R (m - 1) (N + 2 ^ j) := by
  have hp : 0 < 2 ^ j := Nat.pow_pos (by decide)
  have hjl : j < l := by
    rcases Nat.lt_or_ge j l with w | w
    · exact w
    · have hj : j = l := by have := b.le; omega
      subst hj
      have := full_zero b.al (by omega) hR
      omega
  have es : 2 ^ (j + 1) = 2 ^ j + 2 ^ j := by rw [Nat.pow_succ]; omega
  rcases h with ⟨c, h1, h2, h3⟩ | ⟨a, h1, h2, h3⟩
  · have hc : j < c := by
      rcases Nat.lt_or_ge j c with w | w
      · exact w
      · have : 2 ^ c ≤ 2 ^ j := Nat.pow_le_pow_right (by decide) w
        omega
    have hm : ¬ N + 2 ^ (j + 1) ≤ R + 1 := fun w => b.max ⟨al_down h2 hc, hjl, w⟩
    exact Or.inl ⟨j, by omega, al_next b.al, by omega⟩
  · by_cases w : N % 2 ^ (j + 1) = 0
    · have hm : ¬ N + 2 ^ (j + 1) ≤ R + 1 := fun w2 => b.max ⟨w, hjl, w2⟩
      exact Or.inl ⟨j, by omega, al_next b.al, by omega⟩
    · have ha : a ≤ j := by
        rcases Nat.lt_or_ge j a with w2 | w2
        · exact absurd (al_down h2 w2) w
        · exact w2
      exact Or.inr ⟨j + 1, hjl, al_odd b.al w, by omega⟩
theorem st_first (l R N : Nat) : St l R (2 * l + 1) N := Or.inr ⟨0, Nat.zero_le _, by rw [Nat.pow_zero, Nat.mod_one], Nat.le_refl _⟩

def pf (v : Bool) (p : Nat × Nat) : S26 := ⟨(⟨v, iH p.1, iL p.1⟩ : S24), ((L v - p.2 : Nat) : Int)⟩
section
variable (v : Bool) (F R : Nat)
def l0g (acc : List S26) (N : Nat) : Nat → Option (List S26) := fun k => prefix_Cover.l0 k acc v (iH F) (iL F) v (iH R) (iL R) v (iH N) (iL N)
def l1g (acc : List S26) (N j : Nat) : Nat → Option (List S26) := fun k => prefix_Cover.l1 k acc v (iH F) (iL F) v (iH R) (iL R) v (iH N) (iL N) ((L v - j : Nat) : Int) v (iH N) (iL N) v (iH (N + (2 ^ j - 1))) (iL (N + (2 ^ j - 1)))
variable {v F R}
theorem bounds_at {N j : Nat} (hN : N < 2 ^ L v) (hj : j ≤ L v) (ha : N % 2 ^ j = 0) : prefix_Bounds.f v (iH N) (iL N) ((L v - j : Nat) : Int) = some (v, iH N, iL N, v, iH (N + (2 ^ j - 1)), iL (N + (2 ^ j - 1)), true) := by
  have hM := pow_L v
  have e : L v - ((L v - j : Nat) : Int).toNat = j := by omega
  have hv : VP v N ((L v - j : Nat) : Int) := ⟨hN, by omega, by omega, by rw [e]; exact ha⟩
  have hb : BoundsS v N ((L v - j : Nat) : Int) = _ := if_pos hv
  rw [Bounds_eq v N _ (by omega), hb]
  unfold lastN
  rw [e]
/-- One block is laid: how the walk goes on behind it. -/
theorem l1_blk {acc : List S26} {N j : Nat} (hR : R < 2 ^ L v) (b : Blk (L v) R N j) (hacc : acc.length < 4398046511104) {r : List S26}
    (h1 : N + 2 ^ j = R + 1 → r = acc ++ [pf v (N, j)]) (h2 : N + 2 ^ j < R + 1 → Ev (l0g v F R (acc ++ [pf v (N, j)]) (N + 2 ^ j)) r) : Ev (l1g v F R acc N j) r := by
  have hp : 0 < 2 ^ j := Nat.pow_pos (by decide)
  have hf := b.fit
  unfold l1g
  refine Ev.step (fun k => by rw [prefix_Cover.l1]) ?_
  have hc : ∀ k, addr_Compare.f (k + 1) v (iH (N + (2 ^ j - 1))) (iL (N + (2 ^ j - 1))) v (iH R) (iL R) = some (cmpA v (N + (2 ^ j - 1)) v R) := fun k => cmpA_eq k v _ v _
  refine Ev.bind (ev_of_eq 1 hc) ?_
  have hle : ¬ cmpA v (N + (2 ^ j - 1)) v R > 0 := by
    unfold cmpA
    rw [if_pos rfl]
    by_cases w : N + (2 ^ j - 1) < R
    · rw [if_pos w]; decide
    · rw [if_neg w, if_neg (by omega)]; decide
  refine ev_if_neg hle (ev_if_pos hacc (ev_bind_const rfl ?_))
  have he : ∀ x y : Nat, (v == v && (iH x == iH y && (iL x == iL y))) = decide (x = y) := fun x y => by
    by_cases w : x = y
    · subst w; simp
    · rw [decide_eq_false w]
      cases hq : (v == v && (iH x == iH y && (iL x == iL y)))
      · rfl
      · simp only [Bool.and_eq_true, beq_iff_eq] at hq
        exact absurd (i_inj hq.2.1 hq.2.2) w
  rw [he]
  have hpf : (⟨(⟨v, iH N, iL N⟩ : S24), ((L v - j : Nat) : Int)⟩ : S26) = pf v (N, j) := rfl
  rw [hpf]
  by_cases w : N + (2 ^ j - 1) = R
  · rw [decide_eq_true w]
    refine ev_if_pos rfl ?_
    rw [h1 (by omega)]
    exact Ev.now _
  · rw [decide_eq_false w]
    refine ev_if_neg (by decide) ?_
    have hlt : N + 2 ^ j < R + 1 := by omega
    have ha := Add1_eq v (N + (2 ^ j - 1)) (by omega)
    have ea : AddS v (N + (2 ^ j - 1)) = _ := if_pos (by omega)
    rw [ea, show N + (2 ^ j - 1) + 1 = N + 2 ^ j by omega] at ha
    refine ev_bind_const ha (ev_if_pos rfl ?_)
    exact h2 hlt
/-- The walk finds the block. -/
theorem l1_find {acc : List S26} {N : Nat} (hN : N ≤ R) (hR : R < 2 ^ L v) : ∀ j, j ≤ L v → N % 2 ^ j = 0 → (¬ (N % 2 ^ (j + 1) = 0 ∧ j + 1 ≤ L v ∧ N + 2 ^ (j + 1) ≤ R + 1)) →
    ∃ i, Blk (L v) R N i ∧ ∀ r, Ev (l1g v F R acc N i) r → Ev (l1g v F R acc N j) r
  | 0, hj, ha, hm => ⟨0, ⟨ha, hj, by rw [Nat.pow_zero]; omega, hm⟩, fun _ h => h⟩
  | j + 1, hj, ha, hm => by
    by_cases w : N + 2 ^ (j + 1) ≤ R + 1
    · exact ⟨j + 1, ⟨ha, hj, w, hm⟩, fun _ h => h⟩
    · have hp : 0 < 2 ^ j := Nat.pow_pos (by decide)
      obtain ⟨i, hb, hi⟩ := l1_find (acc := acc) hN hR j (by omega) (al_down ha (by omega)) (fun q => w q.2.2)
      refine ⟨i, hb, fun r hr => ?_⟩
      have hr' := hi r hr
      unfold l1g at hr' ⊢
      refine Ev.step (fun k => by rw [prefix_Cover.l1]) ?_
      have hc : ∀ k, addr_Compare.f (k + 1) v (iH (N + (2 ^ (j + 1) - 1))) (iL (N + (2 ^ (j + 1) - 1))) v (iH R) (iL R) = some (cmpA v (N + (2 ^ (j + 1) - 1)) v R) := fun k => cmpA_eq k v _ v _
      refine Ev.bind (ev_of_eq 1 hc) ?_
      have hgt : cmpA v (N + (2 ^ (j + 1) - 1)) v R > 0 := by
        unfold cmpA
        rw [if_pos rfl, if_neg (by omega), if_pos (by omega)]
        decide
      refine ev_if_pos hgt ?_
      have hL := L_le v
      have ew : wrap64 (((L v - (j + 1) : Nat) : Int) + 1) = ((L v - j : Nat) : Int) := by
        rw [wrap64_id (by omega) (by omega)]
        omega
      rw [ew]
      refine ev_bind_const (bounds_at (by omega) (by omega) (al_down ha (by omega))) ?_
      exact hr'
/-- The whole cover. -/
theorem cover_run (hR : R < 2 ^ L v) : ∀ (m N : Nat) (acc : List S26), St (L v) R m N → N ≤ R → acc.length + m ≤ 1000 →
    ∃ t, Cov (L v) R N t ∧ t.length ≤ m ∧ Ev (l0g v F R acc N) (acc ++ t.map (pf v))
  | 0, N, acc, hs, hN, _ => absurd (st_pos hs hN) (by decide)
  | m + 1, N, acc, hs, hN, ha => by
    obtain ⟨z, hz1, hz2, hz3⟩ := zeros_eq v N (by omega)
    have hL := L_le v
    have hz0 := (hz3 z hz2).mpr (Nat.le_refl _)
    obtain ⟨j, hb, hj⟩ := l1_find (F := F) (acc := acc) hN hR z hz2 hz0 (fun q => by have := (hz3 (z + 1) q.2.1).mp q.1; omega)
    have hgo : ∀ r, Ev (l1g v F R acc N j) r → Ev (l0g v F R acc N) r := fun r hr => by
      have hr' := hj r hr
      unfold l0g
      unfold l1g at hr'
      refine Ev.step (fun k => by rw [prefix_Cover.l0]) ?_
      refine ev_bind_const (length_eq v _ _) (ev_bind_const hz1 ?_)
      have ew : wrap64 ((L v : Int) - (z : Int)) = ((L v - z : Nat) : Int) := by
        rw [wrap64_id (by omega) (by omega)]
        omega
      rw [ew]
      refine ev_bind_const (bounds_at (by omega) hz2 hz0) ?_
      exact hr'
    have hf := hb.fit
    by_cases e : N + 2 ^ j = R + 1
    · refine ⟨[(N, j)], Cov.last hb e, by simp, hgo _ (l1_blk hR hb (by omega) (fun _ => rfl) (fun q => by omega))⟩
    · have hlt : N + 2 ^ j < R + 1 := by omega
      have hs' := st_next hs hR hb hlt
      obtain ⟨t, h1, h2, h3⟩ := cover_run hR m (N + 2 ^ j) (acc ++ [pf v (N, j)]) hs' (by omega) (by rw [List.length_append]; simp; omega)
      refine ⟨(N, j) :: t, Cov.cons hb hlt h1, by simp; omega, hgo _ (l1_blk hR hb (by omega) (fun q => absurd q e) (fun _ => ?_))⟩
      rw [List.map_cons]
      rw [List.append_assoc] at h3
      exact h3
end
/-- What Cover answers. -/
theorem cover_yes {v : Bool} {F R : Nat} (hR : R < 2 ^ L v) (hF : F ≤ R) : ∃ t, Cov (L v) R F t ∧ t.length ≤ 257 ∧ Ev (fun k => prefix_Cover.f k v (iH F) (iL F) v (iH R) (iL R)) (t.map (pf v)) := by
  have hM := pow_L v
  have hL := L_le v
  obtain ⟨t, h1, h2, h3⟩ := cover_run (v := v) (F := F) (R := R) hR (2 * L v + 1) F [] (st_first _ _ _) hF (by simp; omega)
  refine ⟨t, h1, by omega, ?_⟩
  unfold prefix_Cover.f
  refine ev_bind_const (addr_Valid_eq v F (by omega)) (ev_if_pos (decide_eq_true (by omega)) ?_)
  refine ev_bind_const (addr_Valid_eq v R (by omega)) (ev_if_pos (decide_eq_true hR) (ev_if_neg (by simp) ?_))
  have hc : ∀ k, addr_Compare.f (k + 1) v (iH F) (iL F) v (iH R) (iL R) = some (cmpA v F v R) := fun k => cmpA_eq k v _ v _
  refine Ev.bind (ev_of_eq 1 hc) ?_
  have hle : decide (cmpA v F v R > 0) = false := by
    apply decide_eq_false
    unfold cmpA
    rw [if_pos rfl]
    by_cases w : F < R
    · rw [if_pos w]; decide
    · rw [if_neg w, if_neg (by omega)]; decide
  rw [hle]
  refine Ev.step (fun k => by rw [prefix_Cover.j0]) (ev_if_neg (by decide) ?_)
  rw [List.nil_append] at h3
  exact h3
theorem cover_no {v v' : Bool} {F R : Nat} (g : F < M128) (g' : R < M128) (h : ¬ (v = v' ∧ F ≤ R ∧ R < 2 ^ L v)) : Ev (fun k => prefix_Cover.f k v (iH F) (iL F) v' (iH R) (iL R)) [] := by
  have hbad : Ev (fun k => prefix_Cover.j0 k true v (iH F) (iL F) v' (iH R) (iL R)) [] := Ev.step (fun k => by rw [prefix_Cover.j0]) (ev_if_pos rfl (Ev.now _))
  unfold prefix_Cover.f
  refine ev_bind_const (addr_Valid_eq v F g) ?_
  by_cases c1 : F < 2 ^ L v
  · refine ev_if_pos (decide_eq_true c1) (ev_bind_const (addr_Valid_eq v' R g') ?_)
    by_cases c2 : R < 2 ^ L v'
    · refine ev_if_pos (decide_eq_true c2) ?_
      by_cases c3 : v = v'
      · subst c3
        refine ev_if_neg (by simp) ?_
        have hc : ∀ k, addr_Compare.f (k + 1) v (iH F) (iL F) v (iH R) (iL R) = some (cmpA v F v R) := fun k => cmpA_eq k v _ v _
        refine Ev.bind (ev_of_eq 1 hc) ?_
        have hle : decide (cmpA v F v R > 0) = true := by
          apply decide_eq_true
          have hlt : R < F := by
            rcases Nat.lt_or_ge R F with w | w
            · exact w
            · exact absurd ⟨rfl, w, c2⟩ h
          unfold cmpA
          rw [if_pos rfl, if_neg (by omega), if_pos hlt]
          decide
        rw [hle]
        exact hbad
      · refine ev_if_pos (by simpa using c3) hbad
    · refine ev_if_neg (by rw [decide_eq_false c2]; decide) hbad
  · refine ev_if_neg (by rw [decide_eq_false c1]; decide) hbad
end Go.Proofs.YteflcmmandlknaaGreatDoor.PrxCv
