/-
  The reference's covers are the program's. Conditions: each theorem's own.
-/
import Derived.Test.YteflcmmandlknaaGreatDoorPAx12
import Derived.Test.YteflcmmandlknaaGreatDoorPAx20
import Derived.Test.YteflcmmandlknaaGreatDoorPAx21
import Derived.Test.YteflcmmandlknaaGreatDoorPAx22
import Derived.Test.YteflcmmandlknaaGreatDoorPrxRb
import Derived.Test.YteflcmmandlknaaGreatDoorPrxRm
import Derived.Test.YteflcmmandlknaaGreatDoorPrxCv
namespace Go.Proofs.YteflcmmandlknaaGreatDoor.PrxRc
open Go.RowKit Go.Proofs.YteflcmmandlknaaGreatDoorW.PrintWords Go.Proofs.YteflcmmandlknaaGreatDoor.Num Go.Proofs.YteflcmmandlknaaGreatDoor.PrxN Go.Proofs.YteflcmmandlknaaGreatDoor.PrxS Go.Proofs.YteflcmmandlknaaGreatDoor.PrxT Go.Proofs.YteflcmmandlknaaGreatDoor.PrxZ Go.Proofs.YteflcmmandlknaaGreatDoor.PrxCv Go.Proofs.YteflcmmandlknaaGreatDoor.PrxR Go.Proofs.YteflcmmandlknaaGreatDoor.PA
set_option linter.unusedVariables false
set_option linter.unusedSimpArgs false
set_option maxRecDepth 100000

theorem RAdd1 (v : Bool) (N : Nat) (h : N + 1 < 2 ^ L v) : ddiref02_Add.f v (iH N) (iL N) 1 = some (v, iH (N + 1), iL (N + 1), true) := by
  have hM := pow_L v
  have hv := rvalid2 v N (by omega)
  rw [decide_eq_true (by omega)] at hv
  unfold ddiref02_Add.f
  rw [hv]
  simp only [Option.bind_some, if_true]
  cases v
  · have e : (2 : Nat) ^ L false = 4294967296 := by decide
    have z : iH N = 0 := by unfold iH; omega
    have z1 : iH (N + 1) = 0 := by unfold iH; omega
    have zl : iL N = (N : Int) := by unfold iL; omega
    have zl1 : iL (N + 1) = (N : Int) + 1 := by unfold iL; omega
    rw [if_neg (by decide), zl, zl1, z1, wrap_u64, wrap_u64]
    rw [e] at h
    rw [if_neg (by omega)]
    rw [show ((N : Int) + 1) % 18446744073709551616 = (N : Int) + 1 by omega]
  · have e : (2 : Nat) ^ L true = 340282366920938463463374607431768211456 := by decide
    rw [e] at h
    rw [if_pos rfl, wrap_u64, wrap_u64]
    by_cases c : iL N = 18446744073709551615
    · have c1 : (iL N + 1) % 18446744073709551616 < iL N := by rw [c]; decide
      have c2 : ¬ iH N = 18446744073709551615 := by
        unfold iH
        unfold iL at c
        omega
      rw [if_pos c1, if_neg c2]
      have e1 : (iH N + 1) % 18446744073709551616 = iH (N + 1) := by
        unfold iH at *
        unfold iL at c
        omega
      have e2 : (iL N + 1) % 18446744073709551616 = iL (N + 1) := by
        unfold iL at *
        omega
      rw [e1, e2]
    · have c1 : ¬ (iL N + 1) % 18446744073709551616 < iL N := by
        unfold iL at *
        omega
      rw [if_neg c1]
      have e1 : iH N = iH (N + 1) := by
        unfold iH
        unfold iL at c
        omega
      have e2 : (iL N + 1) % 18446744073709551616 = iL (N + 1) := by
        unfold iL at *
        omega
      rw [← e1, e2]
section
variable {v : Bool} {R : Nat}
theorem rbounds_at {N c : Nat} (hN : N < 2 ^ L v) (hc : c ≤ L v) : Ev (fun k => ddiref03_Bounds.f k v (iH N) (iL N) (c : Int)) (if N % 2 ^ (L v - c) = 0 then (v, iH N, iL N, v, iH (N + (2 ^ (L v - c) - 1)), iL (N + (2 ^ (L v - c) - 1)), true) else (false, 0, 0, false, 0, 0, false)) := by
  have hM := pow_L v
  have h := RBounds_ev v N (c : Int) (by omega)
  have e : BoundsS v N (c : Int) = if N % 2 ^ (L v - c) = 0 then (v, iH N, iL N, v, iH (N + (2 ^ (L v - c) - 1)), iL (N + (2 ^ (L v - c) - 1)), true) else (false, 0, 0, false, 0, 0, false) := by
    by_cases w : N % 2 ^ (L v - c) = 0
    · rw [if_pos w]
      have : BoundsS v N (c : Int) = _ := if_pos ⟨hN, by omega, by omega, by rw [Int.toNat_natCast]; exact w⟩
      rw [this]
      unfold lastN
      rw [Int.toNat_natCast]
    · rw [if_neg w]
      exact if_neg (fun q => w (by have := q.2.2.2; rwa [Int.toNat_natCast] at this))
  rw [e] at h
  exact h
theorem biggest_l0 {N j : Nat} (hR : R < 2 ^ L v) (b : Blk (L v) R N j) : ∀ (d c : Nat), c + d = L v - j →
    Ev (fun k => ddiref03_biggest.l0 k (c : Int) v (iH N) (iL N) v (iH R) (iL R)) (v, iH N, iL N, ((L v - j : Nat) : Int))
  | d, c, h => by
    have hL := L_le v
    have hp : 0 < 2 ^ (L v - c) := Nat.pow_pos (by decide)
    have hpj : 0 < 2 ^ j := Nat.pow_pos (by decide)
    have hfit := b.fit
    have hle := b.le
    have hN : N < 2 ^ L v := by omega
    have hc : (c : Int) ≤ (L v : Int) := by omega
    have hb := rbounds_at (v := v) (N := N) (c := c) hN (by omega)
    refine Ev.step (fun k => by rw [ddiref03_biggest.l0]) ?_
    refine ev_bind_const (long_eq v) (ev_if_pos hc (Ev.bind hb ?_))
    have le : ∀ x y : Nat, cmpA v x v y ≤ 0 ↔ x ≤ y := fun x y => by
      unfold cmpA
      rw [if_pos rfl]
      by_cases w : x < y
      · rw [if_pos w]; exact ⟨fun _ => by omega, fun _ => by decide⟩
      · rw [if_neg w]
        by_cases w2 : y < x
        · rw [if_pos w2]; exact ⟨fun q => absurd q (by decide), fun _ => by omega⟩
        · rw [if_neg w2]; exact ⟨fun _ => by omega, fun _ => by decide⟩
    have ew : wrap64 ((c : Int) + 1) = ((c + 1 : Nat) : Int) := by rw [wrap64_id (by omega) (by omega)]; omega
    cases d with
    | zero =>
      have hcj : c = L v - j := by omega
      subst hcj
      have ej : L v - (L v - j) = j := by omega
      rw [ej, if_pos b.al]
      refine ev_if_pos rfl (ev_bind_const (RcmpA_eq v _ v R) (ev_if_pos ((le _ _).mpr (by omega)) ?_))
      exact Ev.now _
    | succ d =>
      have ih := biggest_l0 hR b d (c + 1) (by omega)
      by_cases w : N % 2 ^ (L v - c) = 0
      · rw [if_pos w]
        refine ev_if_pos rfl (ev_bind_const (RcmpA_eq v _ v R) (ev_if_neg (fun q => ?_) ?_))
        · have hlast := (le _ _).mp q
          have hpow : 2 ^ (j + 1) ≤ 2 ^ (L v - c) := Nat.pow_le_pow_right (by decide) (by omega)
          exact b.max ⟨al_down w (by omega), by omega, by omega⟩
        · rw [ew]
          exact ih
      · rw [if_neg w]
        refine ev_if_neg (by decide) ?_
        rw [ew]
        exact ih
theorem biggest_ev {N j : Nat} (hR : R < 2 ^ L v) (b : Blk (L v) R N j) : Ev (fun k => ddiref03_biggest.f k v (iH N) (iL N) v (iH R) (iL R)) (v, iH N, iL N, ((L v - j : Nat) : Int)) := by
  have h := biggest_l0 hR b (L v - j) 0 (by omega)
  exact h
theorem rcover_l0 (F : Nat) (hR : R < 2 ^ L v) : ∀ (t : List (Nat × Nat)) (N i : Nat) (acc : List S26), Cov (L v) R N t → i + t.length ≤ 300 → acc.length + t.length ≤ 1000 →
    Ev (fun k => ddiref03_Cover.l0 k acc (i : Int) v (iH F) (iL F) v (iH R) (iL R) v (iH N) (iL N)) (acc ++ t.map (pf v))
  | _, _, i, acc, .last (N := N) (j := j) b e, hi, ha => by
    have hp : 0 < 2 ^ j := Nat.pow_pos (by decide)
    have hle := b.le
    simp at hi ha
    have hlt : (i : Int) < 300 := by omega
    have hacc : acc.length < 4398046511104 := by omega
    have hb := rbounds_at (v := v) (N := N) (c := L v - j) (by omega) (by omega)
    have ej : L v - (L v - j) = j := by omega
    rw [ej, if_pos b.al] at hb
    refine Ev.step (fun k => by rw [ddiref03_Cover.l0]) ?_
    refine ev_if_pos hlt (Ev.bind (biggest_ev hR b) (ev_if_pos hacc (ev_bind_const rfl (Ev.bind hb ?_))))
    have hl : N + (2 ^ j - 1) = R := by omega
    refine ev_if_pos ?_ (Ev.now _)
    show (v == v && (iH (N + (2 ^ j - 1)) == iH R && (iL (N + (2 ^ j - 1)) == iL R))) = true
    rw [hl]
    simp
  | _, _, i, acc, .cons (N := N) (j := j) (t := t) b e hc, hi, ha => by
    have hp : 0 < 2 ^ j := Nat.pow_pos (by decide)
    have hle := b.le
    simp at hi ha
    have hlt : (i : Int) < 300 := by omega
    have hacc : acc.length < 4398046511104 := by omega
    have hb := rbounds_at (v := v) (N := N) (c := L v - j) (by omega) (by omega)
    have ej : L v - (L v - j) = j := by omega
    rw [ej, if_pos b.al] at hb
    have ih := rcover_l0 F hR t (N + 2 ^ j) (i + 1) (acc ++ [pf v (N, j)]) hc (by omega) (by rw [List.length_append]; simp; omega)
    have ew : wrap64 ((i : Int) + 1) = ((i + 1 : Nat) : Int) := by rw [wrap64_id (by omega) (by omega)]; omega
    refine Ev.step (fun k => by rw [ddiref03_Cover.l0]) ?_
    refine ev_if_pos hlt (Ev.bind (biggest_ev hR b) (ev_if_pos hacc (ev_bind_const rfl (Ev.bind hb ?_))))
    have hne : ¬ (v == v && (iH (N + (2 ^ j - 1)) == iH R && (iL (N + (2 ^ j - 1)) == iL R))) = true := fun q => by
      simp only [Bool.and_eq_true, beq_iff_eq] at q
      have := i_inj q.2.1 q.2.2
      omega
    refine ev_if_neg hne ?_
    have had := RAdd1 v (N + (2 ^ j - 1)) (by omega)
    rw [show N + (2 ^ j - 1) + 1 = N + 2 ^ j by omega] at had
    refine ev_bind_const had ?_
    rw [ew, List.map_cons]
    rw [List.append_assoc] at ih
    exact ih
theorem rcover_yes {F : Nat} {t : List (Nat × Nat)} (hR : R < 2 ^ L v) (hF : F ≤ R) (hc : Cov (L v) R F t) (hl : t.length ≤ 257) : Ev (fun k => ddiref03_Cover.f k v (iH F) (iL F) v (iH R) (iL R)) (t.map (pf v)) := by
  have hM := pow_L v
  have h := rcover_l0 F hR t F 0 [] hc (by omega) (by simp; omega)
  unfold ddiref03_Cover.f
  refine ev_bind_const (rvalid2 v F (by omega)) (ev_if_pos (decide_eq_true (by omega)) ?_)
  refine ev_bind_const (rvalid2 v R (by omega)) (ev_if_pos (decide_eq_true hR) (ev_if_neg (by simp) ?_))
  refine ev_bind_const (RcmpA_eq v F v R) ?_
  have hle : decide (cmpA v F v R > 0) = false := by
    apply decide_eq_false
    unfold cmpA
    rw [if_pos rfl]
    by_cases w : F < R
    · rw [if_pos w]; decide
    · rw [if_neg w, if_neg (by omega)]; decide
  rw [hle]
  refine Ev.step (fun k => by rw [ddiref03_Cover.j0]) ?_
  exact ev_if_neg (by decide) h
end
theorem rcover_no {v v' : Bool} {F R : Nat} (g : F < M128) (g' : R < M128) (h : ¬ (v = v' ∧ F ≤ R ∧ R < 2 ^ L v)) : Ev (fun k => ddiref03_Cover.f k v (iH F) (iL F) v' (iH R) (iL R)) [] := by
  have hbad : Ev (fun k => ddiref03_Cover.j0 k true v (iH F) (iL F) v' (iH R) (iL R)) [] := by
    refine Ev.step (fun k => by rw [ddiref03_Cover.j0]) ?_
    exact ev_if_pos rfl (Ev.now _)
  unfold ddiref03_Cover.f
  refine ev_bind_const (rvalid2 v F g) ?_
  by_cases c1 : F < 2 ^ L v
  · refine ev_if_pos (decide_eq_true c1) (ev_bind_const (rvalid2 v' R g') ?_)
    by_cases c2 : R < 2 ^ L v'
    · refine ev_if_pos (decide_eq_true c2) ?_
      by_cases c3 : v = v'
      · subst c3
        refine ev_if_neg (by simp) (ev_bind_const (RcmpA_eq v F v R) ?_)
        have hle : decide (cmpA v F v R > 0) = true := by
          apply decide_eq_true
          have hlt : R < F := by
            rcases Nat.lt_or_ge R F with w | w
            · exact w
            · exact absurd ⟨rfl, w, c2⟩ h
          unfold cmpA
          rw [if_pos rfl, if_neg (by omega), if_pos hlt]
          decide
        rw [hle]
        exact hbad
      · exact ev_if_pos (by simpa using c3) hbad
    · exact ev_if_neg (by rw [decide_eq_false c2]; decide) hbad
  · exact ev_if_neg (by rw [decide_eq_false c1]; decide) hbad
section
variable {K0 : Nat} (haw : ∀ m, K0 ≤ m → ddilaw03_awake.f m = some true)
include haw
theorem same_l0 (l : List S26) (hl : l.length ≤ 1000) : ∀ (d i : Nat), i + d = l.length → Ev (fun k => ddilaw03_PrefixCovers.l0 k l l (i : Int)) true
  | 0, i, h => by
    have he : Ev (fun k => ddilaw03_awake.f k) true := ⟨K0, haw⟩
    have hge : ¬ (i : Int) < (l.length : Int) := by omega
    refine Ev.step (fun k => by rw [ddilaw03_PrefixCovers.l0]) ?_
    exact ev_if_neg hge (Ev.bind he (Ev.now _))
  | d + 1, i, h => by
    have ih := same_l0 l hl d (i + 1) (by omega)
    have hlt : (i : Int) < (l.length : Int) := by omega
    have h0 : (0 : Int) ≤ (i : Int) := by omega
    have ew : wrap64 ((i : Int) + 1) = ((i + 1 : Nat) : Int) := by rw [wrap64_id (by omega) (by omega)]; omega
    refine Ev.step (fun k => by rw [ddilaw03_PrefixCovers.l0]) ?_
    refine ev_if_pos hlt (ev_if_pos h0 (ev_if_pos hlt (ev_if_neg (by simp) ?_)))
    rw [ew]
    exact ih
theorem covers_ev (v : Bool) (F : Nat) (v' : Bool) (R : Nat) (g : F < M128) (g' : R < M128) : Ev (fun k => ddilaw03_PrefixCovers.f k v (iH F) (iL F) v' (iH R) (iL R)) true := by
  unfold ddilaw03_PrefixCovers.f
  by_cases c : v = v' ∧ F ≤ R ∧ R < 2 ^ L v
  · obtain ⟨rfl, c2, c3⟩ := c
    obtain ⟨t, h1, h2, h3⟩ := cover_yes c3 c2
    refine Ev.bind h3 (Ev.bind (rcover_yes c3 c2 h1 h2) (ev_if_pos rfl ?_))
    exact same_l0 haw _ (by rw [List.length_map]; omega) _ 0 (Nat.zero_add _)
  · refine Ev.bind (cover_no g g' c) (Ev.bind (rcover_no g g' c) (ev_if_pos rfl ?_))
    exact same_l0 haw _ (by simp) _ 0 (Nat.zero_add _)
end
end Go.Proofs.YteflcmmandlknaaGreatDoor.PrxRc
