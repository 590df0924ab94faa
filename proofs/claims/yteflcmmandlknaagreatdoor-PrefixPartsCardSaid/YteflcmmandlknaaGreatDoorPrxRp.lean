/-
  The reference's parts, halves and covers, told with numbers. Conditions: each theorem's own.
-/
import Derived.Test.YteflcmmandlknaaGreatDoorPAx17
import Derived.Test.YteflcmmandlknaaGreatDoorPrxR
import Derived.Test.YteflcmmandlknaaGreatDoorPrxH
namespace Go.Proofs.YteflcmmandlknaaGreatDoor.PrxRp
open Go.RowKit Go.Proofs.YteflcmmandlknaaGreatDoorW.PrintWords Go.Proofs.YteflcmmandlknaaGreatDoor.Num Go.Proofs.YteflcmmandlknaaGreatDoor.Bits Go.Proofs.YteflcmmandlknaaGreatDoor.PrxN Go.Proofs.YteflcmmandlknaaGreatDoor.PrxS Go.Proofs.YteflcmmandlknaaGreatDoor.PrxT Go.Proofs.YteflcmmandlknaaGreatDoor.PrxH Go.Proofs.YteflcmmandlknaaGreatDoor.PrxR Go.Proofs.YteflcmmandlknaaGreatDoor.PA
set_option linter.unusedVariables false
set_option linter.unusedSimpArgs false
set_option maxRecDepth 100000

theorem part_l0 (v : Bool) (N : Nat) (b : Int) (n i : Nat) (hi : i * 2 ^ (L v - n) < M128) : ∀ (d c : Nat), c + d = L v → n ≤ c →
    Ev (fun k => ddiref03_Part.l0 k (n : Int) (iH (i * 2 ^ (c - n))) (iL (i * 2 ^ (c - n))) (c : Int) v (iH N) (iL N) b)
      (v, IntKind.u64.wrap (iH N + iH (i * 2 ^ (L v - n))), IntKind.u64.wrap (iL N + iL (i * 2 ^ (L v - n))), (n : Int), true)
  | 0, c, h, hc => by
    have : c = L v := by omega
    subst this
    have hge : ¬ ((L v : Nat) : Int) < (L v : Int) := by omega
    refine Ev.step (fun k => by rw [ddiref03_Part.l0]) ?_
    refine ev_bind_const (long_eq v) (ev_if_neg hge ?_)
    exact Ev.now _
  | d + 1, c, h, hc => by
    have hL := L_le v
    have ih := part_l0 v N b n i hi d (c + 1) (by omega) (by omega)
    have e : i * 2 ^ (c + 1 - n) = 2 * (i * 2 ^ (c - n)) := by
      rw [show c + 1 - n = (c - n) + 1 by omega, Nat.pow_succ, ← Nat.mul_assoc, Nat.mul_comm _ 2]
    have hX : i * 2 ^ (c - n) < 170141183460469231731687303715884105728 := by
      have h1 : i * 2 ^ (c + 1 - n) ≤ i * 2 ^ (L v - n) := Nat.mul_le_mul_left _ (Nat.pow_le_pow_right (by decide) (by omega))
      rw [e] at h1
      unfold M128 at hi
      omega
    obtain ⟨d1, d2, d3, d4⟩ := dbl _ hX
    have hlt : (c : Int) < (L v : Int) := by omega
    have ew : wrap64 ((c : Int) + 1) = ((c + 1 : Nat) : Int) := by rw [wrap64_id (by omega) (by omega)]; omega
    refine Ev.step (fun k => by rw [ddiref03_Part.l0]) ?_
    refine ev_bind_const (long_eq v) (ev_if_pos hlt ?_)
    rw [d1, d2, ew, ← e]
    exact ih
theorem RPart_ev (v : Bool) (N : Nat) (b n : Int) (i : Nat) (h : N < M128) (hi : i < 18446744073709551616) : Ev (fun k => ddiref03_Part.f k v (iH N) (iL N) b n (i : Int)) (PartS v N b n i) := by
  have hL := L_le v
  have hno : ¬ (VP v N b ∧ b ≤ n ∧ n ≤ (L v : Int) ∧ i < 2 ^ (n - b).toNat) → PartS v N b n i = (false, 0, 0, 0, false) := fun q => if_neg q
  have hbad : ¬ (VP v N b ∧ b ≤ n ∧ n ≤ (L v : Int) ∧ i < 2 ^ (n - b).toNat) → Ev (fun k => ddiref03_Part.j0 k n (i : Int) true v (iH N) (iL N) b) (PartS v N b n i) := fun q => by
    rw [hno q]
    refine Ev.step (fun k => by rw [ddiref03_Part.j0]) ?_
    refine ev_if_pos rfl ?_
    exact Ev.now _
  unfold ddiref03_Part.f
  refine Ev.bind (RValid_ev v N b h) ?_
  by_cases c1 : VP v N b
  · refine ev_if_pos (decide_eq_true c1) ?_
    by_cases c2 : n < b
    · exact ev_if_pos c2 (hbad (fun q => by omega))
    · refine ev_if_neg c2 (ev_bind_const (long_eq v) ?_)
      by_cases c3 : n > (L v : Int)
      · rw [decide_eq_true c3]
        exact hbad (fun q => by omega)
      · rw [decide_eq_false c3]
        obtain ⟨h1, h2, h3, h4⟩ := id c1
        obtain ⟨m, rfl⟩ : ∃ m : Nat, n = (m : Int) := ⟨n.toNat, by omega⟩
        obtain ⟨a, rfl⟩ : ∃ a : Nat, b = (a : Int) := ⟨b.toNat, by omega⟩
        have ha : a ≤ m := by omega
        have hm : m ≤ L v := by omega
        have ew : wrap64 ((m : Int) - (a : Int)) = ((m - a : Nat) : Int) := by rw [wrap64_id (by omega) (by omega)]; omega
        have et : ((m : Int) - (a : Int)).toNat = m - a := by omega
        have hbnd : (i : Int) > iL (2 ^ (m - a) - 1) ↔ ¬ i < 2 ^ (m - a) := by
          have hp : 0 < 2 ^ (m - a) := Nat.pow_pos (by decide)
          by_cases w : m - a < 64
          · have := two_pow_lt w
            unfold iL
            generalize 2 ^ (m - a) = p at *
            omega
          · have h64 : (2 : Nat) ^ 64 = 18446744073709551616 := by decide
            have hd : 2 ^ (m - a) = 18446744073709551616 * 2 ^ (m - a - 64) := by rw [← h64, ← Nat.pow_add, show 64 + (m - a - 64) = m - a by omega]
            have hq : 0 < 2 ^ (m - a - 64) := Nat.pow_pos (by decide)
            unfold iL
            rw [hd]
            generalize 2 ^ (m - a - 64) = p at *
            omega
        refine Ev.step (fun k => by rw [ddiref03_Part.j0]) ?_
        refine ev_if_neg (by decide) ?_
        rw [ew]
        refine Ev.bind (ones_ev (m - a) (by omega)) ?_
        by_cases c4 : i < 2 ^ (m - a)
        · refine ev_if_neg (fun q => (hbnd.mp q) c4) ?_
          have hpl := place_lt (v := v) (b := (a : Int)) (n := (m : Int)) (i := i) (by omega) (by omega) (by omega) (by rw [et]; exact c4)
          simp only [Int.toNat_natCast] at hpl h4
          have hpM : 2 ^ (L v - a) ≤ M128 := by rw [M128_eq]; exact Nat.pow_le_pow_right (by decide) (by omega)
          have hl := part_l0 v N (a : Int) m i (by omega) (L v - m) m (by omega) (Nat.le_refl _)
          rw [Nat.sub_self, Nat.pow_zero, Nat.mul_one] at hl
          have z1 : iH i = 0 := by unfold iH; omega
          have z2 : iL i = (i : Int) := by unfold iL; omega
          rw [z1, z2] at hl
          obtain ⟨a1, a2⟩ := add_i (k := L v - a) (m := i * 2 ^ (L v - m)) h (by omega) h4 hpl
          rw [a1, a2] at hl
          have e : PartS v N (a : Int) (m : Int) i = _ := if_pos ⟨c1, by omega, by omega, by rw [et]; exact c4⟩
          rw [e, Int.toNat_natCast]
          exact hl
        · refine ev_if_pos (hbnd.mpr c4) ?_
          rw [hno (fun q => c4 (by have := q.2.2.2; rwa [et] at this))]
          exact Ev.now _
  · exact ev_if_neg (by rw [decide_eq_false c1]; decide) (hbad (fun q => c1 q.1))
theorem RHalves_ev (v : Bool) (N : Nat) (b : Int) (h : N < M128) : Ev (fun k => ddiref03_Halves.f k v (iH N) (iL N) b) (HalvesS v N b) := by
  have hL := L_le v
  have p0 := RPart_ev v N b (wrap64 (b + 1)) 0 h (by decide)
  have p1 := RPart_ev v N b (wrap64 (b + 1)) 1 h (by decide)
  unfold ddiref03_Halves.f
  refine Ev.bind p0 (Ev.bind p1 ?_)
  by_cases c : VP v N b ∧ b + 1 ≤ (L v : Int)
  · obtain ⟨c1, c2⟩ := c
    have h0 := c1.2.1
    have ew : wrap64 (b + 1) = b + 1 := wrap64_id (by omega) (by omega)
    have hd : (b + 1 - b).toNat = 1 := by omega
    have q0 : PartS v N b (b + 1) 0 = (v, iH N, iL N, b + 1, true) := by
      have : PartS v N b (b + 1) 0 = _ := if_pos ⟨c1, by omega, c2, by rw [hd]; decide⟩
      rw [this, Nat.zero_mul, Nat.add_zero]
    have q1 : PartS v N b (b + 1) 1 = (v, iH (halfN v N b 1), iL (halfN v N b 1), b + 1, true) := if_pos ⟨c1, by omega, c2, by rw [hd]; decide⟩
    have q2 : HalvesS v N b = _ := if_pos ⟨c1, c2⟩
    rw [ew, q0, q1, q2]
    exact ev_if_pos rfl (Ev.now _)
  · have q2 : HalvesS v N b = _ := if_neg c
    have q1 : PartS v N b (wrap64 (b + 1)) 1 = (false, 0, 0, 0, false) := by
      refine if_neg (fun q => c ⟨q.1, ?_⟩)
      have h0 := q.1.2.1
      have h9 := q.1.2.2.1
      have ew : wrap64 (b + 1) = b + 1 := wrap64_id (by omega) (by omega)
      have := q.2.2.1
      rwa [ew] at this
    rw [q1, q2]
    exact ev_if_neg (by decide) (Ev.now _)
end Go.Proofs.YteflcmmandlknaaGreatDoor.PrxRp
