/-
  The bytes of addresses: what the reference's Wire answers. Conditions: the numbers are of uint64.
-/
import Derived.Test.YteflcmmandlknaaGreatDoorPAx11
import Derived.Test.YteflcmmandlknaaGreatDoorPAx18
import Derived.Test.YteflcmmandlknaaGreatDoorAdW
namespace Go.Proofs.YteflcmmandlknaaGreatDoor.AdX
open Go.RowKit Go.Proofs.YteflcmmandlknaaGreatDoorW.PrintWords Go.Proofs.YteflcmmandlknaaGreatDoorW.PrintLast Go.Proofs.YteflcmmandlknaaGreatDoorW.PrintMore Go.Proofs.YteflcmmandlknaaGreatDoor.Num Go.Proofs.YteflcmmandlknaaGreatDoor.PA Go.Proofs.YteflcmmandlknaaGreatDoor.AdW
set_option linter.unusedVariables false
set_option linter.unusedSimpArgs false
theorem ref_Valid_eq (v : Bool) (hi lo : Int) : ddiref02_Valid.f v hi lo = some (vld v hi lo) := by
  unfold ddiref02_Valid.f vld
  cases v
  · by_cases h : hi = 0 <;> simp [h]
  · simp

theorem octets_l1 {x : Int} (d : Nat) : ∀ (k : Nat) (l : List Int) (i y j : Int), 0 ≤ y → y < 18446744073709551616 → 0 ≤ j → i ≤ 1000 → i = j + d → l.length < 140737488355328 →
    ddiref02_octets.l1 (k + d + 1) x l i y j = ddiref02_octets.l0 k x (l ++ [y / 256 ^ d % 256]) (i - 1) := by
  induction d with
  | zero =>
    intro k l i y j h0 h1 h2 h3 h4 h5
    simp only [ddiref02_octets.l1]
    rw [if_neg (by omega), if_pos h5, wrap64_id (by omega) (by omega), Int.tmod_eq_emod_of_nonneg h0]
    simp
  | succ d ih =>
    intro k l i y j h0 h1 h2 h3 h4 h5
    have hi := ih k l i (y / 256) (j + 1) (by omega) (by omega) (by omega) h3 (by omega) h5
    have hk : k + (d + 1) + 1 = (k + d + 1) + 1 := by omega
    rw [hk]
    generalize k + d + 1 = m at hi ⊢
    simp only [ddiref02_octets.l1]
    have e : y / 256 % 18446744073709551616 = y / 256 := by omega
    rw [if_pos (by omega), wrap64_id (by omega) (by omega), Int.tdiv_eq_ediv_of_nonneg h0, wrap_u64, e, hi, Int.ediv_ediv_of_nonneg (by omega), Int.pow_succ, Int.mul_comm]
theorem octets_l0 {x : Int} (h0 : 0 ≤ x) (h1 : x < 18446744073709551616) (n : Nat) (hn : n ≤ 1000) : ∀ (l : List Int), l.length + n ≤ 1000 → Ev (fun k => ddiref02_octets.l0 k x l ((n : Int) - 1)) (strOfNums (l ++ octF n x)) := by
  induction n with
  | zero =>
    intro l hl
    refine ev_of_eq 1 (fun k => ?_)
    simp only [ddiref02_octets.l0]
    rw [if_neg (by omega)]
    simp [octF]
  | succ n ih =>
    intro l hl
    have hm := ih (by omega) (l ++ [x / 256 ^ n % 256]) (by simp; omega)
    obtain ⟨K, hK⟩ := hm
    refine ⟨K + n + 2, fun k hk => ?_⟩
    obtain ⟨m, rfl⟩ : ∃ m, k = (m + n + 1) + 1 := ⟨k - n - 2, by omega⟩
    simp only [ddiref02_octets.l0]
    rw [if_pos (by omega), octets_l1 n m l _ x 0 h0 h1 (by omega) (by omega) (by omega) (by omega)]
    have e : (((n + 1 : Nat) : Int) - 1 - 1) = (n : Int) - 1 := by omega
    have hm := hK m (by omega)
    simp only at hm
    rw [e, hm]
    simp [octF]
theorem ref_octets_ev {x : Int} (h : U64 x) (n : Nat) (hn : n ≤ 1000) : Ev (fun k => ddiref02_octets.f k x n) (strOfNums (octF n x)) := by
  unfold ddiref02_octets.f
  rw [wrap64_id (by omega) (by omega)]
  exact octets_l0 h.1 h.2 n hn [] (by simp; omega)

theorem ref_Wire_ev {v : Bool} {hi lo : Int} (h1 : U64 hi) (h2 : U64 lo) : Ev (fun k => ddiref02_Wire.f k v hi lo) (wireS v hi lo) := by
  unfold ddiref02_Wire.f wireS
  refine ev_bind_const (ref_Valid_eq v hi lo) ?_
  cases hv : vld v hi lo
  · exact ev_if_neg (by simp) (Ev.now _)
  · refine ev_if_pos rfl ?_
    rw [if_pos rfl]
    cases v
    · refine ev_if_neg (by simp) ?_
      rw [if_neg (by simp)]
      exact Ev.bind (ref_octets_ev h2 4 (by omega)) (Ev.now _)
    · refine ev_if_pos rfl ?_
      rw [if_pos rfl]
      refine Ev.bind (ref_octets_ev h1 8 (by omega)) (Ev.bind (ref_octets_ev h2 8 (by omega)) (ev_if_pos ?_ (Ev.now _)))
      rw [strOfNums_size, strOfNums_size, octF_length, octF_length]; omega
end Go.Proofs.YteflcmmandlknaaGreatDoor.AdX
