/-
  The text of an address, the reference's side: digits, groups, the longest run of zeros, the text. Conditions: numbers within their kinds.
-/
import Derived.Test.YteflcmmandlknaaGreatDoorAddrQa
import Derived.Test.YteflcmmandlknaaGreatDoorPAx11
import Derived.Test.YteflcmmandlknaaGreatDoorPAx12
import Derived.Test.YteflcmmandlknaaGreatDoorPAx13
namespace Go.Proofs.YteflcmmandlknaaGreatDoor.Qb
open Go.RowKit Go.Proofs.YteflcmmandlknaaGreatDoorW.PrintWords Go.Proofs.YteflcmmandlknaaGreatDoorW.PrintLast Go.Proofs.YteflcmmandlknaaGreatDoor.Num Go.Proofs.YteflcmmandlknaaGreatDoor.PA Go.Proofs.YteflcmmandlknaaGreatDoor.Qa
set_option linter.unusedVariables false
set_option linter.unusedSimpArgs false

theorem hex_all : ∀ i : Fin 16, ddiref02_hex.f (i.val : Int) = some (bs [hexd i.val]) := by decide +kernel
theorem hex_at (n : Nat) (h : n < 16) : ddiref02_hex.f (n : Int) = some (bs [hexd n]) := hex_all ⟨n, h⟩
theorem dec_all : ∀ i : Fin 256, ddiref02_decimal.f (i.val : Int) = some (bs (dd i.val)) := by decide +kernel
theorem dec_at (n : Nat) (h : n < 256) : ddiref02_decimal.f (n : Int) = some (bs (dd n)) := dec_all ⟨n, h⟩
theorem tdiv_nat (a b : Nat) : Int.tdiv (a : Int) (b : Int) = ((a / b : Nat) : Int) := by
  rw [Int.tdiv_eq_ediv_of_nonneg (by omega)]
  rfl
theorem tmod_nat (a b : Nat) : Int.tmod (a : Int) (b : Int) = ((a % b : Nat) : Int) := by
  rw [Int.tmod_eq_emod_of_nonneg (by omega)]
  rfl
theorem wrap_nat (a : Nat) (h : a < 18446744073709551616) : IntKind.u64.wrap (a : Int) = (a : Int) := wrap_u64_id ⟨by omega, by omega⟩
/-- The digits ahead of the last. -/
def pre (n : Nat) : List UInt8 := if n = 0 then [] else if n < 16 then [hexd n] else if n < 256 then [hexd (n / 16), hexd (n % 16)] else [hexd (n / 256), hexd (n / 16 % 16), hexd (n % 16)]
theorem pre_step (n : Nat) (h0 : n ≠ 0) (h : n < 4096) : pre n = pre (n / 16) ++ [hexd (n % 16)] := by
  unfold pre
  rw [if_neg h0]
  by_cases h1 : n < 16
  · rw [if_pos h1, if_pos (by omega), show n % 16 = n by omega]
    rfl
  · rw [if_neg h1, if_neg (by omega : ¬ n / 16 = 0)]
    by_cases h2 : n < 256
    · rw [if_pos h2, if_pos (by omega)]
      rfl
    · rw [if_neg h2, if_neg (by omega), if_pos (by omega), Nat.div_div_eq_div_mul]
      rfl
theorem hexText_pre (n : Nat) (h : n < 65536) : hexText n = pre (n / 16) ++ [hexd (n % 16)] := by
  unfold hexText pre
  by_cases h1 : n < 16
  · rw [if_pos h1, if_pos (by omega), show n % 16 = n by omega]
    rfl
  · rw [if_neg h1, if_neg (by omega : ¬ n / 16 = 0)]
    by_cases h2 : n < 256
    · rw [if_pos h2, if_pos (by omega)]
      rfl
    · rw [if_neg h2]
      by_cases h3 : n < 4096
      · rw [if_pos h3, if_neg (by omega : ¬ n / 16 < 16), if_pos (by omega : n / 16 < 256), Nat.div_div_eq_div_mul]
        rfl
      · rw [if_neg h3, if_neg (by omega : ¬ n / 16 < 16), if_neg (by omega : ¬ n / 16 < 256), Nat.div_div_eq_div_mul, Nat.div_div_eq_div_mul]
        rfl
theorem gt_l0 : ∀ (d i n : Nat) (s : List UInt8), i + d = 3 → n < 16 ^ d → s.length ≤ 1 + i → Ev (fun k => ddiref02_groupText.l0 k (n : Int) (bs s) (i : Int)) (bs (pre n ++ s))
  | 0, i, n, s, hi, hn, hs => by
    have h0 : n = 0 := by rw [Nat.pow_zero] at hn; omega
    subst h0
    refine Ev.step (fun k => by rw [ddiref02_groupText.l0]) (ev_if_neg (by omega) ?_)
    exact Ev.now _
  | d + 1, i, n, s, hi, hn, hs => by
    have hb : n < 4096 := Nat.lt_of_lt_of_le hn (Nat.le_trans (Nat.pow_le_pow_right (by decide) (by omega : d + 1 ≤ 3)) (by decide))
    refine Ev.step (fun k => by rw [ddiref02_groupText.l0]) (ev_if_pos (by omega) ?_)
    by_cases h0 : n = 0
    · subst h0
      refine ev_if_neg (by decide) ?_
      exact Ev.now _
    · refine ev_if_pos (by omega) ?_
      rw [show (16 : Int) = ((16 : Nat) : Int) from rfl, tmod_nat, tdiv_nat, wrap_nat _ (by omega)]
      refine ev_bind_const (hex_at _ (by omega)) ?_
      rw [bs_app, wrap64_id (by omega) (by omega)]
      refine ev_if_pos (by rw [bs_size, bs_size]; simp only [List.length_cons, List.length_nil]; omega) ?_
      have ih := gt_l0 d (i + 1) (n / 16) ([hexd (n % 16)] ++ s) (by omega) (by rw [Nat.pow_succ] at hn; omega) (by simp only [List.length_append, List.length_cons, List.length_nil]; omega)
      rw [pre_step n h0 hb, List.append_assoc]
      exact ih
theorem groupText_ev (x : Int) (h0 : 0 ≤ x) (h1 : x < 65536) : Ev (fun k => ddiref02_groupText.f k x) (bs (hx x)) := by
  obtain ⟨n, rfl⟩ : ∃ n : Nat, x = n := ⟨x.toNat, by omega⟩
  unfold ddiref02_groupText.f hx
  rw [show (16 : Int) = ((16 : Nat) : Int) from rfl, tmod_nat, tdiv_nat, wrap_nat _ (by omega), Int.toNat_natCast, hexText_pre n (by omega)]
  refine ev_bind_const (hex_at _ (by omega)) ?_
  exact gt_l0 3 0 (n / 16) [hexd (n % 16)] rfl (by show _ < 4096; omega) (by simp)
theorem part_l0 : ∀ (d i x : Nat), i + d = 3 → x < 18446744073709551616 → Ev (fun k => ddiref02_part.l0 k (x : Int) (i : Int)) ((x / 65536 ^ d % 65536 : Nat) : Int)
  | 0, i, x, hi, hx => by
    refine Ev.step (fun k => by rw [ddiref02_part.l0]) (ev_if_neg (by omega) ?_)
    rw [show (65536 : Int) = ((65536 : Nat) : Int) from rfl, tmod_nat, Nat.pow_zero, Nat.div_one]
    exact Ev.now _
  | d + 1, i, x, hi, hx => by
    refine Ev.step (fun k => by rw [ddiref02_part.l0]) (ev_if_pos (by omega) ?_)
    rw [show (65536 : Int) = ((65536 : Nat) : Int) from rfl, tdiv_nat, wrap_nat _ (by omega), wrap64_id (by omega) (by omega)]
    have ih := part_l0 d (i + 1) (x / 65536) (by omega) (by omega)
    rw [Nat.div_div_eq_div_mul, Nat.mul_comm, ← Nat.pow_succ] at ih
    exact ih
theorem grp_at (hi lo : Nat) (j : Nat) (hj : j < 8) : rd (grp8 (hi : Int) (lo : Int)) (j : Int) = (((if j < 4 then hi / 65536 ^ (3 - j) else lo / 65536 ^ (7 - j)) % 65536 : Nat) : Int) := by
  have h16 : ∀ y : Int, IntKind.u16.wrap y = y % 65536 := fun _ => rfl
  match j, hj with
  | 0, _ => show IntKind.u16.wrap ((hi : Int) / 281474976710656) = _; rw [h16]; simp only [show (0 : Nat) < 4 from by decide, if_true]; omega
  | 1, _ => show IntKind.u16.wrap ((hi : Int) / 4294967296) = _; rw [h16]; simp only [show (1 : Nat) < 4 from by decide, if_true]; omega
  | 2, _ => show IntKind.u16.wrap ((hi : Int) / 65536) = _; rw [h16]; simp only [show (2 : Nat) < 4 from by decide, if_true]; omega
  | 3, _ => show IntKind.u16.wrap (hi : Int) = _; rw [h16]; simp only [show (3 : Nat) < 4 from by decide, if_true]; omega
  | 4, _ => show IntKind.u16.wrap ((lo : Int) / 281474976710656) = _; rw [h16]; simp only [show ¬ (4 : Nat) < 4 from by decide, if_false]; omega
  | 5, _ => show IntKind.u16.wrap ((lo : Int) / 4294967296) = _; rw [h16]; simp only [show ¬ (5 : Nat) < 4 from by decide, if_false]; omega
  | 6, _ => show IntKind.u16.wrap ((lo : Int) / 65536) = _; rw [h16]; simp only [show ¬ (6 : Nat) < 4 from by decide, if_false]; omega
  | 7, _ => show IntKind.u16.wrap (lo : Int) = _; rw [h16]; simp only [show ¬ (7 : Nat) < 4 from by decide, if_false]; omega
theorem part_ev (v : Bool) (hi lo : Int) (h1 : U64 hi) (h2 : U64 lo) (j : Nat) (hj : j < 8) : Ev (fun k => ddiref02_part.f k v hi lo (j : Int)) (rd (grp8 hi lo) (j : Int)) := by
  obtain ⟨a, rfl⟩ : ∃ n : Nat, hi = n := ⟨hi.toNat, by have := h1.1; omega⟩
  obtain ⟨b, rfl⟩ : ∃ n : Nat, lo = n := ⟨lo.toNat, by have := h2.1; omega⟩
  have ha := h1.2
  have hb := h2.2
  rw [grp_at a b j hj]
  unfold ddiref02_part.f
  by_cases h : j < 4
  · rw [if_pos h]
    refine ev_if_neg (by omega) (Ev.step (fun k => by rw [ddiref02_part.j0]) ?_)
    exact part_l0 (3 - j) j a (by omega) (by omega)
  · rw [if_neg h]
    refine ev_if_pos (by omega) (Ev.step (fun k => by rw [ddiref02_part.j0]) ?_)
    rw [wrap64_id (by omega) (by omega), show (j : Int) - 4 = ((j - 4 : Nat) : Int) by omega]
    exact part_l0 (7 - j) (j - 4) b (by omega) (by omega)
theorem run_l1 (v : Bool) (hi lo : Int) (h1 : U64 hi) (h2 : U64 lo) (p : Nat × Nat) (r : Int × Int) (i : Nat) (hi8 : i < 8) (hnext : Ev (fun k => ddiref02_run.l0 k ((lstep (grp8 hi lo) p i).1 : Int) ((lstep (grp8 hi lo) p i).2 : Int) ((i + 1 : Nat) : Int) v hi lo) r) :
    ∀ (d n : Nat), i + n + d = 8 → (∀ j, j < n → (grp8 hi lo).getD (i + j) 0 = 0) → Ev (fun k => ddiref02_run.l1 k (p.1 : Int) (p.2 : Int) (i : Int) (n : Int) v hi lo) r := by
  have hout : ∀ n : Nat, n ≤ 8 → zr (grp8 hi lo) i = n → Ev (fun k => if (n : Int) > (p.2 : Int) then ddiref02_run.l0 k (i : Int) (n : Int) (wrap64 ((i : Int) + 1)) v hi lo else ddiref02_run.l0 k (p.1 : Int) (p.2 : Int) (wrap64 ((i : Int) + 1)) v hi lo) r := by
    intro n hn8 hz
    rw [wrap64_id (by omega) (by omega)]
    unfold lstep at hnext
    rw [hz] at hnext
    by_cases hgt : n > p.2
    · rw [if_pos hgt] at hnext
      exact ev_if_pos (by omega) hnext
    · rw [if_neg hgt] at hnext
      exact ev_if_neg (by omega) hnext
  intro d
  induction d with
  | zero =>
    intro n hn hz
    refine Ev.step (fun k => by rw [ddiref02_run.l1]) ?_
    rw [wrap64_id (by omega) (by omega)]
    refine ev_if_neg (by omega) ?_
    exact hout n (by omega) (zr_eq (grp8 hi lo) rfl n i (by omega) hz (fun h => absurd h (by omega)))
  | succ d ih =>
    intro n hn hz
    refine Ev.step (fun k => by rw [ddiref02_run.l1]) ?_
    rw [wrap64_id (by omega) (by omega)]
    refine ev_if_pos (by omega) ?_
    have hp := part_ev v hi lo h1 h2 (i + n) (by omega)
    rw [show ((i + n : Nat) : Int) = (i : Int) + (n : Int) by omega] at hp
    refine Ev.bind hp ?_
    have hr : rd (grp8 hi lo) ((i : Int) + (n : Int)) = (grp8 hi lo).getD (i + n) 0 := by
      unfold rd
      rw [show ((i : Int) + (n : Int)).toNat = i + n by omega]
    rw [hr]
    by_cases h0 : (grp8 hi lo).getD (i + n) 0 = 0
    · refine ev_if_pos h0 ?_
      rw [wrap64_id (by omega) (by omega)]
      refine ih (n + 1) (by omega) (fun j hj => ?_)
      rcases Nat.lt_succ_iff_lt_or_eq.1 hj with h | h
      · exact hz j h
      · rw [h]; exact h0
    · refine ev_if_neg h0 ?_
      exact hout n (by omega) (zr_eq (grp8 hi lo) rfl n i (by omega) hz (fun _ => h0))
theorem run_l0 (v : Bool) (hi lo : Int) (h1 : U64 hi) (h2 : U64 lo) : ∀ (d i : Nat) (p : Nat × Nat), i + d = 8 → p = (List.range i).foldl (lstep (grp8 hi lo)) (0, 0) → Ev (fun k => ddiref02_run.l0 k (p.1 : Int) (p.2 : Int) (i : Int) v hi lo) (((longest (grp8 hi lo)).1 : Int), ((longest (grp8 hi lo)).2 : Int))
  | 0, i, p, hd, hp => by
    have hi8 : i = 8 := by omega
    subst hi8
    have hp' : p = longest (grp8 hi lo) := hp
    subst hp'
    refine Ev.step (fun k => by rw [ddiref02_run.l0]) (ev_if_neg (by decide) ?_)
    exact Ev.now _
  | d + 1, i, p, hd, hp => by
    refine Ev.step (fun k => by rw [ddiref02_run.l0]) (ev_if_pos (by omega) ?_)
    refine run_l1 v hi lo h1 h2 p _ i (by omega) ?_ (8 - i) 0 (by omega) (fun j hj => absurd hj (by omega))
    exact run_l0 v hi lo h1 h2 d (i + 1) _ (by omega) (by rw [lfold_succ, ← hp])
theorem run_ev (v : Bool) (hi lo : Int) (h1 : U64 hi) (h2 : U64 lo) : Ev (fun k => ddiref02_run.f k v hi lo) (((longest (grp8 hi lo)).1 : Int), ((longest (grp8 hi lo)).2 : Int)) := by
  unfold ddiref02_run.f
  exact run_l0 v hi lo h1 h2 8 0 (0, 0) (by omega) rfl
end Go.Proofs.YteflcmmandlknaaGreatDoor.Qb
