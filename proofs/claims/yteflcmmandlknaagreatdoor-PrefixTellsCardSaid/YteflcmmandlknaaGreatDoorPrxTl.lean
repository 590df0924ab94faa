/-
  The law PrefixTells, told with numbers: the program and the reference print and compare alike. Conditions: each theorem's own.
-/
import Derived.Test.YteflcmmandlknaaGreatDoorPAx5
import Derived.Test.YteflcmmandlknaaGreatDoorPAx10
import Derived.Test.YteflcmmandlknaaGreatDoorPAx11
import Derived.Test.YteflcmmandlknaaGreatDoorPAx14
import Derived.Test.YteflcmmandlknaaGreatDoorPAx16
import Derived.Test.YteflcmmandlknaaGreatDoorAddrQc
import Derived.Test.YteflcmmandlknaaGreatDoorPrxSq
import Derived.Test.YteflcmmandlknaaGreatDoorPrxRq
namespace Go.Proofs.YteflcmmandlknaaGreatDoor.PrxTl
open Go.RowKit Go.Proofs.YteflcmmandlknaaGreatDoorW.PrintWords Go.Proofs.YteflcmmandlknaaGreatDoor.Num Go.Proofs.YteflcmmandlknaaGreatDoor.PrxN Go.Proofs.YteflcmmandlknaaGreatDoor.PrxS Go.Proofs.YteflcmmandlknaaGreatDoor.PrxT Go.Proofs.YteflcmmandlknaaGreatDoor.PrxR Go.Proofs.YteflcmmandlknaaGreatDoor.PA Go.Proofs.YteflcmmandlknaaGreatDoor.Qa Go.Proofs.YteflcmmandlknaaGreatDoor.Qb Go.Proofs.YteflcmmandlknaaGreatDoor.Qc
set_option linter.unusedVariables false
set_option linter.unusedSimpArgs false
set_option maxRecDepth 100000

theorem itoa_len : ∀ i : Fin 129, (Lib.itoa (i.val : Int)).length ≤ 3 := by decide +kernel
theorem itoa_f (n : Nat) (h : n ≤ 128) : strconv_Itoa.f (n : Int) = some (bs (Lib.itoa (n : Int))) := by
  unfold strconv_Itoa.f
  rw [if_pos (by omega)]
  rfl
theorem dec_at : ∀ i : Fin 129, ddiref03_Decimal.f 30 (i.val : Int) = some (bs (Lib.itoa (i.val : Int))) := by decide +kernel
theorem dec_ev (n : Nat) (h : n ≤ 128) : Ev (fun k => ddiref03_Decimal.f k (n : Int)) (bs (Lib.itoa (n : Int))) :=
  ⟨30, fun m hm => at_rounds (ddiref03_Decimal.mono _) hm (dec_at ⟨n, by omega⟩)⟩
theorem out_at {v : Bool} {N : Nat} (h : N < 2 ^ L v) : ∃ t : List UInt8, outP v (iH N) (iL N) = (bs t, 0) ∧ t.length ≤ 200 := by
  unfold outP
  by_cases hv : v = true
  · rw [if_pos hv]
    refine ⟨out6 (grp8 (iH N) (iL N)), rfl, ?_⟩
    have h8 : (grp8 (iH N) (iL N)).length = 8 := rfl
    unfold out6
    by_cases c : (longest (grp8 (iH N) (iL N))).2 < 2
    · rw [if_pos c]
      have := J_len (grp8 (iH N) (iL N))
      omega
    · rw [if_neg c]
      have a1 := J_len ((grp8 (iH N) (iL N)).take (longest (grp8 (iH N) (iL N))).1)
      have a2 := J_len ((grp8 (iH N) (iL N)).drop ((longest (grp8 (iH N) (iL N))).1 + (longest (grp8 (iH N) (iL N))).2))
      simp only [List.length_append, List.length_take, List.length_drop, List.length_cons, List.length_nil] at a1 a2 ⊢
      omega
  · rw [if_neg hv]
    have hf : v = false := by cases v <;> simp_all
    subst hf
    have e : (2 : Nat) ^ L false = 4294967296 := by decide
    have h2 : iH N = 0 ∧ iL N ≤ 4294967295 := by
      unfold iH iL
      omega
    rw [if_pos h2]
    refine ⟨out4 (iL N).toNat, rfl, ?_⟩
    have := out4_len (iL N).toNat
    omega
/-- What both print. -/
def prS (v : Bool) (N : Nat) (b : Int) : ByteArray × Int := if VP v N b then (((outP v (iH N) (iL N)).1 ++ (⟨#[47]⟩ : ByteArray)) ++ bs (Lib.itoa b), 0) else ((⟨#[]⟩ : ByteArray), 3)
theorem print_ev (v : Bool) (N : Nat) (b : Int) (h : N < M128) : Ev (fun k => prefix_Print.f k v (iH N) (iL N) b) (prS v N b) := by
  unfold prefix_Print.f prS
  refine ev_bind_const (Valid_eq v N b h) ?_
  by_cases c : VP v N b
  · obtain ⟨n, rfl⟩ : ∃ n : Nat, b = (n : Int) := ⟨b.toNat, by have := c.2.1; omega⟩
    have hn : n ≤ 128 := by have := c.2.2.1; have := L_le v; omega
    obtain ⟨t, e1, e2⟩ := out_at c.1
    have hp := Print_ev v (iH N) (iL N) (u64_H h) (u64_L N)
    rw [e1] at hp
    have i2 := itoa_len ⟨n, by omega⟩
    simp only at i2
    rw [if_pos c, e1]
    refine ev_if_pos (decide_eq_true c) (Ev.bind hp ?_)
    have s1 : (bs t ++ (⟨#[47]⟩ : ByteArray)) = bs (t ++ [47]) := bs_app t [47]
    refine ev_if_pos (by rw [bs_size]; omega) (ev_bind_const (itoa_f n hn) ?_)
    rw [s1]
    refine ev_if_pos (by rw [bs_size, bs_size, List.length_append]; simp; omega) ?_
    exact Ev.now _
  · rw [if_neg c]
    exact ev_if_neg (by rw [decide_eq_false c]; decide) (Ev.now _)
theorem rprint_ev (v : Bool) (N : Nat) (b : Int) (h : N < M128) : Ev (fun k => ddiref03_Print.f k v (iH N) (iL N) b) (prS v N b) := by
  unfold ddiref03_Print.f prS
  refine Ev.bind (RValid_ev v N b h) ?_
  by_cases c : VP v N b
  · obtain ⟨n, rfl⟩ : ∃ n : Nat, b = (n : Int) := ⟨b.toNat, by have := c.2.1; omega⟩
    have hn : n ≤ 128 := by have := c.2.2.1; have := L_le v; omega
    obtain ⟨t, e1, e2⟩ := out_at c.1
    have hp := ref_Print_ev v (iH N) (iL N) (u64_H h) (u64_L N)
    rw [e1] at hp
    have i2 := itoa_len ⟨n, by omega⟩
    simp only at i2
    rw [if_pos c, e1]
    refine ev_if_pos (decide_eq_true c) (Ev.bind hp ?_)
    have s1 : (bs t ++ (⟨#[47]⟩ : ByteArray)) = bs (t ++ [47]) := bs_app t [47]
    refine ev_if_pos (by rw [bs_size]; omega) (Ev.bind (dec_ev n hn) ?_)
    rw [s1]
    refine ev_if_pos (by rw [bs_size, bs_size, List.length_append]; simp; omega) ?_
    exact Ev.now _
  · rw [if_neg c]
    exact ev_if_neg (by rw [decide_eq_false c]; decide) (Ev.now _)
theorem bne_self {α : Type} [BEq α] [LawfulBEq α] (x : α) : (x != x) = false := by simp
section
variable {K0 : Nat} (haw : ∀ m, K0 ≤ m → ddilaw03_awake.f m = some true)
include haw
theorem j0_ev (v : Bool) (N : Nat) (b : Int) (v' : Bool) (M : Nat) (b' : Int) (va : Bool) (A : Nat) (ba : Int) (g : N < M128) (g' : M < M128) (ga : A < M128) :
    Ev (fun k => ddilaw03_PrefixTells.j0 k false v (iH N) (iL N) b v' (iH M) (iL M) b' va (iH A) (iL A) ba) true := by
  have he : Ev (fun k => ddilaw03_awake.f k) true := ⟨K0, haw⟩
  refine Ev.step (fun k => by rw [ddilaw03_PrefixTells.j0]) ?_
  refine ev_if_neg (by decide) ?_
  refine ev_bind_const (Contains_eq v N b va A g ga) (Ev.bind (RContains_ev v N b va A g ga) (ev_if_pos (beq_self_eq_true _) ?_))
  refine ev_bind_const (Within_eq v N b v' M b' g g') (Ev.bind (RWithin_ev v N b v' M b' g g') (ev_if_pos (beq_self_eq_true _) ?_))
  refine ev_bind_const (Overlap_eq v N b v' M b' g g') (Ev.bind (ROverlap_ev v N b v' M b' g g') (ev_if_pos (beq_self_eq_true _) ?_))
  exact Ev.bind he (Ev.now _)
theorem tells_ev (v : Bool) (N : Nat) (b : Int) (v' : Bool) (M : Nat) (b' : Int) (va : Bool) (A : Nat) (ba : Int) (g : N < M128) (g' : M < M128) (ga : A < M128) :
    Ev (fun k => ddilaw03_PrefixTells.f k v (iH N) (iL N) b v' (iH M) (iL M) b' va (iH A) (iL A) ba) true := by
  unfold ddilaw03_PrefixTells.f
  refine Ev.bind (print_ev v N b g) (Ev.bind (rprint_ev v N b g) ?_)
  refine ev_bind_const (Of_eq va A ba ga) (Ev.bind (ROf_ev va A ba ga) ?_)
  refine ev_bind_const (Valid_eq v N b g) (Ev.bind (RValid_ev v N b g) ?_)
  refine ev_if_neg (by rw [bne_self]; decide) (ev_if_pos rfl (ev_if_pos rfl ?_))
  have hc : Ev (fun k => prefix_Compare.f k v (iH N) (iL N) b v' (iH M) (iL M) b') (cmpP v N b v' M b') := ⟨1, fun m hm => by
    obtain ⟨k, rfl⟩ : ∃ k, m = k + 1 := ⟨m - 1, by omega⟩
    exact cmpP_eq k v N b v' M b'⟩
  refine Ev.bind hc (ev_bind_const (RcmpP_eq v N b v' M b') (ev_if_pos rfl ?_))
  refine ev_if_neg (by simp) ?_
  rw [bne_self]
  exact j0_ev haw v N b v' M b' va A ba g g' ga
end
end Go.Proofs.YteflcmmandlknaaGreatDoor.PrxTl
