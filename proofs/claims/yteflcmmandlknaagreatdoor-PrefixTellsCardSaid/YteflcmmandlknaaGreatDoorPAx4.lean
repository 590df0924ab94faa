/- The Go functions in Lean, with the proofs that the code comes to these answers: printed by this session's program (wip/px) out of the seat's translation. Conditions: each theorem's own. -/
import Derived.Test.YteflcmmandlknaaGreatDoorPAx0
namespace Go.Proofs.YteflcmmandlknaaGreatDoor.PA
open Go.RowKit Go.Proofs.YteflcmmandlknaaGreatDoorW.PrintWords Go.Proofs.YteflcmmandlknaaGreatDoorW.PrintLast Go.Proofs.YteflcmmandlknaaGreatDoorW.PrintMore
attribute [local go_sem] max2_int min2_int max_two min_two max_three min_three max_four min_four   -- for this text's walks alone
attribute [local go_sem ↓] Ext.isSome_setCell
open Press
set_option linter.unusedVariables false
set_option linter.unusedSimpArgs false
/-! ### prefix_later: function 43 -/
def prefix_later.f (a0 : Bool) (a1 : Int) : Option (Int × Int) := if a0 = true then (if a1 ≥ 64 then (if 0 ≤ (IntKind.u64.wrap (wrap64 (128 - a1))) then (some (0, IntKind.u64.wrap ((shl .u64 1 (IntKind.u64.wrap (wrap64 (128 - a1)))) - 1))) else (none)) else (if 0 ≤ (IntKind.u64.wrap (wrap64 (64 - a1))) then (some (IntKind.u64.wrap ((shl .u64 1 (IntKind.u64.wrap (wrap64 (64 - a1)))) - 1), 18446744073709551615)) else (none))) else (if 0 ≤ (IntKind.u64.wrap (wrap64 (32 - a1))) then (some (0, IntKind.u64.wrap ((shl .u64 1 (IntKind.u64.wrap (wrap64 (32 - a1)))) - 1))) else (none))
set_option maxHeartbeats 40000000 in
set_option maxRecDepth 100000 in
theorem prefix_later.calls (a0 : Bool) (a1 : Int) (r1 : Int) (r2 : Int) (w : World) (h : prefix_later.f a0 a1 = some (r1, r2)) :
 Calls Tryz.prog 43 #[.bool a0, .int .i64 a1] w fun e w' => e = .returned (.tuple #[.int .u64 r1, .int .u64 r2]) ∧ Drawn0 w w' := by
 have H : (if a0 = true then (if a1 ≥ 64 then (if 0 ≤ (IntKind.u64.wrap (wrap64 (128 - a1))) then (some (0, IntKind.u64.wrap ((shl .u64 1 (IntKind.u64.wrap (wrap64 (128 - a1)))) - 1))) else (none)) else (if 0 ≤ (IntKind.u64.wrap (wrap64 (64 - a1))) then (some (IntKind.u64.wrap ((shl .u64 1 (IntKind.u64.wrap (wrap64 (64 - a1)))) - 1), 18446744073709551615)) else (none))) else (if 0 ≤ (IntKind.u64.wrap (wrap64 (32 - a1))) then (some (0, IntKind.u64.wrap ((shl .u64 1 (IntKind.u64.wrap (wrap64 (32 - a1)))) - 1))) else (none))) = some (r1, r2) := h
 clear h
 by_cases c3 : a0 = true
 ·
  subst c3
  have H1 : (if a1 ≥ 64 then (if 0 ≤ (IntKind.u64.wrap (wrap64 (128 - a1))) then (some (0, IntKind.u64.wrap ((shl .u64 1 (IntKind.u64.wrap (wrap64 (128 - a1)))) - 1))) else (none)) else (if 0 ≤ (IntKind.u64.wrap (wrap64 (64 - a1))) then (some (IntKind.u64.wrap ((shl .u64 1 (IntKind.u64.wrap (wrap64 (64 - a1)))) - 1), 18446744073709551615)) else (none))) = some (r1, r2) := by rw [if_pos rfl] at H; exact H
  clear H
  have H := H1
  clear H1
  by_cases c4 : a1 ≥ 64
  ·
   rw [if_pos c4] at H
   have c4b0 := decide_eq_true c4
   clear c4
   obtain ⟨ji5, hji5⟩ : ∃ j_ : Int, (IntKind.u64.wrap (wrap64 (128 - a1))) = j_ := ⟨_, rfl⟩
   replace H : (if 0 ≤ (ji5) then (some (0, IntKind.u64.wrap ((shl .u64 1 (ji5)) - 1))) else (none)) = some (r1, r2) := by first | (rw [hji5] at H; exact H) | (simp only [hji5] at H ⊢; exact H)
   by_cases c6 : 0 ≤ (ji5)
   ·
    rw [if_pos c6] at H
    have c6b0 := eq_true c6
    have c6b1 := decide_eq_true c6
    clear c6
    obtain ⟨ji7, hji7⟩ : ∃ j_ : Int, (shl .u64 1 (ji5)) = j_ := ⟨_, rfl⟩
    (try rw [hji7] at hji5)
    replace H : (some (0, IntKind.u64.wrap ((ji7) - 1))) = some (r1, r2) := by first | (rw [hji7] at H; exact H) | (simp only [hji7] at H ⊢; exact H)
    have hji7_ : (IntKind.u64.wrap (1 * 2 ^ min (ji5).toNat 64)) = ji7 := hji7
    have hji7z : (ji5) ≤ 64 → (IntKind.u64.wrap (1 * 2 ^ (ji5).toNat)) = ji7 := shl_small hji7
    have hji7u : (IntKind.u64.wrap (2 ^ min (ji5).toNat 64)) = ji7 := by have h_ := hji7_; rw [Int.one_mul] at h_; exact h_
    have hji7v : (ji5) ≤ 64 → (IntKind.u64.wrap (2 ^ (ji5).toNat)) = ji7 := fun hle_ => by have h_ := hji7z hle_; rw [Int.one_mul] at h_; exact h_
    simp only [Option.some.injEq, Prod.mk.injEq] at H
    obtain ⟨rfl, rfl⟩ := H
    go_enter Tryz.func43, Tryz.ntmps43
    go_wp2
    go_ret2
    exact ⟨by first | rfl | (simp; done) | (simp only [← hji5, ← hji7] <;> (first | rfl | simp)) | (simp [*]; done) | ((try simp only [Bool.not_not]); (generalize ByteArray.toList _ = l_); cases l_ <;> rfl) | (simp; (generalize ByteArray.toList _ = l_); cases l_ <;> rfl), by repeat (first | exact Drawn0.refl _ | apply Drawn0.step)⟩
   ·
    rw [if_neg c6] at H
    exact absurd H (by simp)
  ·
   rw [if_neg c4] at H
   have c4b0 := decide_eq_false c4
   clear c4
   obtain ⟨ji8, hji8⟩ : ∃ j_ : Int, (IntKind.u64.wrap (wrap64 (64 - a1))) = j_ := ⟨_, rfl⟩
   replace H : (if 0 ≤ (ji8) then (some (IntKind.u64.wrap ((shl .u64 1 (ji8)) - 1), 18446744073709551615)) else (none)) = some (r1, r2) := by first | (rw [hji8] at H; exact H) | (simp only [hji8] at H ⊢; exact H)
   by_cases c9 : 0 ≤ (ji8)
   ·
    rw [if_pos c9] at H
    have c9b0 := eq_true c9
    have c9b1 := decide_eq_true c9
    clear c9
    obtain ⟨ji10, hji10⟩ : ∃ j_ : Int, (shl .u64 1 (ji8)) = j_ := ⟨_, rfl⟩
    (try rw [hji10] at hji8)
    replace H : (some (IntKind.u64.wrap ((ji10) - 1), 18446744073709551615)) = some (r1, r2) := by first | (rw [hji10] at H; exact H) | (simp only [hji10] at H ⊢; exact H)
    have hji10_ : (IntKind.u64.wrap (1 * 2 ^ min (ji8).toNat 64)) = ji10 := hji10
    have hji10z : (ji8) ≤ 64 → (IntKind.u64.wrap (1 * 2 ^ (ji8).toNat)) = ji10 := shl_small hji10
    have hji10u : (IntKind.u64.wrap (2 ^ min (ji8).toNat 64)) = ji10 := by have h_ := hji10_; rw [Int.one_mul] at h_; exact h_
    have hji10v : (ji8) ≤ 64 → (IntKind.u64.wrap (2 ^ (ji8).toNat)) = ji10 := fun hle_ => by have h_ := hji10z hle_; rw [Int.one_mul] at h_; exact h_
    simp only [Option.some.injEq, Prod.mk.injEq] at H
    obtain ⟨rfl, rfl⟩ := H
    go_enter Tryz.func43, Tryz.ntmps43
    go_wp2
    go_ret2
    exact ⟨by first | rfl | (simp; done) | (simp only [← hji8, ← hji10] <;> (first | rfl | simp)) | (simp [*]; done) | ((try simp only [Bool.not_not]); (generalize ByteArray.toList _ = l_); cases l_ <;> rfl) | (simp; (generalize ByteArray.toList _ = l_); cases l_ <;> rfl), by repeat (first | exact Drawn0.refl _ | apply Drawn0.step)⟩
   ·
    rw [if_neg c9] at H
    exact absurd H (by simp)
 ·
  replace c3 := Bool.eq_false_iff.mpr c3
  subst c3
  rw [if_neg (show ¬ (false = true) by decide)] at H
  obtain ⟨ji11, hji11⟩ : ∃ j_ : Int, (IntKind.u64.wrap (wrap64 (32 - a1))) = j_ := ⟨_, rfl⟩
  replace H : (if 0 ≤ (ji11) then (some (0, IntKind.u64.wrap ((shl .u64 1 (ji11)) - 1))) else (none)) = some (r1, r2) := by first | (rw [hji11] at H; exact H) | (simp only [hji11] at H ⊢; exact H)
  by_cases c12 : 0 ≤ (ji11)
  ·
   rw [if_pos c12] at H
   have c12b0 := eq_true c12
   have c12b1 := decide_eq_true c12
   clear c12
   obtain ⟨ji13, hji13⟩ : ∃ j_ : Int, (shl .u64 1 (ji11)) = j_ := ⟨_, rfl⟩
   (try rw [hji13] at hji11)
   replace H : (some (0, IntKind.u64.wrap ((ji13) - 1))) = some (r1, r2) := by first | (rw [hji13] at H; exact H) | (simp only [hji13] at H ⊢; exact H)
   have hji13_ : (IntKind.u64.wrap (1 * 2 ^ min (ji11).toNat 64)) = ji13 := hji13
   have hji13z : (ji11) ≤ 64 → (IntKind.u64.wrap (1 * 2 ^ (ji11).toNat)) = ji13 := shl_small hji13
   have hji13u : (IntKind.u64.wrap (2 ^ min (ji11).toNat 64)) = ji13 := by have h_ := hji13_; rw [Int.one_mul] at h_; exact h_
   have hji13v : (ji11) ≤ 64 → (IntKind.u64.wrap (2 ^ (ji11).toNat)) = ji13 := fun hle_ => by have h_ := hji13z hle_; rw [Int.one_mul] at h_; exact h_
   simp only [Option.some.injEq, Prod.mk.injEq] at H
   obtain ⟨rfl, rfl⟩ := H
   go_enter Tryz.func43, Tryz.ntmps43
   go_wp2
   go_ret2
   exact ⟨by first | rfl | (simp; done) | (simp only [← hji11, ← hji13] <;> (first | rfl | simp)) | (simp [*]; done) | ((try simp only [Bool.not_not]); (generalize ByteArray.toList _ = l_); cases l_ <;> rfl) | (simp; (generalize ByteArray.toList _ = l_); cases l_ <;> rfl), by repeat (first | exact Drawn0.refl _ | apply Drawn0.step)⟩
  ·
   rw [if_neg c12] at H
   exact absurd H (by simp)

/-! ### prefix_length: function 46 -/
def prefix_length.f (a0_0 : Bool) (a0_1 : Int) (a0_2 : Int) : Option (Int) := if a0_0 = true then (some 128) else (some 32)
set_option maxHeartbeats 40000000 in
set_option maxRecDepth 100000 in
theorem prefix_length.calls (a0_0 : Bool) (a0_1 : Int) (a0_2 : Int) (r : Int) (w : World) (h : prefix_length.f a0_0 a0_1 a0_2 = some r) :
 Calls Tryz.prog 46 #[.agg #[.bool a0_0, .int .u64 a0_1, .int .u64 a0_2]] w fun e w' => e = .returned (.int .i64 r) ∧ Below w.heap.size w w' := by
 have hu24 := Tryz.underlying24
 have HB := Aside0.mk (Below.refl w.heap.size w)
 have H : (if a0_0 = true then (some 128) else (some 32)) = some r := h
 clear h
 by_cases c2 : a0_0 = true
 ·
  subst c2
  rw [if_pos rfl] at H
  obtain rfl := Option.some.inj H
  go_enter Tryz.func46, Tryz.ntmps46
  go_wp2_with (first | ((with_reducible refine gate_dst (N := 1) rfl ?_); refine boxA (N := 1) (cs := #[.bool true, .int .u64 a0_1, .int .u64 a0_2]) (t := 24) ?_; intro gb101 hg w3 hbox hb; have BK101 := Aside0.mk (hbox); have GE101 := (pZ HB hg); replace HB := (pS HB hb); clear hb hbox hg; obtain ⟨hcz4_0, hcz4_1, hcz4_2, hfz4_0, hfz4_1, hfz4_2⟩ := pC3 BK101))
  go_ret
  exact pR (pE HB)
 ·
  replace c2 := Bool.eq_false_iff.mpr c2
  subst c2
  rw [if_neg (show ¬ (false = true) by decide)] at H
  obtain rfl := Option.some.inj H
  go_enter Tryz.func46, Tryz.ntmps46
  go_wp2_with (first | ((with_reducible refine gate_dst (N := 1) rfl ?_); refine boxA (N := 1) (cs := #[.bool false, .int .u64 a0_1, .int .u64 a0_2]) (t := 24) ?_; intro gb101 hg w5 hbox hb; have BK101 := Aside0.mk (hbox); have GE101 := (pZ HB hg); replace HB := (pS HB hb); clear hb hbox hg; obtain ⟨hcz6_0, hcz6_1, hcz6_2, hfz6_0, hfz6_1, hfz6_2⟩ := pC3 BK101))
  go_ret
  exact pR (pE HB)

/-! ### addr_Valid: function 50 -/
def addr_Valid.f (a0_0 : Bool) (a0_1 : Int) (a0_2 : Int) : Option (Bool) := if a0_0 = true then (some true) else (if a0_1 = 0 then (some (decide (a0_2 ≤ 4294967295))) else (some false))
set_option maxHeartbeats 40000000 in
set_option maxRecDepth 100000 in
theorem addr_Valid.calls (a0_0 : Bool) (a0_1 : Int) (a0_2 : Int) (r : Bool) (w : World) (h : addr_Valid.f a0_0 a0_1 a0_2 = some r) :
 Calls Tryz.prog 50 #[.agg #[.bool a0_0, .int .u64 a0_1, .int .u64 a0_2]] w fun e w' => e = .returned (.bool r) ∧ Below w.heap.size w w' := by
 have hu24 := Tryz.underlying24
 have HB := Aside0.mk (Below.refl w.heap.size w)
 have H : (if a0_0 = true then (some true) else (if a0_1 = 0 then (some (decide (a0_2 ≤ 4294967295))) else (some false))) = some r := h
 clear h
 by_cases c2 : a0_0 = true
 ·
  subst c2
  rw [if_pos rfl] at H
  obtain rfl := Option.some.inj H
  go_enter Tryz.func50, Tryz.ntmps50
  go_wp2_with (first | ((with_reducible refine gate_dst (N := 1) rfl ?_); refine boxA (N := 1) (cs := #[.bool true, .int .u64 a0_1, .int .u64 a0_2]) (t := 24) ?_; intro gb102 hg w3 hbox hb; have BK102 := Aside0.mk (hbox); have GE102 := (pZ HB hg); replace HB := (pS HB hb); clear hb hbox hg; obtain ⟨hcz4_0, hcz4_1, hcz4_2, hfz4_0, hfz4_1, hfz4_2⟩ := pC3 BK102))
  go_ret
  exact pR (pE HB)
 ·
  replace c2 := Bool.eq_false_iff.mpr c2
  subst c2
  rw [if_neg (show ¬ (false = true) by decide)] at H
  by_cases c5 : a0_1 = 0
  ·
   rw [if_pos c5] at H
   have c5b0 : (a0_1 == 0) = true := beq_iff_eq.mpr c5
   have c5b1 : (a0_1 != 0) = false := bne_eq_false_iff_eq.mpr c5
   clear c5
   obtain rfl := Option.some.inj H
   go_enter Tryz.func50, Tryz.ntmps50
   go_wp2_with (first | ((with_reducible refine gate_dst (N := 1) rfl ?_); refine boxA (N := 1) (cs := #[.bool false, .int .u64 a0_1, .int .u64 a0_2]) (t := 24) ?_; intro gb102 hg w6 hbox hb; have BK102 := Aside0.mk (hbox); have GE102 := (pZ HB hg); replace HB := (pS HB hb); clear hb hbox hg; obtain ⟨hcz7_0, hcz7_1, hcz7_2, hfz7_0, hfz7_1, hfz7_2⟩ := pC3 BK102))
   go_ret
   exact pR (pE HB)
  ·
   rw [if_neg c5] at H
   have c5b0 : (a0_1 == 0) = false := beq_eq_false_iff_ne.mpr c5
   have c5b1 : (a0_1 != 0) = true := bne_iff_ne.mpr c5
   obtain rfl := Option.some.inj H
   go_enter Tryz.func50, Tryz.ntmps50
   go_wp2_with (first | ((with_reducible refine gate_dst (N := 1) rfl ?_); refine boxA (N := 1) (cs := #[.bool false, .int .u64 a0_1, .int .u64 a0_2]) (t := 24) ?_; intro gb102 hg w8 hbox hb; have BK102 := Aside0.mk (hbox); have GE102 := (pZ HB hg); replace HB := (pS HB hb); clear hb hbox hg; obtain ⟨hcz9_0, hcz9_1, hcz9_2, hfz9_0, hfz9_1, hfz9_2⟩ := pC3 BK102))
   go_ret
   exact pR (pE HB)

/-! ### prefix_Valid: function 26 -/
def prefix_Valid.f (a0_0 : Bool) (a0_1 : Int) (a0_2 : Int) (a0_3 : Int) : Option (Bool) := (addr_Valid.f a0_0 a0_1 a0_2).bind fun t104 => (if t104 = true then (if a0_3 < 0 then (some false) else ((prefix_length.f a0_0 a0_1 a0_2).bind fun t105 => (if a0_3 > t105 then (some false) else ((prefix_later.f a0_0 a0_3).bind fun bt106 => (if (Go.bits .and .u64 a0_1 bt106.1) = 0 then (some ((Go.bits .and .u64 a0_2 bt106.2) == 0)) else (some false)))))) else (some false))
def prefix_Valid.T1 : Bool × List (List Nat × List Nat) := (true, [([], []), ([0], [0]), ([1], [1]), ([2], [2]), ([3, 2], [3]), ([4], [4]), ([5, 4], [4, 5]), ([6, 4], [4, 6]), ([4, 7], [4, 7]), ([8, 4], [8]), ([9], [9]), ([10, 9], [9, 10]), ([9], [9]), ([12, 9], [9, 12]), ([13, 9, 9], [9, 13]), ([11, 14, 9], [9, 11, 14]), ([9, 15], [9, 15])])
def prefix_Valid.B1 : List Nat := [0, 1, 3, 7, 15, 31, 63, 127, 255, 511, 1023, 2047, 1023, 5119, 13311, 32767, 65535]
theorem prefix_Valid.tab1 : rtab .any (opsOf Tryz.f26 1) = prefix_Valid.T1 := by kernel_rfl
theorem prefix_Valid.bits1 : waitsOk prefix_Valid.T1.2 prefix_Valid.B1 = true := by kernel_rfl
set_option maxHeartbeats 40000000 in
set_option maxRecDepth 100000 in
theorem prefix_Valid.calls (a0_0 : Bool) (a0_1 : Int) (a0_2 : Int) (a0_3 : Int) (r : Bool) (w : World) (h : prefix_Valid.f a0_0 a0_1 a0_2 a0_3 = some r) :
 Calls Tryz.prog 26 #[.agg #[.bool a0_0, .int .u64 a0_1, .int .u64 a0_2, .int .i64 a0_3]] w fun e w' => e = .returned (.bool r) ∧ Below w.heap.size w w' := by
 have hu26 := Tryz.underlying26
 have hu24 := Tryz.underlying24
 have HB := Aside0.mk (Below.refl w.heap.size w)
 have H : ((addr_Valid.f a0_0 a0_1 a0_2).bind fun t104 => (if t104 = true then (if a0_3 < 0 then (some false) else ((prefix_length.f a0_0 a0_1 a0_2).bind fun t105 => (if a0_3 > t105 then (some false) else ((prefix_later.f a0_0 a0_3).bind fun bt106 => (if (Go.bits .and .u64 a0_1 bt106.1) = 0 then (some ((Go.bits .and .u64 a0_2 bt106.2) == 0)) else (some false)))))) else (some false))) = some r := h
 clear h
 replace H := Option.bind_eq_some_iff.mp H
 obtain ⟨t104, A20, H⟩ := H
 have A2 := Aside0.mk A20
 clear A20
 by_cases c3 : t104 = true
 ·
  subst c3
  rw [if_pos rfl] at H
  by_cases c4 : a0_3 < 0
  ·
   rw [if_pos c4] at H
   have c4b0 := decide_eq_true c4
   clear c4
   obtain rfl := Option.some.inj H
   go_enter Tryz.func26, Tryz.ntmps26
   try go_wp2_with (first | ((with_reducible refine gate_dst (N := 1) rfl ?_); refine boxA (N := 1) (cs := #[.bool a0_0, .int .u64 a0_1, .int .u64 a0_2, .int .i64 a0_3]) (t := 26) ?_; intro gb103 hg w5 hbox hb; have BK103 := Aside0.mk (hbox); have GE103 := (pZ HB hg); replace HB := (pS HB hb); clear hb hbox hg))
   replace BK103 := Aside0.mk (blk_drew BK103.out)
   replace HB := Aside0.mk (below_drew1 HB.out)
   refine start_ (n := 17) (S := fun w' => w'.cell? ⟨gb103, 0, none⟩ = some (.bool a0_0) ∧ w'.cell? ⟨gb103, 1, none⟩ = some (.int .u64 a0_1) ∧ w'.cell? ⟨gb103, 2, none⟩ = some (.int .u64 a0_2) ∧ w'.cell? ⟨gb103, 3, none⟩ = some (.int .i64 a0_3)) (ds := []) (tk 17 0) (by kernel_rfl) rfl rfl ⟨bC BK103 0, bC BK103 1, bC BK103 2, bC BK103 3⟩ (fun hHeld => ?_); refine with_tabW prefix_Valid.tab1 prefix_Valid.bits1 (fun HT_ HW_ => ?_)
   generalize w5.drew = w6 at BK103 HB hHeld ⊢
   refine pureA (i := 0) (some 5) HT_ (tk 17 1) ?_
   refine takeA (i := 1) (some 6) HT_ HW_ (tk 17 2) hHeld ?_
   refine one_ (i := 2) (N := some 7) (tk 17 3) rfl rfl (one_of HT_.out (by kernel_rfl)) (by decide) (fun K hK => ?_)
   refine goesR Tryz.func50 #[.agg #[.bool a0_0, .int .u64 a0_1, .int .u64 a0_2]] ?_
   with_reducible refine (addr_Valid.calls a0_0 a0_1 a0_2 true _ A2.out).mono ?_
   rintro e w7 ⟨rfl, hb⟩
   refine ⟨_, rfl, ?_⟩
   replace BK103 := (pB BK103 hb)
   replace HB := (pS HB hb)
   (try clear hb)
   refine hK.out _ _ ⟨bC BK103 0, bC BK103 1, bC BK103 2, bC BK103 3⟩ (fun hHeld => ?_)
   clear hK K
   refine normA (N := some 7) ?_
   refine pureA (i := 3) (some 8) HT_ (tk 17 4) ?_
   refine pureA (i := 4) (some 9) HT_ (tk 17 5) ?_
   refine pureA (i := 5) (some 10) HT_ (tk 17 6) ?_
   refine takeA (i := 6) (some 11) HT_ HW_ (tk 17 7) hHeld ?_
   refine pureA (i := 7) (some 12) HT_ (tk 17 8) ?_
   refine pureA (i := 8) (some 13) HT_ (tk 17 9) ?_
   refine pureA (i := 9) (some 14) HT_ (tk 17 10) ?_
   refine pureB (i := 10) (some 15) HT_ (tk 17 11) ?_
   refine pureB (i := 11) (some 16) HT_ (tk 17 12) ?_
   refine pureB (i := 12) (some 17) HT_ (tk 17 13) ?_
   refine pureB (i := 13) (some 18) HT_ (tk 17 14) ?_
   refine pureB (i := 14) (some 19) HT_ (tk 17 15) ?_
   refine pureB (i := 15) (some 20) HT_ (tk 17 16) ?_
   refine pureA (i := 16) (some 21) HT_ (tk 17 17) ?_
   refine done_ (done_of HT_.out (by kernel_rfl)) ?_
   try go_wp2
   go_ret
   exact pR (pE HB)
  ·
   rw [if_neg c4] at H
   have c4b0 := decide_eq_false c4
   clear c4
   replace H := Option.bind_eq_some_iff.mp H
   obtain ⟨t105, A80, H⟩ := H
   have A8 := Aside0.mk A80
   clear A80
   by_cases c9 : a0_3 > t105
   ·
    rw [if_pos c9] at H
    have c9b0 := decide_eq_true c9
    clear c9
    obtain rfl := Option.some.inj H
    go_enter Tryz.func26, Tryz.ntmps26
    try go_wp2_with (first | ((with_reducible refine gate_dst (N := 1) rfl ?_); refine boxA (N := 1) (cs := #[.bool a0_0, .int .u64 a0_1, .int .u64 a0_2, .int .i64 a0_3]) (t := 26) ?_; intro gb103 hg w10 hbox hb; have BK103 := Aside0.mk (hbox); have GE103 := (pZ HB hg); replace HB := (pS HB hb); clear hb hbox hg))
    replace BK103 := Aside0.mk (blk_drew BK103.out)
    replace HB := Aside0.mk (below_drew1 HB.out)
    refine start_ (n := 17) (S := fun w' => w'.cell? ⟨gb103, 0, none⟩ = some (.bool a0_0) ∧ w'.cell? ⟨gb103, 1, none⟩ = some (.int .u64 a0_1) ∧ w'.cell? ⟨gb103, 2, none⟩ = some (.int .u64 a0_2) ∧ w'.cell? ⟨gb103, 3, none⟩ = some (.int .i64 a0_3)) (ds := []) (tk 17 0) (by kernel_rfl) rfl rfl ⟨bC BK103 0, bC BK103 1, bC BK103 2, bC BK103 3⟩ (fun hHeld => ?_); refine with_tabW prefix_Valid.tab1 prefix_Valid.bits1 (fun HT_ HW_ => ?_)
    generalize w10.drew = w11 at BK103 HB hHeld ⊢
    refine pureA (i := 0) (some 5) HT_ (tk 17 1) ?_
    refine takeA (i := 1) (some 6) HT_ HW_ (tk 17 2) hHeld ?_
    refine one_ (i := 2) (N := some 7) (tk 17 3) rfl rfl (one_of HT_.out (by kernel_rfl)) (by decide) (fun K hK => ?_)
    refine goesR Tryz.func50 #[.agg #[.bool a0_0, .int .u64 a0_1, .int .u64 a0_2]] ?_
    with_reducible refine (addr_Valid.calls a0_0 a0_1 a0_2 true _ A2.out).mono ?_
    rintro e w12 ⟨rfl, hb⟩
    refine ⟨_, rfl, ?_⟩
    replace BK103 := (pB BK103 hb)
    replace HB := (pS HB hb)
    (try clear hb)
    refine hK.out _ _ ⟨bC BK103 0, bC BK103 1, bC BK103 2, bC BK103 3⟩ (fun hHeld => ?_)
    clear hK K
    refine normA (N := some 7) ?_
    refine pureA (i := 3) (some 8) HT_ (tk 17 4) ?_
    refine pureA (i := 4) (some 9) HT_ (tk 17 5) ?_
    refine pureA (i := 5) (some 10) HT_ (tk 17 6) ?_
    refine takeA (i := 6) (some 11) HT_ HW_ (tk 17 7) hHeld ?_
    refine pureA (i := 7) (some 12) HT_ (tk 17 8) ?_
    refine pureA (i := 8) (some 13) HT_ (tk 17 9) ?_
    refine pureA (i := 9) (some 14) HT_ (tk 17 10) ?_
    refine pureA (i := 10) (some 15) HT_ (tk 17 11) ?_
    refine pureA (i := 12) (some 17) HT_ (tr [11, 1, 1, 4]) ?_
    refine takeA (i := 11) (some 16) HT_ HW_ (tk 17 13) hHeld ?_
    refine takeA (i := 13) (some 18) HT_ HW_ (tk 17 14) hHeld ?_
    refine one_ (i := 14) (N := some 19) (tk 17 15) rfl rfl (one_of HT_.out (by kernel_rfl)) (by decide) (fun K hK => ?_)
    refine goesR Tryz.func46 #[.agg #[.bool a0_0, .int .u64 a0_1, .int .u64 a0_2]] ?_
    with_reducible refine (prefix_length.calls a0_0 a0_1 a0_2 t105 _ A8.out).mono ?_
    rintro e w13 ⟨rfl, hb⟩
    refine ⟨_, rfl, ?_⟩
    replace BK103 := (pB BK103 hb)
    replace HB := (pS HB hb)
    (try clear hb)
    refine hK.out _ _ ⟨bC BK103 0, bC BK103 1, bC BK103 2, bC BK103 3⟩ (fun hHeld => ?_)
    clear hK K
    refine normA (N := some 19) ?_
    refine pureA (i := 15) (some 20) HT_ (tk 17 16) ?_
    refine pureA (i := 16) (some 21) HT_ (tk 17 17) ?_
    refine done_ (done_of HT_.out (by kernel_rfl)) ?_
    try go_wp2
    go_ret
    exact pR (pE HB)
   ·
    rw [if_neg c9] at H
    have c9b0 := decide_eq_false c9
    clear c9
    replace H := Option.bind_eq_some_iff.mp H
    obtain ⟨⟨t106, t107⟩, A140, H⟩ := H
    replace H : (if (Go.bits .and .u64 a0_1 t106) = 0 then (some ((Go.bits .and .u64 a0_2 t107) == 0)) else (some false)) = some r := H
    have A14 := Aside0.mk A140
    clear A140
    by_cases c15 : (Go.bits .and .u64 a0_1 t106) = 0
    ·
     rw [if_pos c15] at H
     have c15b0 : ((Go.bits .and .u64 a0_1 t106) == 0) = true := beq_iff_eq.mpr c15
     have c15b1 : ((Go.bits .and .u64 a0_1 t106) != 0) = false := bne_eq_false_iff_eq.mpr c15
     clear c15
     obtain rfl := Option.some.inj H
     go_enter Tryz.func26, Tryz.ntmps26
     try go_wp2_with (first | ((with_reducible refine gate_dst (N := 1) rfl ?_); refine boxA (N := 1) (cs := #[.bool a0_0, .int .u64 a0_1, .int .u64 a0_2, .int .i64 a0_3]) (t := 26) ?_; intro gb103 hg w16 hbox hb; have BK103 := Aside0.mk (hbox); have GE103 := (pZ HB hg); replace HB := (pS HB hb); clear hb hbox hg))
     replace BK103 := Aside0.mk (blk_drew BK103.out)
     replace HB := Aside0.mk (below_drew1 HB.out)
     refine start_ (n := 17) (S := fun w' => w'.cell? ⟨gb103, 0, none⟩ = some (.bool a0_0) ∧ w'.cell? ⟨gb103, 1, none⟩ = some (.int .u64 a0_1) ∧ w'.cell? ⟨gb103, 2, none⟩ = some (.int .u64 a0_2) ∧ w'.cell? ⟨gb103, 3, none⟩ = some (.int .i64 a0_3)) (ds := []) (tk 17 0) (by kernel_rfl) rfl rfl ⟨bC BK103 0, bC BK103 1, bC BK103 2, bC BK103 3⟩ (fun hHeld => ?_); refine with_tabW prefix_Valid.tab1 prefix_Valid.bits1 (fun HT_ HW_ => ?_)
     generalize w16.drew = w17 at BK103 HB hHeld ⊢
     refine pureA (i := 0) (some 5) HT_ (tk 17 1) ?_
     refine takeA (i := 1) (some 6) HT_ HW_ (tk 17 2) hHeld ?_
     refine one_ (i := 2) (N := some 7) (tk 17 3) rfl rfl (one_of HT_.out (by kernel_rfl)) (by decide) (fun K hK => ?_)
     refine goesR Tryz.func50 #[.agg #[.bool a0_0, .int .u64 a0_1, .int .u64 a0_2]] ?_
     with_reducible refine (addr_Valid.calls a0_0 a0_1 a0_2 true _ A2.out).mono ?_
     rintro e w18 ⟨rfl, hb⟩
     refine ⟨_, rfl, ?_⟩
     replace BK103 := (pB BK103 hb)
     replace HB := (pS HB hb)
     (try clear hb)
     refine hK.out _ _ ⟨bC BK103 0, bC BK103 1, bC BK103 2, bC BK103 3⟩ (fun hHeld => ?_)
     clear hK K
     refine normA (N := some 7) ?_
     refine pureA (i := 3) (some 8) HT_ (tk 17 4) ?_
     refine pureA (i := 4) (some 9) HT_ (tk 17 5) ?_
     refine pureA (i := 5) (some 10) HT_ (tk 17 6) ?_
     refine takeA (i := 6) (some 11) HT_ HW_ (tk 17 7) hHeld ?_
     refine pureA (i := 7) (some 12) HT_ (tk 17 8) ?_
     refine pureA (i := 8) (some 13) HT_ (tk 17 9) ?_
     refine pureA (i := 9) (some 14) HT_ (tk 17 10) ?_
     refine pureA (i := 10) (some 15) HT_ (tk 17 11) ?_
     refine pureA (i := 12) (some 17) HT_ (tr [11, 1, 1, 4]) ?_
     refine takeA (i := 11) (some 16) HT_ HW_ (tk 17 13) hHeld ?_
     refine takeA (i := 13) (some 18) HT_ HW_ (tk 17 14) hHeld ?_
     refine one_ (i := 14) (N := some 19) (tk 17 15) rfl rfl (one_of HT_.out (by kernel_rfl)) (by decide) (fun K hK => ?_)
     refine goesR Tryz.func46 #[.agg #[.bool a0_0, .int .u64 a0_1, .int .u64 a0_2]] ?_
     with_reducible refine (prefix_length.calls a0_0 a0_1 a0_2 t105 _ A8.out).mono ?_
     rintro e w19 ⟨rfl, hb⟩
     refine ⟨_, rfl, ?_⟩
     replace BK103 := (pB BK103 hb)
     replace HB := (pS HB hb)
     (try clear hb)
     refine hK.out _ _ ⟨bC BK103 0, bC BK103 1, bC BK103 2, bC BK103 3⟩ (fun hHeld => ?_)
     clear hK K
     refine normA (N := some 19) ?_
     refine pureA (i := 15) (some 20) HT_ (tk 17 16) ?_
     refine pureA (i := 16) (some 21) HT_ (tk 17 17) ?_
     refine done_ (done_of HT_.out (by kernel_rfl)) ?_
     obtain ⟨hcz20_0, hcz20_1, hcz20_2, hcz20_3, hfz20_0, hfz20_1, hfz20_2, hfz20_3⟩ := pC4 BK103
     try go_wp2_with (first | ((with_reducible refine gate_callee (f := 43) rfl ?_); refine goesA (some 28) Tryz.func43 #[.bool a0_0, .int .i64 a0_3] ?_; (with_reducible refine (prefix_later.calls a0_0 a0_3 t106 t107 _ A14.out).mono ?_); rintro e w' ⟨rfl, ⟨nd, rfl⟩⟩; refine ⟨_, rfl, ?_⟩))
     go_ret
     exact pR (pE HB)
    ·
     rw [if_neg c15] at H
     have c15b0 : ((Go.bits .and .u64 a0_1 t106) == 0) = false := beq_eq_false_iff_ne.mpr c15
     have c15b1 : ((Go.bits .and .u64 a0_1 t106) != 0) = true := bne_iff_ne.mpr c15
     obtain rfl := Option.some.inj H
     go_enter Tryz.func26, Tryz.ntmps26
     try go_wp2_with (first | ((with_reducible refine gate_dst (N := 1) rfl ?_); refine boxA (N := 1) (cs := #[.bool a0_0, .int .u64 a0_1, .int .u64 a0_2, .int .i64 a0_3]) (t := 26) ?_; intro gb103 hg w21 hbox hb; have BK103 := Aside0.mk (hbox); have GE103 := (pZ HB hg); replace HB := (pS HB hb); clear hb hbox hg))
     replace BK103 := Aside0.mk (blk_drew BK103.out)
     replace HB := Aside0.mk (below_drew1 HB.out)
     refine start_ (n := 17) (S := fun w' => w'.cell? ⟨gb103, 0, none⟩ = some (.bool a0_0) ∧ w'.cell? ⟨gb103, 1, none⟩ = some (.int .u64 a0_1) ∧ w'.cell? ⟨gb103, 2, none⟩ = some (.int .u64 a0_2) ∧ w'.cell? ⟨gb103, 3, none⟩ = some (.int .i64 a0_3)) (ds := []) (tk 17 0) (by kernel_rfl) rfl rfl ⟨bC BK103 0, bC BK103 1, bC BK103 2, bC BK103 3⟩ (fun hHeld => ?_); refine with_tabW prefix_Valid.tab1 prefix_Valid.bits1 (fun HT_ HW_ => ?_)
     generalize w21.drew = w22 at BK103 HB hHeld ⊢
     refine pureA (i := 0) (some 5) HT_ (tk 17 1) ?_
     refine takeA (i := 1) (some 6) HT_ HW_ (tk 17 2) hHeld ?_
     refine one_ (i := 2) (N := some 7) (tk 17 3) rfl rfl (one_of HT_.out (by kernel_rfl)) (by decide) (fun K hK => ?_)
     refine goesR Tryz.func50 #[.agg #[.bool a0_0, .int .u64 a0_1, .int .u64 a0_2]] ?_
     with_reducible refine (addr_Valid.calls a0_0 a0_1 a0_2 true _ A2.out).mono ?_
     rintro e w23 ⟨rfl, hb⟩
     refine ⟨_, rfl, ?_⟩
     replace BK103 := (pB BK103 hb)
     replace HB := (pS HB hb)
     (try clear hb)
     refine hK.out _ _ ⟨bC BK103 0, bC BK103 1, bC BK103 2, bC BK103 3⟩ (fun hHeld => ?_)
     clear hK K
     refine normA (N := some 7) ?_
     refine pureA (i := 3) (some 8) HT_ (tk 17 4) ?_
     refine pureA (i := 4) (some 9) HT_ (tk 17 5) ?_
     refine pureA (i := 5) (some 10) HT_ (tk 17 6) ?_
     refine takeA (i := 6) (some 11) HT_ HW_ (tk 17 7) hHeld ?_
     refine pureA (i := 7) (some 12) HT_ (tk 17 8) ?_
     refine pureA (i := 8) (some 13) HT_ (tk 17 9) ?_
     refine pureA (i := 9) (some 14) HT_ (tk 17 10) ?_
     refine pureA (i := 10) (some 15) HT_ (tk 17 11) ?_
     refine pureA (i := 12) (some 17) HT_ (tr [11, 1, 1, 4]) ?_
     refine takeA (i := 11) (some 16) HT_ HW_ (tk 17 13) hHeld ?_
     refine takeA (i := 13) (some 18) HT_ HW_ (tk 17 14) hHeld ?_
     refine one_ (i := 14) (N := some 19) (tk 17 15) rfl rfl (one_of HT_.out (by kernel_rfl)) (by decide) (fun K hK => ?_)
     refine goesR Tryz.func46 #[.agg #[.bool a0_0, .int .u64 a0_1, .int .u64 a0_2]] ?_
     with_reducible refine (prefix_length.calls a0_0 a0_1 a0_2 t105 _ A8.out).mono ?_
     rintro e w24 ⟨rfl, hb⟩
     refine ⟨_, rfl, ?_⟩
     replace BK103 := (pB BK103 hb)
     replace HB := (pS HB hb)
     (try clear hb)
     refine hK.out _ _ ⟨bC BK103 0, bC BK103 1, bC BK103 2, bC BK103 3⟩ (fun hHeld => ?_)
     clear hK K
     refine normA (N := some 19) ?_
     refine pureA (i := 15) (some 20) HT_ (tk 17 16) ?_
     refine pureA (i := 16) (some 21) HT_ (tk 17 17) ?_
     refine done_ (done_of HT_.out (by kernel_rfl)) ?_
     obtain ⟨hcz25_0, hcz25_1, hcz25_2, hcz25_3, hfz25_0, hfz25_1, hfz25_2, hfz25_3⟩ := pC4 BK103
     try go_wp2_with (first | ((with_reducible refine gate_callee (f := 43) rfl ?_); refine goesA (some 28) Tryz.func43 #[.bool a0_0, .int .i64 a0_3] ?_; (with_reducible refine (prefix_later.calls a0_0 a0_3 t106 t107 _ A14.out).mono ?_); rintro e w' ⟨rfl, ⟨nd, rfl⟩⟩; refine ⟨_, rfl, ?_⟩))
     go_ret
     exact pR (pE HB)
 ·
  replace c3 := Bool.eq_false_iff.mpr c3
  subst c3
  rw [if_neg (show ¬ (false = true) by decide)] at H
  obtain rfl := Option.some.inj H
  go_enter Tryz.func26, Tryz.ntmps26
  try go_wp2_with (first | ((with_reducible refine gate_dst (N := 1) rfl ?_); refine boxA (N := 1) (cs := #[.bool a0_0, .int .u64 a0_1, .int .u64 a0_2, .int .i64 a0_3]) (t := 26) ?_; intro gb103 hg w26 hbox hb; have BK103 := Aside0.mk (hbox); have GE103 := (pZ HB hg); replace HB := (pS HB hb); clear hb hbox hg))
  replace BK103 := Aside0.mk (blk_drew BK103.out)
  replace HB := Aside0.mk (below_drew1 HB.out)
  refine start_ (n := 17) (S := fun w' => w'.cell? ⟨gb103, 0, none⟩ = some (.bool a0_0) ∧ w'.cell? ⟨gb103, 1, none⟩ = some (.int .u64 a0_1) ∧ w'.cell? ⟨gb103, 2, none⟩ = some (.int .u64 a0_2) ∧ w'.cell? ⟨gb103, 3, none⟩ = some (.int .i64 a0_3)) (ds := []) (tk 17 0) (by kernel_rfl) rfl rfl ⟨bC BK103 0, bC BK103 1, bC BK103 2, bC BK103 3⟩ (fun hHeld => ?_); refine with_tabW prefix_Valid.tab1 prefix_Valid.bits1 (fun HT_ HW_ => ?_)
  generalize w26.drew = w27 at BK103 HB hHeld ⊢
  refine pureA (i := 0) (some 5) HT_ (tk 17 1) ?_
  refine takeA (i := 1) (some 6) HT_ HW_ (tk 17 2) hHeld ?_
  refine one_ (i := 2) (N := some 7) (tk 17 3) rfl rfl (one_of HT_.out (by kernel_rfl)) (by decide) (fun K hK => ?_)
  refine goesR Tryz.func50 #[.agg #[.bool a0_0, .int .u64 a0_1, .int .u64 a0_2]] ?_
  with_reducible refine (addr_Valid.calls a0_0 a0_1 a0_2 false _ A2.out).mono ?_
  rintro e w28 ⟨rfl, hb⟩
  refine ⟨_, rfl, ?_⟩
  replace BK103 := (pB BK103 hb)
  replace HB := (pS HB hb)
  (try clear hb)
  refine hK.out _ _ ⟨bC BK103 0, bC BK103 1, bC BK103 2, bC BK103 3⟩ (fun hHeld => ?_)
  clear hK K
  refine normA (N := some 7) ?_
  refine pureA (i := 3) (some 8) HT_ (tk 17 4) ?_
  refine pureA (i := 4) (some 9) HT_ (tk 17 5) ?_
  refine pureB (i := 5) (some 10) HT_ (tk 17 6) ?_
  refine pureB (i := 6) (some 11) HT_ (tk 17 7) ?_
  refine pureB (i := 7) (some 12) HT_ (tk 17 8) ?_
  refine pureA (i := 8) (some 13) HT_ (tk 17 9) ?_
  refine pureA (i := 9) (some 14) HT_ (tk 17 10) ?_
  refine pureB (i := 10) (some 15) HT_ (tk 17 11) ?_
  refine pureB (i := 11) (some 16) HT_ (tk 17 12) ?_
  refine pureB (i := 12) (some 17) HT_ (tk 17 13) ?_
  refine pureB (i := 13) (some 18) HT_ (tk 17 14) ?_
  refine pureB (i := 14) (some 19) HT_ (tk 17 15) ?_
  refine pureB (i := 15) (some 20) HT_ (tk 17 16) ?_
  refine pureA (i := 16) (some 21) HT_ (tk 17 17) ?_
  refine done_ (done_of HT_.out (by kernel_rfl)) ?_
  try go_wp2
  go_ret
  exact pR (pE HB)

/-! ### strings_Split: function 86 (given) -/
def strings_Split.f (a0 : ByteArray) (a1 : ByteArray) : Option (List ByteArray) := if a0.size < 4294967281 then (if 1 ≤ a1.size then some (Lib.splitB a1 0 (Lib.countB a0 a1) a0) else none) else none
theorem strings_Split.calls (a0 : ByteArray) (a1 : ByteArray) (r : List ByteArray) (w : World) (hLD : Laid w) (h : strings_Split.f a0 a1 = some r) :
    Calls Tryz.prog 86 #[.string a0, .string a1] w fun e w' => ∃ v0_ : Value, e = .returned (v0_) ∧ Kd.R Kd.string 9 w' w.heap.size (fun _ => True) v0_ r ∧ Below w.heap.size w w' := by
  unfold strings_Split.f at h
  by_cases h0 : a0.size < 4294967281
  · rw [if_pos h0] at h
    by_cases h1 : 1 ≤ a1.size
    · rw [if_pos h1] at h
      obtain rfl := Option.some.inj h
      refine (Tryz.strings_Split_shaped a0 a1 w hLD.shape h0 h1).mono ?_
      rintro e w' ⟨rfl, rfl⟩
      have hl : (Lib.splitB a1 0 (Lib.countB a0 a1) a0).length = Lib.countB a0 a1 + 1 := Lib.splitB_all a1 h1 0 _ a0 rfl
      have hc := Lib.countB_le a1 h1 a0.size a0 (Nat.le_refl _)
      refine ⟨_, rfl, ?_, below_alloc (Below.refl _ _) _⟩
      refine Kd.R_of_own (enc := Value.string) (xs := Lib.splitB a1 0 (Lib.countB a0 a1) a0) ⟨by simp [encs], .inr ⟨w.heap.size, Lib.countB a0 a1 + 1, ((Lib.splitB a1 0 (Lib.countB a0 a1) a0).map Value.string).toArray, by rw [hl], Nat.le_refl _, by unfold World.alloc; simp, by rw [hl]; exact Nat.le_refl _, by unfold maxLen; omega, by simp [hl], ?_⟩⟩ (fun _ _ => trivial)
      rw [List.take_of_length_le (by simp)]
      simp [encs]
    · rw [if_neg h1] at h; cases h
  · rw [if_neg h0] at h; cases h

/-! ### addr_decimal: function 87 -/
mutual
def addr_decimal.j0 : Nat → ByteArray → Bool → Option (Int × Bool)
 | 0, _, _ => none
 | k + 1, x0, x23 => if x23 = true then (some (0, false)) else (addr_decimal.l0 k x0 0 (x0.size : Int) 0)
def addr_decimal.l0 : Nat → ByteArray → Int → Int → Int → Option (Int × Bool)
 | 0, _, _, _, _ => none
 | k + 1, x0, x4, x25, x26 => if x26 < x25 then (if 0 ≤ x26 then (if x26 < (x0.size : Int) then (if (bt x0 x26) < 48 then (some (0, false)) else (if (bt x0 x26) > 57 then (some (0, false)) else (addr_decimal.l0 k x0 (IntKind.u64.wrap ((IntKind.u64.wrap (10 * x4)) + (((bt x0 x26) - 48) % 256))) x25 (wrap64 (x26 + 1))))) else (none)) else (none)) else (some (x4, decide (x4 ≤ 255)))
end
def addr_decimal.f (k : Nat) (a0 : ByteArray) : Option (Int × Bool) := if (a0.size : Int) < 1 then (addr_decimal.j0 k a0 true) else (if (a0.size : Int) > 3 then (addr_decimal.j0 k a0 true) else (if 0 < (a0.size : Int) then (if (bt a0 0) = 48 then (addr_decimal.j0 k a0 (decide ((a0.size : Int) > 1))) else (addr_decimal.j0 k a0 false)) else (none)))
theorem addr_decimal.mono_l : ∀ k, (∀ y0 y1, LeO (addr_decimal.j0 k y0 y1) (addr_decimal.j0 (k + 1) y0 y1)) ∧ (∀ y0 y1 y2 y3, LeO (addr_decimal.l0 k y0 y1 y2 y3) (addr_decimal.l0 (k + 1) y0 y1 y2 y3))
 | 0 => ⟨fun _ _ r h => by simp [addr_decimal.j0] at h, fun _ _ _ _ r h => by simp [addr_decimal.l0] at h⟩
 | k + 1 => by
  obtain ⟨ih0, ih1⟩ := addr_decimal.mono_l k
  refine ⟨?_, ?_⟩
  ·
   intro y0 y1
   unfold addr_decimal.j0
   repeat' with_reducible first | exact ih0 _ _ | exact ih1 _ _ _ _ | exact LeO.refl _ | exact LeO.none _ | refine LeO.ite ?_ ?_ | refine LeO.bind ?_ (fun _ => ?_)
  ·
   intro y0 y1 y2 y3
   unfold addr_decimal.l0
   repeat' with_reducible first | exact ih0 _ _ | exact ih1 _ _ _ _ | exact LeO.refl _ | exact LeO.none _ | refine LeO.ite ?_ ?_ | refine LeO.bind ?_ (fun _ => ?_)
theorem addr_decimal.mono : ∀ a0 k, LeO (addr_decimal.f k a0) (addr_decimal.f (k + 1) a0) := by
 intro a0 k
 obtain ⟨ih0, ih1⟩ := addr_decimal.mono_l k
 unfold addr_decimal.f
 repeat' with_reducible first | exact ih0 _ _ | exact ih1 _ _ _ _ | exact LeO.refl _ | exact LeO.none _ | refine LeO.ite ?_ ?_ | refine LeO.bind ?_ (fun _ => ?_)
set_option maxHeartbeats 40000000 in
set_option maxRecDepth 100000 in
theorem addr_decimal.calls (k : Nat) (a0 : ByteArray) (r1 : Int) (r2 : Bool) (w : World) (h : addr_decimal.f k a0 = some (r1, r2)) :
 Calls Tryz.prog 87 #[.string a0] w fun e w' => e = .returned (.tuple #[.int .u64 r1, .bool r2]) ∧ Drawn0 w w' := by
 have H : (if (a0.size : Int) < 1 then (addr_decimal.j0 k a0 true) else (if (a0.size : Int) > 3 then (addr_decimal.j0 k a0 true) else (if 0 < (a0.size : Int) then (if (bt a0 0) = 48 then (addr_decimal.j0 k a0 (decide ((a0.size : Int) > 1))) else (addr_decimal.j0 k a0 false)) else (none)))) = some (r1, r2) := h
 clear h
 have HC2 := Aside0.mk H
 clear H
 go_enter Tryz.func87, Tryz.ntmps87
 go_upto_region 1 with (fail)
 go_cut [23] (fun v23 wc => ∃ (kq : Nat) (x23_1 : Bool), v23 = .bool x23_1 ∧ Aside0 (addr_decimal.j0 kq a0 x23_1 = some (r1, r2)) ∧ Aside0 (kq ≤ k) ∧ Drawn0 w wc)
 case first =>
  have H := HC2.out
  clear HC2
  by_cases c3 : (a0.size : Int) < 1
  ·
   rw [if_pos c3] at H
   have c3b0 := decide_eq_true c3
   have c3b1 : decide (a0.size < 1) = true := decide_eq_true (by omega)
   clear c3
   (first | rw [c3b0] | (simp only [i64_w, i32_w]; rw [c3b0]) | skip)
   have H' := Aside0.mk H
   clear H
   go_wp2
   refine Met.intro ?_
   go_step
   (repeat apply Exists.intro)
   refine ⟨?rel, ?heq_⟩
   case heq_ => first | rfl | (rw [c3b0]) | (simp only [c3b0])
   case rel => exact ⟨_, (true), pT, H', ⟨by first | omega | exact Nat.le_refl _⟩, by repeat (first | exact Drawn0.refl _ | apply Drawn0.step)⟩
  ·
   rw [if_neg c3] at H
   have c3b0 := decide_eq_false c3
   have c3b1 : decide (a0.size < 1) = false := decide_eq_false (by omega)
   clear c3
   (first | rw [c3b0] | (simp only [i64_w, i32_w]; rw [c3b0]) | skip)
   by_cases c4 : (a0.size : Int) > 3
   ·
    rw [if_pos c4] at H
    have c4b0 := decide_eq_true c4
    have c4b1 : decide (3 < a0.size) = true := decide_eq_true (by omega)
    clear c4
    have H' := Aside0.mk H
    clear H
    go_wp2
    refine Met.intro ?_
    go_step
    (repeat apply Exists.intro)
    refine ⟨?rel, ?heq_⟩
    case heq_ => first | rfl | (rw [c3b0]) | (simp only [c3b0])
    case rel => exact ⟨_, (true), pT, H', ⟨by first | omega | exact Nat.le_refl _⟩, by repeat (first | exact Drawn0.refl _ | apply Drawn0.step)⟩
   ·
    rw [if_neg c4] at H
    have c4b0 := decide_eq_false c4
    have c4b1 : decide (3 < a0.size) = false := decide_eq_false (by omega)
    clear c4
    by_cases c5 : 0 < (a0.size : Int)
    ·
     rw [if_pos c5] at H
     have c5b0 := decide_eq_true c5
     have c5b1 : decide (0 < a0.size) = true := decide_eq_true (by omega)
     clear c5
     by_cases c7 : (bt a0 0) = 48
     ·
      rw [if_pos c7] at H
      have c7b0 : ((bt a0 0) == 48) = true := beq_iff_eq.mpr c7
      have c7b1 : ((bt a0 0) != 48) = false := bne_eq_false_iff_eq.mpr c7
      clear c7
      have H' := Aside0.mk H
      clear H
      have p6 : 0 ≤ (0 : Int) := (by omega)
      have q6 : 0 < a0.size := (by have : (0 : Int) < (a0.size : Int) := oD; omega)
      have hx6 : ∀ h : 0 < a0.size, ((a0[0]'h).toNat : Int) = bt a0 0 := bt_at a0 0
      clear p6
      have qi6 : (0 < (a0.size : Int)) = True := eq_true (oD)
      replace q6 := eq_true q6
      go_wp2
      refine Met.intro ?_
      go_step
      (repeat apply Exists.intro)
      refine ⟨?rel, ?heq_⟩
      case heq_ => first | rfl | (rw [c3b0]) | (simp only [c3b0])
      case rel => exact ⟨_, (decide ((a0.size : Int) > 1)), pT, H', ⟨by first | omega | exact Nat.le_refl _⟩, by repeat (first | exact Drawn0.refl _ | apply Drawn0.step)⟩
     ·
      rw [if_neg c7] at H
      have c7b0 : ((bt a0 0) == 48) = false := beq_eq_false_iff_ne.mpr c7
      have c7b1 : ((bt a0 0) != 48) = true := bne_iff_ne.mpr c7
      have H' := Aside0.mk H
      clear H
      have p6 : 0 ≤ (0 : Int) := (by omega)
      have q6 : 0 < a0.size := (by have : (0 : Int) < (a0.size : Int) := oD; omega)
      have hx6 : ∀ h : 0 < a0.size, ((a0[0]'h).toNat : Int) = bt a0 0 := bt_at a0 0
      clear p6
      have qi6 : (0 < (a0.size : Int)) = True := eq_true (oD)
      replace q6 := eq_true q6
      go_wp2
      refine Met.intro ?_
      go_step
      (repeat apply Exists.intro)
      refine ⟨?rel, ?heq_⟩
      case heq_ => first | rfl | (rw [c3b0]) | (simp only [c3b0])
      case rel => exact ⟨_, (false), pT, H', ⟨by first | omega | exact Nat.le_refl _⟩, by repeat (first | exact Drawn0.refl _ | apply Drawn0.step)⟩
    ·
     rw [if_neg c5] at H
     exact absurd H (by simp)
 case rest =>
  clear HC2
  obtain ⟨kq, x23_1, rfl, HA, HJ1, ⟨mc1, rfl⟩⟩ := hcut
  cases kq with
  | zero => exact absurd HA.out (by simp [addr_decimal.j0])
  | succ kj1 =>
   have H := HA.out
   clear HA
   simp only [addr_decimal.j0] at H
   by_cases c8 : x23_1 = true
   ·
    subst c8
    have H1 : (some (0, false)) = some (r1, r2) := by rw [if_pos rfl] at H; exact H
    clear H
    have H := H1
    clear H1
    simp only [Option.some.injEq, Prod.mk.injEq] at H
    obtain ⟨rfl, rfl⟩ := H
    go_wp2
    go_ret2
    exact pV
   ·
    replace c8 := Bool.eq_false_iff.mpr c8
    subst c8
    rw [if_neg (show ¬ (false = true) by decide)] at H
    have H' := Aside0.mk H
    clear H
    go_wp2
    go_loopg [4, 26] kj1 (fun kq v4 v26 w' => ∃ (x4_2 : Int) (x26_2 : Int), v4 = .int .u64 x4_2 ∧ v26 = .int .i64 x26_2 ∧ Aside0 (addr_decimal.l0 kq a0 x4_2 (a0.size : Int) x26_2 = some (r1, r2)) ∧ Aside0 (kq ≤ kj1) ∧ Drawn0 w w')
    case atStart => exact ⟨(0), (0), pT, pT, H', ⟨Nat.le_refl _⟩, by repeat (first | exact Drawn0.refl _ | apply Drawn0.step)⟩
    case round =>
     clear H'
     try clear c8
     obtain ⟨x4_2, x26_2, rfl, rfl, HA, HK2, ⟨m2, rfl⟩⟩ := hrel
     cases gk with
     | zero => exact absurd HA.out (by simp [addr_decimal.l0])
     | succ k2 =>
      have H := HA.out
      clear HA
      simp only [addr_decimal.l0] at H
      by_cases c9 : x26_2 < (a0.size : Int)
      ·
       rw [if_pos c9] at H
       have c9b0 := decide_eq_true c9
       clear c9
       by_cases c10 : 0 ≤ x26_2
       ·
        rw [if_pos c10] at H
        have c10b0 := decide_eq_true c10
        clear c10
        by_cases c11 : x26_2 < (a0.size : Int)
        ·
         rw [if_pos c11] at H
         have c11b0 := decide_eq_true c11
         clear c11
         by_cases c13 : (bt a0 x26_2) < 48
         ·
          rw [if_pos c13] at H
          have c13b0 := decide_eq_true c13
          clear c13
          simp only [Option.some.injEq, Prod.mk.injEq] at H
          obtain ⟨rfl, rfl⟩ := H
          have p12 : 0 ≤ (x26_2 : Int) := oD
          have q12 : x26_2 < (a0.size : Int) := oD
          have hx12 := bt_at a0 x26_2
          replace p12 := eq_true p12
          replace q12 := eq_true q12
          go_wp2
          go_ret2
          exact pV
         ·
          rw [if_neg c13] at H
          have c13b0 := decide_eq_false c13
          clear c13
          by_cases c15 : (bt a0 x26_2) > 57
          ·
           rw [if_pos c15] at H
           have c15b0 := decide_eq_true c15
           clear c15
           simp only [Option.some.injEq, Prod.mk.injEq] at H
           obtain ⟨rfl, rfl⟩ := H
           have p12 : 0 ≤ (x26_2 : Int) := oD
           have q12 : x26_2 < (a0.size : Int) := oD
           have hx12 := bt_at a0 x26_2
           replace p12 := eq_true p12
           replace q12 := eq_true q12
           have p14 : 0 ≤ (x26_2 : Int) := oD
           have q14 : x26_2 < (a0.size : Int) := oD
           have hx14 := bt_at a0 x26_2
           replace p14 := eq_true p14
           replace q14 := eq_true q14
           go_wp2
           go_ret2
           exact pV
          ·
           rw [if_neg c15] at H
           have c15b0 := decide_eq_false c15
           clear c15
           have H' := Aside0.mk H
           clear H
           have p12 : 0 ≤ (x26_2 : Int) := oD
           have q12 : x26_2 < (a0.size : Int) := oD
           have hx12 := bt_at a0 x26_2
           replace p12 := eq_true p12
           replace q12 := eq_true q12
           have p14 : 0 ≤ (x26_2 : Int) := oD
           have q14 : x26_2 < (a0.size : Int) := oD
           have hx14 := bt_at a0 x26_2
           replace p14 := eq_true p14
           replace q14 := eq_true q14
           have p16 : 0 ≤ (x26_2 : Int) := oD
           have q16 : x26_2 < (a0.size : Int) := oD
           have hx16 := bt_at a0 x26_2
           replace p16 := eq_true p16
           replace q16 := eq_true q16
           go_wp2
           go_roundg k2
           case measure => have := HJ1.out; have := HK2.out; omega
           case rel => exact ⟨(IntKind.u64.wrap ((IntKind.u64.wrap (10 * x4_2)) + (((bt a0 x26_2) - 48) % 256))), (wrap64 (x26_2 + 1)), pT, pT, H', ⟨by have := HJ1.out; have := HK2.out; omega⟩, by repeat (first | exact Drawn0.refl _ | apply Drawn0.step)⟩
        ·
         rw [if_neg c11] at H
         exact absurd H (by simp)
       ·
        rw [if_neg c10] at H
        exact absurd H (by simp)
      ·
       rw [if_neg c9] at H
       have c9b0 := decide_eq_false c9
       clear c9
       simp only [Option.some.injEq, Prod.mk.injEq] at H
       obtain ⟨rfl, rfl⟩ := H
       go_wp2
       go_ret2
       exact pV

/-! ### addr_four: function 62 -/
def addr_four.l0 : Nat → List ByteArray → Int → Int → Bool → Int → Int → Option (Bool × Int × Int × Bool)
 | 0, _, _, _, _, _, _ => none
 | k + 1, x17, x18, x19, x113000, x113001, x113002 => if x19 < x18 then (if 0 ≤ x19 then (if x19 < (x17.length : Int) then ((addr_decimal.f k (rdOf ByteArray.empty x17 x19)).bind fun bt114 => (if bt114.2 = true then (addr_four.l0 k x17 x18 (wrap64 (x19 + 1)) x113000 x113001 (Go.bits .or .u64 (IntKind.u64.wrap (x113002 * 256)) bt114.1)) else (some (false, 0, 0, false)))) else (none)) else (none)) else (some (x113000, x113001, x113002, true))
def addr_four.f (k : Nat) (a0 : ByteArray) : Option (Bool × Int × Int × Bool) := (strings_Split.f a0 (⟨#[46]⟩ : ByteArray)).bind fun t109 => (if (t109.length : Int) = 4 then (addr_four.l0 k t109 (t109.length : Int) 0 false 0 0) else (some (false, 0, 0, false)))
theorem addr_four.mono_l : ∀ k, (∀ y0 y1 y2 y3 y4 y5, LeO (addr_four.l0 k y0 y1 y2 y3 y4 y5) (addr_four.l0 (k + 1) y0 y1 y2 y3 y4 y5))
 | 0 => fun _ _ _ _ _ _ r h => by simp [addr_four.l0] at h
 | k + 1 => by
  have ih0 := addr_four.mono_l k
  ·
   intro y0 y1 y2 y3 y4 y5
   unfold addr_four.l0
   repeat' with_reducible first | exact ih0 _ _ _ _ _ _ | exact addr_decimal.mono _ _ | exact LeO.refl _ | exact LeO.none _ | refine LeO.ite ?_ ?_ | refine LeO.bind ?_ (fun _ => ?_)
theorem addr_four.mono : ∀ a0 k, LeO (addr_four.f k a0) (addr_four.f (k + 1) a0) := by
 intro a0 k
 have ih0 := addr_four.mono_l k
 unfold addr_four.f
 repeat' with_reducible first | exact ih0 _ _ _ _ _ _ | exact addr_decimal.mono _ _ | exact LeO.refl _ | exact LeO.none _ | refine LeO.ite ?_ ?_ | refine LeO.bind ?_ (fun _ => ?_)
set_option maxHeartbeats 40000000 in
set_option maxRecDepth 100000 in
theorem addr_four.calls (k : Nat) (a0 : ByteArray) (r1 : Bool) (r2 : Int) (r3 : Int) (r4 : Bool) (w : World) (hLD : Laid w) (h : addr_four.f k a0 = some (r1, r2, r3, r4)) :
 Calls Tryz.prog 62 #[.string a0] w fun e w' => e = .returned (.tuple #[.agg #[.bool r1, .int .u64 r2, .int .u64 r3], .bool r4]) ∧ Below w.heap.size w w' := by
 have hu24 := Tryz.underlying24
 have HLD := Aside0.mk hLD
 clear hLD
 have HB := Aside0.mk (Below.refl w.heap.size w)
 have H : ((strings_Split.f a0 (⟨#[46]⟩ : ByteArray)).bind fun t109 => (if (t109.length : Int) = 4 then (addr_four.l0 k t109 (t109.length : Int) 0 false 0 0) else (some (false, 0, 0, false)))) = some (r1, r2, r3, r4) := h
 clear h
 replace H := Option.bind_eq_some_iff.mp H
 obtain ⟨t109, A20, H⟩ := H
 have A2 := Aside0.mk A20
 clear A20
 by_cases c3 : (t109.length : Int) = 4
 ·
  rw [if_pos c3] at H
  have c3b0 : ((t109.length : Int) == 4) = true := beq_iff_eq.mpr c3
  have c3b1 : ((t109.length : Int) != 4) = false := bne_eq_false_iff_eq.mpr c3
  clear c3
  have H' := Aside0.mk H
  clear H
  go_enter Tryz.func62, Tryz.ntmps62
  go_wp2_with (first | ((with_reducible refine gate_dst (N := 2) rfl ?_); refine boxA (N := 2) (cs := #[.bool false, .int .u64 0, .int .u64 0]) (t := 24) ?_; intro gb108 hg w4 hbox hb; have BK108 := Aside0.mk (hbox); have GE108 := (pZ HB hg); replace HB := (pS HB hb); clear hb hbox hg) | ((with_reducible refine gate_callee (f := 86) rfl ?_); refine goesA (some 11) Tryz.func86 #[.string a0, .string (⟨#[46]⟩ : ByteArray)] ?_; (with_reducible refine (strings_Split.calls a0 (⟨#[46]⟩ : ByteArray) t109 _ ?side1 A2.out).mono ?_); (case side1 => exact Laid.below HLD.out (pE HB)); rintro e w5 ⟨v110, rfl, ho0, hb⟩; refine ⟨_, rfl, ?_⟩; have HO111 := Aside0.mk (Kd.R_lower ho0 (below_size (by repeat (first | (with_reducible first | exact HB.out | apply below_alloc | apply pw_below_drewN | apply below_drew1 | refine below_set ?_ GE108.out) | exact HB.out)))); replace BK108 := (pB BK108 hb); replace HB := (pS HB hb); (try clear hb); (try clear hk); (try clear ho0); obtain ⟨Ao6, co6, eo6⟩ := Kd.R_slice HO111.out; subst eo6) | ((with_reducible refine gate_dst (N := 5) rfl ?_); refine boxA (N := 5) (cs := #[.bool false, .int .u64 0, .int .u64 0]) (t := 24) ?_; intro gb112 hg w7 hbox hb; have BK112 := Aside0.mk (hbox); have GE112 := (pZ HB hg); have NB108_112 := (pL BK108 hg); have NB112_108 := (pG BK108 hg); replace HO111 := Aside0.mk (Kd.R_below (by (with_reducible repeat (first | apply Kd.R_alloc | apply Kd.R_drewN | apply Kd.R_drew)); exact HO111.out) hb); replace BK108 := (pB BK108 hb); replace HB := (pS HB hb); clear hb hbox hg; have hnb8 := NB112_108.out; have hnc8 := NB108_112.out; obtain ⟨hcz9_0, hcz9_1, hcz9_2, hfz9_0, hfz9_1, hfz9_2⟩ := pC3 BK112))
  go_loopg [19] k (fun kq v19 w' => ∃ (x19_1 : Int) (x109000_1 : Bool) (x109001_1 : Int) (x109002_1 : Int) (x113002_1 : Int), v19 = .int .i64 x19_1 ∧ Aside0 (addr_four.l0 kq t109 (t109.length : Int) x19_1 false 0 x113002_1 = some (r1, r2, r3, r4)) ∧ Aside0 (kq ≤ k) ∧ Aside0 (Kd.R Kd.string 9 w' w.heap.size (fun _ => True) (.slice Ao6 t109.length co6) t109) ∧ Aside0 (w'.heap[gb108]? = some (.cells #[.bool x109000_1, .int .u64 x109001_1, .int .u64 x109002_1] 24 (0, 0))) ∧ Aside0 (w'.heap[gb112]? = some (.cells #[.bool false, .int .u64 0, .int .u64 x113002_1] 24 (0, 0))) ∧ Aside0 (Below w.heap.size w w'))
  case atStart => exact ⟨(0), (false), (0), (0), (0), pT, H', ⟨Nat.le_refl _⟩, ⟨by (with_reducible repeat (first | apply Kd.R_alloc | apply Kd.R_drewN | apply Kd.R_drew)); exact Kd.R_mono (Kd.R_far (p := ⟨gb112, 2, none⟩) (Kd.R_far (p := ⟨gb112, 1, none⟩) (Kd.R_far (p := ⟨gb112, 0, none⟩) (Kd.R_types HO111.out BK112.out (by decide)) (fun _ hk => hk.2) (.bool false)) (fun _ hk => hk.2) (.int .u64 0)) (fun _ hk => hk.2) (.int .u64 0)) (fun _ hk => trivial)⟩, ⟨by (with_reducible repeat (first | refine blk_drewN ?_ _ | refine blk_drew ?_ | refine blk_alloc ?_ _)); refine blk_far ?_ NB108_112.out _; (with_reducible repeat (first | refine blk_drewN ?_ _ | refine blk_drew ?_ | refine blk_alloc ?_ _)); refine blk_far ?_ NB108_112.out _; (with_reducible repeat (first | refine blk_drewN ?_ _ | refine blk_drew ?_ | refine blk_alloc ?_ _)); refine blk_far ?_ NB108_112.out _; (with_reducible repeat (first | refine blk_drewN ?_ _ | refine blk_drew ?_ | refine blk_alloc ?_ _)); exact BK108.out⟩, ⟨by (with_reducible repeat (first | refine blk_drewN ?_ _ | refine blk_drew ?_ | refine blk_alloc ?_ _)); refine blk_put (cs := #[.bool false, .int .u64 0, .int .u64 0]) ?_ 2 _ rfl; (with_reducible repeat (first | refine blk_drewN ?_ _ | refine blk_drew ?_ | refine blk_alloc ?_ _)); refine blk_put (cs := #[.bool false, .int .u64 0, .int .u64 0]) ?_ 1 _ rfl; (with_reducible repeat (first | refine blk_drewN ?_ _ | refine blk_drew ?_ | refine blk_alloc ?_ _)); refine blk_put (cs := #[.bool false, .int .u64 0, .int .u64 0]) ?_ 0 _ rfl; (with_reducible repeat (first | refine blk_drewN ?_ _ | refine blk_drew ?_ | refine blk_alloc ?_ _)); exact BK112.out⟩, ⟨pE HB⟩⟩
  case round =>
   clear H'
   try clear c3
   try clear c3b0
   try clear c3b1
   try clear hcz9_0 hcz9_1 hcz9_2
   try clear hfz9_0 hfz9_1 hfz9_2
   obtain ⟨x19_1, x109000_1, x109001_1, x109002_1, x113002_1, rfl, HA, HK1, HO_17, BK108, BK112, HB⟩ := hrel
   cases gk with
   | zero => exact absurd HA.out (by simp [addr_four.l0])
   | succ k1 =>
    have H := HA.out
    clear HA
    simp only [addr_four.l0] at H
    by_cases c10 : x19_1 < (t109.length : Int)
    ·
     rw [if_pos c10] at H
     have c10b0 := decide_eq_true c10
     clear c10
     by_cases c11 : 0 ≤ x19_1
     ·
      rw [if_pos c11] at H
      have c11b0 := decide_eq_true c11
      clear c11
      by_cases c12 : x19_1 < (t109.length : Int)
      ·
       rw [if_pos c12] at H
       have c12b0 := decide_eq_true c12
       clear c12
       replace H := Option.bind_eq_some_iff.mp H
       obtain ⟨⟨t114, t115⟩, A130, H⟩ := H
       replace H : (if t115 = true then (addr_four.l0 k1 t109 (t109.length : Int) (wrap64 (x19_1 + 1)) false 0 (Go.bits .or .u64 (IntKind.u64.wrap (x113002_1 * 256)) t114)) else (some (false, 0, 0, false))) = some (r1, r2, r3, r4) := H
       have A13 := Aside0.mk A130
       clear A130
       by_cases c14 : t115 = true
       ·
        subst c14
        have H1 : (addr_four.l0 k1 t109 (t109.length : Int) (wrap64 (x19_1 + 1)) false 0 (Go.bits .or .u64 (IntKind.u64.wrap (x113002_1 * 256)) t114)) = some (r1, r2, r3, r4) := by rw [if_pos rfl] at H; exact H
        clear H
        have H := H1
        clear H1
        have H' := Aside0.mk H
        clear H
        have p113 : 0 ≤ (x19_1 : Int) := oD
        have q113 : x19_1 < (t109.length : Int) := oD
        obtain ⟨ad113, e113, hx113_0⟩ := Kd.at_string (Kd.R_reads' HO_17.out).2.2 x19_1 p113 q113
        cases e113
        replace p113 := eq_true p113
        replace q113 := eq_true q113
        go_wp2_with (first | ((with_reducible refine gate_callee (f := 87) rfl ?_); refine goesA (some 25) Tryz.func87 #[.string (rdOf ByteArray.empty t109 x19_1)] ?_; (with_reducible refine (addr_decimal.calls k1 (rdOf ByteArray.empty t109 x19_1) t114 true _ A13.out).mono ?_); rintro e w' ⟨rfl, ⟨nd, rfl⟩⟩; refine ⟨_, rfl, ?_⟩; (try (rw [drewN_self wr]; generalize hq_ : World.drewN wr _ = wr; replace HO_17 : Aside0 (Kd.R Kd.string 9 wr w.heap.size (fun _ => True) (.slice (some ad113) t109.length co6) t109) := ⟨by rw [← hq_]; exact (by (with_reducible repeat (first | apply Kd.R_alloc | apply Kd.R_drewN | apply Kd.R_drew)); exact HO_17.out)⟩; replace BK108 : Aside0 (wr.heap[gb108]? = some (.cells #[.bool x109000_1, .int .u64 x109001_1, .int .u64 x109002_1] 24 (0, 0))) := ⟨by rw [← hq_]; exact (pM BK108)⟩; replace BK112 : Aside0 (wr.heap[gb112]? = some (.cells #[.bool false, .int .u64 0, .int .u64 x113002_1] 24 (0, 0))) := ⟨by rw [← hq_]; exact (pM BK112)⟩; replace HB : Aside0 (Below w.heap.size w wr) := ⟨by rw [← hq_]; exact (by repeat (first | (with_reducible first | exact HB.out | apply below_alloc | apply pw_below_drewN | apply below_drew1 | refine below_set ?_ GE108.out | refine below_set ?_ GE112.out) | exact HB.out))⟩; clear hq_)); have hnb15 := NB112_108.out; have hnc15 := NB108_112.out; obtain ⟨hcz16_0, hcz16_1, hcz16_2, hfz16_0, hfz16_1, hfz16_2⟩ := pC3 BK112))
        go_roundg k1
        case measure => have := HK1.out; omega
        case rel => exact ⟨(wrap64 (x19_1 + 1)), (x109000_1), (x109001_1), (x109002_1), (Go.bits .or .u64 (IntKind.u64.wrap (x113002_1 * 256)) t114), pT, H', ⟨by have := HK1.out; omega⟩, ⟨by (with_reducible repeat (first | apply Kd.R_alloc | apply Kd.R_drewN | apply Kd.R_drew)); exact Kd.R_mono (Kd.R_far (p := ⟨gb112, 2, none⟩) (Kd.R_types HO_17.out BK112.out (by decide)) (fun _ hk => hk.2) (.int .u64 (Go.bits .or .u64 (IntKind.u64.wrap (x113002_1 * 256)) t114))) (fun _ hk => trivial)⟩, ⟨by (with_reducible repeat (first | refine blk_drewN ?_ _ | refine blk_drew ?_ | refine blk_alloc ?_ _)); refine blk_far ?_ NB108_112.out _; (with_reducible repeat (first | refine blk_drewN ?_ _ | refine blk_drew ?_ | refine blk_alloc ?_ _)); exact BK108.out⟩, ⟨by (with_reducible repeat (first | refine blk_drewN ?_ _ | refine blk_drew ?_ | refine blk_alloc ?_ _)); refine blk_put (cs := #[.bool false, .int .u64 0, .int .u64 x113002_1]) ?_ 2 _ rfl; (with_reducible repeat (first | refine blk_drewN ?_ _ | refine blk_drew ?_ | refine blk_alloc ?_ _)); exact BK112.out⟩, ⟨pE HB⟩⟩
       ·
        replace c14 := Bool.eq_false_iff.mpr c14
        subst c14
        rw [if_neg (show ¬ (false = true) by decide)] at H
        simp only [Option.some.injEq, Prod.mk.injEq] at H
        obtain ⟨rfl, rfl, rfl, rfl⟩ := H
        have p113 : 0 ≤ (x19_1 : Int) := oD
        have q113 : x19_1 < (t109.length : Int) := oD
        obtain ⟨ad113, e113, hx113_0⟩ := Kd.at_string (Kd.R_reads' HO_17.out).2.2 x19_1 p113 q113
        cases e113
        replace p113 := eq_true p113
        replace q113 := eq_true q113
        go_wp2_with (first | ((with_reducible refine gate_callee (f := 87) rfl ?_); refine goesA (some 25) Tryz.func87 #[.string (rdOf ByteArray.empty t109 x19_1)] ?_; (with_reducible refine (addr_decimal.calls k1 (rdOf ByteArray.empty t109 x19_1) t114 false _ A13.out).mono ?_); rintro e w' ⟨rfl, ⟨nd, rfl⟩⟩; refine ⟨_, rfl, ?_⟩; (try (rw [drewN_self wr]; generalize hq_ : World.drewN wr _ = wr; replace HO_17 : Aside0 (Kd.R Kd.string 9 wr w.heap.size (fun _ => True) (.slice (some ad113) t109.length co6) t109) := ⟨by rw [← hq_]; exact (by (with_reducible repeat (first | apply Kd.R_alloc | apply Kd.R_drewN | apply Kd.R_drew)); exact HO_17.out)⟩; replace BK108 : Aside0 (wr.heap[gb108]? = some (.cells #[.bool x109000_1, .int .u64 x109001_1, .int .u64 x109002_1] 24 (0, 0))) := ⟨by rw [← hq_]; exact (pM BK108)⟩; replace BK112 : Aside0 (wr.heap[gb112]? = some (.cells #[.bool false, .int .u64 0, .int .u64 x113002_1] 24 (0, 0))) := ⟨by rw [← hq_]; exact (pM BK112)⟩; replace HB : Aside0 (Below w.heap.size w wr) := ⟨by rw [← hq_]; exact (by repeat (first | (with_reducible first | exact HB.out | apply below_alloc | apply pw_below_drewN | apply below_drew1 | refine below_set ?_ GE108.out | refine below_set ?_ GE112.out) | exact HB.out))⟩; clear hq_)); have hnb17 := NB108_112.out; have hnc17 := NB112_108.out; obtain ⟨hcz18_0, hcz18_1, hcz18_2, hfz18_0, hfz18_1, hfz18_2⟩ := pC3 BK108))
        refine bodyPost_ret (results_ct rfl _ _ gb108 24 #[.bool false, .int .u64 0, .int .u64 0] (0, 0) _ rfl (pP (pP (pP (pM BK108)))) Tryz.underlying24 rfl (by kernel_rfl)) rfl ?_
        exact pR (pE HB)
      ·
       rw [if_neg c12] at H
       exact absurd H (by simp)
     ·
      rw [if_neg c11] at H
      exact absurd H (by simp)
    ·
     rw [if_neg c10] at H
     have c10b0 := decide_eq_false c10
     clear c10
     simp only [Option.some.injEq, Prod.mk.injEq] at H
     obtain ⟨rfl, rfl, rfl, rfl⟩ := H
     have hnb19 := NB112_108.out
     have hnc19 := NB108_112.out
     obtain ⟨hcz20_0, hcz20_1, hcz20_2, hfz20_0, hfz20_1, hfz20_2⟩ := pC3 BK112
     obtain ⟨hcz21_0, hcz21_1, hcz21_2, hfz21_0, hfz21_1, hfz21_2⟩ := pC3 BK108
     go_wp2
     refine bodyPost_ret (results_ct rfl _ _ gb108 24 #[.bool false, .int .u64 0, .int .u64 x113002_1] (0, 0) _ rfl (pP (pP (pP (pM BK108)))) Tryz.underlying24 rfl (by kernel_rfl)) rfl ?_
     exact pR (pE HB)
 ·
  rw [if_neg c3] at H
  have c3b0 : ((t109.length : Int) == 4) = false := beq_eq_false_iff_ne.mpr c3
  have c3b1 : ((t109.length : Int) != 4) = true := bne_iff_ne.mpr c3
  simp only [Option.some.injEq, Prod.mk.injEq] at H
  obtain ⟨rfl, rfl, rfl, rfl⟩ := H
  go_enter Tryz.func62, Tryz.ntmps62
  go_wp2_with (first | ((with_reducible refine gate_dst (N := 2) rfl ?_); refine boxA (N := 2) (cs := #[.bool false, .int .u64 0, .int .u64 0]) (t := 24) ?_; intro gb108 hg w22 hbox hb; have BK108 := Aside0.mk (hbox); have GE108 := (pZ HB hg); replace HB := (pS HB hb); clear hb hbox hg) | ((with_reducible refine gate_callee (f := 86) rfl ?_); refine goesA (some 11) Tryz.func86 #[.string a0, .string (⟨#[46]⟩ : ByteArray)] ?_; (with_reducible refine (strings_Split.calls a0 (⟨#[46]⟩ : ByteArray) t109 _ ?side1 A2.out).mono ?_); (case side1 => exact Laid.below HLD.out (pE HB)); rintro e w23 ⟨v110, rfl, ho0, hb⟩; refine ⟨_, rfl, ?_⟩; have HO111 := Aside0.mk (Kd.R_lower ho0 (below_size (by repeat (first | (with_reducible first | exact HB.out | apply below_alloc | apply pw_below_drewN | apply below_drew1 | refine below_set ?_ GE108.out) | exact HB.out)))); replace BK108 := (pB BK108 hb); replace HB := (pS HB hb); (try clear hb); (try clear hk); (try clear ho0); obtain ⟨Ao24, co24, eo24⟩ := Kd.R_slice HO111.out; subst eo24; obtain ⟨hcz25_0, hcz25_1, hcz25_2, hfz25_0, hfz25_1, hfz25_2⟩ := pC3 BK108))
  refine bodyPost_ret (results_ct rfl _ _ gb108 24 #[.bool false, .int .u64 0, .int .u64 0] (0, 0) _ rfl (pP (pP (pP (pM BK108)))) Tryz.underlying24 rfl (by kernel_rfl)) rfl ?_
  exact pR (pE HB)

/-! ### strings_Cut: function 36 (given) -/
def strings_Cut.f (a0 : ByteArray) (a1 : ByteArray) : Option (ByteArray × ByteArray × Bool) := if a0.size < 4294967281 then some ((⟨(Lib.cut a0.data.toList a1.data.toList).1.toArray⟩ : ByteArray), (⟨(Lib.cut a0.data.toList a1.data.toList).2.1.toArray⟩ : ByteArray), (Lib.cut a0.data.toList a1.data.toList).2.2) else none
theorem strings_Cut.calls (a0 : ByteArray) (a1 : ByteArray) (r1 : ByteArray) (r2 : ByteArray) (r3 : Bool) (w : World) (hLD : Laid w) (h : strings_Cut.f a0 a1 = some (r1, r2, r3)) :
    Calls Tryz.prog 36 #[.string a0, .string a1] w fun e w' => e = .returned (.tuple #[.string r1, .string r2, .bool r3]) ∧ Drawn0 w w' := by
  unfold strings_Cut.f at h
  by_cases h0 : a0.size < 4294967281
  · rw [if_pos h0] at h
    simp only [Option.some.injEq, Prod.mk.injEq] at h
    obtain ⟨rfl, rfl, rfl⟩ := h
    refine (Tryz.strings_Cut_shaped a0 a1 w hLD.shape h0).mono ?_
    rintro e w' ⟨rfl, n, rfl⟩
    exact ⟨rfl, ⟨n, rfl⟩⟩
  · rw [if_neg h0] at h; cases h

/-! ### addr_digit: function 109 -/
mutual
def addr_digit.j0 : Nat → Int → Bool → Option (Int)
 | 0, _, _ => none
 | k + 1, x0, x3 => if x3 = true then (some ((x0 - 48) % 256)) else (if x0 ≥ 97 then (addr_digit.j1 k x0 (decide (x0 ≤ 102))) else (addr_digit.j1 k x0 false))
def addr_digit.j1 : Nat → Int → Bool → Option (Int)
 | 0, _, _ => none
 | k + 1, x0, x13 => if x13 = true then (some (((x0 - 97) % 256) + 10)) else (if x0 ≥ 65 then (if x0 ≤ 70 then (some (((x0 - 65) % 256) + 10)) else (some (-1))) else (some (-1)))
end
def addr_digit.f (k : Nat) (a0 : Int) : Option (Int) := if a0 ≥ 48 then (addr_digit.j0 k a0 (decide (a0 ≤ 57))) else (addr_digit.j0 k a0 false)
theorem addr_digit.mono_l : ∀ k, (∀ y0 y1, LeO (addr_digit.j0 k y0 y1) (addr_digit.j0 (k + 1) y0 y1)) ∧ (∀ y0 y1, LeO (addr_digit.j1 k y0 y1) (addr_digit.j1 (k + 1) y0 y1))
 | 0 => ⟨fun _ _ r h => by simp [addr_digit.j0] at h, fun _ _ r h => by simp [addr_digit.j1] at h⟩
 | k + 1 => by
  obtain ⟨ih0, ih1⟩ := addr_digit.mono_l k
  refine ⟨?_, ?_⟩
  ·
   intro y0 y1
   unfold addr_digit.j0
   repeat' with_reducible first | exact ih0 _ _ | exact ih1 _ _ | exact LeO.refl _ | exact LeO.none _ | refine LeO.ite ?_ ?_ | refine LeO.bind ?_ (fun _ => ?_)
  ·
   intro y0 y1
   unfold addr_digit.j1
   repeat' with_reducible first | exact ih0 _ _ | exact ih1 _ _ | exact LeO.refl _ | exact LeO.none _ | refine LeO.ite ?_ ?_ | refine LeO.bind ?_ (fun _ => ?_)
theorem addr_digit.mono : ∀ a0 k, LeO (addr_digit.f k a0) (addr_digit.f (k + 1) a0) := by
 intro a0 k
 obtain ⟨ih0, ih1⟩ := addr_digit.mono_l k
 unfold addr_digit.f
 repeat' with_reducible first | exact ih0 _ _ | exact ih1 _ _ | exact LeO.refl _ | exact LeO.none _ | refine LeO.ite ?_ ?_ | refine LeO.bind ?_ (fun _ => ?_)
set_option maxHeartbeats 40000000 in
set_option maxRecDepth 100000 in
theorem addr_digit.calls (k : Nat) (a0 : Int) (r : Int) (w : World) (h : addr_digit.f k a0 = some r) :
 Calls Tryz.prog 109 #[.int .u8 a0] w fun e w' => e = .returned (.int .i64 r) ∧ Drawn0 w w' := by
 have H : (if a0 ≥ 48 then (addr_digit.j0 k a0 (decide (a0 ≤ 57))) else (addr_digit.j0 k a0 false)) = some r := h
 clear h
 have HC2 := Aside0.mk H
 clear H
 go_enter Tryz.func109, Tryz.ntmps109
 go_upto_region 1 with (fail)
 go_cut [3] (fun v3 wc => ∃ (kq : Nat) (x3_1 : Bool), v3 = .bool x3_1 ∧ Aside0 (addr_digit.j0 kq a0 x3_1 = some r) ∧ Aside0 (kq ≤ k) ∧ Drawn0 w wc)
 case first =>
  have H := HC2.out
  clear HC2
  by_cases c3 : a0 ≥ 48
  ·
   rw [if_pos c3] at H
   have c3b0 := decide_eq_true c3
   clear c3
   (first | rw [c3b0] | (simp only [i64_w, i32_w]; rw [c3b0]) | skip)
   have H' := Aside0.mk H
   clear H
   go_wp2
   refine Met.intro ?_
   go_step
   (repeat apply Exists.intro)
   refine ⟨?rel, ?heq_⟩
   case heq_ => first | rfl | (rw [c3b0]) | (simp only [c3b0])
   case rel => exact ⟨_, (decide (a0 ≤ 57)), pT, H', ⟨by first | omega | exact Nat.le_refl _⟩, by repeat (first | exact Drawn0.refl _ | apply Drawn0.step)⟩
  ·
   rw [if_neg c3] at H
   have c3b0 := decide_eq_false c3
   clear c3
   (first | rw [c3b0] | (simp only [i64_w, i32_w]; rw [c3b0]) | skip)
   have H' := Aside0.mk H
   clear H
   go_wp2
   refine Met.intro ?_
   go_step
   (repeat apply Exists.intro)
   refine ⟨?rel, ?heq_⟩
   case heq_ => first | rfl | (rw [c3b0]) | (simp only [c3b0])
   case rel => exact ⟨_, (false), pT, H', ⟨by first | omega | exact Nat.le_refl _⟩, by repeat (first | exact Drawn0.refl _ | apply Drawn0.step)⟩
 case rest =>
  clear HC2
  obtain ⟨kq, x3_1, rfl, HA, HJ1, ⟨mc1, rfl⟩⟩ := hcut
  cases kq with
  | zero => exact absurd HA.out (by simp [addr_digit.j0])
  | succ kj1 =>
   have H := HA.out
   clear HA
   simp only [addr_digit.j0] at H
   by_cases c4 : x3_1 = true
   ·
    subst c4
    rw [if_pos rfl] at H
    obtain rfl := Option.some.inj H
    go_wp2
    go_ret
    exact pV
   ·
    replace c4 := Bool.eq_false_iff.mpr c4
    subst c4
    rw [if_neg (show ¬ (false = true) by decide)] at H
    have HC5 := Aside0.mk H
    clear H
    go_upto_region 3 with (fail)
    go_cut [13] (fun v13 wc => ∃ (kq : Nat) (x13_4 : Bool), v13 = .bool x13_4 ∧ Aside0 (addr_digit.j1 kq a0 x13_4 = some r) ∧ Aside0 (kq ≤ kj1) ∧ Drawn0 w wc)
    case first =>
     have H := HC5.out
     clear HC5
     by_cases c6 : a0 ≥ 97
     ·
      rw [if_pos c6] at H
      have c6b0 := decide_eq_true c6
      clear c6
      (first | rw [c6b0] | (simp only [i64_w, i32_w]; rw [c6b0]) | skip)
      have H' := Aside0.mk H
      clear H
      go_wp2
      refine Met.intro ?_
      go_step
      (repeat apply Exists.intro)
      refine ⟨?rel, ?heq_⟩
      case heq_ => first | rfl | (rw [c6b0]) | (simp only [c6b0])
      case rel => exact ⟨_, (decide (a0 ≤ 102)), pT, H', ⟨by have := HJ1.out; first | omega | exact Nat.le_refl _⟩, by repeat (first | exact Drawn0.refl _ | apply Drawn0.step)⟩
     ·
      rw [if_neg c6] at H
      have c6b0 := decide_eq_false c6
      clear c6
      (first | rw [c6b0] | (simp only [i64_w, i32_w]; rw [c6b0]) | skip)
      have H' := Aside0.mk H
      clear H
      go_wp2
      refine Met.intro ?_
      go_step
      (repeat apply Exists.intro)
      refine ⟨?rel, ?heq_⟩
      case heq_ => first | rfl | (rw [c6b0]) | (simp only [c6b0])
      case rel => exact ⟨_, (false), pT, H', ⟨by have := HJ1.out; first | omega | exact Nat.le_refl _⟩, by repeat (first | exact Drawn0.refl _ | apply Drawn0.step)⟩
    case rest =>
     clear HC5
     try clear c4
     obtain ⟨kq, x13_4, rfl, HA, HJ4, ⟨mc4, rfl⟩⟩ := hcut
     cases kq with
     | zero => exact absurd HA.out (by simp [addr_digit.j1])
     | succ kj4 =>
      have H := HA.out
      clear HA
      simp only [addr_digit.j1] at H
      by_cases c7 : x13_4 = true
      ·
       subst c7
       rw [if_pos rfl] at H
       obtain rfl := Option.some.inj H
       go_wp2
       go_ret
       exact pV
      ·
       replace c7 := Bool.eq_false_iff.mpr c7
       subst c7
       rw [if_neg (show ¬ (false = true) by decide)] at H
       by_cases c8 : a0 ≥ 65
       ·
        rw [if_pos c8] at H
        have c8b0 := decide_eq_true c8
        clear c8
        by_cases c9 : a0 ≤ 70
        ·
         rw [if_pos c9] at H
         have c9b0 := decide_eq_true c9
         clear c9
         obtain rfl := Option.some.inj H
         go_wp2
         go_ret
         exact pV
        ·
         rw [if_neg c9] at H
         have c9b0 := decide_eq_false c9
         clear c9
         obtain rfl := Option.some.inj H
         go_wp2
         go_ret
         exact pV
       ·
        rw [if_neg c8] at H
        have c8b0 := decide_eq_false c8
        clear c8
        obtain rfl := Option.some.inj H
        go_wp2
        go_ret
        exact pV
end Go.Proofs.YteflcmmandlknaaGreatDoor.PA
