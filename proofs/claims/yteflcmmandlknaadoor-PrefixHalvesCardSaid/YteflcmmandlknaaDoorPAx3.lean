/- The Go functions in Lean, with the proofs that the code comes to these answers: printed by this session's program (wip/px) out of the seat's translation. Conditions: each theorem's own. -/
import Derived.Test.YteflcmmandlknaaDoorPAx0
namespace Go.Proofs.YteflcmmandlknaaDoor.PA
open Go.RowKit Go.Proofs.YteflcmmandlknaaDoorW.PrintWords Go.Proofs.YteflcmmandlknaaDoorW.PrintLast Go.Proofs.YteflcmmandlknaaDoorW.PrintMore
attribute [local go_sem] max2_int min2_int max_two min_two max_three min_three max_four min_four   -- for this text's walks alone
attribute [local go_sem ↓] Ext.isSome_setCell
open Press
set_option linter.unusedVariables false
set_option linter.unusedSimpArgs false

/-! ### addr_Valid: function 18 -/
def addr_Valid.f (a0_0 : Bool) (a0_1 : Int) (a0_2 : Int) : Option (Bool) := if a0_0 = true then (some true) else (if a0_1 = 0 then (some (decide (a0_2 ≤ 4294967295))) else (some false))
set_option maxHeartbeats 40000000 in
set_option maxRecDepth 100000 in
theorem addr_Valid.calls (a0_0 : Bool) (a0_1 : Int) (a0_2 : Int) (r : Bool) (w : World) (h : addr_Valid.f a0_0 a0_1 a0_2 = some r) :
 Calls Tryd.prog 18 #[.agg #[.bool a0_0, .int .u64 a0_1, .int .u64 a0_2]] w fun e w' => e = .returned (.bool r) ∧ Below w.heap.size w w' := by
 have hu24 := Tryd.underlying24
 have HB := Aside0.mk (Below.refl w.heap.size w)
 have H : (if a0_0 = true then (some true) else (if a0_1 = 0 then (some (decide (a0_2 ≤ 4294967295))) else (some false))) = some r := h
 clear h
 by_cases c2 : a0_0 = true
 ·
  subst c2
  rw [if_pos rfl] at H
  obtain rfl := Option.some.inj H
  go_enter Tryd.func18, Tryd.ntmps18
  go_wp2_with (first | ((with_reducible refine gate_dst (N := 1) rfl ?_); refine boxA (N := 1) (cs := #[.bool true, .int .u64 a0_1, .int .u64 a0_2]) (t := 24) ?_; intro gb101 hg w3 hbox hb; have BK101 := Aside0.mk (hbox); have GW101 := (pZ HB hg); have GE101 := (pZ HB hg); replace HB := (pS HB hb); clear hb hbox hg; obtain ⟨hcz4_0, hcz4_1, hcz4_2, hfz4_0, hfz4_1, hfz4_2⟩ := pC3 BK101))
  go_ret
  exact pR (pE HB)
 ·
  replace c2 := Bool.eq_false_iff.mpr c2
  subst c2
  rw [if_neg (show ¬ (false = true) by decide)] at H
  by_cases c5 : a0_1 = 0
  ·
   rw [if_pos c5] at H
   have c5b0 : (a0_1 == 0) = true := beq_iff_eq.mpr c5
   have c5b1 : (a0_1 != 0) = false := bne_eq_false_iff_eq.mpr c5
   clear c5
   obtain rfl := Option.some.inj H
   go_enter Tryd.func18, Tryd.ntmps18
   go_wp2_with (first | ((with_reducible refine gate_dst (N := 1) rfl ?_); refine boxA (N := 1) (cs := #[.bool false, .int .u64 a0_1, .int .u64 a0_2]) (t := 24) ?_; intro gb101 hg w6 hbox hb; have BK101 := Aside0.mk (hbox); have GW101 := (pZ HB hg); have GE101 := (pZ HB hg); replace HB := (pS HB hb); clear hb hbox hg; obtain ⟨hcz7_0, hcz7_1, hcz7_2, hfz7_0, hfz7_1, hfz7_2⟩ := pC3 BK101))
   go_ret
   exact pR (pE HB)
  ·
   rw [if_neg c5] at H
   have c5b0 : (a0_1 == 0) = false := beq_eq_false_iff_ne.mpr c5
   have c5b1 : (a0_1 != 0) = true := bne_iff_ne.mpr c5
   obtain rfl := Option.some.inj H
   go_enter Tryd.func18, Tryd.ntmps18
   go_wp2_with (first | ((with_reducible refine gate_dst (N := 1) rfl ?_); refine boxA (N := 1) (cs := #[.bool false, .int .u64 a0_1, .int .u64 a0_2]) (t := 24) ?_; intro gb101 hg w8 hbox hb; have BK101 := Aside0.mk (hbox); have GW101 := (pZ HB hg); have GE101 := (pZ HB hg); replace HB := (pS HB hb); clear hb hbox hg; obtain ⟨hcz9_0, hcz9_1, hcz9_2, hfz9_0, hfz9_1, hfz9_2⟩ := pC3 BK101))
   go_ret
   exact pR (pE HB)

/-! ### prefix_length: function 29 -/
def prefix_length.f (a0_0 : Bool) (a0_1 : Int) (a0_2 : Int) : Option (Int) := if a0_0 = true then (some 128) else (some 32)
set_option maxHeartbeats 40000000 in
set_option maxRecDepth 100000 in
theorem prefix_length.calls (a0_0 : Bool) (a0_1 : Int) (a0_2 : Int) (r : Int) (w : World) (h : prefix_length.f a0_0 a0_1 a0_2 = some r) :
 Calls Tryd.prog 29 #[.agg #[.bool a0_0, .int .u64 a0_1, .int .u64 a0_2]] w fun e w' => e = .returned (.int .i64 r) ∧ Below w.heap.size w w' := by
 have hu24 := Tryd.underlying24
 have HB := Aside0.mk (Below.refl w.heap.size w)
 have H : (if a0_0 = true then (some 128) else (some 32)) = some r := h
 clear h
 by_cases c2 : a0_0 = true
 ·
  subst c2
  rw [if_pos rfl] at H
  obtain rfl := Option.some.inj H
  go_enter Tryd.func29, Tryd.ntmps29
  go_wp2_with (first | ((with_reducible refine gate_dst (N := 1) rfl ?_); refine boxA (N := 1) (cs := #[.bool true, .int .u64 a0_1, .int .u64 a0_2]) (t := 24) ?_; intro gb102 hg w3 hbox hb; have BK102 := Aside0.mk (hbox); have GW102 := (pZ HB hg); have GE102 := (pZ HB hg); replace HB := (pS HB hb); clear hb hbox hg; obtain ⟨hcz4_0, hcz4_1, hcz4_2, hfz4_0, hfz4_1, hfz4_2⟩ := pC3 BK102))
  go_ret
  exact pR (pE HB)
 ·
  replace c2 := Bool.eq_false_iff.mpr c2
  subst c2
  rw [if_neg (show ¬ (false = true) by decide)] at H
  obtain rfl := Option.some.inj H
  go_enter Tryd.func29, Tryd.ntmps29
  go_wp2_with (first | ((with_reducible refine gate_dst (N := 1) rfl ?_); refine boxA (N := 1) (cs := #[.bool false, .int .u64 a0_1, .int .u64 a0_2]) (t := 24) ?_; intro gb102 hg w5 hbox hb; have BK102 := Aside0.mk (hbox); have GW102 := (pZ HB hg); have GE102 := (pZ HB hg); replace HB := (pS HB hb); clear hb hbox hg; obtain ⟨hcz6_0, hcz6_1, hcz6_2, hfz6_0, hfz6_1, hfz6_2⟩ := pC3 BK102))
  go_ret
  exact pR (pE HB)

/-! ### prefix_later: function 30 -/
def prefix_later.f (a0 : Bool) (a1 : Int) : Option (Int × Int) := if a0 = true then (if a1 ≥ 64 then (if 0 ≤ (IntKind.u64.wrap (wrap64 (128 - a1))) then (some (0, IntKind.u64.wrap ((shl .u64 1 (IntKind.u64.wrap (wrap64 (128 - a1)))) - 1))) else (none)) else (if 0 ≤ (IntKind.u64.wrap (wrap64 (64 - a1))) then (some (IntKind.u64.wrap ((shl .u64 1 (IntKind.u64.wrap (wrap64 (64 - a1)))) - 1), 18446744073709551615)) else (none))) else (if 0 ≤ (IntKind.u64.wrap (wrap64 (32 - a1))) then (some (0, IntKind.u64.wrap ((shl .u64 1 (IntKind.u64.wrap (wrap64 (32 - a1)))) - 1))) else (none))
set_option maxHeartbeats 40000000 in
set_option maxRecDepth 100000 in
theorem prefix_later.calls (a0 : Bool) (a1 : Int) (r1 : Int) (r2 : Int) (w : World) (h : prefix_later.f a0 a1 = some (r1, r2)) :
 Calls Tryd.prog 30 #[.bool a0, .int .i64 a1] w fun e w' => e = .returned (.tuple #[.int .u64 r1, .int .u64 r2]) ∧ Drawn0 w w' := by
 have H : (if a0 = true then (if a1 ≥ 64 then (if 0 ≤ (IntKind.u64.wrap (wrap64 (128 - a1))) then (some (0, IntKind.u64.wrap ((shl .u64 1 (IntKind.u64.wrap (wrap64 (128 - a1)))) - 1))) else (none)) else (if 0 ≤ (IntKind.u64.wrap (wrap64 (64 - a1))) then (some (IntKind.u64.wrap ((shl .u64 1 (IntKind.u64.wrap (wrap64 (64 - a1)))) - 1), 18446744073709551615)) else (none))) else (if 0 ≤ (IntKind.u64.wrap (wrap64 (32 - a1))) then (some (0, IntKind.u64.wrap ((shl .u64 1 (IntKind.u64.wrap (wrap64 (32 - a1)))) - 1))) else (none))) = some (r1, r2) := h
 clear h
 by_cases c3 : a0 = true
 ·
  subst c3
  have H1 : (if a1 ≥ 64 then (if 0 ≤ (IntKind.u64.wrap (wrap64 (128 - a1))) then (some (0, IntKind.u64.wrap ((shl .u64 1 (IntKind.u64.wrap (wrap64 (128 - a1)))) - 1))) else (none)) else (if 0 ≤ (IntKind.u64.wrap (wrap64 (64 - a1))) then (some (IntKind.u64.wrap ((shl .u64 1 (IntKind.u64.wrap (wrap64 (64 - a1)))) - 1), 18446744073709551615)) else (none))) = some (r1, r2) := by rw [if_pos rfl] at H; exact H
  clear H
  have H := H1
  clear H1
  by_cases c4 : a1 ≥ 64
  ·
   rw [if_pos c4] at H
   have c4b0 : decide (64 ≤ a1) = true := decide_eq_true c4
   clear c4
   obtain ⟨ji5, hji5⟩ : ∃ j_ : Int, (IntKind.u64.wrap (wrap64 (128 - a1))) = j_ := ⟨_, rfl⟩
   replace H : (if 0 ≤ (ji5) then (some (0, IntKind.u64.wrap ((shl .u64 1 (ji5)) - 1))) else (none)) = some (r1, r2) := by first | (rw [hji5] at H; exact H) | (simp only [hji5] at H ⊢; exact H)
   by_cases c6 : 0 ≤ (ji5)
   ·
    rw [if_pos c6] at H
    have c6b0 := eq_true c6
    have c6b1 : decide (0 ≤ (ji5)) = true := decide_eq_true c6
    clear c6
    obtain ⟨ji7, hji7⟩ : ∃ j_ : Int, (shl .u64 1 (ji5)) = j_ := ⟨_, rfl⟩
    (try rw [hji7] at hji5)
    replace H : (some (0, IntKind.u64.wrap ((ji7) - 1))) = some (r1, r2) := by first | (rw [hji7] at H; exact H) | (simp only [hji7] at H ⊢; exact H)
    have hji7_ : (IntKind.u64.wrap (1 * 2 ^ min (ji5).toNat 64)) = ji7 := hji7
    have hji7z : (ji5) ≤ 64 → (IntKind.u64.wrap (1 * 2 ^ (ji5).toNat)) = ji7 := shl_small hji7
    have hji7u : (IntKind.u64.wrap (2 ^ min (ji5).toNat 64)) = ji7 := by have h_ := hji7_; rw [Int.one_mul] at h_; exact h_
    have hji7v : (ji5) ≤ 64 → (IntKind.u64.wrap (2 ^ (ji5).toNat)) = ji7 := fun hle_ => by have h_ := hji7z hle_; rw [Int.one_mul] at h_; exact h_
    simp only [Option.some.injEq, Prod.mk.injEq] at H
    obtain ⟨rfl, rfl⟩ := H
    go_enter Tryd.func30, Tryd.ntmps30
    go_wp2
    go_ret2
    exact ⟨by first | rfl | (simp; done) | (simp only [← hji5, ← hji7] <;> (first | rfl | simp)) | (simp [*]; done) | ((try simp only [Bool.not_not]); (generalize ByteArray.toList _ = l_); cases l_ <;> rfl) | (simp; (generalize ByteArray.toList _ = l_); cases l_ <;> rfl), by repeat (first | exact Drawn0.refl _ | apply Drawn0.step)⟩
   ·
    rw [if_neg c6] at H
    exact absurd H (by simp)
  ·
   rw [if_neg c4] at H
   have c4b0 : decide (64 ≤ a1) = false := decide_eq_false c4
   clear c4
   obtain ⟨ji8, hji8⟩ : ∃ j_ : Int, (IntKind.u64.wrap (wrap64 (64 - a1))) = j_ := ⟨_, rfl⟩
   replace H : (if 0 ≤ (ji8) then (some (IntKind.u64.wrap ((shl .u64 1 (ji8)) - 1), 18446744073709551615)) else (none)) = some (r1, r2) := by first | (rw [hji8] at H; exact H) | (simp only [hji8] at H ⊢; exact H)
   by_cases c9 : 0 ≤ (ji8)
   ·
    rw [if_pos c9] at H
    have c9b0 := eq_true c9
    have c9b1 : decide (0 ≤ (ji8)) = true := decide_eq_true c9
    clear c9
    obtain ⟨ji10, hji10⟩ : ∃ j_ : Int, (shl .u64 1 (ji8)) = j_ := ⟨_, rfl⟩
    (try rw [hji10] at hji8)
    replace H : (some (IntKind.u64.wrap ((ji10) - 1), 18446744073709551615)) = some (r1, r2) := by first | (rw [hji10] at H; exact H) | (simp only [hji10] at H ⊢; exact H)
    have hji10_ : (IntKind.u64.wrap (1 * 2 ^ min (ji8).toNat 64)) = ji10 := hji10
    have hji10z : (ji8) ≤ 64 → (IntKind.u64.wrap (1 * 2 ^ (ji8).toNat)) = ji10 := shl_small hji10
    have hji10u : (IntKind.u64.wrap (2 ^ min (ji8).toNat 64)) = ji10 := by have h_ := hji10_; rw [Int.one_mul] at h_; exact h_
    have hji10v : (ji8) ≤ 64 → (IntKind.u64.wrap (2 ^ (ji8).toNat)) = ji10 := fun hle_ => by have h_ := hji10z hle_; rw [Int.one_mul] at h_; exact h_
    simp only [Option.some.injEq, Prod.mk.injEq] at H
    obtain ⟨rfl, rfl⟩ := H
    go_enter Tryd.func30, Tryd.ntmps30
    go_wp2
    go_ret2
    exact ⟨by first | rfl | (simp; done) | (simp only [← hji8, ← hji10] <;> (first | rfl | simp)) | (simp [*]; done) | ((try simp only [Bool.not_not]); (generalize ByteArray.toList _ = l_); cases l_ <;> rfl) | (simp; (generalize ByteArray.toList _ = l_); cases l_ <;> rfl), by repeat (first | exact Drawn0.refl _ | apply Drawn0.step)⟩
   ·
    rw [if_neg c9] at H
    exact absurd H (by simp)
 ·
  replace c3 := Bool.eq_false_iff.mpr c3
  subst c3
  have H1 : (if 0 ≤ (IntKind.u64.wrap (wrap64 (32 - a1))) then (some (0, IntKind.u64.wrap ((shl .u64 1 (IntKind.u64.wrap (wrap64 (32 - a1)))) - 1))) else (none)) = some (r1, r2) := by rw [if_neg (show ¬ (false = true) by decide)] at H; exact H
  clear H
  have H := H1
  clear H1
  obtain ⟨ji11, hji11⟩ : ∃ j_ : Int, (IntKind.u64.wrap (wrap64 (32 - a1))) = j_ := ⟨_, rfl⟩
  replace H : (if 0 ≤ (ji11) then (some (0, IntKind.u64.wrap ((shl .u64 1 (ji11)) - 1))) else (none)) = some (r1, r2) := by first | (rw [hji11] at H; exact H) | (simp only [hji11] at H ⊢; exact H)
  by_cases c12 : 0 ≤ (ji11)
  ·
   rw [if_pos c12] at H
   have c12b0 := eq_true c12
   have c12b1 : decide (0 ≤ (ji11)) = true := decide_eq_true c12
   clear c12
   obtain ⟨ji13, hji13⟩ : ∃ j_ : Int, (shl .u64 1 (ji11)) = j_ := ⟨_, rfl⟩
   (try rw [hji13] at hji11)
   replace H : (some (0, IntKind.u64.wrap ((ji13) - 1))) = some (r1, r2) := by first | (rw [hji13] at H; exact H) | (simp only [hji13] at H ⊢; exact H)
   have hji13_ : (IntKind.u64.wrap (1 * 2 ^ min (ji11).toNat 64)) = ji13 := hji13
   have hji13z : (ji11) ≤ 64 → (IntKind.u64.wrap (1 * 2 ^ (ji11).toNat)) = ji13 := shl_small hji13
   have hji13u : (IntKind.u64.wrap (2 ^ min (ji11).toNat 64)) = ji13 := by have h_ := hji13_; rw [Int.one_mul] at h_; exact h_
   have hji13v : (ji11) ≤ 64 → (IntKind.u64.wrap (2 ^ (ji11).toNat)) = ji13 := fun hle_ => by have h_ := hji13z hle_; rw [Int.one_mul] at h_; exact h_
   simp only [Option.some.injEq, Prod.mk.injEq] at H
   obtain ⟨rfl, rfl⟩ := H
   go_enter Tryd.func30, Tryd.ntmps30
   go_wp2
   go_ret2
   exact ⟨by first | rfl | (simp; done) | (simp only [← hji11, ← hji13] <;> (first | rfl | simp)) | (simp [*]; done) | ((try simp only [Bool.not_not]); (generalize ByteArray.toList _ = l_); cases l_ <;> rfl) | (simp; (generalize ByteArray.toList _ = l_); cases l_ <;> rfl), by repeat (first | exact Drawn0.refl _ | apply Drawn0.step)⟩
  ·
   rw [if_neg c12] at H
   exact absurd H (by simp)

/-! ### prefix_Valid: function 9 -/
def prefix_Valid.f (a0_0 : Bool) (a0_1 : Int) (a0_2 : Int) (a0_3 : Int) : Option (Bool) := (addr_Valid.f a0_0 a0_1 a0_2).bind fun t104 => (if t104 = true then (if a0_3 < 0 then (some false) else ((prefix_length.f a0_0 a0_1 a0_2).bind fun t105 => (if a0_3 > t105 then (some false) else ((prefix_later.f a0_0 a0_3).bind fun bt106 => (if (Go.bits .and .u64 a0_1 bt106.1) = 0 then (some ((Go.bits .and .u64 a0_2 bt106.2) == 0)) else (some false)))))) else (some false))
def prefix_Valid.T1 : Bool × List (List Nat × List Nat) := (true, [([], []), ([0], [0]), ([1], [1]), ([2], [2]), ([3, 2], [3]), ([4], [4]), ([5, 4], [4, 5]), ([6, 4], [4, 6]), ([4, 7], [4, 7]), ([8, 4], [8]), ([9], [9]), ([10, 9], [9, 10]), ([9], [9]), ([12, 9], [9, 12]), ([13, 9, 9], [9, 13]), ([11, 14, 9], [9, 11, 14]), ([9, 15], [9, 15])])
def prefix_Valid.B1 : List Nat := [0, 1, 3, 7, 15, 31, 63, 127, 255, 511, 1023, 2047, 1023, 5119, 13311, 32767, 65535]
theorem prefix_Valid.tab1 : rtab .any (opsOf Tryd.f9 1) = prefix_Valid.T1 := by kernel_rfl
theorem prefix_Valid.bits1 : waitsOk prefix_Valid.T1.2 prefix_Valid.B1 = true := by kernel_rfl
set_option maxHeartbeats 40000000 in
set_option maxRecDepth 100000 in
theorem prefix_Valid.calls (a0_0 : Bool) (a0_1 : Int) (a0_2 : Int) (a0_3 : Int) (r : Bool) (w : World) (h : prefix_Valid.f a0_0 a0_1 a0_2 a0_3 = some r) :
 Calls Tryd.prog 9 #[.agg #[.bool a0_0, .int .u64 a0_1, .int .u64 a0_2, .int .i64 a0_3]] w fun e w' => e = .returned (.bool r) ∧ Below w.heap.size w w' := by
 have hu26 := Tryd.underlying26
 have hu24 := Tryd.underlying24
 have HB := Aside0.mk (Below.refl w.heap.size w)
 have H : ((addr_Valid.f a0_0 a0_1 a0_2).bind fun t104 => (if t104 = true then (if a0_3 < 0 then (some false) else ((prefix_length.f a0_0 a0_1 a0_2).bind fun t105 => (if a0_3 > t105 then (some false) else ((prefix_later.f a0_0 a0_3).bind fun bt106 => (if (Go.bits .and .u64 a0_1 bt106.1) = 0 then (some ((Go.bits .and .u64 a0_2 bt106.2) == 0)) else (some false)))))) else (some false))) = some r := h
 clear h
 replace H := Option.bind_eq_some_iff.mp H
 obtain ⟨t104, A20, H⟩ := H
 replace H : (if t104 = true then (if a0_3 < 0 then (some false) else ((prefix_length.f a0_0 a0_1 a0_2).bind fun t105 => (if a0_3 > t105 then (some false) else ((prefix_later.f a0_0 a0_3).bind fun bt106 => (if (Go.bits .and .u64 a0_1 bt106.1) = 0 then (some ((Go.bits .and .u64 a0_2 bt106.2) == 0)) else (some false)))))) else (some false)) = some r := H
 have A2 := Aside0.mk A20
 clear A20
 by_cases c3 : t104 = true
 ·
  subst c3
  rw [if_pos rfl] at H
  by_cases c4 : a0_3 < 0
  ·
   rw [if_pos c4] at H
   have c4b0 : decide (a0_3 < 0) = true := decide_eq_true c4
   clear c4
   obtain rfl := Option.some.inj H
   go_enter Tryd.func9, Tryd.ntmps9
   try go_wp2_with (first | ((with_reducible refine gate_dst (N := 1) rfl ?_); refine boxA (N := 1) (cs := #[.bool a0_0, .int .u64 a0_1, .int .u64 a0_2, .int .i64 a0_3]) (t := 26) ?_; intro gb103 hg w5 hbox hb; have BK103 := Aside0.mk (hbox); have GW103 := (pZ HB hg); have GE103 := (pZ HB hg); replace HB := (pS HB hb); clear hb hbox hg))
   replace BK103 := Aside0.mk (blk_drew BK103.out)
   replace HB := Aside0.mk (below_drew1 HB.out)
   refine start_ (n := 17) (S := fun w' => w'.cell? ⟨gb103, 0, none⟩ = some (.bool a0_0) ∧ w'.cell? ⟨gb103, 1, none⟩ = some (.int .u64 a0_1) ∧ w'.cell? ⟨gb103, 2, none⟩ = some (.int .u64 a0_2) ∧ w'.cell? ⟨gb103, 3, none⟩ = some (.int .i64 a0_3)) (ds := []) (tk 17 0) (by kernel_rfl) rfl rfl ⟨(blk_cell BK103.out 0).trans rfl, (blk_cell BK103.out 1).trans rfl, (blk_cell BK103.out 2).trans rfl, (blk_cell BK103.out 3).trans rfl⟩ (fun hHeld => ?_); refine with_tabW prefix_Valid.tab1 prefix_Valid.bits1 (fun HT_ HW_ => ?_)
   generalize w5.drew = w6 at BK103 HB hHeld ⊢
   refine pureA (i := 0) (some 5) HT_ (tk 17 1) ?_
   refine takeA (i := 1) (some 6) HT_ HW_ (tk 17 2) hHeld ?_
   refine one_ (i := 2) (N := some 7) (tk 17 3) rfl rfl (one_of HT_.out (by kernel_rfl)) (by decide) (fun K hK => ?_)
   refine goesR Tryd.func18 #[.agg #[.bool a0_0, .int .u64 a0_1, .int .u64 a0_2]] ?_
   with_reducible refine (addr_Valid.calls a0_0 a0_1 a0_2 true _ A2.out).mono ?_
   rintro e w7 ⟨rfl, hb⟩
   refine ⟨_, rfl, ?_⟩
   replace BK103 := (pB BK103 hb)
   replace HB := (pS HB hb)
   (try clear hb)
   refine hK.out _ _ ⟨(blk_cell BK103.out 0).trans rfl, (blk_cell BK103.out 1).trans rfl, (blk_cell BK103.out 2).trans rfl, (blk_cell BK103.out 3).trans rfl⟩ (fun hHeld => ?_)
   clear hK K
   refine normA (N := some 7) ?_
   refine pureA (i := 3) (some 8) HT_ (tk 17 4) ?_
   refine pureA (i := 4) (some 9) HT_ (tk 17 5) ?_
   refine pureA (i := 5) (some 10) HT_ (tk 17 6) ?_
   refine takeA (i := 6) (some 11) HT_ HW_ (tk 17 7) hHeld ?_
   refine pureA (i := 7) (some 12) HT_ (tk 17 8) ?_
   refine pureA (i := 8) (some 13) HT_ (tk 17 9) ?_
   refine pureA (i := 9) (some 14) HT_ (tk 17 10) ?_
   refine pureB (i := 10) (some 15) HT_ (tk 17 11) ?_
   refine pureB (i := 11) (some 16) HT_ (tk 17 12) ?_
   refine pureB (i := 12) (some 17) HT_ (tk 17 13) ?_
   refine pureB (i := 13) (some 18) HT_ (tk 17 14) ?_
   refine pureB (i := 14) (some 19) HT_ (tk 17 15) ?_
   refine pureB (i := 15) (some 20) HT_ (tk 17 16) ?_
   refine pureA (i := 16) (some 21) HT_ (tk 17 17) ?_
   refine done_ (done_of HT_.out (by kernel_rfl)) ?_
   try go_wp2
   go_ret
   exact pR (pE HB)
  ·
   rw [if_neg c4] at H
   have c4b0 : decide (a0_3 < 0) = false := decide_eq_false c4
   clear c4
   replace H := Option.bind_eq_some_iff.mp H
   obtain ⟨t105, A80, H⟩ := H
   replace H : (if a0_3 > t105 then (some false) else ((prefix_later.f a0_0 a0_3).bind fun bt106 => (if (Go.bits .and .u64 a0_1 bt106.1) = 0 then (some ((Go.bits .and .u64 a0_2 bt106.2) == 0)) else (some false)))) = some r := H
   have A8 := Aside0.mk A80
   clear A80
   by_cases c9 : a0_3 > t105
   ·
    rw [if_pos c9] at H
    have c9b0 : decide (t105 < a0_3) = true := decide_eq_true c9
    clear c9
    obtain rfl := Option.some.inj H
    go_enter Tryd.func9, Tryd.ntmps9
    try go_wp2_with (first | ((with_reducible refine gate_dst (N := 1) rfl ?_); refine boxA (N := 1) (cs := #[.bool a0_0, .int .u64 a0_1, .int .u64 a0_2, .int .i64 a0_3]) (t := 26) ?_; intro gb103 hg w10 hbox hb; have BK103 := Aside0.mk (hbox); have GW103 := (pZ HB hg); have GE103 := (pZ HB hg); replace HB := (pS HB hb); clear hb hbox hg))
    replace BK103 := Aside0.mk (blk_drew BK103.out)
    replace HB := Aside0.mk (below_drew1 HB.out)
    refine start_ (n := 17) (S := fun w' => w'.cell? ⟨gb103, 0, none⟩ = some (.bool a0_0) ∧ w'.cell? ⟨gb103, 1, none⟩ = some (.int .u64 a0_1) ∧ w'.cell? ⟨gb103, 2, none⟩ = some (.int .u64 a0_2) ∧ w'.cell? ⟨gb103, 3, none⟩ = some (.int .i64 a0_3)) (ds := []) (tk 17 0) (by kernel_rfl) rfl rfl ⟨(blk_cell BK103.out 0).trans rfl, (blk_cell BK103.out 1).trans rfl, (blk_cell BK103.out 2).trans rfl, (blk_cell BK103.out 3).trans rfl⟩ (fun hHeld => ?_); refine with_tabW prefix_Valid.tab1 prefix_Valid.bits1 (fun HT_ HW_ => ?_)
    generalize w10.drew = w11 at BK103 HB hHeld ⊢
    refine pureA (i := 0) (some 5) HT_ (tk 17 1) ?_
    refine takeA (i := 1) (some 6) HT_ HW_ (tk 17 2) hHeld ?_
    refine one_ (i := 2) (N := some 7) (tk 17 3) rfl rfl (one_of HT_.out (by kernel_rfl)) (by decide) (fun K hK => ?_)
    refine goesR Tryd.func18 #[.agg #[.bool a0_0, .int .u64 a0_1, .int .u64 a0_2]] ?_
    with_reducible refine (addr_Valid.calls a0_0 a0_1 a0_2 true _ A2.out).mono ?_
    rintro e w12 ⟨rfl, hb⟩
    refine ⟨_, rfl, ?_⟩
    replace BK103 := (pB BK103 hb)
    replace HB := (pS HB hb)
    (try clear hb)
    refine hK.out _ _ ⟨(blk_cell BK103.out 0).trans rfl, (blk_cell BK103.out 1).trans rfl, (blk_cell BK103.out 2).trans rfl, (blk_cell BK103.out 3).trans rfl⟩ (fun hHeld => ?_)
    clear hK K
    refine normA (N := some 7) ?_
    refine pureA (i := 3) (some 8) HT_ (tk 17 4) ?_
    refine pureA (i := 4) (some 9) HT_ (tk 17 5) ?_
    refine pureA (i := 5) (some 10) HT_ (tk 17 6) ?_
    refine takeA (i := 6) (some 11) HT_ HW_ (tk 17 7) hHeld ?_
    refine pureA (i := 7) (some 12) HT_ (tk 17 8) ?_
    refine pureA (i := 8) (some 13) HT_ (tk 17 9) ?_
    refine pureA (i := 9) (some 14) HT_ (tk 17 10) ?_
    refine pureA (i := 10) (some 15) HT_ (tk 17 11) ?_
    refine pureA (i := 12) (some 17) HT_ (tr [11, 1, 1, 4]) ?_
    refine takeA (i := 11) (some 16) HT_ HW_ (tk 17 13) hHeld ?_
    refine takeA (i := 13) (some 18) HT_ HW_ (tk 17 14) hHeld ?_
    refine one_ (i := 14) (N := some 19) (tk 17 15) rfl rfl (one_of HT_.out (by kernel_rfl)) (by decide) (fun K hK => ?_)
    refine goesR Tryd.func29 #[.agg #[.bool a0_0, .int .u64 a0_1, .int .u64 a0_2]] ?_
    with_reducible refine (prefix_length.calls a0_0 a0_1 a0_2 t105 _ A8.out).mono ?_
    rintro e w13 ⟨rfl, hb⟩
    refine ⟨_, rfl, ?_⟩
    replace BK103 := (pB BK103 hb)
    replace HB := (pS HB hb)
    (try clear hb)
    refine hK.out _ _ ⟨(blk_cell BK103.out 0).trans rfl, (blk_cell BK103.out 1).trans rfl, (blk_cell BK103.out 2).trans rfl, (blk_cell BK103.out 3).trans rfl⟩ (fun hHeld => ?_)
    clear hK K
    refine normA (N := some 19) ?_
    refine pureA (i := 15) (some 20) HT_ (tk 17 16) ?_
    refine pureA (i := 16) (some 21) HT_ (tk 17 17) ?_
    refine done_ (done_of HT_.out (by kernel_rfl)) ?_
    try go_wp2
    go_ret
    exact pR (pE HB)
   ·
    rw [if_neg c9] at H
    have c9b0 : decide (t105 < a0_3) = false := decide_eq_false c9
    clear c9
    replace H := Option.bind_eq_some_iff.mp H
    obtain ⟨⟨t106, t107⟩, A140, H⟩ := H
    replace H : (if (Go.bits .and .u64 a0_1 t106) = 0 then (some ((Go.bits .and .u64 a0_2 t107) == 0)) else (some false)) = some r := H
    have A14 := Aside0.mk A140
    clear A140
    by_cases c15 : (Go.bits .and .u64 a0_1 t106) = 0
    ·
     rw [if_pos c15] at H
     have c15b0 : ((Go.bits .and .u64 a0_1 t106) == 0) = true := beq_iff_eq.mpr c15
     have c15b1 : ((Go.bits .and .u64 a0_1 t106) != 0) = false := bne_eq_false_iff_eq.mpr c15
     clear c15
     obtain rfl := Option.some.inj H
     go_enter Tryd.func9, Tryd.ntmps9
     try go_wp2_with (first | ((with_reducible refine gate_dst (N := 1) rfl ?_); refine boxA (N := 1) (cs := #[.bool a0_0, .int .u64 a0_1, .int .u64 a0_2, .int .i64 a0_3]) (t := 26) ?_; intro gb103 hg w16 hbox hb; have BK103 := Aside0.mk (hbox); have GW103 := (pZ HB hg); have GE103 := (pZ HB hg); replace HB := (pS HB hb); clear hb hbox hg))
     replace BK103 := Aside0.mk (blk_drew BK103.out)
     replace HB := Aside0.mk (below_drew1 HB.out)
     refine start_ (n := 17) (S := fun w' => w'.cell? ⟨gb103, 0, none⟩ = some (.bool a0_0) ∧ w'.cell? ⟨gb103, 1, none⟩ = some (.int .u64 a0_1) ∧ w'.cell? ⟨gb103, 2, none⟩ = some (.int .u64 a0_2) ∧ w'.cell? ⟨gb103, 3, none⟩ = some (.int .i64 a0_3)) (ds := []) (tk 17 0) (by kernel_rfl) rfl rfl ⟨(blk_cell BK103.out 0).trans rfl, (blk_cell BK103.out 1).trans rfl, (blk_cell BK103.out 2).trans rfl, (blk_cell BK103.out 3).trans rfl⟩ (fun hHeld => ?_); refine with_tabW prefix_Valid.tab1 prefix_Valid.bits1 (fun HT_ HW_ => ?_)
     generalize w16.drew = w17 at BK103 HB hHeld ⊢
     refine pureA (i := 0) (some 5) HT_ (tk 17 1) ?_
     refine takeA (i := 1) (some 6) HT_ HW_ (tk 17 2) hHeld ?_
     refine one_ (i := 2) (N := some 7) (tk 17 3) rfl rfl (one_of HT_.out (by kernel_rfl)) (by decide) (fun K hK => ?_)
     refine goesR Tryd.func18 #[.agg #[.bool a0_0, .int .u64 a0_1, .int .u64 a0_2]] ?_
     with_reducible refine (addr_Valid.calls a0_0 a0_1 a0_2 true _ A2.out).mono ?_
     rintro e w18 ⟨rfl, hb⟩
     refine ⟨_, rfl, ?_⟩
     replace BK103 := (pB BK103 hb)
     replace HB := (pS HB hb)
     (try clear hb)
     refine hK.out _ _ ⟨(blk_cell BK103.out 0).trans rfl, (blk_cell BK103.out 1).trans rfl, (blk_cell BK103.out 2).trans rfl, (blk_cell BK103.out 3).trans rfl⟩ (fun hHeld => ?_)
     clear hK K
     refine normA (N := some 7) ?_
     refine pureA (i := 3) (some 8) HT_ (tk 17 4) ?_
     refine pureA (i := 4) (some 9) HT_ (tk 17 5) ?_
     refine pureA (i := 5) (some 10) HT_ (tk 17 6) ?_
     refine takeA (i := 6) (some 11) HT_ HW_ (tk 17 7) hHeld ?_
     refine pureA (i := 7) (some 12) HT_ (tk 17 8) ?_
     refine pureA (i := 8) (some 13) HT_ (tk 17 9) ?_
     refine pureA (i := 9) (some 14) HT_ (tk 17 10) ?_
     refine pureA (i := 10) (some 15) HT_ (tk 17 11) ?_
     refine pureA (i := 12) (some 17) HT_ (tr [11, 1, 1, 4]) ?_
     refine takeA (i := 11) (some 16) HT_ HW_ (tk 17 13) hHeld ?_
     refine takeA (i := 13) (some 18) HT_ HW_ (tk 17 14) hHeld ?_
     refine one_ (i := 14) (N := some 19) (tk 17 15) rfl rfl (one_of HT_.out (by kernel_rfl)) (by decide) (fun K hK => ?_)
     refine goesR Tryd.func29 #[.agg #[.bool a0_0, .int .u64 a0_1, .int .u64 a0_2]] ?_
     with_reducible refine (prefix_length.calls a0_0 a0_1 a0_2 t105 _ A8.out).mono ?_
     rintro e w19 ⟨rfl, hb⟩
     refine ⟨_, rfl, ?_⟩
     replace BK103 := (pB BK103 hb)
     replace HB := (pS HB hb)
     (try clear hb)
     refine hK.out _ _ ⟨(blk_cell BK103.out 0).trans rfl, (blk_cell BK103.out 1).trans rfl, (blk_cell BK103.out 2).trans rfl, (blk_cell BK103.out 3).trans rfl⟩ (fun hHeld => ?_)
     clear hK K
     refine normA (N := some 19) ?_
     refine pureA (i := 15) (some 20) HT_ (tk 17 16) ?_
     refine pureA (i := 16) (some 21) HT_ (tk 17 17) ?_
     refine done_ (done_of HT_.out (by kernel_rfl)) ?_
     obtain ⟨hcz20_0, hcz20_1, hcz20_2, hcz20_3, hfz20_0, hfz20_1, hfz20_2, hfz20_3⟩ := pC4 BK103
     try go_wp2_with (first | ((with_reducible refine gate_callee (f := 30) rfl ?_); refine goesA (some 28) Tryd.func30 #[.bool a0_0, .int .i64 a0_3] ?_; (with_reducible refine (prefix_later.calls a0_0 a0_3 t106 t107 _ A14.out).mono ?_); rintro e w' ⟨rfl, ⟨nd, rfl⟩⟩; refine ⟨_, rfl, ?_⟩))
     go_ret
     exact pR (pE HB)
    ·
     rw [if_neg c15] at H
     have c15b0 : ((Go.bits .and .u64 a0_1 t106) == 0) = false := beq_eq_false_iff_ne.mpr c15
     have c15b1 : ((Go.bits .and .u64 a0_1 t106) != 0) = true := bne_iff_ne.mpr c15
     obtain rfl := Option.some.inj H
     go_enter Tryd.func9, Tryd.ntmps9
     try go_wp2_with (first | ((with_reducible refine gate_dst (N := 1) rfl ?_); refine boxA (N := 1) (cs := #[.bool a0_0, .int .u64 a0_1, .int .u64 a0_2, .int .i64 a0_3]) (t := 26) ?_; intro gb103 hg w21 hbox hb; have BK103 := Aside0.mk (hbox); have GW103 := (pZ HB hg); have GE103 := (pZ HB hg); replace HB := (pS HB hb); clear hb hbox hg))
     replace BK103 := Aside0.mk (blk_drew BK103.out)
     replace HB := Aside0.mk (below_drew1 HB.out)
     refine start_ (n := 17) (S := fun w' => w'.cell? ⟨gb103, 0, none⟩ = some (.bool a0_0) ∧ w'.cell? ⟨gb103, 1, none⟩ = some (.int .u64 a0_1) ∧ w'.cell? ⟨gb103, 2, none⟩ = some (.int .u64 a0_2) ∧ w'.cell? ⟨gb103, 3, none⟩ = some (.int .i64 a0_3)) (ds := []) (tk 17 0) (by kernel_rfl) rfl rfl ⟨(blk_cell BK103.out 0).trans rfl, (blk_cell BK103.out 1).trans rfl, (blk_cell BK103.out 2).trans rfl, (blk_cell BK103.out 3).trans rfl⟩ (fun hHeld => ?_); refine with_tabW prefix_Valid.tab1 prefix_Valid.bits1 (fun HT_ HW_ => ?_)
     generalize w21.drew = w22 at BK103 HB hHeld ⊢
     refine pureA (i := 0) (some 5) HT_ (tk 17 1) ?_
     refine takeA (i := 1) (some 6) HT_ HW_ (tk 17 2) hHeld ?_
     refine one_ (i := 2) (N := some 7) (tk 17 3) rfl rfl (one_of HT_.out (by kernel_rfl)) (by decide) (fun K hK => ?_)
     refine goesR Tryd.func18 #[.agg #[.bool a0_0, .int .u64 a0_1, .int .u64 a0_2]] ?_
     with_reducible refine (addr_Valid.calls a0_0 a0_1 a0_2 true _ A2.out).mono ?_
     rintro e w23 ⟨rfl, hb⟩
     refine ⟨_, rfl, ?_⟩
     replace BK103 := (pB BK103 hb)
     replace HB := (pS HB hb)
     (try clear hb)
     refine hK.out _ _ ⟨(blk_cell BK103.out 0).trans rfl, (blk_cell BK103.out 1).trans rfl, (blk_cell BK103.out 2).trans rfl, (blk_cell BK103.out 3).trans rfl⟩ (fun hHeld => ?_)
     clear hK K
     refine normA (N := some 7) ?_
     refine pureA (i := 3) (some 8) HT_ (tk 17 4) ?_
     refine pureA (i := 4) (some 9) HT_ (tk 17 5) ?_
     refine pureA (i := 5) (some 10) HT_ (tk 17 6) ?_
     refine takeA (i := 6) (some 11) HT_ HW_ (tk 17 7) hHeld ?_
     refine pureA (i := 7) (some 12) HT_ (tk 17 8) ?_
     refine pureA (i := 8) (some 13) HT_ (tk 17 9) ?_
     refine pureA (i := 9) (some 14) HT_ (tk 17 10) ?_
     refine pureA (i := 10) (some 15) HT_ (tk 17 11) ?_
     refine pureA (i := 12) (some 17) HT_ (tr [11, 1, 1, 4]) ?_
     refine takeA (i := 11) (some 16) HT_ HW_ (tk 17 13) hHeld ?_
     refine takeA (i := 13) (some 18) HT_ HW_ (tk 17 14) hHeld ?_
     refine one_ (i := 14) (N := some 19) (tk 17 15) rfl rfl (one_of HT_.out (by kernel_rfl)) (by decide) (fun K hK => ?_)
     refine goesR Tryd.func29 #[.agg #[.bool a0_0, .int .u64 a0_1, .int .u64 a0_2]] ?_
     with_reducible refine (prefix_length.calls a0_0 a0_1 a0_2 t105 _ A8.out).mono ?_
     rintro e w24 ⟨rfl, hb⟩
     refine ⟨_, rfl, ?_⟩
     replace BK103 := (pB BK103 hb)
     replace HB := (pS HB hb)
     (try clear hb)
     refine hK.out _ _ ⟨(blk_cell BK103.out 0).trans rfl, (blk_cell BK103.out 1).trans rfl, (blk_cell BK103.out 2).trans rfl, (blk_cell BK103.out 3).trans rfl⟩ (fun hHeld => ?_)
     clear hK K
     refine normA (N := some 19) ?_
     refine pureA (i := 15) (some 20) HT_ (tk 17 16) ?_
     refine pureA (i := 16) (some 21) HT_ (tk 17 17) ?_
     refine done_ (done_of HT_.out (by kernel_rfl)) ?_
     obtain ⟨hcz25_0, hcz25_1, hcz25_2, hcz25_3, hfz25_0, hfz25_1, hfz25_2, hfz25_3⟩ := pC4 BK103
     try go_wp2_with (first | ((with_reducible refine gate_callee (f := 30) rfl ?_); refine goesA (some 28) Tryd.func30 #[.bool a0_0, .int .i64 a0_3] ?_; (with_reducible refine (prefix_later.calls a0_0 a0_3 t106 t107 _ A14.out).mono ?_); rintro e w' ⟨rfl, ⟨nd, rfl⟩⟩; refine ⟨_, rfl, ?_⟩))
     go_ret
     exact pR (pE HB)
 ·
  replace c3 := Bool.eq_false_iff.mpr c3
  subst c3
  rw [if_neg (show ¬ (false = true) by decide)] at H
  obtain rfl := Option.some.inj H
  go_enter Tryd.func9, Tryd.ntmps9
  try go_wp2_with (first | ((with_reducible refine gate_dst (N := 1) rfl ?_); refine boxA (N := 1) (cs := #[.bool a0_0, .int .u64 a0_1, .int .u64 a0_2, .int .i64 a0_3]) (t := 26) ?_; intro gb103 hg w26 hbox hb; have BK103 := Aside0.mk (hbox); have GW103 := (pZ HB hg); have GE103 := (pZ HB hg); replace HB := (pS HB hb); clear hb hbox hg))
  replace BK103 := Aside0.mk (blk_drew BK103.out)
  replace HB := Aside0.mk (below_drew1 HB.out)
  refine start_ (n := 17) (S := fun w' => w'.cell? ⟨gb103, 0, none⟩ = some (.bool a0_0) ∧ w'.cell? ⟨gb103, 1, none⟩ = some (.int .u64 a0_1) ∧ w'.cell? ⟨gb103, 2, none⟩ = some (.int .u64 a0_2) ∧ w'.cell? ⟨gb103, 3, none⟩ = some (.int .i64 a0_3)) (ds := []) (tk 17 0) (by kernel_rfl) rfl rfl ⟨(blk_cell BK103.out 0).trans rfl, (blk_cell BK103.out 1).trans rfl, (blk_cell BK103.out 2).trans rfl, (blk_cell BK103.out 3).trans rfl⟩ (fun hHeld => ?_); refine with_tabW prefix_Valid.tab1 prefix_Valid.bits1 (fun HT_ HW_ => ?_)
  generalize w26.drew = w27 at BK103 HB hHeld ⊢
  refine pureA (i := 0) (some 5) HT_ (tk 17 1) ?_
  refine takeA (i := 1) (some 6) HT_ HW_ (tk 17 2) hHeld ?_
  refine one_ (i := 2) (N := some 7) (tk 17 3) rfl rfl (one_of HT_.out (by kernel_rfl)) (by decide) (fun K hK => ?_)
  refine goesR Tryd.func18 #[.agg #[.bool a0_0, .int .u64 a0_1, .int .u64 a0_2]] ?_
  with_reducible refine (addr_Valid.calls a0_0 a0_1 a0_2 false _ A2.out).mono ?_
  rintro e w28 ⟨rfl, hb⟩
  refine ⟨_, rfl, ?_⟩
  replace BK103 := (pB BK103 hb)
  replace HB := (pS HB hb)
  (try clear hb)
  refine hK.out _ _ ⟨(blk_cell BK103.out 0).trans rfl, (blk_cell BK103.out 1).trans rfl, (blk_cell BK103.out 2).trans rfl, (blk_cell BK103.out 3).trans rfl⟩ (fun hHeld => ?_)
  clear hK K
  refine normA (N := some 7) ?_
  refine pureA (i := 3) (some 8) HT_ (tk 17 4) ?_
  refine pureA (i := 4) (some 9) HT_ (tk 17 5) ?_
  refine pureB (i := 5) (some 10) HT_ (tk 17 6) ?_
  refine pureB (i := 6) (some 11) HT_ (tk 17 7) ?_
  refine pureB (i := 7) (some 12) HT_ (tk 17 8) ?_
  refine pureA (i := 8) (some 13) HT_ (tk 17 9) ?_
  refine pureA (i := 9) (some 14) HT_ (tk 17 10) ?_
  refine pureB (i := 10) (some 15) HT_ (tk 17 11) ?_
  refine pureB (i := 11) (some 16) HT_ (tk 17 12) ?_
  refine pureB (i := 12) (some 17) HT_ (tk 17 13) ?_
  refine pureB (i := 13) (some 18) HT_ (tk 17 14) ?_
  refine pureB (i := 14) (some 19) HT_ (tk 17 15) ?_
  refine pureB (i := 15) (some 20) HT_ (tk 17 16) ?_
  refine pureA (i := 16) (some 21) HT_ (tk 17 17) ?_
  refine done_ (done_of HT_.out (by kernel_rfl)) ?_
  try go_wp2
  go_ret
  exact pR (pE HB)

/-! ### strconv_FormatUint: function 37 (given) -/
/-- A hexadecimal digit. -/
def hexd (n : Nat) : UInt8 := if n < 10 then UInt8.ofNat (48 + n) else UInt8.ofNat (87 + n)
def hexText (u : Nat) : List UInt8 := if u < 16 then [hexd u] else if u < 256 then [hexd (u / 16), hexd (u % 16)] else if u < 4096 then [hexd (u / 256), hexd (u / 16 % 16), hexd (u % 16)] else [hexd (u / 4096), hexd (u / 256 % 16), hexd (u / 16 % 16), hexd (u % 16)]
def strconv_FormatUint.f (a0 : Int) (a1 : Int) : Option ByteArray := if a1 = 10 then (if 0 ≤ a0 ∧ a0 < 18446744073709551616 then some (⟨(Lib.decDigits a0.toNat).toArray⟩ : ByteArray) else none) else if a1 = 16 then (if 0 ≤ a0 ∧ a0 < 65536 then some (⟨(hexText a0.toNat).toArray⟩ : ByteArray) else none) else none
theorem pow2_16 (w : World) : Calls Tryd.prog 86 #[.int .i64 16] w fun e w' => e = .returned (.bool true) ∧ w' = w := by
  go_enter Tryd.func86, Tryd.ntmps86
  go_wp2
  go_ret
  exact ⟨rfl, rfl⟩
theorem tz64_16 (w : World) (hc : w.cell? ⟨0, 15, none⟩ = some (.int .u8 4)) : Calls Tryd.prog 53 #[.int .u64 16] w fun e w' => e = .returned (.int .i64 4) ∧ w' = w := by
  have key : IntKind.u64.wrap (bits BinOp.and IntKind.u64 16 (IntKind.u64.wrap (-16)) * 285870213051353865) / 288230376151711744 = 15 := by decide
  go_enter Tryd.func53, Tryd.ntmps53
  go_wp2_with (simp only [key])
  go_ret
  exact ⟨rfl, rfl⟩
theorem tz_16 (w : World) (hc : w.cell? ⟨0, 15, none⟩ = some (.int .u8 4)) : Calls Tryd.prog 87 #[.int .u64 16] w fun e w' => e = .returned (.int .i64 4) ∧ w' = w := by
  have HC := Aside0.mk hc
  clear hc
  go_enter Tryd.func87, Tryd.ntmps87
  go_wp2_with fail
  refine (tz64_16 _ HC.out).mono ?_
  rintro e w' ⟨rfl, rfl⟩
  go_wp2_with fail
  go_ret
  exact ⟨rfl, rfl⟩
theorem bru_ {w : World} (h : Laid w) : w.cell? ⟨0, 15, none⟩ = some (.int .u8 4) := by
  rw [h.bruijn.cell (show Tryd.prog.globalNamed "math/bits.deBruijn64tab" = some 0 by kernel_rfl) 15 (by decide)]
  rfl
theorem zc65_size : Tryd.zeroCells131.size = 65 := by decide +kernel
theorem and15_ (u q d : Nat) (h : u = 16 * q + d) (hd : d < 16) (hu : u < 18446744073709551616) : bits .and .u64 (u : Int) 15 = (d : Int) := by
  have := bits_and_u64_nat u 15 hu (by omega)
  rw [show ((15 : Nat) : Int) = 15 from rfl] at this
  rw [this]
  have e : u &&& 15 = u % 16 := Nat.and_two_pow_sub_one_eq_mod u 4
  rw [e]
  omega
theorem hexd_at : ∀ i : Fin 16, (⟨#[48, 49, 50, 51, 52, 53, 54, 55, 56, 57, 97, 98, 99, 100, 101, 102, 103, 104, 105, 106, 107, 108, 109, 110, 111, 112, 113, 114, 115, 116, 117, 118, 119, 120, 121, 122]⟩ : ByteArray).data[i.val]? = some (hexd i.val) := by decide +kernel
theorem idx16_ (d : Nat) (hd : d < 16) : ∀ w, (Instr.index 9 (.string (⟨#[48, 49, 50, 51, 52, 53, 54, 55, 56, 57, 97, 98, 99, 100, 101, 102, 103, 104, 105, 106, 107, 108, 109, 110, 111, 112, 113, 114, 115, 116, 117, 118, 119, 120, 121, 122]⟩ : ByteArray)) (.int .u64 (d : Int))).run Tryd.prog w = .ok (.int .u8 ((hexd d).toNat : Int)) w := by
  intro w
  have hs : (⟨#[48, 49, 50, 51, 52, 53, 54, 55, 56, 57, 97, 98, 99, 100, 101, 102, 103, 104, 105, 106, 107, 108, 109, 110, 111, 112, 113, 114, 115, 116, 117, 118, 119, 120, 121, 122]⟩ : ByteArray).size = 36 := by decide +kernel
  have h1 := hexd_at ⟨d, hd⟩
  generalize (⟨#[48, 49, 50, 51, 52, 53, 54, 55, 56, 57, 97, 98, 99, 100, 101, 102, 103, 104, 105, 106, 107, 108, 109, 110, 111, 112, 113, 114, 115, 116, 117, 118, 119, 120, 121, 122]⟩ : ByteArray) = D at hs h1
  rw [run_index_string w 9 D .u64 _ (by kernel_rfl), dif_pos ⟨by omega, by rw [hs]; omega⟩]
  have e : ((d : Int)).toNat = d := by omega
  simp only [e]
  have h2 : D[d]'(by rw [hs]; omega) = hexd d := by
    have := (Array.getElem?_eq_some_iff.1 h1).2
    exact this
  rw [h2]
theorem cv16_ (w : World) (cells : Array Value) (off n : Nat) (l : List UInt8) (hn : l.length = n) (hc : ∀ j (hj : j < l.length), cells[off + j]? = some (.int .u8 (l[j].toNat : Int))) :
    (convert 90 9 (.slice (some ⟨w.heap.size, off, none⟩) n n)).run Tryd.prog (w.alloc (.cells cells 131)) = .ok (.string ⟨l.toArray⟩) (w.alloc (.cells cells 131)) := by
  subst hn
  refine run_convert_bytes_back (P := Tryd.prog) _ 90 9 5 ⟨w.heap.size, off, none⟩ l.length l (by kernel_rfl) (by kernel_rfl) (by kernel_rfl) (fun j hj => ?_)
  rw [Lib.add_plain, World.cell?_alloc_new]
  exact hc j hj
set_option maxHeartbeats 4000000 in
set_option maxRecDepth 100000 in
theorem fb16_1 (u : Nat) (ht : u < 16) (w : World) (hLD : Laid w) (hb64 : u < 65536) : Calls Tryd.prog 71 #[.slice none 0 0, .int .u64 u, .int .i64 16, .bool false, .bool false] w fun e w' => e = .returned (.tuple #[.slice none 0 0, .string (⟨#[hexd u]⟩ : ByteArray)]) ∧ Below w.heap.size w w' := by
  have HLD := Aside0.mk hLD
  clear hLD
  have xt := idx16_ u ht
  have gt : ¬ (16 : Int) ≤ (u : Int) := by omega
  have hcv := cv16_ w (Tryd.zeroCells131.setIfInBounds 64 (.int .u8 ((hexd u).toNat : Int))) 64 1 [hexd u] rfl (by intro j hj; simp only [List.length_cons, List.length_nil] at hj; match j, hj with | 0, _ => simp [Array.getElem?_setIfInBounds, zc65_size])
  clear ht hb64
  go_enter Tryd.func71, Tryd.ntmps71
  go_wp2_with fail
  refine (pow2_16 _).mono ?_
  rintro e w' ⟨rfl, rfl⟩
  go_wp2_with fail
  refine (tz_16 _ (bru_ (HLD.out.below (by repeat (first | exact Below.refl _ _ | apply below_drew | apply below_alloc | apply pw_below_drewN))))).mono ?_
  rintro e w' ⟨rfl, rfl⟩
  go_wp2_with fail
  refine wp_loop_rounds 1 ?_
  rw [rounds_succ]
  go_wp2_with fail
  refine bodyPost_ret (v := .tuple #[.slice none 0 0, .string (⟨#[hexd u]⟩ : ByteArray)]) (by simp [results, Tryd.results71, go_sem]) rfl ⟨rfl, ?_⟩
  (repeat (first | exact Below.refl _ _ | apply below_drew | apply below_alloc | apply pw_below_drewN))
set_option maxHeartbeats 4000000 in
set_option maxRecDepth 100000 in
theorem fb16_2 (u u1 d0 : Nat) (e0 : u = 16 * u1 + d0) (b0 : d0 < 16) (n0 : 1 ≤ u1) (ht : u1 < 16) (w : World) (hLD : Laid w) (hb64 : u < 65536) : Calls Tryd.prog 71 #[.slice none 0 0, .int .u64 u, .int .i64 16, .bool false, .bool false] w fun e w' => e = .returned (.tuple #[.slice none 0 0, .string (⟨#[hexd u1, hexd d0]⟩ : ByteArray)]) ∧ Below w.heap.size w w' := by
  have HLD := Aside0.mk hLD
  clear hLD
  have q0 : (u : Int) / 16 = (u1 : Int) := by omega
  have a0 : bits .and .u64 (u : Int) 15 = (d0 : Int) := and15_ _ _ _ e0 b0 (by omega)
  have g0 : (16 : Int) ≤ (u : Int) := by omega
  have x0 := idx16_ d0 b0
  have xt := idx16_ u1 ht
  have gt : ¬ (16 : Int) ≤ (u1 : Int) := by omega
  have hcv := cv16_ w ((Tryd.zeroCells131.setIfInBounds 64 (.int .u8 ((hexd d0).toNat : Int))).setIfInBounds 63 (.int .u8 ((hexd u1).toNat : Int))) 63 2 [hexd u1, hexd d0] rfl (by intro j hj; simp only [List.length_cons, List.length_nil] at hj; match j, hj with | 0, _ => simp [Array.getElem?_setIfInBounds, zc65_size] | 1, _ => simp [Array.getElem?_setIfInBounds, zc65_size])
  clear e0 b0 n0
  clear ht hb64
  go_enter Tryd.func71, Tryd.ntmps71
  go_wp2_with fail
  refine (pow2_16 _).mono ?_
  rintro e w' ⟨rfl, rfl⟩
  go_wp2_with fail
  refine (tz_16 _ (bru_ (HLD.out.below (by repeat (first | exact Below.refl _ _ | apply below_drew | apply below_alloc | apply pw_below_drewN))))).mono ?_
  rintro e w' ⟨rfl, rfl⟩
  go_wp2_with fail
  refine wp_loop_rounds 2 ?_
  rw [rounds_succ]
  go_wp2_with fail
  rw [rounds_succ]
  go_wp2_with fail
  refine bodyPost_ret (v := .tuple #[.slice none 0 0, .string (⟨#[hexd u1, hexd d0]⟩ : ByteArray)]) (by simp [results, Tryd.results71, go_sem]) rfl ⟨rfl, ?_⟩
  (repeat (first | exact Below.refl _ _ | apply below_drew | apply below_alloc | apply pw_below_drewN))
set_option maxHeartbeats 4000000 in
set_option maxRecDepth 100000 in
theorem fb16_3 (u u1 u2 d0 d1 : Nat) (e0 : u = 16 * u1 + d0) (b0 : d0 < 16) (n0 : 1 ≤ u1) (e1 : u1 = 16 * u2 + d1) (b1 : d1 < 16) (n1 : 1 ≤ u2) (ht : u2 < 16) (w : World) (hLD : Laid w) (hb64 : u < 65536) : Calls Tryd.prog 71 #[.slice none 0 0, .int .u64 u, .int .i64 16, .bool false, .bool false] w fun e w' => e = .returned (.tuple #[.slice none 0 0, .string (⟨#[hexd u2, hexd d1, hexd d0]⟩ : ByteArray)]) ∧ Below w.heap.size w w' := by
  have HLD := Aside0.mk hLD
  clear hLD
  have q0 : (u : Int) / 16 = (u1 : Int) := by omega
  have a0 : bits .and .u64 (u : Int) 15 = (d0 : Int) := and15_ _ _ _ e0 b0 (by omega)
  have g0 : (16 : Int) ≤ (u : Int) := by omega
  have x0 := idx16_ d0 b0
  have q1 : (u1 : Int) / 16 = (u2 : Int) := by omega
  have a1 : bits .and .u64 (u1 : Int) 15 = (d1 : Int) := and15_ _ _ _ e1 b1 (by omega)
  have g1 : (16 : Int) ≤ (u1 : Int) := by omega
  have x1 := idx16_ d1 b1
  have xt := idx16_ u2 ht
  have gt : ¬ (16 : Int) ≤ (u2 : Int) := by omega
  have hcv := cv16_ w (((Tryd.zeroCells131.setIfInBounds 64 (.int .u8 ((hexd d0).toNat : Int))).setIfInBounds 63 (.int .u8 ((hexd d1).toNat : Int))).setIfInBounds 62 (.int .u8 ((hexd u2).toNat : Int))) 62 3 [hexd u2, hexd d1, hexd d0] rfl (by intro j hj; simp only [List.length_cons, List.length_nil] at hj; match j, hj with | 0, _ => simp [Array.getElem?_setIfInBounds, zc65_size] | 1, _ => simp [Array.getElem?_setIfInBounds, zc65_size] | 2, _ => simp [Array.getElem?_setIfInBounds, zc65_size])
  clear e0 b0 n0
  clear e1 b1 n1
  clear ht hb64
  go_enter Tryd.func71, Tryd.ntmps71
  go_wp2_with fail
  refine (pow2_16 _).mono ?_
  rintro e w' ⟨rfl, rfl⟩
  go_wp2_with fail
  refine (tz_16 _ (bru_ (HLD.out.below (by repeat (first | exact Below.refl _ _ | apply below_drew | apply below_alloc | apply pw_below_drewN))))).mono ?_
  rintro e w' ⟨rfl, rfl⟩
  go_wp2_with fail
  refine wp_loop_rounds 3 ?_
  rw [rounds_succ]
  go_wp2_with fail
  rw [rounds_succ]
  go_wp2_with fail
  rw [rounds_succ]
  go_wp2_with fail
  refine bodyPost_ret (v := .tuple #[.slice none 0 0, .string (⟨#[hexd u2, hexd d1, hexd d0]⟩ : ByteArray)]) (by simp [results, Tryd.results71, go_sem]) rfl ⟨rfl, ?_⟩
  (repeat (first | exact Below.refl _ _ | apply below_drew | apply below_alloc | apply pw_below_drewN))
set_option maxHeartbeats 4000000 in
set_option maxRecDepth 100000 in
theorem fb16_4 (u u1 u2 u3 d0 d1 d2 : Nat) (e0 : u = 16 * u1 + d0) (b0 : d0 < 16) (n0 : 1 ≤ u1) (e1 : u1 = 16 * u2 + d1) (b1 : d1 < 16) (n1 : 1 ≤ u2) (e2 : u2 = 16 * u3 + d2) (b2 : d2 < 16) (n2 : 1 ≤ u3) (ht : u3 < 16) (w : World) (hLD : Laid w) (hb64 : u < 65536) : Calls Tryd.prog 71 #[.slice none 0 0, .int .u64 u, .int .i64 16, .bool false, .bool false] w fun e w' => e = .returned (.tuple #[.slice none 0 0, .string (⟨#[hexd u3, hexd d2, hexd d1, hexd d0]⟩ : ByteArray)]) ∧ Below w.heap.size w w' := by
  have HLD := Aside0.mk hLD
  clear hLD
  have q0 : (u : Int) / 16 = (u1 : Int) := by omega
  have a0 : bits .and .u64 (u : Int) 15 = (d0 : Int) := and15_ _ _ _ e0 b0 (by omega)
  have g0 : (16 : Int) ≤ (u : Int) := by omega
  have x0 := idx16_ d0 b0
  have q1 : (u1 : Int) / 16 = (u2 : Int) := by omega
  have a1 : bits .and .u64 (u1 : Int) 15 = (d1 : Int) := and15_ _ _ _ e1 b1 (by omega)
  have g1 : (16 : Int) ≤ (u1 : Int) := by omega
  have x1 := idx16_ d1 b1
  have q2 : (u2 : Int) / 16 = (u3 : Int) := by omega
  have a2 : bits .and .u64 (u2 : Int) 15 = (d2 : Int) := and15_ _ _ _ e2 b2 (by omega)
  have g2 : (16 : Int) ≤ (u2 : Int) := by omega
  have x2 := idx16_ d2 b2
  have xt := idx16_ u3 ht
  have gt : ¬ (16 : Int) ≤ (u3 : Int) := by omega
  have hcv := cv16_ w ((((Tryd.zeroCells131.setIfInBounds 64 (.int .u8 ((hexd d0).toNat : Int))).setIfInBounds 63 (.int .u8 ((hexd d1).toNat : Int))).setIfInBounds 62 (.int .u8 ((hexd d2).toNat : Int))).setIfInBounds 61 (.int .u8 ((hexd u3).toNat : Int))) 61 4 [hexd u3, hexd d2, hexd d1, hexd d0] rfl (by intro j hj; simp only [List.length_cons, List.length_nil] at hj; match j, hj with | 0, _ => simp [Array.getElem?_setIfInBounds, zc65_size] | 1, _ => simp [Array.getElem?_setIfInBounds, zc65_size] | 2, _ => simp [Array.getElem?_setIfInBounds, zc65_size] | 3, _ => simp [Array.getElem?_setIfInBounds, zc65_size])
  clear e0 b0 n0
  clear e1 b1 n1
  clear e2 b2 n2
  clear ht hb64
  go_enter Tryd.func71, Tryd.ntmps71
  go_wp2_with fail
  refine (pow2_16 _).mono ?_
  rintro e w' ⟨rfl, rfl⟩
  go_wp2_with fail
  refine (tz_16 _ (bru_ (HLD.out.below (by repeat (first | exact Below.refl _ _ | apply below_drew | apply below_alloc | apply pw_below_drewN))))).mono ?_
  rintro e w' ⟨rfl, rfl⟩
  go_wp2_with fail
  refine wp_loop_rounds 4 ?_
  rw [rounds_succ]
  go_wp2_with fail
  rw [rounds_succ]
  go_wp2_with fail
  rw [rounds_succ]
  go_wp2_with fail
  rw [rounds_succ]
  go_wp2_with fail
  refine bodyPost_ret (v := .tuple #[.slice none 0 0, .string (⟨#[hexd u3, hexd d2, hexd d1, hexd d0]⟩ : ByteArray)]) (by simp [results, Tryd.results71, go_sem]) rfl ⟨rfl, ?_⟩
  (repeat (first | exact Below.refl _ _ | apply below_drew | apply below_alloc | apply pw_below_drewN))
theorem fb16 (u : Nat) (hu : u < 65536) (w : World) (hLD : Laid w) : Calls Tryd.prog 71 #[.slice none 0 0, .int .u64 u, .int .i64 16, .bool false, .bool false] w fun e w' => e = .returned (.tuple #[.slice none 0 0, .string (⟨(hexText u).toArray⟩ : ByteArray)]) ∧ Below w.heap.size w w' := by
  unfold hexText
  by_cases h1 : u < 16
  · rw [if_pos h1]
    exact fb16_1 u h1 w hLD hu
  · rw [if_neg h1]
    by_cases h2 : u < 256
    · rw [if_pos h2]
      exact fb16_2 u (u / 16) (u % 16) (by omega) (by omega) (by omega) (by omega) w hLD hu
    · rw [if_neg h2]
      by_cases h3 : u < 4096
      · rw [if_pos h3]
        exact fb16_3 u (u / 16) (u / 256) (u % 16) (u / 16 % 16) (by omega) (by omega) (by omega) (by omega) (by omega) (by omega) (by omega) w hLD hu
      · rw [if_neg h3]
        exact fb16_4 u (u / 16) (u / 256) (u / 4096) (u % 16) (u / 16 % 16) (u / 256 % 16) (by omega) (by omega) (by omega) (by omega) (by omega) (by omega) (by omega) (by omega) (by omega) (by omega) w hLD hu
theorem iFU16 (u : Nat) (hu : u < 65536) (w : World) (hLD : Laid w) : Calls Tryd.prog 51 #[.int .u64 u, .int .i64 16] w fun e w' => e = .returned (.string (⟨(hexText u).toArray⟩ : ByteArray)) ∧ Below w.heap.size w w' := by
  have HLD := Aside0.mk hLD
  clear hLD
  go_enter Tryd.func51, Tryd.ntmps51
  go_wp2_with fail
  refine (fb16 u hu _ HLD.out).mono ?_
  rintro e w' ⟨rfl, hb⟩
  have HB := Aside0.mk hb
  clear hb
  go_wp2_with fail
  go_ret
  exact ⟨rfl, HB.out⟩
set_option maxHeartbeats 4000000 in
set_option maxRecDepth 100000 in
theorem iFU10 (u : Nat) (hu : u < 18446744073709551616) (w : World) (hLD : Laid w) : Calls Tryd.prog 51 #[.int .u64 u, .int .i64 10] w fun e w' => e = .returned (.string (⟨(Lib.decDigits u).toArray⟩ : ByteArray)) ∧ Below w.heap.size w w' := by
  by_cases h100 : u < 100
  · have hI : (u : Int) < 100 := by omega
    have hW : IntKind.i64.wrap (u : Int) = (u : Int) := by rw [IntKind.wrap_i64]; omega
    go_enter Tryd.func51, Tryd.ntmps51
    go_wp2_with fail
    refine (Tryd.internal_strconv_small u h100 _).mono ?_
    rintro e w' ⟨rfl, rfl⟩
    go_wp2_with fail
    go_ret
    exact ⟨rfl, Below.refl _ _⟩
  · have hI : ¬ (u : Int) < 100 := by omega
    have hu1 : 1 ≤ u := by omega
    have hnd20 : Lib.nDigits u ≤ 20 := by have := Lib.numDigits_eq u hu1 hu; split at this <;> omega
    have hal : Tryd.prog.arrayLen 112 = 24 := by kernel_rfl
    have hund : Tryd.prog.underlying 112 = some (.array 24 5) := by kernel_rfl
    have hsl : ∀ W, (Instr.sliceAt 112 (.pointer (some ⟨w.heap.size, 0, none⟩)) none (some (.int .i64 (Lib.nDigits u : Int))) none).run Tryd.prog W = .ok (.slice (some ⟨w.heap.size, 0, none⟩) (Lib.nDigits u) 24) W := fun W => by
      rw [run_sliceAt_array_h W 112 ⟨w.heap.size, 0, none⟩ hund .i64 (Lib.nDigits u : Int) (by omega) (by rw [hal]; omega)]
      go_simp
    have hH0 := Lib.holds_zero0 w 112 (Lib.nDigits u) (by omega)
    have hfmt := Tryd.internal_strconv_formatBase10 w.heap.size 0 24 u (Array.replicate (Lib.nDigits u) 0) (w.alloc (.cells Lib.zeros24 112)) hH0 (by rw [Array.size_replicate]; exact Lib.lt_pow_nDigits u) hu (by rw [Array.size_replicate]; omega)
    rw [Array.size_replicate] at hfmt
    have HH0 := Aside0.mk hH0
    have HLD := Aside0.mk hLD
    have HF := Aside0.mk hfmt
    clear hH0 hal hund hLD hfmt
    go_enter Tryd.func51, Tryd.ntmps51
    go_wp2_with fail
    refine (Tryd.internal_strconv_numDigits u hu1 hu _ (HLD.out.below (by repeat (first | exact Below.refl _ _ | apply below_drew | apply below_alloc | apply pw_below_drewN))).pow10).mono ?_
    rintro e w' ⟨rfl, rfl⟩
    go_wp2_with fail
    refine HF.out.mono ?_
    rintro e w' ⟨rfl, k, v', dk, rfl, hF⟩
    have hcv : (convert 90 9 (.slice (some ⟨w.heap.size, 0, none⟩) (Lib.nDigits u) 24)).run Tryd.prog ((Go.Sort.putRow (fun (b : UInt8) => Value.int .u8 (b.toNat : Int)) (w.alloc (.cells Lib.zeros24 112)) w.heap.size 0 dk).drewN k) = .ok (.string ⟨(Lib.decDigits u).toArray⟩) ((Go.Sort.putRow (fun (b : UInt8) => Value.int .u8 (b.toNat : Int)) (w.alloc (.cells Lib.zeros24 112)) w.heap.size 0 dk).drewN k) := by
      have h := run_convert_bytes_back (P := Tryd.prog) ((Go.Sort.putRow (fun (b : UInt8) => Value.int .u8 (b.toNat : Int)) (w.alloc (.cells Lib.zeros24 112)) w.heap.size 0 dk).drewN k) 90 9 5 ⟨w.heap.size, 0, none⟩ 24 (Lib.decDigits u) (by kernel_rfl) (by kernel_rfl) (by kernel_rfl) (fun j hj => by
        rw [Lib.row_is_numeral hF j hj, Lib.add_plain, World.cell?_drewN]
        exact Go.Sort.cell?_putRow (fun (b : UInt8) => Value.int .u8 (b.toNat : Int)) _ w.heap.size 0 _ dk HH0.out (by rw [hF.size, Array.size_replicate]) j (by rw [hF.size]; rw [Lib.decDigits_length] at hj; exact hj))
      rw [Lib.decDigits_length] at h
      exact h
    obtain ⟨os, eo⟩ := Lib.fin_at w (.cells Lib.zeros24 112) dk k 0
    have HBB : Aside0 (Below w.heap.size w ((Go.Sort.putRow (fun (b : UInt8) => Value.int .u8 (b.toNat : Int)) (w.alloc (.cells Lib.zeros24 112)) w.heap.size 0 dk).drewN k)) := Aside0.mk (by rw [eo]; exact Lib.below_grow w.heap.size w (Nat.le_refl _) k os)
    clear eo hF
    generalize (Go.Sort.putRow (fun (b : UInt8) => Value.int .u8 (b.toNat : Int)) (w.alloc (.cells Lib.zeros24 112)) w.heap.size 0 dk).drewN k = W2 at hcv HBB ⊢
    go_wp2_with fail
    go_ret
    exact ⟨rfl, HBB.out⟩
theorem strconv_FormatUint.calls (a0 : Int) (a1 : Int) (r : ByteArray) (w : World) (hLD : Laid w) (h : strconv_FormatUint.f a0 a1 = some r) :
    Calls Tryd.prog 37 #[.int .u64 a0, .int .i64 a1] w fun e w' => e = .returned (.string r) ∧ Below w.heap.size w w' := by
  unfold strconv_FormatUint.f at h
  by_cases h10 : a1 = 10
  · rw [if_pos h10] at h
    by_cases hb : 0 ≤ a0 ∧ a0 < 18446744073709551616
    · rw [if_pos hb] at h
      obtain rfl := Option.some.inj h
      subst h10
      obtain ⟨u, rfl⟩ : ∃ u : Nat, a0 = u := ⟨a0.toNat, by omega⟩
      rw [Int.toNat_natCast]
      have hu : u < 18446744073709551616 := by omega
      have HLD := Aside0.mk hLD
      clear hLD h hb
      go_enter Tryd.func37, Tryd.ntmps37
      go_wp2_with fail
      refine (iFU10 u hu _ HLD.out).mono ?_
      rintro e w' ⟨rfl, hb⟩
      have HB := Aside0.mk hb
      clear hb
      go_wp2_with fail
      go_ret
      exact ⟨rfl, HB.out⟩
    · rw [if_neg hb] at h; cases h
  · rw [if_neg h10] at h
    by_cases h16 : a1 = 16
    · rw [if_pos h16] at h
      by_cases hb : 0 ≤ a0 ∧ a0 < 65536
      · rw [if_pos hb] at h
        obtain rfl := Option.some.inj h
        subst h16
        obtain ⟨u, rfl⟩ : ∃ u : Nat, a0 = u := ⟨a0.toNat, by omega⟩
        rw [Int.toNat_natCast]
        have hu : u < 65536 := by omega
        have HLD := Aside0.mk hLD
        clear hLD h hb
        go_enter Tryd.func37, Tryd.ntmps37
        go_wp2_with fail
        refine (iFU16 u hu _ HLD.out).mono ?_
        rintro e w' ⟨rfl, hb⟩
        have HB := Aside0.mk hb
        clear hb
        go_wp2_with fail
        go_ret
        exact ⟨rfl, HB.out⟩
      · rw [if_neg hb] at h; cases h
    · rw [if_neg h16] at h; cases h


/-! ### strings_Join: function 40 (given) -/
def strings_Join.f (l0 : List ByteArray) (a1 : ByteArray) : Option ByteArray := if l0.length ≤ 140737488355328 then (if (Lib.join (l0.map (·.data.toList)) a1.data.toList).length ≤ 140737488355328 then some (⟨(Lib.join (l0.map (·.data.toList)) a1.data.toList).toArray⟩ : ByteArray) else none) else none
theorem cell_spot {w : World} {a : Addr} {v : Value} (h : w.cell? a = some v) : a.spot = none ∧ a.block < w.heap.size := by
  unfold World.cell? at h
  cases hb : w.heap[a.block]? with
  | none => rw [hb] at h; cases h
  | some o =>
    rw [hb] at h
    have hlt := (Array.getElem?_eq_some_iff.1 hb).1
    cases o with
    | cells c t x =>
      cases hs : a.spot with
      | none => exact ⟨rfl, hlt⟩
      | some s => rw [hs] at h; simp at h
    | _ => cases h
theorem strings_Join.calls (A0 : Option Addr) (c0 : Nat) (l0 : List ByteArray) (a1 : ByteArray) (r : ByteArray) (w : World) (hr0 : Kd.C Kd.string w A0 l0.length l0) (hc0 : l0.length ≤ c0) (h : strings_Join.f l0 a1 = some r) :
    Calls Tryd.prog 40 #[.slice A0 l0.length c0, .string a1] w fun e w' => e = .returned (.string r) ∧ Below w.heap.size w w' := by
  unfold strings_Join.f at h
  by_cases h0 : l0.length ≤ 140737488355328
  · rw [if_pos h0] at h
    by_cases h1 : (Lib.join (l0.map (·.data.toList)) a1.data.toList).length ≤ 140737488355328
    · rw [if_pos h1] at h
      obtain rfl := Option.some.inj h
      cases l0 with
      | nil =>
        refine (Tryd.strings_Join_none A0 c0 a1 w).mono ?_
        rintro e w' ⟨rfl, rfl⟩
        exact ⟨rfl, Below.refl _ _⟩
      | cons x t =>
        obtain ⟨ad, rfl, hc⟩ := hr0.2.2 (by simp)
        have hcell : ∀ (j : Nat) p, (x :: t)[j]? = some p → w.cell? (ad.add j) = some (.string p) := by
          intro j p hp
          obtain ⟨c, _, hr, hcell⟩ := hc j p hp
          have := hcell 0 (.string p) (by rw [show c = [Value.string p] from hr]; rfl)
          simpa [Kd.string, Kd.scalar] using this
        obtain ⟨hsp, hlt⟩ := cell_spot (hcell 0 x rfl)
        obtain ⟨bk, o, sp⟩ := ad
        have hsp' : sp = none := by simpa [Addr.add] using hsp
        subst hsp'
        have hlt' : bk < w.heap.size := by simpa [Addr.add] using hlt
        refine (Tryd.strings_Join bk o c0 (x :: t) a1 w (fun j p hp => ?_) hlt' h0 hc0 h1).mono ?_
        · have := hcell j p hp
          rwa [Lib.add_plain] at this
        · rintro e w' ⟨rfl, hb⟩
          exact ⟨rfl, hb⟩
    · rw [if_neg h1] at h; cases h
  · rw [if_neg h0] at h; cases h


end Go.Proofs.YteflcmmandlknaaDoor.PA
