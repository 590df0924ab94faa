/- The Go functions in Lean, with the proofs that the code comes to these answers: printed by this session's program (wip/px) out of the seat's translation. Conditions: each theorem's own. -/
import Derived.Test.YteflcmmandlknaaGreatDoorPAx0
import Derived.Test.YteflcmmandlknaaGreatDoorPAx11
namespace Go.Proofs.YteflcmmandlknaaGreatDoor.PA
open Go.RowKit Go.Proofs.YteflcmmandlknaaGreatDoorW.PrintWords Go.Proofs.YteflcmmandlknaaGreatDoorW.PrintLast Go.Proofs.YteflcmmandlknaaGreatDoorW.PrintMore
attribute [local go_sem] max2_int min2_int max_two min_two max_three min_three max_four min_four   -- for this text's walks alone
attribute [local go_sem ↓] Ext.isSome_setCell
open Press
set_option linter.unusedVariables false
set_option linter.unusedSimpArgs false
/-! ### ddiref03_Valid: function 27 -/
def ddiref03_Valid.j0 : Nat → Bool → Bool → Int → Int → Int → Option (Bool)
 | 0, _, _, _, _, _ => none
 | k + 1, x22, x331000, x331001, x331002, x331003 => if x22 = true then (some false) else ((ddiref03_Long.f x331000).bind fun t333 => ((ddiref03_ones.f k (wrap64 (t333 - x331003))).bind fun bt334 => (if (Go.bits .and .u64 x331001 bt334.1) = 0 then (some ((Go.bits .and .u64 x331002 bt334.2) == 0)) else (some false))))
def ddiref03_Valid.f (k : Nat) (a0_0 : Bool) (a0_1 : Int) (a0_2 : Int) (a0_3 : Int) : Option (Bool) := (ddiref02_Valid.f a0_0 a0_1 a0_2).bind fun t331 => (if t331 = true then (if a0_3 < 0 then (ddiref03_Valid.j0 k true a0_0 a0_1 a0_2 a0_3) else ((ddiref03_Long.f a0_0).bind fun t332 => (ddiref03_Valid.j0 k (decide (a0_3 > t332)) a0_0 a0_1 a0_2 a0_3))) else (ddiref03_Valid.j0 k true a0_0 a0_1 a0_2 a0_3))
theorem ddiref03_Valid.mono_l : ∀ k, (∀ y0 y1 y2 y3 y4, LeO (ddiref03_Valid.j0 k y0 y1 y2 y3 y4) (ddiref03_Valid.j0 (k + 1) y0 y1 y2 y3 y4))
 | 0 => fun _ _ _ _ _ r h => by simp [ddiref03_Valid.j0] at h
 | k + 1 => by
  have ih0 := ddiref03_Valid.mono_l k
  ·
   intro y0 y1 y2 y3 y4
   unfold ddiref03_Valid.j0
   repeat' with_reducible first | exact ih0 _ _ _ _ _ | exact ddiref03_ones.mono _ _ | exact LeO.refl _ | exact LeO.none _ | refine LeO.ite ?_ ?_ | refine LeO.bind ?_ (fun _ => ?_)
theorem ddiref03_Valid.mono : ∀ a0 a1 a2 a3 k, LeO (ddiref03_Valid.f k a0 a1 a2 a3) (ddiref03_Valid.f (k + 1) a0 a1 a2 a3) := by
 intro a0 a1 a2 a3 k
 have ih0 := ddiref03_Valid.mono_l k
 unfold ddiref03_Valid.f
 repeat' with_reducible first | exact ih0 _ _ _ _ _ | exact ddiref03_ones.mono _ _ | exact LeO.refl _ | exact LeO.none _ | refine LeO.ite ?_ ?_ | refine LeO.bind ?_ (fun _ => ?_)
def ddiref03_Valid.T1 : Bool × List (List Nat × List Nat) := (true, [([], []), ([0], [0]), ([1], [1]), ([2], [2]), ([3, 2], [3]), ([4], [4]), ([5, 4], [4, 5]), ([6, 4], [4, 6]), ([4, 7], [4, 7]), ([8, 4], [8]), ([9], [9]), ([10, 9], [9, 10]), ([9], [9]), ([12, 9], [9, 12]), ([13, 9], [9, 13]), ([14, 9, 9], [9, 14]), ([11, 15, 9], [9, 11, 15]), ([9, 16], [9, 16])])
def ddiref03_Valid.B1 : List Nat := [0, 1, 3, 7, 15, 31, 63, 127, 255, 511, 1023, 2047, 1023, 5119, 13311, 29695, 65535, 131071]
theorem ddiref03_Valid.tab1 : rtab .any (opsOf Tryz.f27 1) = ddiref03_Valid.T1 := by kernel_rfl
theorem ddiref03_Valid.bits1 : waitsOk ddiref03_Valid.T1.2 ddiref03_Valid.B1 = true := by kernel_rfl
def ddiref03_Valid.T3 : Bool × List (List Nat × List Nat) := (true, [([], []), ([0], [0]), ([1], [1]), ([2], [2]), ([], []), ([4], [4]), ([3, 5], [3, 5]), ([6, 3], [6]), ([7], [7]), ([8], [8]), ([8], [8]), ([9, 7, 0, 1, 2, 3, 4, 5, 6, 7, 8, 9], [9]), ([10, 11, 0, 1, 2, 3, 4, 5, 6, 7, 8, 9, 10, 11], [10])])
def ddiref03_Valid.B3 : List Nat := [0, 1, 3, 7, 0, 16, 63, 127, 255, 511, 511, 1023, 4095]
theorem ddiref03_Valid.tab3 : rtab .any (opsOf Tryz.f27 3) = ddiref03_Valid.T3 := by kernel_rfl
theorem ddiref03_Valid.bits3 : waitsOk ddiref03_Valid.T3.2 ddiref03_Valid.B3 = true := by kernel_rfl
set_option maxHeartbeats 40000000 in
set_option maxRecDepth 100000 in
theorem ddiref03_Valid.calls (k : Nat) (a0_0 : Bool) (a0_1 : Int) (a0_2 : Int) (a0_3 : Int) (r : Bool) (w : World) (h : ddiref03_Valid.f k a0_0 a0_1 a0_2 a0_3 = some r) :
 Calls Tryz.prog 27 #[.agg #[.bool a0_0, .int .u64 a0_1, .int .u64 a0_2, .int .i64 a0_3]] w fun e w' => e = .returned (.bool r) ∧ Below w.heap.size w w' := by
 have hu26 := Tryz.underlying26
 have hu24 := Tryz.underlying24
 have HB := Aside0.mk (Below.refl w.heap.size w)
 have H : ((ddiref02_Valid.f a0_0 a0_1 a0_2).bind fun t331 => (if t331 = true then (if a0_3 < 0 then (ddiref03_Valid.j0 k true a0_0 a0_1 a0_2 a0_3) else ((ddiref03_Long.f a0_0).bind fun t332 => (ddiref03_Valid.j0 k (decide (a0_3 > t332)) a0_0 a0_1 a0_2 a0_3))) else (ddiref03_Valid.j0 k true a0_0 a0_1 a0_2 a0_3))) = some r := h
 clear h
 have HC2 := Aside0.mk H
 clear H
 go_enter Tryz.func27, Tryz.ntmps27
 go_upto_region 1 with (first | ((with_reducible refine gate_dst (N := 1) rfl ?_); refine boxA (N := 1) (cs := #[.bool a0_0, .int .u64 a0_1, .int .u64 a0_2, .int .i64 a0_3]) (t := 26) ?_; intro gb330 hg w3 hbox hb; have BK330 := Aside0.mk (hbox); have GE330 := (pZ HB hg); replace HB := (pS HB hb); clear hb hbox hg))
 (try simp only [Act.put, List.setIfInBounds_toArray, List.set_cons_zero, List.set_cons_succ])
 go_cut [22] (fun v22 wc => ∃ (kq : Nat) (x22_1 : Bool), v22 = .bool x22_1 ∧ Aside0 (ddiref03_Valid.j0 kq x22_1 a0_0 a0_1 a0_2 a0_3 = some r) ∧ Aside0 (kq ≤ k) ∧ Aside0 (wc.heap[gb330]? = some (.cells #[.bool a0_0, .int .u64 a0_1, .int .u64 a0_2, .int .i64 a0_3] 26 (0, 0))) ∧ Aside0 (Below w.heap.size w wc))
 case first =>
  have H := HC2.out
  clear HC2
  replace H := Option.bind_eq_some_iff.mp H
  obtain ⟨t331, A40, H⟩ := H
  have A4 := Aside0.mk A40
  clear A40
  by_cases c5 : t331 = true
  ·
   subst c5
   rw [if_pos rfl] at H
   by_cases c6 : a0_3 < 0
   ·
    rw [if_pos c6] at H
    have c6b0 := decide_eq_true c6
    clear c6
    (first | rw [c6b0] | (simp only [i64_w, i32_w]; rw [c6b0]) | skip)
    have H' := Aside0.mk H
    clear H
    try go_wp2
    replace BK330 := Aside0.mk (blk_drew BK330.out)
    replace HB := Aside0.mk (below_drew1 HB.out)
    refine start_ (n := 18) (S := fun w' => w'.cell? ⟨gb330, 0, none⟩ = some (.bool a0_0) ∧ w'.cell? ⟨gb330, 1, none⟩ = some (.int .u64 a0_1) ∧ w'.cell? ⟨gb330, 2, none⟩ = some (.int .u64 a0_2) ∧ w'.cell? ⟨gb330, 3, none⟩ = some (.int .i64 a0_3)) (ds := []) (tk 18 0) (by kernel_rfl) rfl rfl ⟨bC BK330 0, bC BK330 1, bC BK330 2, bC BK330 3⟩ (fun hHeld => ?_); refine with_tabW ddiref03_Valid.tab1 ddiref03_Valid.bits1 (fun HT_ HW_ => ?_)
    generalize w3.drew = w7 at BK330 HB hHeld ⊢
    refine pureA (i := 0) (some 5) HT_ (tk 18 1) ?_
    refine takeA (i := 1) (some 6) HT_ HW_ (tk 18 2) hHeld ?_
    refine one_ (i := 2) (N := some 7) (tk 18 3) rfl rfl (one_of HT_.out (by kernel_rfl)) (by decide) (fun K hK => ?_)
    refine goesR Tryz.func54 #[.agg #[.bool a0_0, .int .u64 a0_1, .int .u64 a0_2]] ?_
    with_reducible refine (ddiref02_Valid.calls a0_0 a0_1 a0_2 true _ A4.out).mono ?_
    rintro e w8 ⟨rfl, hb⟩
    refine ⟨_, rfl, ?_⟩
    replace BK330 := (pB BK330 hb)
    replace HB := (pS HB hb)
    (try clear hb)
    refine hK.out _ _ ⟨bC BK330 0, bC BK330 1, bC BK330 2, bC BK330 3⟩ (fun hHeld => ?_)
    clear hK K
    refine normA (N := some 7) ?_
    refine pureA (i := 3) (some 8) HT_ (tk 18 4) ?_
    refine pureA (i := 4) (some 9) HT_ (tk 18 5) ?_
    refine pureA (i := 5) (some 10) HT_ (tk 18 6) ?_
    refine takeA (i := 6) (some 11) HT_ HW_ (tk 18 7) hHeld ?_
    refine pureA (i := 7) (some 12) HT_ (tk 18 8) ?_
    refine pureA (i := 8) (some 13) HT_ (tk 18 9) ?_
    refine pureA (i := 9) (some 14) HT_ (tk 18 10) ?_
    refine pureB (i := 10) (some 15) HT_ (tk 18 11) ?_
    refine pureB (i := 11) (some 16) HT_ (tk 18 12) ?_
    refine pureB (i := 12) (some 17) HT_ (tk 18 13) ?_
    refine pureB (i := 13) (some 18) HT_ (tk 18 14) ?_
    refine pureB (i := 14) (some 19) HT_ (tk 18 15) ?_
    refine pureB (i := 15) (some 20) HT_ (tk 18 16) ?_
    refine pureB (i := 16) (some 21) HT_ (tk 18 17) ?_
    refine pureA (i := 17) (some 22) HT_ (tk 18 18) ?_
    refine done_ (done_of HT_.out (by kernel_rfl)) ?_
    try go_wp2
    refine Met.intro ?_
    go_step
    (repeat apply Exists.intro)
    refine ⟨?rel, ?heq_⟩
    case heq_ => first | rfl | (rw [c6b0]) | (simp only [c6b0])
    case rel => exact ⟨_, (true), pT, H', ⟨by first | omega | exact Nat.le_refl _⟩, ⟨pM BK330⟩, ⟨pE HB⟩⟩
   ·
    rw [if_neg c6] at H
    have c6b0 := decide_eq_false c6
    clear c6
    (first | rw [c6b0] | (simp only [i64_w, i32_w]; rw [c6b0]) | skip)
    replace H := Option.bind_eq_some_iff.mp H
    obtain ⟨t332, A90, H⟩ := H
    have A9 := Aside0.mk A90
    clear A90
    have H' := Aside0.mk H
    clear H
    try go_wp2
    replace BK330 := Aside0.mk (blk_drew BK330.out)
    replace HB := Aside0.mk (below_drew1 HB.out)
    refine start_ (n := 18) (S := fun w' => w'.cell? ⟨gb330, 0, none⟩ = some (.bool a0_0) ∧ w'.cell? ⟨gb330, 1, none⟩ = some (.int .u64 a0_1) ∧ w'.cell? ⟨gb330, 2, none⟩ = some (.int .u64 a0_2) ∧ w'.cell? ⟨gb330, 3, none⟩ = some (.int .i64 a0_3)) (ds := []) (tk 18 0) (by kernel_rfl) rfl rfl ⟨bC BK330 0, bC BK330 1, bC BK330 2, bC BK330 3⟩ (fun hHeld => ?_); refine with_tabW ddiref03_Valid.tab1 ddiref03_Valid.bits1 (fun HT_ HW_ => ?_)
    generalize w3.drew = w10 at BK330 HB hHeld ⊢
    refine pureA (i := 0) (some 5) HT_ (tk 18 1) ?_
    refine takeA (i := 1) (some 6) HT_ HW_ (tk 18 2) hHeld ?_
    refine one_ (i := 2) (N := some 7) (tk 18 3) rfl rfl (one_of HT_.out (by kernel_rfl)) (by decide) (fun K hK => ?_)
    refine goesR Tryz.func54 #[.agg #[.bool a0_0, .int .u64 a0_1, .int .u64 a0_2]] ?_
    with_reducible refine (ddiref02_Valid.calls a0_0 a0_1 a0_2 true _ A4.out).mono ?_
    rintro e w11 ⟨rfl, hb⟩
    refine ⟨_, rfl, ?_⟩
    replace BK330 := (pB BK330 hb)
    replace HB := (pS HB hb)
    (try clear hb)
    refine hK.out _ _ ⟨bC BK330 0, bC BK330 1, bC BK330 2, bC BK330 3⟩ (fun hHeld => ?_)
    clear hK K
    refine normA (N := some 7) ?_
    refine pureA (i := 3) (some 8) HT_ (tk 18 4) ?_
    refine pureA (i := 4) (some 9) HT_ (tk 18 5) ?_
    refine pureA (i := 5) (some 10) HT_ (tk 18 6) ?_
    refine takeA (i := 6) (some 11) HT_ HW_ (tk 18 7) hHeld ?_
    refine pureA (i := 7) (some 12) HT_ (tk 18 8) ?_
    refine pureA (i := 8) (some 13) HT_ (tk 18 9) ?_
    refine pureA (i := 9) (some 14) HT_ (tk 18 10) ?_
    refine pureA (i := 10) (some 15) HT_ (tk 18 11) ?_
    refine pureA (i := 12) (some 17) HT_ (tr [11, 1, 1, 5]) ?_
    refine pureA (i := 13) (some 18) HT_ (tr [11, 1, 2, 4]) ?_
    refine takeA (i := 11) (some 16) HT_ HW_ (tk 18 14) hHeld ?_
    refine takeA (i := 14) (some 19) HT_ HW_ (tk 18 15) hHeld ?_
    refine one_ (i := 15) (N := some 20) (tk 18 16) rfl rfl (one_of HT_.out (by kernel_rfl)) (by decide) (fun K hK => ?_)
    refine goesR Tryz.func45 #[.bool a0_0] ?_
    with_reducible refine (ddiref03_Long.calls a0_0 t332 _ A9.out).mono ?_
    rintro e w' ⟨rfl, ⟨nd, rfl⟩⟩
    refine ⟨_, rfl, ?_⟩
    refine hK.out _ _ ⟨bC BK330 0, bC BK330 1, bC BK330 2, bC BK330 3⟩ (fun hHeld => ?_)
    clear hK K
    refine normA (N := some 20) ?_
    refine pureA (i := 16) (some 21) HT_ (tk 18 17) ?_
    refine pureA (i := 17) (some 22) HT_ (tk 18 18) ?_
    refine done_ (done_of HT_.out (by kernel_rfl)) ?_
    try go_wp2
    refine Met.intro ?_
    go_step
    (repeat apply Exists.intro)
    refine ⟨?rel, ?heq_⟩
    case heq_ => first | rfl | (rw [c6b0]) | (simp only [c6b0])
    case rel => exact ⟨_, (decide (a0_3 > t332)), pT, H', ⟨by first | omega | exact Nat.le_refl _⟩, ⟨pM BK330⟩, ⟨pE HB⟩⟩
  ·
   replace c5 := Bool.eq_false_iff.mpr c5
   subst c5
   rw [if_neg (show ¬ (false = true) by decide)] at H
   have H' := Aside0.mk H
   clear H
   try go_wp2
   replace BK330 := Aside0.mk (blk_drew BK330.out)
   replace HB := Aside0.mk (below_drew1 HB.out)
   refine start_ (n := 18) (S := fun w' => w'.cell? ⟨gb330, 0, none⟩ = some (.bool a0_0) ∧ w'.cell? ⟨gb330, 1, none⟩ = some (.int .u64 a0_1) ∧ w'.cell? ⟨gb330, 2, none⟩ = some (.int .u64 a0_2) ∧ w'.cell? ⟨gb330, 3, none⟩ = some (.int .i64 a0_3)) (ds := []) (tk 18 0) (by kernel_rfl) rfl rfl ⟨bC BK330 0, bC BK330 1, bC BK330 2, bC BK330 3⟩ (fun hHeld => ?_); refine with_tabW ddiref03_Valid.tab1 ddiref03_Valid.bits1 (fun HT_ HW_ => ?_)
   generalize w3.drew = w12 at BK330 HB hHeld ⊢
   refine pureA (i := 0) (some 5) HT_ (tk 18 1) ?_
   refine takeA (i := 1) (some 6) HT_ HW_ (tk 18 2) hHeld ?_
   refine one_ (i := 2) (N := some 7) (tk 18 3) rfl rfl (one_of HT_.out (by kernel_rfl)) (by decide) (fun K hK => ?_)
   refine goesR Tryz.func54 #[.agg #[.bool a0_0, .int .u64 a0_1, .int .u64 a0_2]] ?_
   with_reducible refine (ddiref02_Valid.calls a0_0 a0_1 a0_2 false _ A4.out).mono ?_
   rintro e w13 ⟨rfl, hb⟩
   refine ⟨_, rfl, ?_⟩
   replace BK330 := (pB BK330 hb)
   replace HB := (pS HB hb)
   (try clear hb)
   refine hK.out _ _ ⟨bC BK330 0, bC BK330 1, bC BK330 2, bC BK330 3⟩ (fun hHeld => ?_)
   clear hK K
   refine normA (N := some 7) ?_
   refine pureA (i := 3) (some 8) HT_ (tk 18 4) ?_
   refine pureA (i := 4) (some 9) HT_ (tk 18 5) ?_
   refine pureB (i := 5) (some 10) HT_ (tk 18 6) ?_
   refine pureB (i := 6) (some 11) HT_ (tk 18 7) ?_
   refine pureB (i := 7) (some 12) HT_ (tk 18 8) ?_
   refine pureA (i := 8) (some 13) HT_ (tk 18 9) ?_
   refine pureA (i := 9) (some 14) HT_ (tk 18 10) ?_
   refine pureB (i := 10) (some 15) HT_ (tk 18 11) ?_
   refine pureB (i := 11) (some 16) HT_ (tk 18 12) ?_
   refine pureB (i := 12) (some 17) HT_ (tk 18 13) ?_
   refine pureB (i := 13) (some 18) HT_ (tk 18 14) ?_
   refine pureB (i := 14) (some 19) HT_ (tk 18 15) ?_
   refine pureB (i := 15) (some 20) HT_ (tk 18 16) ?_
   refine pureB (i := 16) (some 21) HT_ (tk 18 17) ?_
   refine pureA (i := 17) (some 22) HT_ (tk 18 18) ?_
   refine done_ (done_of HT_.out (by kernel_rfl)) ?_
   try go_wp2
   go_meet
   case rel => exact ⟨_, (true), pT, H', ⟨by first | omega | exact Nat.le_refl _⟩, ⟨pM BK330⟩, ⟨pE HB⟩⟩
 case rest =>
  clear HC2
  obtain ⟨kq, x22_1, rfl, HA, HJ1, BK330, HB⟩ := hcut
  cases kq with
  | zero => exact absurd HA.out (by simp [ddiref03_Valid.j0])
  | succ kj1 =>
   have H := HA.out
   clear HA
   simp only [ddiref03_Valid.j0] at H
   by_cases c14 : x22_1 = true
   ·
    subst c14
    rw [if_pos rfl] at H
    obtain rfl := Option.some.inj H
    go_wp2
    go_ret
    exact pR (pE HB)
   ·
    replace c14 := Bool.eq_false_iff.mpr c14
    subst c14
    rw [if_neg (show ¬ (false = true) by decide)] at H
    replace H := Option.bind_eq_some_iff.mp H
    obtain ⟨t333, A150, H⟩ := H
    have A15 := Aside0.mk A150
    clear A150
    replace H := Option.bind_eq_some_iff.mp H
    obtain ⟨⟨t334, t335⟩, A160, H⟩ := H
    replace H : (if (Go.bits .and .u64 a0_1 t334) = 0 then (some ((Go.bits .and .u64 a0_2 t335) == 0)) else (some false)) = some r := H
    have A16 := Aside0.mk A160
    clear A160
    by_cases c17 : (Go.bits .and .u64 a0_1 t334) = 0
    ·
     rw [if_pos c17] at H
     have c17b0 : ((Go.bits .and .u64 a0_1 t334) == 0) = true := beq_iff_eq.mpr c17
     have c17b1 : ((Go.bits .and .u64 a0_1 t334) != 0) = false := bne_eq_false_iff_eq.mpr c17
     clear c17
     obtain rfl := Option.some.inj H
     try go_wp2
     replace BK330 := Aside0.mk (blk_drew BK330.out)
     replace HB := Aside0.mk (below_drew1 HB.out)
     refine start_ (n := 13) (S := fun w' => w'.cell? ⟨gb330, 0, none⟩ = some (.bool a0_0) ∧ w'.cell? ⟨gb330, 1, none⟩ = some (.int .u64 a0_1) ∧ w'.cell? ⟨gb330, 2, none⟩ = some (.int .u64 a0_2) ∧ w'.cell? ⟨gb330, 3, none⟩ = some (.int .i64 a0_3)) (ds := []) (tk 13 0) (by kernel_rfl) rfl rfl ⟨bC BK330 0, bC BK330 1, bC BK330 2, bC BK330 3⟩ (fun hHeld => ?_); refine with_tabW ddiref03_Valid.tab3 ddiref03_Valid.bits3 (fun HT_ HW_ => ?_)
     generalize wc.drew = w18 at BK330 HB hHeld ⊢
     refine pureA (i := 0) (some 24) HT_ (tk 13 1) ?_
     refine pureA (i := 1) (some 25) HT_ (tk 13 2) ?_
     refine pureA (i := 4) (some 28) HT_ (tr [2, 2, 1, 8]) ?_
     refine takeA (i := 2) (some 26) HT_ HW_ (tr [3, 1, 1, 8]) hHeld ?_
     refine takeA (i := 5) (some 29) HT_ HW_ (tr [3, 1, 2, 7]) hHeld ?_
     refine one_ (i := 3) (N := some 27) (tk 13 6) rfl rfl (one_of HT_.out (by kernel_rfl)) (by decide) (fun K hK => ?_)
     refine goesR Tryz.func45 #[.bool a0_0] ?_
     with_reducible refine (ddiref03_Long.calls a0_0 t333 _ A15.out).mono ?_
     rintro e w' ⟨rfl, ⟨nd, rfl⟩⟩
     refine ⟨_, rfl, ?_⟩
     refine hK.out _ _ ⟨bC BK330 0, bC BK330 1, bC BK330 2, bC BK330 3⟩ (fun hHeld => ?_)
     clear hK K
     refine normA (N := some 27) ?_
     refine pureA (i := 6) (some 30) HT_ (tk 13 7) ?_
     refine one_ (i := 7) (N := some 31) (tk 13 8) rfl rfl (one_of HT_.out (by kernel_rfl)) (by decide) (fun K hK => ?_)
     refine goesR Tryz.func44 #[.int .i64 (wrap64 (t333 - a0_3))] ?_
     with_reducible refine (ddiref03_ones.calls kj1 (wrap64 (t333 - a0_3)) t334 t335 _ A16.out).mono ?_
     rintro e w' ⟨rfl, ⟨nd, rfl⟩⟩
     refine ⟨_, rfl, ?_⟩
     refine hK.out _ _ ⟨bC BK330 0, bC BK330 1, bC BK330 2, bC BK330 3⟩ (fun hHeld => ?_)
     clear hK K
     refine normA (N := some 31) ?_
     refine pureA (i := 8) (some 23) HT_ (tk 13 9) ?_
     refine pureA (i := 9) (some 32) HT_ (tk 13 10) ?_
     refine pureA (i := 10) (some 33) HT_ (tk 13 11) ?_
     refine pureA (i := 11) (some 3) HT_ (tk 13 12) ?_
     refine pureA (i := 12) (some 4) HT_ (tk 13 13) ?_
     refine done_ (done_of HT_.out (by kernel_rfl)) ?_
     obtain ⟨hcz19_0, hcz19_1, hcz19_2, hcz19_3, hfz19_0, hfz19_1, hfz19_2, hfz19_3⟩ := pC4 BK330
     try go_wp2
     go_ret
     exact pR (pE HB)
    ·
     rw [if_neg c17] at H
     have c17b0 : ((Go.bits .and .u64 a0_1 t334) == 0) = false := beq_eq_false_iff_ne.mpr c17
     have c17b1 : ((Go.bits .and .u64 a0_1 t334) != 0) = true := bne_iff_ne.mpr c17
     obtain rfl := Option.some.inj H
     try go_wp2
     replace BK330 := Aside0.mk (blk_drew BK330.out)
     replace HB := Aside0.mk (below_drew1 HB.out)
     refine start_ (n := 13) (S := fun w' => w'.cell? ⟨gb330, 0, none⟩ = some (.bool a0_0) ∧ w'.cell? ⟨gb330, 1, none⟩ = some (.int .u64 a0_1) ∧ w'.cell? ⟨gb330, 2, none⟩ = some (.int .u64 a0_2) ∧ w'.cell? ⟨gb330, 3, none⟩ = some (.int .i64 a0_3)) (ds := []) (tk 13 0) (by kernel_rfl) rfl rfl ⟨bC BK330 0, bC BK330 1, bC BK330 2, bC BK330 3⟩ (fun hHeld => ?_); refine with_tabW ddiref03_Valid.tab3 ddiref03_Valid.bits3 (fun HT_ HW_ => ?_)
     generalize wc.drew = w20 at BK330 HB hHeld ⊢
     refine pureA (i := 0) (some 24) HT_ (tk 13 1) ?_
     refine pureA (i := 1) (some 25) HT_ (tk 13 2) ?_
     refine pureA (i := 4) (some 28) HT_ (tr [2, 2, 1, 8]) ?_
     refine takeA (i := 2) (some 26) HT_ HW_ (tr [3, 1, 1, 8]) hHeld ?_
     refine takeA (i := 5) (some 29) HT_ HW_ (tr [3, 1, 2, 7]) hHeld ?_
     refine one_ (i := 3) (N := some 27) (tk 13 6) rfl rfl (one_of HT_.out (by kernel_rfl)) (by decide) (fun K hK => ?_)
     refine goesR Tryz.func45 #[.bool a0_0] ?_
     with_reducible refine (ddiref03_Long.calls a0_0 t333 _ A15.out).mono ?_
     rintro e w' ⟨rfl, ⟨nd, rfl⟩⟩
     refine ⟨_, rfl, ?_⟩
     refine hK.out _ _ ⟨bC BK330 0, bC BK330 1, bC BK330 2, bC BK330 3⟩ (fun hHeld => ?_)
     clear hK K
     refine normA (N := some 27) ?_
     refine pureA (i := 6) (some 30) HT_ (tk 13 7) ?_
     refine one_ (i := 7) (N := some 31) (tk 13 8) rfl rfl (one_of HT_.out (by kernel_rfl)) (by decide) (fun K hK => ?_)
     refine goesR Tryz.func44 #[.int .i64 (wrap64 (t333 - a0_3))] ?_
     with_reducible refine (ddiref03_ones.calls kj1 (wrap64 (t333 - a0_3)) t334 t335 _ A16.out).mono ?_
     rintro e w' ⟨rfl, ⟨nd, rfl⟩⟩
     refine ⟨_, rfl, ?_⟩
     refine hK.out _ _ ⟨bC BK330 0, bC BK330 1, bC BK330 2, bC BK330 3⟩ (fun hHeld => ?_)
     clear hK K
     refine normA (N := some 31) ?_
     refine pureA (i := 8) (some 23) HT_ (tk 13 9) ?_
     refine pureA (i := 9) (some 32) HT_ (tk 13 10) ?_
     refine pureA (i := 10) (some 33) HT_ (tk 13 11) ?_
     refine pureA (i := 11) (some 3) HT_ (tk 13 12) ?_
     refine pureA (i := 12) (some 4) HT_ (tk 13 13) ?_
     refine done_ (done_of HT_.out (by kernel_rfl)) ?_
     obtain ⟨hcz21_0, hcz21_1, hcz21_2, hcz21_3, hfz21_0, hfz21_1, hfz21_2, hfz21_3⟩ := pC4 BK330
     try go_wp2
     go_ret
     exact pR (pE HB)

/-! ### ddiref02_decimal: function 73 -/
def ddiref02_decimal.f (a0 : Int) : Option (ByteArray) := (some (([(IntKind.u64.wrap (48 + (Int.tmod a0 10))) % 256] : List Int) : List Int)).bind fun y336 => (if a0 ≥ 10 then ((some (([(IntKind.u64.wrap (48 + (Int.tmod (IntKind.u64.wrap (Int.tdiv a0 10)) 10))) % 256] : List Int) : List Int)).bind fun y339 => (if (strOfNums y339).size + (strOfNums y336).size ≤ 9223372036854775807 then (if a0 ≥ 100 then ((some (([(IntKind.u64.wrap (48 + (IntKind.u64.wrap (Int.tdiv a0 100)))) % 256] : List Int) : List Int)).bind fun y342 => (if (strOfNums y342).size + ((strOfNums y339) ++ (strOfNums y336)).size ≤ 9223372036854775807 then (some ((strOfNums y342) ++ ((strOfNums y339) ++ (strOfNums y336)))) else (none))) else (some ((strOfNums y339) ++ (strOfNums y336)))) else (none))) else (if a0 ≥ 100 then ((some (([(IntKind.u64.wrap (48 + (IntKind.u64.wrap (Int.tdiv a0 100)))) % 256] : List Int) : List Int)).bind fun y345 => (if (strOfNums y345).size + (strOfNums y336).size ≤ 9223372036854775807 then (some ((strOfNums y345) ++ (strOfNums y336))) else (none))) else (some (strOfNums y336))))
set_option maxHeartbeats 40000000 in
set_option maxRecDepth 100000 in
theorem ddiref02_decimal.calls (a0 : Int) (r : ByteArray) (w : World) (h : ddiref02_decimal.f a0 = some r) :
 Calls Tryz.prog 73 #[.int .u64 a0] w fun e w' => e = .returned (.string r) ∧ Below w.heap.size w w' := by
 have HB := Aside0.mk (Below.refl w.heap.size w)
 have H : ((some (([(IntKind.u64.wrap (48 + (Int.tmod a0 10))) % 256] : List Int) : List Int)).bind fun y336 => (if a0 ≥ 10 then ((some (([(IntKind.u64.wrap (48 + (Int.tmod (IntKind.u64.wrap (Int.tdiv a0 10)) 10))) % 256] : List Int) : List Int)).bind fun y339 => (if (strOfNums y339).size + (strOfNums y336).size ≤ 9223372036854775807 then (if a0 ≥ 100 then ((some (([(IntKind.u64.wrap (48 + (IntKind.u64.wrap (Int.tdiv a0 100)))) % 256] : List Int) : List Int)).bind fun y342 => (if (strOfNums y342).size + ((strOfNums y339) ++ (strOfNums y336)).size ≤ 9223372036854775807 then (some ((strOfNums y342) ++ ((strOfNums y339) ++ (strOfNums y336)))) else (none))) else (some ((strOfNums y339) ++ (strOfNums y336)))) else (none))) else (if a0 ≥ 100 then ((some (([(IntKind.u64.wrap (48 + (IntKind.u64.wrap (Int.tdiv a0 100)))) % 256] : List Int) : List Int)).bind fun y345 => (if (strOfNums y345).size + (strOfNums y336).size ≤ 9223372036854775807 then (some ((strOfNums y345) ++ (strOfNums y336))) else (none))) else (some (strOfNums y336))))) = some r := h
 clear h
 obtain ⟨y336, hy336⟩ : ∃ y_ : List Int, y_ = (([(IntKind.u64.wrap (48 + (Int.tmod a0 10))) % 256] : List Int)) := ⟨_, rfl⟩
 replace H : (if a0 ≥ 10 then ((some (([(IntKind.u64.wrap (48 + (Int.tmod (IntKind.u64.wrap (Int.tdiv a0 10)) 10))) % 256] : List Int) : List Int)).bind fun y339 => (if (strOfNums y339).size + (strOfNums y336).size ≤ 9223372036854775807 then (if a0 ≥ 100 then ((some (([(IntKind.u64.wrap (48 + (IntKind.u64.wrap (Int.tdiv a0 100)))) % 256] : List Int) : List Int)).bind fun y342 => (if (strOfNums y342).size + ((strOfNums y339) ++ (strOfNums y336)).size ≤ 9223372036854775807 then (some ((strOfNums y342) ++ ((strOfNums y339) ++ (strOfNums y336)))) else (none))) else (some ((strOfNums y339) ++ (strOfNums y336)))) else (none))) else (if a0 ≥ 100 then ((some (([(IntKind.u64.wrap (48 + (IntKind.u64.wrap (Int.tdiv a0 100)))) % 256] : List Int) : List Int)).bind fun y345 => (if (strOfNums y345).size + (strOfNums y336).size ≤ 9223372036854775807 then (some ((strOfNums y345) ++ (strOfNums y336))) else (none))) else (some (strOfNums y336)))) = some r := by first | (rw [hy336]; with_reducible exact H) | (have H2_ := (Option.bind_some _ _).symm.trans H; rw [hy336]; with_reducible exact H2_) | (have H2_ := (Option.bind_some _ _).symm.trans H; with_reducible exact H2_) | with_reducible exact H | (rw [hy336]; exact H) | exact H
 have Ny336 := Aside0.mk hy336
 clear hy336
 by_cases c2 : a0 ≥ 10
 ·
  rw [if_pos c2] at H
  have c2b0 := decide_eq_true c2
  clear c2
  obtain ⟨y339, hy339⟩ : ∃ y_ : List Int, y_ = (([(IntKind.u64.wrap (48 + (Int.tmod (IntKind.u64.wrap (Int.tdiv a0 10)) 10))) % 256] : List Int)) := ⟨_, rfl⟩
  replace H : (if (strOfNums y339).size + (strOfNums y336).size ≤ 9223372036854775807 then (if a0 ≥ 100 then ((some (([(IntKind.u64.wrap (48 + (IntKind.u64.wrap (Int.tdiv a0 100)))) % 256] : List Int) : List Int)).bind fun y342 => (if (strOfNums y342).size + ((strOfNums y339) ++ (strOfNums y336)).size ≤ 9223372036854775807 then (some ((strOfNums y342) ++ ((strOfNums y339) ++ (strOfNums y336)))) else (none))) else (some ((strOfNums y339) ++ (strOfNums y336)))) else (none)) = some r := by first | (rw [hy339]; with_reducible exact H) | (have H2_ := (Option.bind_some _ _).symm.trans H; rw [hy339]; with_reducible exact H2_) | (have H2_ := (Option.bind_some _ _).symm.trans H; with_reducible exact H2_) | with_reducible exact H | (rw [hy339]; exact H) | exact H
  have Ny339 := Aside0.mk hy339
  clear hy339
  by_cases c3 : (strOfNums y339).size + (strOfNums y336).size ≤ 9223372036854775807
  ·
   rw [if_pos c3] at H
   have c3b0 := eq_true c3
   have c3b1 := decide_eq_true c3
   try have c3b2 : (9223372036854775807 < (strOfNums y339).size + (strOfNums y336).size) = False := eq_false (Nat.not_lt.2 c3)
   by_cases c4 : a0 ≥ 100
   ·
    rw [if_pos c4] at H
    have c4b0 := decide_eq_true c4
    clear c4
    obtain ⟨y342, hy342⟩ : ∃ y_ : List Int, y_ = (([(IntKind.u64.wrap (48 + (IntKind.u64.wrap (Int.tdiv a0 100)))) % 256] : List Int)) := ⟨_, rfl⟩
    replace H : (if (strOfNums y342).size + ((strOfNums y339) ++ (strOfNums y336)).size ≤ 9223372036854775807 then (some ((strOfNums y342) ++ ((strOfNums y339) ++ (strOfNums y336)))) else (none)) = some r := by first | (rw [hy342]; with_reducible exact H) | (have H2_ := (Option.bind_some _ _).symm.trans H; rw [hy342]; with_reducible exact H2_) | (have H2_ := (Option.bind_some _ _).symm.trans H; with_reducible exact H2_) | with_reducible exact H | (rw [hy342]; exact H) | exact H
    have Ny342 := Aside0.mk hy342
    clear hy342
    by_cases c5 : (strOfNums y342).size + ((strOfNums y339) ++ (strOfNums y336)).size ≤ 9223372036854775807
    ·
     rw [if_pos c5] at H
     have c5b0 := eq_true c5
     have c5b1 := decide_eq_true c5
     try have c5b2 : (9223372036854775807 < (strOfNums y342).size + ((strOfNums y339) ++ (strOfNums y336)).size) = False := eq_false (Nat.not_lt.2 c5)
     try have c5b2z := c5b2
     try simp only [go_sem, List.size_toArray, List.length_cons, List.length_nil, Nat.zero_add, Nat.reduceAdd] at c5b2z
     obtain rfl := Option.some.inj H
     go_enter Tryz.func73, Tryz.ntmps73
     go_wp2_with (first | ((with_reducible refine gate_dst (N := 8) rfl ?_); refine Kd.R_lit (Kd.int .u8) _ 5 ?hg (N := 8) ?hd (xs := ([(IntKind.u64.wrap (48 + (Int.tmod a0 10))) % 256] : List Int)) (inner := [.int .u8 ((IntKind.u64.wrap (48 + (Int.tmod a0 10))) % 256)]) (ok := fun _ => True) (okp := fun _ => True) ?hr ?hp (fun _ hk => hk) trivial (Below.refl _ _) (Nat.le_refl _) (by simp) ?_; (case hd => rfl); (case hg => rfl); (case hr => first | (go_simp; done) | (go_simp; rfl)); (case hp => exact (Reps.one (show Kd.M (Kd.int .u8) _ _ _ ((IntKind.u64.wrap (48 + (Int.tmod a0 10))) % 256) [.int .u8 ((IntKind.u64.wrap (48 + (Int.tmod a0 10))) % 256)] from rfl) (Reps.none _ _))); intro v337 w6 ho7 hb hg_ hnew_; clear hg_ hnew_; (first | rw [← Ny336.out] at ho7 | (simp only [Int.reduceToNat] at ho7; rw [← Ny336.out] at ho7)); have HO338 := Aside0.mk (Kd.R_lower ho7 (below_size (by repeat (first | (with_reducible first | exact HB.out | apply below_alloc | apply pw_below_drewN | apply below_drew1) | exact HB.out)))); replace HB := (pS HB hb); clear hb ho7; have hcv8 := own_string (P := Tryz.prog) Tryz.underlying103 Tryz.underlying5 Tryz.underlying9 (Kd.own_of_R HO338.out)) | ((with_reducible refine gate_dst (N := 17) rfl ?_); refine Kd.R_lit (Kd.int .u8) _ 5 ?hg (N := 17) ?hd (xs := ([(IntKind.u64.wrap (48 + (Int.tmod (IntKind.u64.wrap (Int.tdiv a0 10)) 10))) % 256] : List Int)) (inner := [.int .u8 ((IntKind.u64.wrap (48 + (Int.tmod (IntKind.u64.wrap (Int.tdiv a0 10)) 10))) % 256)]) (ok := fun _ => True) (okp := fun _ => True) ?hr ?hp (fun _ hk => hk) trivial (Below.refl _ _) (Nat.le_refl _) (by simp) ?_; (case hd => rfl); (case hg => rfl); (case hr => first | (go_simp; done) | (go_simp; rfl)); (case hp => exact (Reps.one (show Kd.M (Kd.int .u8) _ _ _ ((IntKind.u64.wrap (48 + (Int.tmod (IntKind.u64.wrap (Int.tdiv a0 10)) 10))) % 256) [.int .u8 ((IntKind.u64.wrap (48 + (Int.tmod (IntKind.u64.wrap (Int.tdiv a0 10)) 10))) % 256)] from rfl) (Reps.none _ _))); intro v340 w9 ho10 hb hg_ hnew_; clear hg_ hnew_; (first | rw [← Ny339.out] at ho10 | (simp only [Int.reduceToNat] at ho10; rw [← Ny339.out] at ho10)); have HO341 := Aside0.mk (Kd.R_lower (Kd.R_new' ho10 (Kd.R_lt (by (with_reducible repeat (first | apply Kd.R_alloc | apply Kd.R_drewN | apply Kd.R_drew)); exact HO338.out))) (below_size (by repeat (first | (with_reducible first | exact HB.out | apply below_alloc | apply pw_below_drewN | apply below_drew1) | exact HB.out)))); replace HO338 := Aside0.mk (Kd.R_elder' (by (with_reducible repeat (first | apply Kd.R_alloc | apply Kd.R_drewN | apply Kd.R_drew)); exact HO338.out) (Kd.R_base ho10) hb); replace HB := (pS HB hb); clear hb ho10; have hcv11 := own_string (P := Tryz.prog) Tryz.underlying103 Tryz.underlying5 Tryz.underlying9 (Kd.own_of_R HO341.out)) | ((with_reducible refine gate_dst (N := 27) rfl ?_); refine Kd.R_lit (Kd.int .u8) _ 5 ?hg (N := 27) ?hd (xs := ([(IntKind.u64.wrap (48 + (IntKind.u64.wrap (Int.tdiv a0 100)))) % 256] : List Int)) (inner := [.int .u8 ((IntKind.u64.wrap (48 + (IntKind.u64.wrap (Int.tdiv a0 100)))) % 256)]) (ok := fun _ => True) (okp := fun _ => True) ?hr ?hp (fun _ hk => hk) trivial (Below.refl _ _) (Nat.le_refl _) (by simp) ?_; (case hd => rfl); (case hg => rfl); (case hr => first | (go_simp; done) | (go_simp; rfl)); (case hp => exact (Reps.one (show Kd.M (Kd.int .u8) _ _ _ ((IntKind.u64.wrap (48 + (IntKind.u64.wrap (Int.tdiv a0 100)))) % 256) [.int .u8 ((IntKind.u64.wrap (48 + (IntKind.u64.wrap (Int.tdiv a0 100)))) % 256)] from rfl) (Reps.none _ _))); intro v343 w12 ho13 hb hg_ hnew_; clear hg_ hnew_; (first | rw [← Ny342.out] at ho13 | (simp only [Int.reduceToNat] at ho13; rw [← Ny342.out] at ho13)); have HO344 := Aside0.mk (Kd.R_lower (Kd.R_new' (Kd.R_new' ho13 (Kd.R_lt (by (with_reducible repeat (first | apply Kd.R_alloc | apply Kd.R_drewN | apply Kd.R_drew)); exact HO338.out))) (Kd.R_lt (by (with_reducible repeat (first | apply Kd.R_alloc | apply Kd.R_drewN | apply Kd.R_drew)); exact HO341.out))) (below_size (by repeat (first | (with_reducible first | exact HB.out | apply below_alloc | apply pw_below_drewN | apply below_drew1) | exact HB.out)))); replace HO338 := Aside0.mk (Kd.R_elder' (by (with_reducible repeat (first | apply Kd.R_alloc | apply Kd.R_drewN | apply Kd.R_drew)); exact HO338.out) (Kd.R_base ho13) hb); replace HO341 := Aside0.mk (Kd.R_elder' (by (with_reducible repeat (first | apply Kd.R_alloc | apply Kd.R_drewN | apply Kd.R_drew)); exact HO341.out) (Kd.R_base ho13) hb); replace HB := (pS HB hb); clear hb ho13; have hcv14 := own_string (P := Tryz.prog) Tryz.underlying103 Tryz.underlying5 Tryz.underlying9 (Kd.own_of_R HO344.out)))
     go_ret
     exact pR (pE HB)
    ·
     rw [if_neg c5] at H
     exact absurd H (by simp)
   ·
    rw [if_neg c4] at H
    have c4b0 := decide_eq_false c4
    clear c4
    obtain rfl := Option.some.inj H
    go_enter Tryz.func73, Tryz.ntmps73
    go_wp2_with (first | ((with_reducible refine gate_dst (N := 8) rfl ?_); refine Kd.R_lit (Kd.int .u8) _ 5 ?hg (N := 8) ?hd (xs := ([(IntKind.u64.wrap (48 + (Int.tmod a0 10))) % 256] : List Int)) (inner := [.int .u8 ((IntKind.u64.wrap (48 + (Int.tmod a0 10))) % 256)]) (ok := fun _ => True) (okp := fun _ => True) ?hr ?hp (fun _ hk => hk) trivial (Below.refl _ _) (Nat.le_refl _) (by simp) ?_; (case hd => rfl); (case hg => rfl); (case hr => first | (go_simp; done) | (go_simp; rfl)); (case hp => exact (Reps.one (show Kd.M (Kd.int .u8) _ _ _ ((IntKind.u64.wrap (48 + (Int.tmod a0 10))) % 256) [.int .u8 ((IntKind.u64.wrap (48 + (Int.tmod a0 10))) % 256)] from rfl) (Reps.none _ _))); intro v337 w15 ho16 hb hg_ hnew_; clear hg_ hnew_; (first | rw [← Ny336.out] at ho16 | (simp only [Int.reduceToNat] at ho16; rw [← Ny336.out] at ho16)); have HO338 := Aside0.mk (Kd.R_lower ho16 (below_size (by repeat (first | (with_reducible first | exact HB.out | apply below_alloc | apply pw_below_drewN | apply below_drew1) | exact HB.out)))); replace HB := (pS HB hb); clear hb ho16; have hcv17 := own_string (P := Tryz.prog) Tryz.underlying103 Tryz.underlying5 Tryz.underlying9 (Kd.own_of_R HO338.out)) | ((with_reducible refine gate_dst (N := 17) rfl ?_); refine Kd.R_lit (Kd.int .u8) _ 5 ?hg (N := 17) ?hd (xs := ([(IntKind.u64.wrap (48 + (Int.tmod (IntKind.u64.wrap (Int.tdiv a0 10)) 10))) % 256] : List Int)) (inner := [.int .u8 ((IntKind.u64.wrap (48 + (Int.tmod (IntKind.u64.wrap (Int.tdiv a0 10)) 10))) % 256)]) (ok := fun _ => True) (okp := fun _ => True) ?hr ?hp (fun _ hk => hk) trivial (Below.refl _ _) (Nat.le_refl _) (by simp) ?_; (case hd => rfl); (case hg => rfl); (case hr => first | (go_simp; done) | (go_simp; rfl)); (case hp => exact (Reps.one (show Kd.M (Kd.int .u8) _ _ _ ((IntKind.u64.wrap (48 + (Int.tmod (IntKind.u64.wrap (Int.tdiv a0 10)) 10))) % 256) [.int .u8 ((IntKind.u64.wrap (48 + (Int.tmod (IntKind.u64.wrap (Int.tdiv a0 10)) 10))) % 256)] from rfl) (Reps.none _ _))); intro v340 w18 ho19 hb hg_ hnew_; clear hg_ hnew_; (first | rw [← Ny339.out] at ho19 | (simp only [Int.reduceToNat] at ho19; rw [← Ny339.out] at ho19)); have HO341 := Aside0.mk (Kd.R_lower (Kd.R_new' ho19 (Kd.R_lt (by (with_reducible repeat (first | apply Kd.R_alloc | apply Kd.R_drewN | apply Kd.R_drew)); exact HO338.out))) (below_size (by repeat (first | (with_reducible first | exact HB.out | apply below_alloc | apply pw_below_drewN | apply below_drew1) | exact HB.out)))); replace HO338 := Aside0.mk (Kd.R_elder' (by (with_reducible repeat (first | apply Kd.R_alloc | apply Kd.R_drewN | apply Kd.R_drew)); exact HO338.out) (Kd.R_base ho19) hb); replace HB := (pS HB hb); clear hb ho19; have hcv20 := own_string (P := Tryz.prog) Tryz.underlying103 Tryz.underlying5 Tryz.underlying9 (Kd.own_of_R HO341.out)))
    go_ret
    exact pR (pE HB)
  ·
   rw [if_neg c3] at H
   exact absurd H (by simp)
 ·
  rw [if_neg c2] at H
  have c2b0 := decide_eq_false c2
  clear c2
  by_cases c21 : a0 ≥ 100
  ·
   rw [if_pos c21] at H
   have c21b0 := decide_eq_true c21
   clear c21
   obtain ⟨y345, hy345⟩ : ∃ y_ : List Int, y_ = (([(IntKind.u64.wrap (48 + (IntKind.u64.wrap (Int.tdiv a0 100)))) % 256] : List Int)) := ⟨_, rfl⟩
   replace H : (if (strOfNums y345).size + (strOfNums y336).size ≤ 9223372036854775807 then (some ((strOfNums y345) ++ (strOfNums y336))) else (none)) = some r := by first | (rw [hy345]; with_reducible exact H) | (have H2_ := (Option.bind_some _ _).symm.trans H; rw [hy345]; with_reducible exact H2_) | (have H2_ := (Option.bind_some _ _).symm.trans H; with_reducible exact H2_) | with_reducible exact H | (rw [hy345]; exact H) | exact H
   have Ny345 := Aside0.mk hy345
   clear hy345
   by_cases c22 : (strOfNums y345).size + (strOfNums y336).size ≤ 9223372036854775807
   ·
    rw [if_pos c22] at H
    have c22b0 := eq_true c22
    have c22b1 := decide_eq_true c22
    try have c22b2 : (9223372036854775807 < (strOfNums y345).size + (strOfNums y336).size) = False := eq_false (Nat.not_lt.2 c22)
    obtain rfl := Option.some.inj H
    go_enter Tryz.func73, Tryz.ntmps73
    go_wp2_with (first | ((with_reducible refine gate_dst (N := 8) rfl ?_); refine Kd.R_lit (Kd.int .u8) _ 5 ?hg (N := 8) ?hd (xs := ([(IntKind.u64.wrap (48 + (Int.tmod a0 10))) % 256] : List Int)) (inner := [.int .u8 ((IntKind.u64.wrap (48 + (Int.tmod a0 10))) % 256)]) (ok := fun _ => True) (okp := fun _ => True) ?hr ?hp (fun _ hk => hk) trivial (Below.refl _ _) (Nat.le_refl _) (by simp) ?_; (case hd => rfl); (case hg => rfl); (case hr => first | (go_simp; done) | (go_simp; rfl)); (case hp => exact (Reps.one (show Kd.M (Kd.int .u8) _ _ _ ((IntKind.u64.wrap (48 + (Int.tmod a0 10))) % 256) [.int .u8 ((IntKind.u64.wrap (48 + (Int.tmod a0 10))) % 256)] from rfl) (Reps.none _ _))); intro v337 w23 ho24 hb hg_ hnew_; clear hg_ hnew_; (first | rw [← Ny336.out] at ho24 | (simp only [Int.reduceToNat] at ho24; rw [← Ny336.out] at ho24)); have HO338 := Aside0.mk (Kd.R_lower ho24 (below_size (by repeat (first | (with_reducible first | exact HB.out | apply below_alloc | apply pw_below_drewN | apply below_drew1) | exact HB.out)))); replace HB := (pS HB hb); clear hb ho24; have hcv25 := own_string (P := Tryz.prog) Tryz.underlying103 Tryz.underlying5 Tryz.underlying9 (Kd.own_of_R HO338.out)) | ((with_reducible refine gate_dst (N := 27) rfl ?_); refine Kd.R_lit (Kd.int .u8) _ 5 ?hg (N := 27) ?hd (xs := ([(IntKind.u64.wrap (48 + (IntKind.u64.wrap (Int.tdiv a0 100)))) % 256] : List Int)) (inner := [.int .u8 ((IntKind.u64.wrap (48 + (IntKind.u64.wrap (Int.tdiv a0 100)))) % 256)]) (ok := fun _ => True) (okp := fun _ => True) ?hr ?hp (fun _ hk => hk) trivial (Below.refl _ _) (Nat.le_refl _) (by simp) ?_; (case hd => rfl); (case hg => rfl); (case hr => first | (go_simp; done) | (go_simp; rfl)); (case hp => exact (Reps.one (show Kd.M (Kd.int .u8) _ _ _ ((IntKind.u64.wrap (48 + (IntKind.u64.wrap (Int.tdiv a0 100)))) % 256) [.int .u8 ((IntKind.u64.wrap (48 + (IntKind.u64.wrap (Int.tdiv a0 100)))) % 256)] from rfl) (Reps.none _ _))); intro v346 w26 ho27 hb hg_ hnew_; clear hg_ hnew_; (first | rw [← Ny345.out] at ho27 | (simp only [Int.reduceToNat] at ho27; rw [← Ny345.out] at ho27)); have HO347 := Aside0.mk (Kd.R_lower (Kd.R_new' ho27 (Kd.R_lt (by (with_reducible repeat (first | apply Kd.R_alloc | apply Kd.R_drewN | apply Kd.R_drew)); exact HO338.out))) (below_size (by repeat (first | (with_reducible first | exact HB.out | apply below_alloc | apply pw_below_drewN | apply below_drew1) | exact HB.out)))); replace HO338 := Aside0.mk (Kd.R_elder' (by (with_reducible repeat (first | apply Kd.R_alloc | apply Kd.R_drewN | apply Kd.R_drew)); exact HO338.out) (Kd.R_base ho27) hb); replace HB := (pS HB hb); clear hb ho27; have hcv28 := own_string (P := Tryz.prog) Tryz.underlying103 Tryz.underlying5 Tryz.underlying9 (Kd.own_of_R HO347.out)))
    go_ret
    exact pR (pE HB)
   ·
    rw [if_neg c22] at H
    exact absurd H (by simp)
  ·
   rw [if_neg c21] at H
   have c21b0 := decide_eq_false c21
   clear c21
   obtain rfl := Option.some.inj H
   go_enter Tryz.func73, Tryz.ntmps73
   go_wp2_with (first | ((with_reducible refine gate_dst (N := 8) rfl ?_); refine Kd.R_lit (Kd.int .u8) _ 5 ?hg (N := 8) ?hd (xs := ([(IntKind.u64.wrap (48 + (Int.tmod a0 10))) % 256] : List Int)) (inner := [.int .u8 ((IntKind.u64.wrap (48 + (Int.tmod a0 10))) % 256)]) (ok := fun _ => True) (okp := fun _ => True) ?hr ?hp (fun _ hk => hk) trivial (Below.refl _ _) (Nat.le_refl _) (by simp) ?_; (case hd => rfl); (case hg => rfl); (case hr => first | (go_simp; done) | (go_simp; rfl)); (case hp => exact (Reps.one (show Kd.M (Kd.int .u8) _ _ _ ((IntKind.u64.wrap (48 + (Int.tmod a0 10))) % 256) [.int .u8 ((IntKind.u64.wrap (48 + (Int.tmod a0 10))) % 256)] from rfl) (Reps.none _ _))); intro v337 w29 ho30 hb hg_ hnew_; clear hg_ hnew_; (first | rw [← Ny336.out] at ho30 | (simp only [Int.reduceToNat] at ho30; rw [← Ny336.out] at ho30)); have HO338 := Aside0.mk (Kd.R_lower ho30 (below_size (by repeat (first | (with_reducible first | exact HB.out | apply below_alloc | apply pw_below_drewN | apply below_drew1) | exact HB.out)))); replace HB := (pS HB hb); clear hb ho30; have hcv31 := own_string (P := Tryz.prog) Tryz.underlying103 Tryz.underlying5 Tryz.underlying9 (Kd.own_of_R HO338.out)))
   go_ret
   exact pR (pE HB)

/-! ### ddiref02_hex: function 72 -/
def ddiref02_hex.f (a0 : Int) : Option (ByteArray) := if a0 < 10 then (some (strOfNums (([(IntKind.u64.wrap (48 + a0)) % 256] : List Int)))) else (some (strOfNums (([(IntKind.u64.wrap ((IntKind.u64.wrap (97 + a0)) - 10)) % 256] : List Int))))
set_option maxHeartbeats 40000000 in
set_option maxRecDepth 100000 in
theorem ddiref02_hex.calls (a0 : Int) (r : ByteArray) (w : World) (h : ddiref02_hex.f a0 = some r) :
 Calls Tryz.prog 72 #[.int .u64 a0] w fun e w' => e = .returned (.string r) ∧ Below w.heap.size w w' := by
 have HB := Aside0.mk (Below.refl w.heap.size w)
 have H : (if a0 < 10 then (some (strOfNums (([(IntKind.u64.wrap (48 + a0)) % 256] : List Int)))) else (some (strOfNums (([(IntKind.u64.wrap ((IntKind.u64.wrap (97 + a0)) - 10)) % 256] : List Int))))) = some r := h
 clear h
 by_cases c2 : a0 < 10
 ·
  rw [if_pos c2] at H
  have c2b0 := decide_eq_true c2
  clear c2
  obtain ⟨y351, hy351⟩ : ∃ y_ : List Int, y_ = (([(IntKind.u64.wrap (48 + a0)) % 256] : List Int)) := ⟨_, rfl⟩
  replace H : (some (strOfNums y351)) = some r := by first | (rw [hy351]; with_reducible exact H) | (have H2_ := (Option.bind_some _ _).symm.trans H; rw [hy351]; with_reducible exact H2_) | (have H2_ := (Option.bind_some _ _).symm.trans H; with_reducible exact H2_) | with_reducible exact H | (rw [hy351]; exact H) | exact H
  have Ny351 := Aside0.mk hy351
  clear hy351
  obtain rfl := Option.some.inj H
  go_enter Tryz.func72, Tryz.ntmps72
  go_wp2_with (first | ((with_reducible refine gate_dst (N := 8) rfl ?_); refine Kd.R_lit (Kd.int .u8) _ 5 ?hg (N := 8) ?hd (xs := ([(IntKind.u64.wrap (48 + a0)) % 256] : List Int)) (inner := [.int .u8 ((IntKind.u64.wrap (48 + a0)) % 256)]) (ok := fun _ => True) (okp := fun _ => True) ?hr ?hp (fun _ hk => hk) trivial (Below.refl _ _) (Nat.le_refl _) (by simp) ?_; (case hd => rfl); (case hg => rfl); (case hr => first | (go_simp; done) | (go_simp; rfl)); (case hp => exact (Reps.one (show Kd.M (Kd.int .u8) _ _ _ ((IntKind.u64.wrap (48 + a0)) % 256) [.int .u8 ((IntKind.u64.wrap (48 + a0)) % 256)] from rfl) (Reps.none _ _))); intro v352 w3 ho4 hb hg_ hnew_; clear hg_ hnew_; (first | rw [← Ny351.out] at ho4 | (simp only [Int.reduceToNat] at ho4; rw [← Ny351.out] at ho4)); have HO353 := Aside0.mk (Kd.R_lower ho4 (below_size (by repeat (first | (with_reducible first | exact HB.out | apply below_alloc | apply pw_below_drewN | apply below_drew1) | exact HB.out)))); replace HB := (pS HB hb); clear hb ho4; have hcv5 := own_string (P := Tryz.prog) Tryz.underlying103 Tryz.underlying5 Tryz.underlying9 (Kd.own_of_R HO353.out)))
  go_ret
  exact pR (pE HB)
 ·
  rw [if_neg c2] at H
  have c2b0 := decide_eq_false c2
  clear c2
  obtain ⟨y354, hy354⟩ : ∃ y_ : List Int, y_ = (([(IntKind.u64.wrap ((IntKind.u64.wrap (97 + a0)) - 10)) % 256] : List Int)) := ⟨_, rfl⟩
  replace H : (some (strOfNums y354)) = some r := by first | (rw [hy354]; with_reducible exact H) | (have H2_ := (Option.bind_some _ _).symm.trans H; rw [hy354]; with_reducible exact H2_) | (have H2_ := (Option.bind_some _ _).symm.trans H; with_reducible exact H2_) | with_reducible exact H | (rw [hy354]; exact H) | exact H
  have Ny354 := Aside0.mk hy354
  clear hy354
  obtain rfl := Option.some.inj H
  go_enter Tryz.func72, Tryz.ntmps72
  go_wp2_with (first | ((with_reducible refine gate_dst (N := 14) rfl ?_); refine Kd.R_lit (Kd.int .u8) _ 5 ?hg (N := 14) ?hd (xs := ([(IntKind.u64.wrap ((IntKind.u64.wrap (97 + a0)) - 10)) % 256] : List Int)) (inner := [.int .u8 ((IntKind.u64.wrap ((IntKind.u64.wrap (97 + a0)) - 10)) % 256)]) (ok := fun _ => True) (okp := fun _ => True) ?hr ?hp (fun _ hk => hk) trivial (Below.refl _ _) (Nat.le_refl _) (by simp) ?_; (case hd => rfl); (case hg => rfl); (case hr => first | (go_simp; done) | (go_simp; rfl)); (case hp => exact (Reps.one (show Kd.M (Kd.int .u8) _ _ _ ((IntKind.u64.wrap ((IntKind.u64.wrap (97 + a0)) - 10)) % 256) [.int .u8 ((IntKind.u64.wrap ((IntKind.u64.wrap (97 + a0)) - 10)) % 256)] from rfl) (Reps.none _ _))); intro v355 w6 ho7 hb hg_ hnew_; clear hg_ hnew_; (first | rw [← Ny354.out] at ho7 | (simp only [Int.reduceToNat] at ho7; rw [← Ny354.out] at ho7)); have HO356 := Aside0.mk (Kd.R_lower ho7 (below_size (by repeat (first | (with_reducible first | exact HB.out | apply below_alloc | apply pw_below_drewN | apply below_drew1) | exact HB.out)))); replace HB := (pS HB hb); clear hb ho7; have hcv8 := own_string (P := Tryz.prog) Tryz.underlying103 Tryz.underlying5 Tryz.underlying9 (Kd.own_of_R HO356.out)))
  go_ret
  exact pR (pE HB)
end Go.Proofs.YteflcmmandlknaaGreatDoor.PA
