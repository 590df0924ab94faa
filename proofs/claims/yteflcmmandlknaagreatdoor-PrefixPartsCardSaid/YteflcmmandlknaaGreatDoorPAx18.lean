/- The Go functions in Lean, with the proofs that the code comes to these answers: printed by this session's program (wip/px) out of the seat's translation. Conditions: each theorem's own. -/
import Derived.Test.YteflcmmandlknaaGreatDoorPAx0
import Derived.Test.YteflcmmandlknaaGreatDoorPAx11
import Derived.Test.YteflcmmandlknaaGreatDoorPAx12
namespace Go.Proofs.YteflcmmandlknaaGreatDoor.PA
open Go.RowKit Go.Proofs.YteflcmmandlknaaGreatDoorW.PrintWords Go.Proofs.YteflcmmandlknaaGreatDoorW.PrintLast Go.Proofs.YteflcmmandlknaaGreatDoorW.PrintMore
attribute [local go_sem] max2_int min2_int max_two min_two max_three min_three max_four min_four   -- for this text's walks alone
attribute [local go_sem ↓] Ext.isSome_setCell
open Press
set_option linter.unusedVariables false
set_option linter.unusedSimpArgs false
/-! ### ddiref03_Size: function 17 -/
def ddiref03_Size.j0 : Nat → Bool → Bool → Int → Int → Int → Option (Int × Bool)
 | 0, _, _, _, _, _ => none
 | k + 1, x18, x499000, x499001, x499002, x499003 => if x18 = true then (some (0, false)) else ((ddiref03_Long.f x499000).bind fun t501 => ((ddiref03_ones.f k (wrap64 (t501 - x499003))).bind fun bt502 => (some (IntKind.u64.wrap (bt502.2 + 1), true))))
def ddiref03_Size.f (k : Nat) (a0_0 : Bool) (a0_1 : Int) (a0_2 : Int) (a0_3 : Int) : Option (Int × Bool) := (ddiref03_Valid.f k a0_0 a0_1 a0_2 a0_3).bind fun t499 => (if t499 = true then ((ddiref03_Long.f a0_0).bind fun t500 => (ddiref03_Size.j0 k (decide ((wrap64 (t500 - a0_3)) > 63)) a0_0 a0_1 a0_2 a0_3)) else (ddiref03_Size.j0 k true a0_0 a0_1 a0_2 a0_3))
theorem ddiref03_Size.mono_l : ∀ k, (∀ y0 y1 y2 y3 y4, LeO (ddiref03_Size.j0 k y0 y1 y2 y3 y4) (ddiref03_Size.j0 (k + 1) y0 y1 y2 y3 y4))
 | 0 => fun _ _ _ _ _ r h => by simp [ddiref03_Size.j0] at h
 | k + 1 => by
  have ih0 := ddiref03_Size.mono_l k
  ·
   intro y0 y1 y2 y3 y4
   unfold ddiref03_Size.j0
   repeat' with_reducible first | exact ih0 _ _ _ _ _ | exact ddiref03_Valid.mono _ _ _ _ _ | exact ddiref03_ones.mono _ _ | exact LeO.refl _ | exact LeO.none _ | refine LeO.ite ?_ ?_ | refine LeO.bind ?_ (fun _ => ?_)
theorem ddiref03_Size.mono : ∀ a0 a1 a2 a3 k, LeO (ddiref03_Size.f k a0 a1 a2 a3) (ddiref03_Size.f (k + 1) a0 a1 a2 a3) := by
 intro a0 a1 a2 a3 k
 have ih0 := ddiref03_Size.mono_l k
 unfold ddiref03_Size.f
 repeat' with_reducible first | exact ih0 _ _ _ _ _ | exact ddiref03_Valid.mono _ _ _ _ _ | exact ddiref03_ones.mono _ _ | exact LeO.refl _ | exact LeO.none _ | refine LeO.ite ?_ ?_ | refine LeO.bind ?_ (fun _ => ?_)
def ddiref03_Size.T1 : Bool × List (List Nat × List Nat) := (true, [([], []), ([0], [0]), ([1], [1]), ([2, 1], [2]), ([3], [3]), ([4, 3], [3, 4]), ([5, 3], [3, 5]), ([6, 3, 3], [3, 6]), ([3], [3]), ([8, 3], [3, 8]), ([7, 9, 3], [3, 7, 9]), ([10, 3], [3, 10]), ([3, 11], [3, 11])])
def ddiref03_Size.B1 : List Nat := [0, 1, 3, 7, 15, 31, 63, 127, 15, 271, 1023, 2047, 4095]
theorem ddiref03_Size.tab1 : rtab .any (opsOf Tryz.f17 1) = ddiref03_Size.T1 := by kernel_rfl
theorem ddiref03_Size.bits1 : waitsOk ddiref03_Size.T1.2 ddiref03_Size.B1 = true := by kernel_rfl
def ddiref03_Size.T3 : Bool × List (List Nat × List Nat) := (true, [([], []), ([0], [0]), ([1], [1]), ([2], [2]), ([], []), ([4], [4]), ([3, 5], [3, 5]), ([6, 3], [6]), ([7], [7]), ([8], [8]), ([8], [8]), ([9, 7, 0, 1, 2, 3, 4, 5, 6, 7, 8, 9], [9]), ([10, 11, 0, 1, 2, 3, 4, 5, 6, 7, 8, 9, 10, 11], [10])])
def ddiref03_Size.B3 : List Nat := [0, 1, 3, 7, 0, 16, 63, 127, 255, 511, 511, 1023, 4095]
theorem ddiref03_Size.tab3 : rtab .any (opsOf Tryz.f17 3) = ddiref03_Size.T3 := by kernel_rfl
theorem ddiref03_Size.bits3 : waitsOk ddiref03_Size.T3.2 ddiref03_Size.B3 = true := by kernel_rfl
set_option maxHeartbeats 40000000 in
set_option maxRecDepth 100000 in
theorem ddiref03_Size.calls (k : Nat) (a0_0 : Bool) (a0_1 : Int) (a0_2 : Int) (a0_3 : Int) (r1 : Int) (r2 : Bool) (w : World) (h : ddiref03_Size.f k a0_0 a0_1 a0_2 a0_3 = some (r1, r2)) :
 Calls Tryz.prog 17 #[.agg #[.bool a0_0, .int .u64 a0_1, .int .u64 a0_2, .int .i64 a0_3]] w fun e w' => e = .returned (.tuple #[.int .u64 r1, .bool r2]) ∧ Below w.heap.size w w' := by
 have hu26 := Tryz.underlying26
 have HB := Aside0.mk (Below.refl w.heap.size w)
 have H : ((ddiref03_Valid.f k a0_0 a0_1 a0_2 a0_3).bind fun t499 => (if t499 = true then ((ddiref03_Long.f a0_0).bind fun t500 => (ddiref03_Size.j0 k (decide ((wrap64 (t500 - a0_3)) > 63)) a0_0 a0_1 a0_2 a0_3)) else (ddiref03_Size.j0 k true a0_0 a0_1 a0_2 a0_3))) = some (r1, r2) := h
 clear h
 have HC2 := Aside0.mk H
 clear H
 go_enter Tryz.func17, Tryz.ntmps17
 go_upto_region 1 with (first | ((with_reducible refine gate_dst (N := 1) rfl ?_); refine boxA (N := 1) (cs := #[.bool a0_0, .int .u64 a0_1, .int .u64 a0_2, .int .i64 a0_3]) (t := 26) ?_; intro gb498 hg w3 hbox hb; have BK498 := Aside0.mk (hbox); have GE498 := (pZ HB hg); replace HB := (pS HB hb); clear hb hbox hg))
 (try simp only [Act.put, List.setIfInBounds_toArray, List.set_cons_zero, List.set_cons_succ])
 go_cut [18] (fun v18 wc => ∃ (kq : Nat) (x18_1 : Bool), v18 = .bool x18_1 ∧ Aside0 (ddiref03_Size.j0 kq x18_1 a0_0 a0_1 a0_2 a0_3 = some (r1, r2)) ∧ Aside0 (kq ≤ k) ∧ Aside0 (wc.heap[gb498]? = some (.cells #[.bool a0_0, .int .u64 a0_1, .int .u64 a0_2, .int .i64 a0_3] 26 (0, 0))) ∧ Aside0 (Below w.heap.size w wc))
 case first =>
  have H := HC2.out
  clear HC2
  replace H := Option.bind_eq_some_iff.mp H
  obtain ⟨t499, A40, H⟩ := H
  have A4 := Aside0.mk A40
  clear A40
  by_cases c5 : t499 = true
  ·
   subst c5
   have H1 : ((ddiref03_Long.f a0_0).bind fun t500 => (ddiref03_Size.j0 k (decide ((wrap64 (t500 - a0_3)) > 63)) a0_0 a0_1 a0_2 a0_3)) = some (r1, r2) := by rw [if_pos rfl] at H; exact H
   clear H
   have H := H1
   clear H1
   replace H := Option.bind_eq_some_iff.mp H
   obtain ⟨t500, A60, H⟩ := H
   have A6 := Aside0.mk A60
   clear A60
   have H' := Aside0.mk H
   clear H
   try go_wp2
   replace BK498 := Aside0.mk (blk_drew BK498.out)
   replace HB := Aside0.mk (below_drew1 HB.out)
   refine start_ (n := 13) (S := fun w' => w'.cell? ⟨gb498, 0, none⟩ = some (.bool a0_0) ∧ w'.cell? ⟨gb498, 1, none⟩ = some (.int .u64 a0_1) ∧ w'.cell? ⟨gb498, 2, none⟩ = some (.int .u64 a0_2) ∧ w'.cell? ⟨gb498, 3, none⟩ = some (.int .i64 a0_3)) (ds := []) (tk 13 0) (by kernel_rfl) rfl rfl ⟨bC BK498 0, bC BK498 1, bC BK498 2, bC BK498 3⟩ (fun hHeld => ?_); refine with_tabW ddiref03_Size.tab1 ddiref03_Size.bits1 (fun HT_ HW_ => ?_)
   generalize w3.drew = w7 at BK498 HB hHeld ⊢
   refine takeA (i := 0) (some 6) HT_ HW_ (tk 13 1) hHeld ?_
   refine one_ (i := 1) (N := some 7) (tk 13 2) rfl rfl (one_of HT_.out (by kernel_rfl)) (by decide) (fun K hK => ?_)
   refine goesR Tryz.func27 #[.agg #[.bool a0_0, .int .u64 a0_1, .int .u64 a0_2, .int .i64 a0_3]] ?_
   with_reducible refine (ddiref03_Valid.calls k a0_0 a0_1 a0_2 a0_3 true _ A4.out).mono ?_
   rintro e w8 ⟨rfl, hb⟩
   refine ⟨_, rfl, ?_⟩
   replace BK498 := (pB BK498 hb)
   replace HB := (pS HB hb)
   (try clear hb)
   refine hK.out _ _ ⟨bC BK498 0, bC BK498 1, bC BK498 2, bC BK498 3⟩ (fun hHeld => ?_)
   clear hK K
   refine normA (N := some 7) ?_
   refine pureA (i := 2) (some 8) HT_ (tk 13 3) ?_
   refine pureA (i := 3) (some 9) HT_ (tk 13 4) ?_
   refine pureA (i := 4) (some 10) HT_ (tk 13 5) ?_
   refine pureA (i := 5) (some 11) HT_ (tk 13 6) ?_
   refine pureA (i := 8) (some 14) HT_ (tr [6, 2, 1, 4]) ?_
   refine takeA (i := 6) (some 12) HT_ HW_ (tr [7, 1, 1, 4]) hHeld ?_
   refine takeA (i := 9) (some 15) HT_ HW_ (tr [7, 1, 2, 3]) hHeld ?_
   refine one_ (i := 7) (N := some 13) (tk 13 10) rfl rfl (one_of HT_.out (by kernel_rfl)) (by decide) (fun K hK => ?_)
   refine goesR Tryz.func45 #[.bool a0_0] ?_
   with_reducible refine (ddiref03_Long.calls a0_0 t500 _ A6.out).mono ?_
   rintro e w' ⟨rfl, ⟨nd, rfl⟩⟩
   refine ⟨_, rfl, ?_⟩
   refine hK.out _ _ ⟨bC BK498 0, bC BK498 1, bC BK498 2, bC BK498 3⟩ (fun hHeld => ?_)
   clear hK K
   refine normA (N := some 13) ?_
   refine pureA (i := 10) (some 16) HT_ (tk 13 11) ?_
   refine pureA (i := 11) (some 17) HT_ (tk 13 12) ?_
   refine pureA (i := 12) (some 18) HT_ (tk 13 13) ?_
   refine done_ (done_of HT_.out (by kernel_rfl)) ?_
   try go_wp2
   go_meet
   case rel => exact ⟨_, (decide ((wrap64 (t500 - a0_3)) > 63)), pT, H', ⟨by first | omega | exact Nat.le_refl _⟩, ⟨pM BK498⟩, ⟨pE HB⟩⟩
  ·
   replace c5 := Bool.eq_false_iff.mpr c5
   subst c5
   rw [if_neg (show ¬ (false = true) by decide)] at H
   have H' := Aside0.mk H
   clear H
   try go_wp2
   replace BK498 := Aside0.mk (blk_drew BK498.out)
   replace HB := Aside0.mk (below_drew1 HB.out)
   refine start_ (n := 13) (S := fun w' => w'.cell? ⟨gb498, 0, none⟩ = some (.bool a0_0) ∧ w'.cell? ⟨gb498, 1, none⟩ = some (.int .u64 a0_1) ∧ w'.cell? ⟨gb498, 2, none⟩ = some (.int .u64 a0_2) ∧ w'.cell? ⟨gb498, 3, none⟩ = some (.int .i64 a0_3)) (ds := []) (tk 13 0) (by kernel_rfl) rfl rfl ⟨bC BK498 0, bC BK498 1, bC BK498 2, bC BK498 3⟩ (fun hHeld => ?_); refine with_tabW ddiref03_Size.tab1 ddiref03_Size.bits1 (fun HT_ HW_ => ?_)
   generalize w3.drew = w9 at BK498 HB hHeld ⊢
   refine takeA (i := 0) (some 6) HT_ HW_ (tk 13 1) hHeld ?_
   refine one_ (i := 1) (N := some 7) (tk 13 2) rfl rfl (one_of HT_.out (by kernel_rfl)) (by decide) (fun K hK => ?_)
   refine goesR Tryz.func27 #[.agg #[.bool a0_0, .int .u64 a0_1, .int .u64 a0_2, .int .i64 a0_3]] ?_
   with_reducible refine (ddiref03_Valid.calls k a0_0 a0_1 a0_2 a0_3 false _ A4.out).mono ?_
   rintro e w10 ⟨rfl, hb⟩
   refine ⟨_, rfl, ?_⟩
   replace BK498 := (pB BK498 hb)
   replace HB := (pS HB hb)
   (try clear hb)
   refine hK.out _ _ ⟨bC BK498 0, bC BK498 1, bC BK498 2, bC BK498 3⟩ (fun hHeld => ?_)
   clear hK K
   refine normA (N := some 7) ?_
   refine pureA (i := 2) (some 8) HT_ (tk 13 3) ?_
   refine pureA (i := 3) (some 9) HT_ (tk 13 4) ?_
   refine pureB (i := 4) (some 10) HT_ (tk 13 5) ?_
   refine pureB (i := 5) (some 11) HT_ (tk 13 6) ?_
   refine pureB (i := 6) (some 12) HT_ (tk 13 7) ?_
   refine pureB (i := 7) (some 13) HT_ (tk 13 8) ?_
   refine pureB (i := 8) (some 14) HT_ (tk 13 9) ?_
   refine pureB (i := 9) (some 15) HT_ (tk 13 10) ?_
   refine pureB (i := 10) (some 16) HT_ (tk 13 11) ?_
   refine pureB (i := 11) (some 17) HT_ (tk 13 12) ?_
   refine pureA (i := 12) (some 18) HT_ (tk 13 13) ?_
   refine done_ (done_of HT_.out (by kernel_rfl)) ?_
   try go_wp2
   go_meet
   case rel => exact ⟨_, (true), pT, H', ⟨by first | omega | exact Nat.le_refl _⟩, ⟨pM BK498⟩, ⟨pE HB⟩⟩
 case rest =>
  clear HC2
  obtain ⟨kq, x18_1, rfl, HA, HJ1, BK498, HB⟩ := hcut
  cases kq with
  | zero => exact absurd HA.out (by simp [ddiref03_Size.j0])
  | succ kj1 =>
   have H := HA.out
   clear HA
   simp only [ddiref03_Size.j0] at H
   by_cases c11 : x18_1 = true
   ·
    subst c11
    have H1 : (some (0, false)) = some (r1, r2) := by rw [if_pos rfl] at H; exact H
    clear H
    have H := H1
    clear H1
    simp only [Option.some.injEq, Prod.mk.injEq] at H
    obtain ⟨rfl, rfl⟩ := H
    go_wp2
    go_ret2
    exact pR (pE HB)
   ·
    replace c11 := Bool.eq_false_iff.mpr c11
    subst c11
    rw [if_neg (show ¬ (false = true) by decide)] at H
    replace H := Option.bind_eq_some_iff.mp H
    obtain ⟨t501, A120, H⟩ := H
    have A12 := Aside0.mk A120
    clear A120
    replace H := Option.bind_eq_some_iff.mp H
    obtain ⟨⟨t502, t503⟩, A130, H⟩ := H
    replace H : (some (IntKind.u64.wrap (t503 + 1), true)) = some (r1, r2) := H
    have A13 := Aside0.mk A130
    clear A130
    simp only [Option.some.injEq, Prod.mk.injEq] at H
    obtain ⟨rfl, rfl⟩ := H
    try go_wp2
    replace BK498 := Aside0.mk (blk_drew BK498.out)
    replace HB := Aside0.mk (below_drew1 HB.out)
    refine start_ (n := 13) (S := fun w' => w'.cell? ⟨gb498, 0, none⟩ = some (.bool a0_0) ∧ w'.cell? ⟨gb498, 1, none⟩ = some (.int .u64 a0_1) ∧ w'.cell? ⟨gb498, 2, none⟩ = some (.int .u64 a0_2) ∧ w'.cell? ⟨gb498, 3, none⟩ = some (.int .i64 a0_3)) (ds := []) (tk 13 0) (by kernel_rfl) rfl rfl ⟨bC BK498 0, bC BK498 1, bC BK498 2, bC BK498 3⟩ (fun hHeld => ?_); refine with_tabW ddiref03_Size.tab3 ddiref03_Size.bits3 (fun HT_ HW_ => ?_)
    generalize wc.drew = w14 at BK498 HB hHeld ⊢
    refine pureA (i := 0) (some 20) HT_ (tk 13 1) ?_
    refine pureA (i := 1) (some 21) HT_ (tk 13 2) ?_
    refine pureA (i := 4) (some 24) HT_ (tr [2, 2, 1, 8]) ?_
    refine takeA (i := 2) (some 22) HT_ HW_ (tr [3, 1, 1, 8]) hHeld ?_
    refine takeA (i := 5) (some 25) HT_ HW_ (tr [3, 1, 2, 7]) hHeld ?_
    refine one_ (i := 3) (N := some 23) (tk 13 6) rfl rfl (one_of HT_.out (by kernel_rfl)) (by decide) (fun K hK => ?_)
    refine goesR Tryz.func45 #[.bool a0_0] ?_
    with_reducible refine (ddiref03_Long.calls a0_0 t501 _ A12.out).mono ?_
    rintro e w' ⟨rfl, ⟨nd, rfl⟩⟩
    refine ⟨_, rfl, ?_⟩
    refine hK.out _ _ ⟨bC BK498 0, bC BK498 1, bC BK498 2, bC BK498 3⟩ (fun hHeld => ?_)
    clear hK K
    refine normA (N := some 23) ?_
    refine pureA (i := 6) (some 26) HT_ (tk 13 7) ?_
    refine one_ (i := 7) (N := some 27) (tk 13 8) rfl rfl (one_of HT_.out (by kernel_rfl)) (by decide) (fun K hK => ?_)
    refine goesR Tryz.func44 #[.int .i64 (wrap64 (t501 - a0_3))] ?_
    with_reducible refine (ddiref03_ones.calls kj1 (wrap64 (t501 - a0_3)) t502 t503 _ A13.out).mono ?_
    rintro e w' ⟨rfl, ⟨nd, rfl⟩⟩
    refine ⟨_, rfl, ?_⟩
    refine hK.out _ _ ⟨bC BK498 0, bC BK498 1, bC BK498 2, bC BK498 3⟩ (fun hHeld => ?_)
    clear hK K
    refine normA (N := some 27) ?_
    refine pureA (i := 8) (some 19) HT_ (tk 13 9) ?_
    refine pureA (i := 9) (some 28) HT_ (tk 13 10) ?_
    refine pureA (i := 10) (some 29) HT_ (tk 13 11) ?_
    refine pureA (i := 11) (some 4) HT_ (tk 13 12) ?_
    refine pureA (i := 12) (some 5) HT_ (tk 13 13) ?_
    refine done_ (done_of HT_.out (by kernel_rfl)) ?_
    try go_wp2
    go_ret2
    exact pR (pE HB)

/-! ### ddiref02_octets: function 100 -/
mutual
def ddiref02_octets.l0 : Nat → Int → List Int → Int → Option (ByteArray)
 | 0, _, _, _ => none
 | k + 1, x0, x5, x6 => if x6 ≥ 0 then (ddiref02_octets.l1 k x0 x5 x6 x0 0) else (some (strOfNums x5))
def ddiref02_octets.l1 : Nat → Int → List Int → Int → Int → Int → Option (ByteArray)
 | 0, _, _, _, _, _ => none
 | k + 1, x0, x5, x6, x7, x8 => if x8 < x6 then (ddiref02_octets.l1 k x0 x5 x6 (IntKind.u64.wrap (Int.tdiv x7 256)) (wrap64 (x8 + 1))) else (if x5.length < 140737488355328 then (ddiref02_octets.l0 k x0 (x5 ++ [(Int.tmod x7 256) % 256]) (wrap64 (x6 - 1))) else (none))
end
def ddiref02_octets.f (k : Nat) (a0 : Int) (a1 : Int) : Option (ByteArray) := ddiref02_octets.l0 k a0 ([] : List Int) (wrap64 (a1 - 1))
theorem ddiref02_octets.mono_l : ∀ k, (∀ y0 y1 y2, LeO (ddiref02_octets.l0 k y0 y1 y2) (ddiref02_octets.l0 (k + 1) y0 y1 y2)) ∧ (∀ y0 y1 y2 y3 y4, LeO (ddiref02_octets.l1 k y0 y1 y2 y3 y4) (ddiref02_octets.l1 (k + 1) y0 y1 y2 y3 y4))
 | 0 => ⟨fun _ _ _ r h => by simp [ddiref02_octets.l0] at h, fun _ _ _ _ _ r h => by simp [ddiref02_octets.l1] at h⟩
 | k + 1 => by
  obtain ⟨ih0, ih1⟩ := ddiref02_octets.mono_l k
  refine ⟨?_, ?_⟩
  ·
   intro y0 y1 y2
   unfold ddiref02_octets.l0
   repeat' with_reducible first | exact ih0 _ _ _ | exact ih1 _ _ _ _ _ | exact LeO.refl _ | exact LeO.none _ | refine LeO.ite ?_ ?_ | refine LeO.bind ?_ (fun _ => ?_)
  ·
   intro y0 y1 y2 y3 y4
   unfold ddiref02_octets.l1
   repeat' with_reducible first | exact ih0 _ _ _ | exact ih1 _ _ _ _ _ | exact LeO.refl _ | exact LeO.none _ | refine LeO.ite ?_ ?_ | refine LeO.bind ?_ (fun _ => ?_)
theorem ddiref02_octets.mono : ∀ a0 a1 k, LeO (ddiref02_octets.f k a0 a1) (ddiref02_octets.f (k + 1) a0 a1) := by
 intro a0 a1 k
 obtain ⟨ih0, ih1⟩ := ddiref02_octets.mono_l k
 unfold ddiref02_octets.f
 repeat' with_reducible first | exact ih0 _ _ _ | exact ih1 _ _ _ _ _ | exact LeO.refl _ | exact LeO.none _ | refine LeO.ite ?_ ?_ | refine LeO.bind ?_ (fun _ => ?_)
set_option maxHeartbeats 40000000 in
set_option maxRecDepth 100000 in
theorem ddiref02_octets.calls (k : Nat) (a0 : Int) (a1 : Int) (r : ByteArray) (w : World) (h : ddiref02_octets.f k a0 a1 = some r) :
 Calls Tryz.prog 100 #[.int .u64 a0, .int .i64 a1] w fun e w' => e = .returned (.string r) ∧ Below w.heap.size w w' := by
 have HB := Aside0.mk (Below.refl w.heap.size w)
 have H : (ddiref02_octets.l0 k a0 ([] : List Int) (wrap64 (a1 - 1))) = some r := h
 clear h
 have H' := Aside0.mk H
 clear H
 go_enter Tryz.func100, Tryz.ntmps100
 go_wp2
 go_loopg [5, 6] k (fun kq v5 v6 w' => ∃ (x5_1 : List Int) (x6_1 : Int), v6 = .int .i64 x6_1 ∧ Aside0 (ddiref02_octets.l0 kq a0 x5_1 x6_1 = some r) ∧ Aside0 (kq ≤ k) ∧ Aside0 (Kd.R (Kd.int .u8) 5 w' w.heap.size (fun _ => True) v5 x5_1) ∧ Aside0 (Below w.heap.size w w'))
 case atStart => exact ⟨(([] : List Int)), (wrap64 (a1 - 1)), pT, H', ⟨Nat.le_refl _⟩, ⟨by first | exact Kd.R_nil _ _ _ _ _ | exact Kd.N_nil _ _ _ _ _ | exact Kd.V_nil _ _ _ _ _ | exact Kd.Q_nil _ _ _ _ _ | exact Kd.S_nil _ _ _ _ _⟩, ⟨pE HB⟩⟩
 case round =>
  clear H'
  obtain ⟨x5_1, x6_1, rfl, HA, HK1, HO_5, HB⟩ := hrel
  cases gk with
  | zero => exact absurd HA.out (by simp [ddiref02_octets.l0])
  | succ k1 =>
   have H := HA.out
   clear HA
   simp only [ddiref02_octets.l0] at H
   by_cases c3 : x6_1 ≥ 0
   ·
    rw [if_pos c3] at H
    have c3b0 := decide_eq_true c3
    clear c3
    have H' := Aside0.mk H
    clear H
    go_wp2
    go_loopg [7, 8] k1 (fun kq v7 v8 w' => ∃ (x7_2 : Int) (x8_2 : Int), v7 = .int .u64 x7_2 ∧ v8 = .int .i64 x8_2 ∧ Aside0 (ddiref02_octets.l1 kq a0 x5_1 x6_1 x7_2 x8_2 = some r) ∧ Aside0 (kq ≤ k1) ∧ Aside0 (Kd.R (Kd.int .u8) 5 w' w.heap.size (fun _ => True) u5 x5_1) ∧ Aside0 (Below w.heap.size w w'))
    case atStart => exact ⟨(a0), (0), pT, pT, H', ⟨Nat.le_refl _⟩, ⟨by (with_reducible repeat (first | apply Kd.R_alloc | apply Kd.R_drewN | apply Kd.R_drew)); exact HO_5.out⟩, ⟨pE HB⟩⟩
    case round =>
     clear H'
     try clear c3
     try clear c3b0
     obtain ⟨x7_2, x8_2, rfl, rfl, HA, HK2, HO_5, HB⟩ := hrel
     cases gk with
     | zero => exact absurd HA.out (by simp [ddiref02_octets.l1])
     | succ k2 =>
      have H := HA.out
      clear HA
      simp only [ddiref02_octets.l1] at H
      by_cases c4 : x8_2 < x6_1
      ·
       rw [if_pos c4] at H
       have c4b0 := decide_eq_true c4
       clear c4
       have H' := Aside0.mk H
       clear H
       go_wp2
       go_roundg k2
       case measure => have := HK1.out; have := HK2.out; omega
       case rel => exact ⟨(IntKind.u64.wrap (Int.tdiv x7_2 256)), (wrap64 (x8_2 + 1)), pT, pT, H', ⟨by have := HK1.out; have := HK2.out; omega⟩, ⟨by (with_reducible repeat (first | apply Kd.R_alloc | apply Kd.R_drewN | apply Kd.R_drew)); exact HO_5.out⟩, ⟨pE HB⟩⟩
      ·
       rw [if_neg c4] at H
       have c4b0 := decide_eq_false c4
       clear c4
       by_cases c5 : x5_1.length < 140737488355328
       ·
        rw [if_pos c5] at H
        have LMc5 := Aside0.mk c5
        clear c5
        obtain ⟨y504, hy504⟩ : ∃ y_ : List Int, y_ = (x5_1 ++ [(Int.tmod x7_2 256) % 256]) := ⟨_, rfl⟩
        replace H : (ddiref02_octets.l0 k2 a0 y504 (wrap64 (x6_1 - 1))) = some r := by first | (rw [hy504]; with_reducible exact H) | (have H2_ := (Option.bind_some _ _).symm.trans H; rw [hy504]; with_reducible exact H2_) | (have H2_ := (Option.bind_some _ _).symm.trans H; with_reducible exact H2_) | with_reducible exact H | (rw [hy504]; exact H) | exact H
        have Ny504 := Aside0.mk hy504
        clear hy504
        have H' := Aside0.mk H
        clear H
        go_wp2_with (first | ((with_reducible refine gate_builtin (b := .append) (xs := #[.tmp 23, .tmp 27]) rfl ?_); at_builtin; refine Kd.R_append (Kd.int .u8) (w0 := w) w.heap.size rfl (.tmp 23) (.tmp 27) 103 5 (.int .u8 0) 1 rfl Tryz.underlying103 info5 rfl (by decide) (by omega) u5 x5_1 ((Int.tmod x7_2 256) % 256) [.int .u8 ((Int.tmod x7_2 256) % 256)] (fun _ => True) (fun _ => False) rfl rfl ?aP (fun _ hk => hk.elim) ?aF ?aO ?aB ?aS ?aL ?_; (case aP => exact rfl); (case aB => exact (by repeat (first | (with_reducible first | exact HB.out | apply below_alloc | apply pw_below_drewN | apply below_drew1) | exact HB.out))); (case aF => exact (fun _ _ => trivial)); (case aO => exact (by (with_reducible repeat (first | apply Kd.R_alloc | apply Kd.R_drewN | apply Kd.R_drew)); exact HO_5.out)); (case aS => exact (below_size (by repeat (first | (with_reducible first | exact HB.out | apply below_alloc | apply pw_below_drewN | apply below_drew1) | exact HB.out)))); (case aL => have := LMc5.out; omega); intro v505 w6 ho hb hg hat; rw [← Ny504.out] at ho; have HO506 := Aside0.mk (ho); replace HB := Aside0.mk (hb); clear HO_5; clear ho hb hg hat))
        go_roundg k2
        case measure => have := HK1.out; have := HK2.out; omega
        case rel => exact ⟨(y504), (wrap64 (x6_1 - 1)), pT, H', ⟨by have := HK1.out; have := HK2.out; omega⟩, ⟨by (with_reducible repeat (first | apply Kd.R_alloc | apply Kd.R_drewN | apply Kd.R_drew)); exact HO506.out⟩, ⟨pE HB⟩⟩
       ·
        rw [if_neg c5] at H
        exact absurd H (by simp)
   ·
    rw [if_neg c3] at H
    have c3b0 := decide_eq_false c3
    clear c3
    obtain rfl := Option.some.inj H
    have hcv7 := own_string (P := Tryz.prog) Tryz.underlying103 Tryz.underlying5 Tryz.underlying9 (Kd.own_of_R HO_5.out)
    go_wp2
    go_ret
    exact pR (pE HB)

/-! ### ddiref02_Wire: function 71 -/
def ddiref02_Wire.f (k : Nat) (a0_0 : Bool) (a0_1 : Int) (a0_2 : Int) : Option (ByteArray × Int) := (ddiref02_Valid.f a0_0 a0_1 a0_2).bind fun t508 => (if t508 = true then (if a0_0 = true then ((ddiref02_octets.f k a0_1 8).bind fun t509 => ((ddiref02_octets.f k a0_2 8).bind fun t510 => (if t509.size + t510.size ≤ 9223372036854775807 then (some (t509 ++ t510, 0)) else (none)))) else ((ddiref02_octets.f k a0_2 4).bind fun t511 => (some (t511, 0)))) else (some ((⟨#[]⟩ : ByteArray), 3)))
theorem ddiref02_Wire.mono : ∀ a0 a1 a2 k, LeO (ddiref02_Wire.f k a0 a1 a2) (ddiref02_Wire.f (k + 1) a0 a1 a2) := by
 intro a0 a1 a2 k
 unfold ddiref02_Wire.f
 repeat' with_reducible first | exact ddiref02_octets.mono _ _ _ | exact LeO.refl _ | exact LeO.none _ | refine LeO.ite ?_ ?_ | refine LeO.bind ?_ (fun _ => ?_)
def ddiref02_Wire.T4 : Bool × List (List Nat × List Nat) := (true, [([], []), ([0], [0]), ([1], [1]), ([], []), ([3], [3]), ([4, 2], [4]), ([2, 5], [2, 5]), ([6, 5, 0, 1, 2, 3, 4, 5, 6], [6]), ([7, 0, 1, 2, 3, 4, 5, 6, 7], [])])
def ddiref02_Wire.B4 : List Nat := [0, 1, 3, 0, 8, 31, 63, 127, 255]
theorem ddiref02_Wire.tab4 : rtab .any (opsOf Tryz.f71 4) = ddiref02_Wire.T4 := by kernel_rfl
theorem ddiref02_Wire.bits4 : waitsOk ddiref02_Wire.T4.2 ddiref02_Wire.B4 = true := by kernel_rfl
set_option maxHeartbeats 40000000 in
set_option maxRecDepth 100000 in
theorem ddiref02_Wire.calls (k : Nat) (a0_0 : Bool) (a0_1 : Int) (a0_2 : Int) (r1 : ByteArray) (r2 : Int) (w : World) (h : ddiref02_Wire.f k a0_0 a0_1 a0_2 = some (r1, r2)) :
 Calls Tryz.prog 71 #[.agg #[.bool a0_0, .int .u64 a0_1, .int .u64 a0_2]] w fun e w' => e = .returned (.tuple #[.string r1, .int .i64 r2]) ∧ Below w.heap.size w w' := by
 have hu24 := Tryz.underlying24
 have HB := Aside0.mk (Below.refl w.heap.size w)
 have H : ((ddiref02_Valid.f a0_0 a0_1 a0_2).bind fun t508 => (if t508 = true then (if a0_0 = true then ((ddiref02_octets.f k a0_1 8).bind fun t509 => ((ddiref02_octets.f k a0_2 8).bind fun t510 => (if t509.size + t510.size ≤ 9223372036854775807 then (some (t509 ++ t510, 0)) else (none)))) else ((ddiref02_octets.f k a0_2 4).bind fun t511 => (some (t511, 0)))) else (some ((⟨#[]⟩ : ByteArray), 3)))) = some (r1, r2) := h
 clear h
 replace H := Option.bind_eq_some_iff.mp H
 obtain ⟨t508, A20, H⟩ := H
 have A2 := Aside0.mk A20
 clear A20
 by_cases c3 : t508 = true
 ·
  subst c3
  have H1 : (if a0_0 = true then ((ddiref02_octets.f k a0_1 8).bind fun t509 => ((ddiref02_octets.f k a0_2 8).bind fun t510 => (if t509.size + t510.size ≤ 9223372036854775807 then (some (t509 ++ t510, 0)) else (none)))) else ((ddiref02_octets.f k a0_2 4).bind fun t511 => (some (t511, 0)))) = some (r1, r2) := by rw [if_pos rfl] at H; exact H
  clear H
  have H := H1
  clear H1
  by_cases c4 : a0_0 = true
  ·
   subst c4
   have H1 : ((ddiref02_octets.f k a0_1 8).bind fun t509 => ((ddiref02_octets.f k a0_2 8).bind fun t510 => (if t509.size + t510.size ≤ 9223372036854775807 then (some (t509 ++ t510, 0)) else (none)))) = some (r1, r2) := by rw [if_pos rfl] at H; exact H
   clear H
   have H := H1
   clear H1
   replace H := Option.bind_eq_some_iff.mp H
   obtain ⟨t509, A50, H⟩ := H
   have A5 := Aside0.mk A50
   clear A50
   replace H := Option.bind_eq_some_iff.mp H
   obtain ⟨t510, A60, H⟩ := H
   have A6 := Aside0.mk A60
   clear A60
   by_cases c7 : t509.size + t510.size ≤ 9223372036854775807
   ·
    rw [if_pos c7] at H
    have c7b0 := eq_true c7
    have c7b1 := decide_eq_true c7
    try have c7b2 : (9223372036854775807 < t509.size + t510.size) = False := eq_false (Nat.not_lt.2 c7)
    simp only [Option.some.injEq, Prod.mk.injEq] at H
    obtain ⟨rfl, rfl⟩ := H
    go_enter Tryz.func71, Tryz.ntmps71
    try go_wp2_with (first | ((with_reducible refine gate_dst (N := 1) rfl ?_); refine boxA (N := 1) (cs := #[.bool true, .int .u64 a0_1, .int .u64 a0_2]) (t := 24) ?_; intro gb507 hg w8 hbox hb; have BK507 := Aside0.mk (hbox); have GE507 := (pZ HB hg); replace HB := (pS HB hb); clear hb hbox hg; obtain ⟨hcz9_0, hcz9_1, hcz9_2, hfz9_0, hfz9_1, hfz9_2⟩ := pC3 BK507) | ((with_reducible refine gate_callee (f := 54) rfl ?_); refine goesA (some 5) Tryz.func54 #[.agg #[.bool true, .int .u64 a0_1, .int .u64 a0_2]] ?_; (with_reducible refine (ddiref02_Valid.calls true a0_1 a0_2 true _ A2.out).mono ?_); rintro e w10 ⟨rfl, hb⟩; refine ⟨_, rfl, ?_⟩; replace BK507 := (pB BK507 hb); replace HB := (pS HB hb); (try clear hb); obtain ⟨hcz11_0, hcz11_1, hcz11_2, hfz11_0, hfz11_1, hfz11_2⟩ := pC3 BK507))
    replace BK507 := Aside0.mk (blk_drew BK507.out)
    replace HB := Aside0.mk (below_drew1 HB.out)
    refine start_ (n := 9) (S := fun w' => w'.cell? ⟨gb507, 0, none⟩ = some (.bool true) ∧ w'.cell? ⟨gb507, 1, none⟩ = some (.int .u64 a0_1) ∧ w'.cell? ⟨gb507, 2, none⟩ = some (.int .u64 a0_2)) (ds := []) (tk 9 0) (by kernel_rfl) rfl rfl ⟨bC BK507 0, bC BK507 1, bC BK507 2⟩ (fun hHeld => ?_); refine with_tabW ddiref02_Wire.tab4 ddiref02_Wire.bits4 (fun HT_ HW_ => ?_)
    generalize w10.drew = w12 at BK507 HB hHeld ⊢
    refine pureA (i := 0) (some 9) HT_ (tk 9 1) ?_
    refine pureA (i := 3) (some 12) HT_ (tr [1, 2, 1, 5]) ?_
    refine takeA (i := 1) (some 10) HT_ HW_ (tr [2, 1, 1, 5]) hHeld ?_
    refine takeA (i := 4) (some 13) HT_ HW_ (tr [2, 1, 2, 4]) hHeld ?_
    refine one_ (i := 2) (N := some 11) (tk 9 5) rfl rfl (one_of HT_.out (by kernel_rfl)) (by decide) (fun K hK => ?_)
    refine goesR Tryz.func100 #[.int .u64 a0_1, .int .i64 8] ?_
    with_reducible refine (ddiref02_octets.calls k a0_1 8 t509 _ A5.out).mono ?_
    rintro e w13 ⟨rfl, hb⟩
    refine ⟨_, rfl, ?_⟩
    replace BK507 := (pB BK507 hb)
    replace HB := (pS HB hb)
    (try clear hb)
    refine hK.out _ _ ⟨bC BK507 0, bC BK507 1, bC BK507 2⟩ (fun hHeld => ?_)
    clear hK K
    refine normA (N := some 11) ?_
    refine one_ (i := 5) (N := some 14) (tk 9 6) rfl rfl (one_of HT_.out (by kernel_rfl)) (by decide) (fun K hK => ?_)
    refine goesR Tryz.func100 #[.int .u64 a0_2, .int .i64 8] ?_
    with_reducible refine (ddiref02_octets.calls k a0_2 8 t510 _ A6.out).mono ?_
    rintro e w14 ⟨rfl, hb⟩
    refine ⟨_, rfl, ?_⟩
    replace BK507 := (pB BK507 hb)
    replace HB := (pS HB hb)
    (try clear hb)
    refine hK.out _ _ ⟨bC BK507 0, bC BK507 1, bC BK507 2⟩ (fun hHeld => ?_)
    clear hK K
    refine normA (N := some 14) ?_
    refine pureA (i := 6) (some 15) HT_ (tk 9 7) ?_
    refine pureA (i := 7) (some 2) HT_ (tk 9 8) ?_
    refine pureA (i := 8) (some 3) HT_ (tk 9 9) ?_
    refine done_ (done_of HT_.out (by kernel_rfl)) ?_
    try go_wp2
    go_ret2
    exact pR (pE HB)
   ·
    rw [if_neg c7] at H
    exact absurd H (by simp)
  ·
   replace c4 := Bool.eq_false_iff.mpr c4
   subst c4
   rw [if_neg (show ¬ (false = true) by decide)] at H
   replace H := Option.bind_eq_some_iff.mp H
   obtain ⟨t511, A150, H⟩ := H
   have A15 := Aside0.mk A150
   clear A150
   simp only [Option.some.injEq, Prod.mk.injEq] at H
   obtain ⟨rfl, rfl⟩ := H
   go_enter Tryz.func71, Tryz.ntmps71
   go_wp2_with (first | ((with_reducible refine gate_dst (N := 1) rfl ?_); refine boxA (N := 1) (cs := #[.bool false, .int .u64 a0_1, .int .u64 a0_2]) (t := 24) ?_; intro gb507 hg w16 hbox hb; have BK507 := Aside0.mk (hbox); have GE507 := (pZ HB hg); replace HB := (pS HB hb); clear hb hbox hg; obtain ⟨hcz17_0, hcz17_1, hcz17_2, hfz17_0, hfz17_1, hfz17_2⟩ := pC3 BK507) | ((with_reducible refine gate_callee (f := 54) rfl ?_); refine goesA (some 5) Tryz.func54 #[.agg #[.bool false, .int .u64 a0_1, .int .u64 a0_2]] ?_; (with_reducible refine (ddiref02_Valid.calls false a0_1 a0_2 true _ A2.out).mono ?_); rintro e w18 ⟨rfl, hb⟩; refine ⟨_, rfl, ?_⟩; replace BK507 := (pB BK507 hb); replace HB := (pS HB hb); (try clear hb); obtain ⟨hcz19_0, hcz19_1, hcz19_2, hfz19_0, hfz19_1, hfz19_2⟩ := pC3 BK507) | ((with_reducible refine gate_callee (f := 100) rfl ?_); refine goesA (some 18) Tryz.func100 #[.int .u64 a0_2, .int .i64 4] ?_; (with_reducible refine (ddiref02_octets.calls k a0_2 4 t511 _ A15.out).mono ?_); rintro e w20 ⟨rfl, hb⟩; refine ⟨_, rfl, ?_⟩; replace BK507 := (pB BK507 hb); replace HB := (pS HB hb); (try clear hb)))
   go_ret2
   exact pR (pE HB)
 ·
  replace c3 := Bool.eq_false_iff.mpr c3
  subst c3
  rw [if_neg (show ¬ (false = true) by decide)] at H
  simp only [Option.some.injEq, Prod.mk.injEq] at H
  obtain ⟨rfl, rfl⟩ := H
  go_enter Tryz.func71, Tryz.ntmps71
  go_wp2_with (first | ((with_reducible refine gate_dst (N := 1) rfl ?_); refine boxA (N := 1) (cs := #[.bool a0_0, .int .u64 a0_1, .int .u64 a0_2]) (t := 24) ?_; intro gb507 hg w21 hbox hb; have BK507 := Aside0.mk (hbox); have GE507 := (pZ HB hg); replace HB := (pS HB hb); clear hb hbox hg; obtain ⟨hcz22_0, hcz22_1, hcz22_2, hfz22_0, hfz22_1, hfz22_2⟩ := pC3 BK507) | ((with_reducible refine gate_callee (f := 54) rfl ?_); refine goesA (some 5) Tryz.func54 #[.agg #[.bool a0_0, .int .u64 a0_1, .int .u64 a0_2]] ?_; (with_reducible refine (ddiref02_Valid.calls a0_0 a0_1 a0_2 false _ A2.out).mono ?_); rintro e w23 ⟨rfl, hb⟩; refine ⟨_, rfl, ?_⟩; replace BK507 := (pB BK507 hb); replace HB := (pS HB hb); (try clear hb)))
  go_ret2
  exact pR (pE HB)

/-! ### ddiref02_Reverse: function 48 -/
def ddiref02_Reverse.l0 : Nat → ByteArray → ByteArray → Int → Bool → Int → Int → Option (ByteArray × Int)
 | 0, _, _, _, _, _, _ => none
 | k + 1, x4, x5, x7, x513000, x513001, x513002 => if x7 ≥ 0 then (if x513000 = true then (if 0 ≤ x7 then (if x7 < (x5.size : Int) then ((ddiref02_hex.f (IntKind.u64.wrap (Int.tmod (bt x5 x7) 16))).bind fun t516 => (if t516.size + 1 ≤ 9223372036854775807 then ((ddiref02_hex.f ((Int.tdiv (bt x5 x7) 16) % 256)).bind fun t517 => (if (t516 ++ (⟨#[46]⟩ : ByteArray)).size + t517.size ≤ 9223372036854775807 then (if ((t516 ++ (⟨#[46]⟩ : ByteArray)) ++ t517).size + 1 ≤ 9223372036854775807 then (if x4.size + (((t516 ++ (⟨#[46]⟩ : ByteArray)) ++ t517) ++ (⟨#[46]⟩ : ByteArray)).size ≤ 9223372036854775807 then (ddiref02_Reverse.l0 k (x4 ++ (((t516 ++ (⟨#[46]⟩ : ByteArray)) ++ t517) ++ (⟨#[46]⟩ : ByteArray))) x5 (wrap64 (x7 - 1)) x513000 x513001 x513002) else (none)) else (none)) else (none))) else (none))) else (none)) else (none)) else (if 0 ≤ x7 then (if x7 < (x5.size : Int) then ((ddiref02_decimal.f (IntKind.u64.wrap (bt x5 x7))).bind fun t518 => (if t518.size + 1 ≤ 9223372036854775807 then (if x4.size + (t518 ++ (⟨#[46]⟩ : ByteArray)).size ≤ 9223372036854775807 then (ddiref02_Reverse.l0 k (x4 ++ (t518 ++ (⟨#[46]⟩ : ByteArray))) x5 (wrap64 (x7 - 1)) x513000 x513001 x513002) else (none)) else (none))) else (none)) else (none))) else (if x513000 = true then (if x4.size + 9 ≤ 9223372036854775807 then (some (x4 ++ (⟨#[105, 112, 54, 46, 97, 114, 112, 97, 46]⟩ : ByteArray), 0)) else (none)) else (if x4.size + 13 ≤ 9223372036854775807 then (some (x4 ++ (⟨#[105, 110, 45, 97, 100, 100, 114, 46, 97, 114, 112, 97, 46]⟩ : ByteArray), 0)) else (none)))
def ddiref02_Reverse.f (k : Nat) (a0_0 : Bool) (a0_1 : Int) (a0_2 : Int) : Option (ByteArray × Int) := (ddiref02_Valid.f a0_0 a0_1 a0_2).bind fun t513 => (if t513 = true then ((ddiref02_Wire.f k a0_0 a0_1 a0_2).bind fun bt514 => (ddiref02_Reverse.l0 k (⟨#[]⟩ : ByteArray) bt514.1 (wrap64 ((bt514.1.size : Int) - 1)) a0_0 a0_1 a0_2)) else (some ((⟨#[]⟩ : ByteArray), 3)))
theorem ddiref02_Reverse.mono_l : ∀ k, (∀ y0 y1 y2 y3 y4 y5, LeO (ddiref02_Reverse.l0 k y0 y1 y2 y3 y4 y5) (ddiref02_Reverse.l0 (k + 1) y0 y1 y2 y3 y4 y5))
 | 0 => fun _ _ _ _ _ _ r h => by simp [ddiref02_Reverse.l0] at h
 | k + 1 => by
  have ih0 := ddiref02_Reverse.mono_l k
  ·
   intro y0 y1 y2 y3 y4 y5
   unfold ddiref02_Reverse.l0
   repeat' with_reducible first | exact ih0 _ _ _ _ _ _ | exact ddiref02_Wire.mono _ _ _ _ | exact LeO.refl _ | exact LeO.none _ | refine LeO.ite ?_ ?_ | refine LeO.bind ?_ (fun _ => ?_)
theorem ddiref02_Reverse.mono : ∀ a0 a1 a2 k, LeO (ddiref02_Reverse.f k a0 a1 a2) (ddiref02_Reverse.f (k + 1) a0 a1 a2) := by
 intro a0 a1 a2 k
 have ih0 := ddiref02_Reverse.mono_l k
 unfold ddiref02_Reverse.f
 repeat' with_reducible first | exact ih0 _ _ _ _ _ _ | exact ddiref02_Wire.mono _ _ _ _ | exact LeO.refl _ | exact LeO.none _ | refine LeO.ite ?_ ?_ | refine LeO.bind ?_ (fun _ => ?_)
def ddiref02_Reverse.T9 : Bool × List (List Nat × List Nat) := (true, [([], []), ([], []), ([], []), ([1, 2], [1, 2]), ([3], [3]), ([4], [4]), ([5], [5]), ([6], [6]), ([], []), ([], []), ([8, 9], [8, 9]), ([10], [10]), ([11], [11]), ([12, 6], [12]), ([7, 13], [7, 13]), ([14], [14]), ([0, 15], [0, 15]), ([16, 13, 0, 1, 2, 3, 4, 5, 6, 7, 8, 9, 10, 11, 12, 13, 14, 15, 16], [0, 16])])
def ddiref02_Reverse.B9 : List Nat := [0, 0, 0, 6, 14, 30, 62, 126, 0, 0, 768, 1792, 3840, 8062, 16382, 32766, 65535, 131071]
theorem ddiref02_Reverse.tab9 : rtab .any (opsOf Tryz.f48 9) = ddiref02_Reverse.T9 := by kernel_rfl
theorem ddiref02_Reverse.bits9 : waitsOk ddiref02_Reverse.T9.2 ddiref02_Reverse.B9 = true := by kernel_rfl
set_option maxHeartbeats 40000000 in
set_option maxRecDepth 100000 in
theorem ddiref02_Reverse.calls (k : Nat) (a0_0 : Bool) (a0_1 : Int) (a0_2 : Int) (r1 : ByteArray) (r2 : Int) (w : World) (h : ddiref02_Reverse.f k a0_0 a0_1 a0_2 = some (r1, r2)) :
 Calls Tryz.prog 48 #[.agg #[.bool a0_0, .int .u64 a0_1, .int .u64 a0_2]] w fun e w' => e = .returned (.tuple #[.string r1, .int .i64 r2]) ∧ Below w.heap.size w w' := by
 have hu24 := Tryz.underlying24
 have HB := Aside0.mk (Below.refl w.heap.size w)
 have H : ((ddiref02_Valid.f a0_0 a0_1 a0_2).bind fun t513 => (if t513 = true then ((ddiref02_Wire.f k a0_0 a0_1 a0_2).bind fun bt514 => (ddiref02_Reverse.l0 k (⟨#[]⟩ : ByteArray) bt514.1 (wrap64 ((bt514.1.size : Int) - 1)) a0_0 a0_1 a0_2)) else (some ((⟨#[]⟩ : ByteArray), 3)))) = some (r1, r2) := h
 clear h
 replace H := Option.bind_eq_some_iff.mp H
 obtain ⟨t513, A20, H⟩ := H
 have A2 := Aside0.mk A20
 clear A20
 by_cases c3 : t513 = true
 ·
  subst c3
  have H1 : ((ddiref02_Wire.f k a0_0 a0_1 a0_2).bind fun bt514 => (ddiref02_Reverse.l0 k (⟨#[]⟩ : ByteArray) bt514.1 (wrap64 ((bt514.1.size : Int) - 1)) a0_0 a0_1 a0_2)) = some (r1, r2) := by rw [if_pos rfl] at H; exact H
  clear H
  have H := H1
  clear H1
  replace H := Option.bind_eq_some_iff.mp H
  obtain ⟨⟨t514, t515⟩, A40, H⟩ := H
  replace H : (ddiref02_Reverse.l0 k (⟨#[]⟩ : ByteArray) t514 (wrap64 ((t514.size : Int) - 1)) a0_0 a0_1 a0_2) = some (r1, r2) := H
  have A4 := Aside0.mk A40
  clear A40
  have H' := Aside0.mk H
  clear H
  go_enter Tryz.func48, Tryz.ntmps48
  go_wp2_with (first | ((with_reducible refine gate_dst (N := 1) rfl ?_); refine boxA (N := 1) (cs := #[.bool a0_0, .int .u64 a0_1, .int .u64 a0_2]) (t := 24) ?_; intro gb512 hg w5 hbox hb; have BK512 := Aside0.mk (hbox); have GE512 := (pZ HB hg); replace HB := (pS HB hb); clear hb hbox hg; obtain ⟨hcz6_0, hcz6_1, hcz6_2, hfz6_0, hfz6_1, hfz6_2⟩ := pC3 BK512) | ((with_reducible refine gate_callee (f := 54) rfl ?_); refine goesA (some 9) Tryz.func54 #[.agg #[.bool a0_0, .int .u64 a0_1, .int .u64 a0_2]] ?_; (with_reducible refine (ddiref02_Valid.calls a0_0 a0_1 a0_2 true _ A2.out).mono ?_); rintro e w7 ⟨rfl, hb⟩; refine ⟨_, rfl, ?_⟩; replace BK512 := (pB BK512 hb); replace HB := (pS HB hb); (try clear hb); obtain ⟨hcz8_0, hcz8_1, hcz8_2, hfz8_0, hfz8_1, hfz8_2⟩ := pC3 BK512) | ((with_reducible refine gate_callee (f := 71) rfl ?_); refine goesA (some 13) Tryz.func71 #[.agg #[.bool a0_0, .int .u64 a0_1, .int .u64 a0_2]] ?_; (with_reducible refine (ddiref02_Wire.calls k a0_0 a0_1 a0_2 t514 t515 _ A4.out).mono ?_); rintro e w9 ⟨rfl, hb⟩; refine ⟨_, rfl, ?_⟩; replace BK512 := (pB BK512 hb); replace HB := (pS HB hb); (try clear hb)))
  go_loopg [4, 7] k (fun kq v4 v7 w' => ∃ (x4_1 : ByteArray) (x7_1 : Int), v4 = .string x4_1 ∧ v7 = .int .i64 x7_1 ∧ Aside0 (ddiref02_Reverse.l0 kq x4_1 t514 x7_1 a0_0 a0_1 a0_2 = some (r1, r2)) ∧ Aside0 (kq ≤ k) ∧ Aside0 (w'.heap[gb512]? = some (.cells #[.bool a0_0, .int .u64 a0_1, .int .u64 a0_2] 24 (0, 0))) ∧ Aside0 (Below w.heap.size w w'))
  case atStart => exact ⟨((⟨#[]⟩ : ByteArray)), (wrap64 ((t514.size : Int) - 1)), pT, pT, H', ⟨Nat.le_refl _⟩, ⟨pM BK512⟩, ⟨pE HB⟩⟩
  case round =>
   clear H'
   try clear c3
   try clear hcz6_0 hcz6_1 hcz6_2
   try clear hcz8_0 hcz8_1 hcz8_2
   try clear hfz6_0 hfz6_1 hfz6_2
   try clear hfz8_0 hfz8_1 hfz8_2
   obtain ⟨x4_1, x7_1, rfl, rfl, HA, HK1, BK512, HB⟩ := hrel
   cases gk with
   | zero => exact absurd HA.out (by simp [ddiref02_Reverse.l0])
   | succ k1 =>
    have H := HA.out
    clear HA
    simp only [ddiref02_Reverse.l0] at H
    by_cases c10 : x7_1 ≥ 0
    ·
     rw [if_pos c10] at H
     have c10b0 := decide_eq_true c10
     clear c10
     by_cases c11 : a0_0 = true
     ·
      subst c11
      have H1 : (if 0 ≤ x7_1 then (if x7_1 < (t514.size : Int) then ((ddiref02_hex.f (IntKind.u64.wrap (Int.tmod (bt t514 x7_1) 16))).bind fun t516 => (if t516.size + 1 ≤ 9223372036854775807 then ((ddiref02_hex.f ((Int.tdiv (bt t514 x7_1) 16) % 256)).bind fun t517 => (if (t516 ++ (⟨#[46]⟩ : ByteArray)).size + t517.size ≤ 9223372036854775807 then (if ((t516 ++ (⟨#[46]⟩ : ByteArray)) ++ t517).size + 1 ≤ 9223372036854775807 then (if x4_1.size + (((t516 ++ (⟨#[46]⟩ : ByteArray)) ++ t517) ++ (⟨#[46]⟩ : ByteArray)).size ≤ 9223372036854775807 then (ddiref02_Reverse.l0 k1 (x4_1 ++ (((t516 ++ (⟨#[46]⟩ : ByteArray)) ++ t517) ++ (⟨#[46]⟩ : ByteArray))) t514 (wrap64 (x7_1 - 1)) true a0_1 a0_2) else (none)) else (none)) else (none))) else (none))) else (none)) else (none)) = some (r1, r2) := by rw [if_pos rfl] at H; exact H
      clear H
      have H := H1
      clear H1
      by_cases c12 : 0 ≤ x7_1
      ·
       rw [if_pos c12] at H
       have c12b0 := decide_eq_true c12
       clear c12
       by_cases c13 : x7_1 < (t514.size : Int)
       ·
        rw [if_pos c13] at H
        have c13b0 := decide_eq_true c13
        clear c13
        replace H := Option.bind_eq_some_iff.mp H
        obtain ⟨t516, A150, H⟩ := H
        have A15 := Aside0.mk A150
        clear A150
        by_cases c16 : t516.size + 1 ≤ 9223372036854775807
        ·
         rw [if_pos c16] at H
         have c16b0 := eq_true c16
         have c16b1 := decide_eq_true c16
         try have c16b2 : (9223372036854775807 < t516.size + 1) = False := eq_false (Nat.not_lt.2 c16)
         replace H := Option.bind_eq_some_iff.mp H
         obtain ⟨t517, A180, H⟩ := H
         have A18 := Aside0.mk A180
         clear A180
         by_cases c19 : (t516 ++ (⟨#[46]⟩ : ByteArray)).size + t517.size ≤ 9223372036854775807
         ·
          rw [if_pos c19] at H
          have c19b0 := eq_true c19
          have c19b1 := decide_eq_true c19
          try have c19b2 : (9223372036854775807 < (t516 ++ (⟨#[46]⟩ : ByteArray)).size + t517.size) = False := eq_false (Nat.not_lt.2 c19)
          try have c19b2z := c19b2
          try simp only [go_sem, List.size_toArray, List.length_cons, List.length_nil, Nat.zero_add, Nat.reduceAdd] at c19b2z
          by_cases c20 : ((t516 ++ (⟨#[46]⟩ : ByteArray)) ++ t517).size + 1 ≤ 9223372036854775807
          ·
           rw [if_pos c20] at H
           have c20b0 := eq_true c20
           have c20b1 := decide_eq_true c20
           try have c20b2 : (9223372036854775807 < ((t516 ++ (⟨#[46]⟩ : ByteArray)) ++ t517).size + 1) = False := eq_false (Nat.not_lt.2 c20)
           try have c20b2z := c20b2
           try simp only [go_sem, List.size_toArray, List.length_cons, List.length_nil, Nat.zero_add, Nat.reduceAdd] at c20b2z
           by_cases c21 : x4_1.size + (((t516 ++ (⟨#[46]⟩ : ByteArray)) ++ t517) ++ (⟨#[46]⟩ : ByteArray)).size ≤ 9223372036854775807
           ·
            rw [if_pos c21] at H
            have c21b0 := eq_true c21
            have c21b1 := decide_eq_true c21
            try have c21b2 : (9223372036854775807 < x4_1.size + (((t516 ++ (⟨#[46]⟩ : ByteArray)) ++ t517) ++ (⟨#[46]⟩ : ByteArray)).size) = False := eq_false (Nat.not_lt.2 c21)
            try have c21b2z := c21b2
            try simp only [go_sem, List.size_toArray, List.length_cons, List.length_nil, Nat.zero_add, Nat.reduceAdd] at c21b2z
            have H' := Aside0.mk H
            clear H
            obtain ⟨hcz22_0, hcz22_1, hcz22_2, hfz22_0, hfz22_1, hfz22_2⟩ := pC3 BK512
            try go_wp2
            replace BK512 := Aside0.mk (blk_drew BK512.out)
            replace HB := Aside0.mk (below_drew1 HB.out)
            have p14 : 0 ≤ (x7_1 : Int) := oD
            have q14 : x7_1 < (t514.size : Int) := oD
            have hx14 := bt_at t514 x7_1
            replace p14 := eq_true p14
            replace q14 := eq_true q14
            have p17 : 0 ≤ (x7_1 : Int) := oD
            have q17 : x7_1 < (t514.size : Int) := oD
            have hx17 := bt_at t514 x7_1
            replace p17 := eq_true p17
            replace q17 := eq_true q17
            refine start_ (n := 18) (S := fun w' => True) (ds := []) (tk 18 0) (by kernel_rfl) rfl rfl trivial (fun hHeld => ?_); refine with_tabW ddiref02_Reverse.tab9 ddiref02_Reverse.bits9 (fun HT_ HW_ => ?_)
            generalize wr.drew = w23 at BK512 HB hHeld ⊢
            refine pureA (i := 0) (some 25) HT_ (tk 18 1) ?_
            refine pureA (i := 1) (some 26) HT_ (tk 18 2) ?_
            refine pureA (i := 2) (some 27) HT_ (tk 18 3) ?_
            refine pureA (i := 8) (some 33) HT_ (tr [3, 5, 1, 9]) ?_
            refine pureA (i := 9) (some 34) HT_ (tr [3, 5, 2, 8]) ?_
            refine takeA (i := 3) (some 28) HT_ HW_ (tr [4, 4, 2, 8]) hHeld ?_
            refine pureA (i := 4) (some 29) HT_ (tr [5, 3, 2, 8]) ?_
            refine pureA (i := 5) (some 30) HT_ (tr [6, 2, 2, 8]) ?_
            refine takeA (i := 10) (some 35) HT_ HW_ (tr [6, 2, 3, 7]) hHeld ?_
            refine pureA (i := 11) (some 36) HT_ (tr [6, 2, 4, 6]) ?_
            refine pureA (i := 12) (some 37) HT_ (tr [6, 2, 5, 5]) ?_
            refine one_ (i := 6) (N := some 31) (tr [7, 1, 5, 5]) rfl rfl (one_of HT_.out (by kernel_rfl)) (by decide) (fun K hK => ?_)
            refine goesR Tryz.func72 #[.int .u64 (IntKind.u64.wrap (Int.tmod (bt t514 x7_1) 16))] ?_
            with_reducible refine (ddiref02_hex.calls (IntKind.u64.wrap (Int.tmod (bt t514 x7_1) 16)) t516 _ A15.out).mono ?_
            rintro e w24 ⟨rfl, hb⟩
            refine ⟨_, rfl, ?_⟩
            replace BK512 := (pB BK512 hb)
            replace HB := (pS HB hb)
            (try clear hb)
            refine hK.out _ _ trivial (fun hHeld => ?_)
            clear hK K
            refine normA (N := some 31) ?_
            refine pureA (i := 7) (some 32) HT_ (tk 18 13) ?_
            refine one_ (i := 13) (N := some 38) (tk 18 14) rfl rfl (one_of HT_.out (by kernel_rfl)) (by decide) (fun K hK => ?_)
            refine goesR Tryz.func72 #[.int .u64 ((Int.tdiv (bt t514 x7_1) 16) % 256)] ?_
            with_reducible refine (ddiref02_hex.calls ((Int.tdiv (bt t514 x7_1) 16) % 256) t517 _ A18.out).mono ?_
            rintro e w25 ⟨rfl, hb⟩
            refine ⟨_, rfl, ?_⟩
            replace BK512 := (pB BK512 hb)
            replace HB := (pS HB hb)
            (try clear hb)
            refine hK.out _ _ trivial (fun hHeld => ?_)
            clear hK K
            refine normA (N := some 38) ?_
            refine pureA (i := 14) (some 39) HT_ (tk 18 15) ?_
            refine pureA (i := 15) (some 40) HT_ (tk 18 16) ?_
            refine pureA (i := 16) (some 41) HT_ (tk 18 17) ?_
            refine pureA (i := 17) (some 4) HT_ (tk 18 18) ?_
            refine done_ (done_of HT_.out (by kernel_rfl)) ?_
            try go_wp2
            go_roundg k1
            case measure => have := HK1.out; omega
            case rel => exact ⟨(x4_1 ++ (((t516 ++ (⟨#[46]⟩ : ByteArray)) ++ t517) ++ (⟨#[46]⟩ : ByteArray))), (wrap64 (x7_1 - 1)), pT, pT, H', ⟨by have := HK1.out; omega⟩, ⟨pM BK512⟩, ⟨pE HB⟩⟩
           ·
            rw [if_neg c21] at H
            exact absurd H (by simp)
          ·
           rw [if_neg c20] at H
           exact absurd H (by simp)
         ·
          rw [if_neg c19] at H
          exact absurd H (by simp)
        ·
         rw [if_neg c16] at H
         exact absurd H (by simp)
       ·
        rw [if_neg c13] at H
        exact absurd H (by simp)
      ·
       rw [if_neg c12] at H
       exact absurd H (by simp)
     ·
      replace c11 := Bool.eq_false_iff.mpr c11
      subst c11
      rw [if_neg (show ¬ (false = true) by decide)] at H
      by_cases c26 : 0 ≤ x7_1
      ·
       rw [if_pos c26] at H
       have c26b0 := decide_eq_true c26
       clear c26
       by_cases c27 : x7_1 < (t514.size : Int)
       ·
        rw [if_pos c27] at H
        have c27b0 := decide_eq_true c27
        clear c27
        replace H := Option.bind_eq_some_iff.mp H
        obtain ⟨t518, A290, H⟩ := H
        have A29 := Aside0.mk A290
        clear A290
        by_cases c30 : t518.size + 1 ≤ 9223372036854775807
        ·
         rw [if_pos c30] at H
         have c30b0 := eq_true c30
         have c30b1 := decide_eq_true c30
         try have c30b2 : (9223372036854775807 < t518.size + 1) = False := eq_false (Nat.not_lt.2 c30)
         by_cases c31 : x4_1.size + (t518 ++ (⟨#[46]⟩ : ByteArray)).size ≤ 9223372036854775807
         ·
          rw [if_pos c31] at H
          have c31b0 := eq_true c31
          have c31b1 := decide_eq_true c31
          try have c31b2 : (9223372036854775807 < x4_1.size + (t518 ++ (⟨#[46]⟩ : ByteArray)).size) = False := eq_false (Nat.not_lt.2 c31)
          try have c31b2z := c31b2
          try simp only [go_sem, List.size_toArray, List.length_cons, List.length_nil, Nat.zero_add, Nat.reduceAdd] at c31b2z
          have H' := Aside0.mk H
          clear H
          obtain ⟨hcz32_0, hcz32_1, hcz32_2, hfz32_0, hfz32_1, hfz32_2⟩ := pC3 BK512
          have p28 : 0 ≤ (x7_1 : Int) := oD
          have q28 : x7_1 < (t514.size : Int) := oD
          have hx28 := bt_at t514 x7_1
          replace p28 := eq_true p28
          replace q28 := eq_true q28
          go_wp2_with (first | ((with_reducible refine gate_callee (f := 73) rfl ?_); refine goesA (some 47) Tryz.func73 #[.int .u64 (IntKind.u64.wrap (bt t514 x7_1))] ?_; (with_reducible refine (ddiref02_decimal.calls (IntKind.u64.wrap (bt t514 x7_1)) t518 _ A29.out).mono ?_); rintro e w33 ⟨rfl, hb⟩; refine ⟨_, rfl, ?_⟩; replace BK512 := (pB BK512 hb); replace HB := (pS HB hb); (try clear hb)))
          go_roundg k1
          case measure => have := HK1.out; omega
          case rel => exact ⟨(x4_1 ++ (t518 ++ (⟨#[46]⟩ : ByteArray))), (wrap64 (x7_1 - 1)), pT, pT, H', ⟨by have := HK1.out; omega⟩, ⟨pM BK512⟩, ⟨pE HB⟩⟩
         ·
          rw [if_neg c31] at H
          exact absurd H (by simp)
        ·
         rw [if_neg c30] at H
         exact absurd H (by simp)
       ·
        rw [if_neg c27] at H
        exact absurd H (by simp)
      ·
       rw [if_neg c26] at H
       exact absurd H (by simp)
    ·
     rw [if_neg c10] at H
     have c10b0 := decide_eq_false c10
     clear c10
     by_cases c34 : a0_0 = true
     ·
      subst c34
      have H1 : (if x4_1.size + 9 ≤ 9223372036854775807 then (some (x4_1 ++ (⟨#[105, 112, 54, 46, 97, 114, 112, 97, 46]⟩ : ByteArray), 0)) else (none)) = some (r1, r2) := by rw [if_pos rfl] at H; exact H
      clear H
      have H := H1
      clear H1
      by_cases c35 : x4_1.size + 9 ≤ 9223372036854775807
      ·
       rw [if_pos c35] at H
       have c35b0 := eq_true c35
       have c35b1 := decide_eq_true c35
       try have c35b2 : (9223372036854775807 < x4_1.size + 9) = False := eq_false (Nat.not_lt.2 c35)
       simp only [Option.some.injEq, Prod.mk.injEq] at H
       obtain ⟨rfl, rfl⟩ := H
       obtain ⟨hcz36_0, hcz36_1, hcz36_2, hfz36_0, hfz36_1, hfz36_2⟩ := pC3 BK512
       go_wp2
       go_ret2
       exact pR (pE HB)
      ·
       rw [if_neg c35] at H
       exact absurd H (by simp)
     ·
      replace c34 := Bool.eq_false_iff.mpr c34
      subst c34
      rw [if_neg (show ¬ (false = true) by decide)] at H
      by_cases c37 : x4_1.size + 13 ≤ 9223372036854775807
      ·
       rw [if_pos c37] at H
       have c37b0 := eq_true c37
       have c37b1 := decide_eq_true c37
       try have c37b2 : (9223372036854775807 < x4_1.size + 13) = False := eq_false (Nat.not_lt.2 c37)
       simp only [Option.some.injEq, Prod.mk.injEq] at H
       obtain ⟨rfl, rfl⟩ := H
       obtain ⟨hcz38_0, hcz38_1, hcz38_2, hfz38_0, hfz38_1, hfz38_2⟩ := pC3 BK512
       go_wp2
       go_ret2
       exact pR (pE HB)
      ·
       rw [if_neg c37] at H
       exact absurd H (by simp)
 ·
  replace c3 := Bool.eq_false_iff.mpr c3
  subst c3
  rw [if_neg (show ¬ (false = true) by decide)] at H
  simp only [Option.some.injEq, Prod.mk.injEq] at H
  obtain ⟨rfl, rfl⟩ := H
  go_enter Tryz.func48, Tryz.ntmps48
  go_wp2_with (first | ((with_reducible refine gate_dst (N := 1) rfl ?_); refine boxA (N := 1) (cs := #[.bool a0_0, .int .u64 a0_1, .int .u64 a0_2]) (t := 24) ?_; intro gb512 hg w39 hbox hb; have BK512 := Aside0.mk (hbox); have GE512 := (pZ HB hg); replace HB := (pS HB hb); clear hb hbox hg; obtain ⟨hcz40_0, hcz40_1, hcz40_2, hfz40_0, hfz40_1, hfz40_2⟩ := pC3 BK512) | ((with_reducible refine gate_callee (f := 54) rfl ?_); refine goesA (some 9) Tryz.func54 #[.agg #[.bool a0_0, .int .u64 a0_1, .int .u64 a0_2]] ?_; (with_reducible refine (ddiref02_Valid.calls a0_0 a0_1 a0_2 false _ A2.out).mono ?_); rintro e w41 ⟨rfl, hb⟩; refine ⟨_, rfl, ?_⟩; replace BK512 := (pB BK512 hb); replace HB := (pS HB hb); (try clear hb)))
  go_ret2
  exact pR (pE HB)

/-! ### ddiref03_labels: function 49 -/
mutual
def ddiref03_labels.l0 : Nat → ByteArray → Int → Int → Option (ByteArray)
 | 0, _, _, _ => none
 | k + 1, x0, x1, x5 => if x5 < (x0.size : Int) then (ddiref03_labels.j1 k x0 x1 x5 (decide (x1 > 0))) else (ddiref03_labels.j1 k x0 x1 x5 false)
def ddiref03_labels.j1 : Nat → ByteArray → Int → Int → Bool → Option (ByteArray)
 | 0, _, _, _, _ => none
 | k + 1, x0, x1, x5, x13 => if x13 = true then (if 0 ≤ x5 then (if x5 < (x0.size : Int) then (if (bt x0 x5) = 46 then (if (wrap64 (x1 - 1)) = 0 then (if 0 ≤ (wrap64 (x5 + 1)) then (if (wrap64 (x5 + 1)) ≤ (x0.size : Int) then (some (x0.extract ((wrap64 (x5 + 1)) : Int).toNat x0.size)) else (none)) else (none)) else (ddiref03_labels.l0 k x0 (wrap64 (x1 - 1)) (wrap64 (x5 + 1)))) else (ddiref03_labels.l0 k x0 x1 (wrap64 (x5 + 1)))) else (none)) else (none)) else (some x0)
end
def ddiref03_labels.f (k : Nat) (a0 : ByteArray) (a1 : Int) : Option (ByteArray) := ddiref03_labels.l0 k a0 a1 0
theorem ddiref03_labels.mono_l : ∀ k, (∀ y0 y1 y2, LeO (ddiref03_labels.l0 k y0 y1 y2) (ddiref03_labels.l0 (k + 1) y0 y1 y2)) ∧ (∀ y0 y1 y2 y3, LeO (ddiref03_labels.j1 k y0 y1 y2 y3) (ddiref03_labels.j1 (k + 1) y0 y1 y2 y3))
 | 0 => ⟨fun _ _ _ r h => by simp [ddiref03_labels.l0] at h, fun _ _ _ _ r h => by simp [ddiref03_labels.j1] at h⟩
 | k + 1 => by
  obtain ⟨ih0, ih1⟩ := ddiref03_labels.mono_l k
  refine ⟨?_, ?_⟩
  ·
   intro y0 y1 y2
   unfold ddiref03_labels.l0
   repeat' with_reducible first | exact ih0 _ _ _ | exact ih1 _ _ _ _ | exact LeO.refl _ | exact LeO.none _ | refine LeO.ite ?_ ?_ | refine LeO.bind ?_ (fun _ => ?_)
  ·
   intro y0 y1 y2 y3
   unfold ddiref03_labels.j1
   repeat' with_reducible first | exact ih0 _ _ _ | exact ih1 _ _ _ _ | exact LeO.refl _ | exact LeO.none _ | refine LeO.ite ?_ ?_ | refine LeO.bind ?_ (fun _ => ?_)
theorem ddiref03_labels.mono : ∀ a0 a1 k, LeO (ddiref03_labels.f k a0 a1) (ddiref03_labels.f (k + 1) a0 a1) := by
 intro a0 a1 k
 obtain ⟨ih0, ih1⟩ := ddiref03_labels.mono_l k
 unfold ddiref03_labels.f
 repeat' with_reducible first | exact ih0 _ _ _ | exact ih1 _ _ _ _ | exact LeO.refl _ | exact LeO.none _ | refine LeO.ite ?_ ?_ | refine LeO.bind ?_ (fun _ => ?_)
set_option maxHeartbeats 40000000 in
set_option maxRecDepth 100000 in
theorem ddiref03_labels.calls (k : Nat) (a0 : ByteArray) (a1 : Int) (r : ByteArray) (w : World) (h : ddiref03_labels.f k a0 a1 = some r) :
 Calls Tryz.prog 49 #[.string a0, .int .i64 a1] w fun e w' => e = .returned (.string r) ∧ Drawn0 w w' := by
 have H : (ddiref03_labels.l0 k a0 a1 0) = some r := h
 clear h
 have H' := Aside0.mk H
 clear H
 go_enter Tryz.func49, Tryz.ntmps49
 go_wp2
 go_loopg [1, 5] k (fun kq v1 v5 w' => ∃ (x1_1 : Int) (x5_1 : Int), v1 = .int .i64 x1_1 ∧ v5 = .int .i64 x5_1 ∧ Aside0 (ddiref03_labels.l0 kq a0 x1_1 x5_1 = some r) ∧ Aside0 (kq ≤ k) ∧ Drawn0 w w')
 case atStart => exact ⟨(a1), (0), pT, pT, H', ⟨Nat.le_refl _⟩, by repeat (first | exact Drawn0.refl _ | apply Drawn0.step)⟩
 case round =>
  clear H'
  obtain ⟨x1_1, x5_1, rfl, rfl, HA, HK1, ⟨m1, rfl⟩⟩ := hrel
  cases gk with
  | zero => exact absurd HA.out (by simp [ddiref03_labels.l0])
  | succ k1 =>
   have H := HA.out
   clear HA
   simp only [ddiref03_labels.l0] at H
   have HC3 := Aside0.mk H
   clear H
   go_upto_region 2 with (fail)
   go_cut [13] (fun v13 wc => ∃ (kq : Nat) (x13_2 : Bool), v13 = .bool x13_2 ∧ Aside0 (ddiref03_labels.j1 kq a0 x1_1 x5_1 x13_2 = some r) ∧ Aside0 (kq ≤ k1) ∧ Drawn0 w wc)
   case first =>
    have H := HC3.out
    clear HC3
    by_cases c4 : x5_1 < (a0.size : Int)
    ·
     rw [if_pos c4] at H
     have c4b0 := decide_eq_true c4
     clear c4
     (first | rw [c4b0] | (simp only [i64_w, i32_w]; rw [c4b0]) | skip)
     have H' := Aside0.mk H
     clear H
     go_wp2
     refine Met.intro ?_
     go_step
     (repeat apply Exists.intro)
     refine ⟨?rel, ?heq_⟩
     case heq_ => first | rfl | (rw [c4b0]) | (simp only [c4b0])
     case rel => exact ⟨_, (decide (x1_1 > 0)), pT, H', ⟨by have := HK1.out; first | omega | exact Nat.le_refl _⟩, by repeat (first | exact Drawn0.refl _ | apply Drawn0.step)⟩
    ·
     rw [if_neg c4] at H
     have c4b0 := decide_eq_false c4
     clear c4
     (first | rw [c4b0] | (simp only [i64_w, i32_w]; rw [c4b0]) | skip)
     have H' := Aside0.mk H
     clear H
     go_wp2
     refine Met.intro ?_
     go_step
     (repeat apply Exists.intro)
     refine ⟨?rel, ?heq_⟩
     case heq_ => first | rfl | (rw [c4b0]) | (simp only [c4b0])
     case rel => exact ⟨_, (false), pT, H', ⟨by have := HK1.out; first | omega | exact Nat.le_refl _⟩, by repeat (first | exact Drawn0.refl _ | apply Drawn0.step)⟩
   case rest =>
    clear HC3
    obtain ⟨kq, x13_2, rfl, HA, HJ2, ⟨mc2, rfl⟩⟩ := hcut
    cases kq with
    | zero => exact absurd HA.out (by simp [ddiref03_labels.j1])
    | succ kj2 =>
     have H := HA.out
     clear HA
     simp only [ddiref03_labels.j1] at H
     by_cases c5 : x13_2 = true
     ·
      subst c5
      rw [if_pos rfl] at H
      by_cases c6 : 0 ≤ x5_1
      ·
       rw [if_pos c6] at H
       have c6b0 := decide_eq_true c6
       clear c6
       by_cases c7 : x5_1 < (a0.size : Int)
       ·
        rw [if_pos c7] at H
        have c7b0 := decide_eq_true c7
        clear c7
        by_cases c9 : (bt a0 x5_1) = 46
        ·
         rw [if_pos c9] at H
         have c9b0 : ((bt a0 x5_1) == 46) = true := beq_iff_eq.mpr c9
         have c9b1 : ((bt a0 x5_1) != 46) = false := bne_eq_false_iff_eq.mpr c9
         clear c9
         by_cases c10 : (wrap64 (x1_1 - 1)) = 0
         ·
          rw [if_pos c10] at H
          have c10b0 : ((wrap64 (x1_1 - 1)) == 0) = true := beq_iff_eq.mpr c10
          have c10b1 : ((wrap64 (x1_1 - 1)) != 0) = false := bne_eq_false_iff_eq.mpr c10
          clear c10
          obtain ⟨ji11, hji11⟩ : ∃ j_ : Int, (wrap64 (x5_1 + 1)) = j_ := ⟨_, rfl⟩
          replace H : (if 0 ≤ (ji11) then (if (ji11) ≤ (a0.size : Int) then (some (a0.extract ((ji11) : Int).toNat a0.size)) else (none)) else (none)) = some r := by first | (rw [hji11] at H; exact H) | (simp only [hji11] at H ⊢; exact H)
          have hji11w : (IntKind.i64.wrap (x5_1 + 1)) = ji11 := (i64_w _).trans hji11
          by_cases c12 : 0 ≤ (ji11)
          ·
           rw [if_pos c12] at H
           have c12b0 := eq_true c12
           have c12b1 := decide_eq_true c12
           clear c12
           by_cases c13 : (ji11) ≤ (a0.size : Int)
           ·
            rw [if_pos c13] at H
            have c13b0 := eq_true c13
            have c13b1 := decide_eq_true c13
            clear c13
            obtain rfl := Option.some.inj H
            have p8 : 0 ≤ (x5_1 : Int) := oD
            have q8 : x5_1 < (a0.size : Int) := oD
            have hx8 := bt_at a0 x5_1
            replace p8 := eq_true p8
            replace q8 := eq_true q8
            go_wp2
            go_ret
            exact ⟨by first | rfl | (simp; done) | (simp only [← hji11] <;> (first | rfl | simp)) | (simp [*]; done) | ((try simp only [Bool.not_not]); (generalize ByteArray.toList _ = l_); cases l_ <;> rfl) | (simp; (generalize ByteArray.toList _ = l_); cases l_ <;> rfl), by repeat (first | exact Drawn0.refl _ | apply Drawn0.step)⟩
           ·
            rw [if_neg c13] at H
            exact absurd H (by simp)
          ·
           rw [if_neg c12] at H
           exact absurd H (by simp)
         ·
          rw [if_neg c10] at H
          have c10b0 : ((wrap64 (x1_1 - 1)) == 0) = false := beq_eq_false_iff_ne.mpr c10
          have c10b1 : ((wrap64 (x1_1 - 1)) != 0) = true := bne_iff_ne.mpr c10
          have H' := Aside0.mk H
          clear H
          have p8 : 0 ≤ (x5_1 : Int) := oD
          have q8 : x5_1 < (a0.size : Int) := oD
          have hx8 := bt_at a0 x5_1
          replace p8 := eq_true p8
          replace q8 := eq_true q8
          go_wp2
          go_roundg kj2
          case measure => have := HK1.out; have := HJ2.out; omega
          case rel => exact ⟨(wrap64 (x1_1 - 1)), (wrap64 (x5_1 + 1)), pT, pT, H', ⟨by have := HK1.out; have := HJ2.out; omega⟩, by repeat (first | exact Drawn0.refl _ | apply Drawn0.step)⟩
        ·
         rw [if_neg c9] at H
         have c9b0 : ((bt a0 x5_1) == 46) = false := beq_eq_false_iff_ne.mpr c9
         have c9b1 : ((bt a0 x5_1) != 46) = true := bne_iff_ne.mpr c9
         have H' := Aside0.mk H
         clear H
         have p8 : 0 ≤ (x5_1 : Int) := oD
         have q8 : x5_1 < (a0.size : Int) := oD
         have hx8 := bt_at a0 x5_1
         replace p8 := eq_true p8
         replace q8 := eq_true q8
         go_wp2
         go_roundg kj2
         case measure => have := HK1.out; have := HJ2.out; omega
         case rel => exact ⟨(x1_1), (wrap64 (x5_1 + 1)), pT, pT, H', ⟨by have := HK1.out; have := HJ2.out; omega⟩, by repeat (first | exact Drawn0.refl _ | apply Drawn0.step)⟩
       ·
        rw [if_neg c7] at H
        exact absurd H (by simp)
      ·
       rw [if_neg c6] at H
       exact absurd H (by simp)
     ·
      replace c5 := Bool.eq_false_iff.mpr c5
      subst c5
      rw [if_neg (show ¬ (false = true) by decide)] at H
      obtain rfl := Option.some.inj H
      go_wp2
      go_ret
      exact pV

/-! ### ddiref03_Zone: function 19 -/
mutual
def ddiref03_Zone.j0 : Nat → Int → Bool → Int → Int → Int → Option (ByteArray × Bool)
 | 0, _, _, _, _, _ => none
 | k + 1, x4, x520000, x520001, x520002, x520003 => (ddiref03_Valid.f k x520000 x520001 x520002 x520003).bind fun t520 => (if t520 = true then (if x4 = 0 then (none) else (ddiref03_Zone.j1 k x4 ((Int.tmod x520003 x4) != 0) x520000 x520001 x520002 x520003)) else (ddiref03_Zone.j1 k x4 true x520000 x520001 x520002 x520003))
def ddiref03_Zone.j1 : Nat → Int → Bool → Bool → Int → Int → Int → Option (ByteArray × Bool)
 | 0, _, _, _, _, _, _ => none
 | k + 1, x4, x19, x520000, x520001, x520002, x520003 => if x19 = true then (some ((⟨#[]⟩ : ByteArray), false)) else ((ddiref02_Reverse.f k x520000 x520001 x520002).bind fun bt521 => ((ddiref03_Long.f x520000).bind fun t523 => (if x4 = 0 then (none) else ((ddiref03_labels.f k bt521.1 (wrap64 (Int.tdiv (wrap64 (t523 - x520003)) x4))).bind fun t524 => (some (t524, true))))))
end
def ddiref03_Zone.f (k : Nat) (a0_0 : Bool) (a0_1 : Int) (a0_2 : Int) (a0_3 : Int) : Option (ByteArray × Bool) := if a0_0 = true then (ddiref03_Zone.j0 k 4 a0_0 a0_1 a0_2 a0_3) else (ddiref03_Zone.j0 k 8 a0_0 a0_1 a0_2 a0_3)
theorem ddiref03_Zone.mono_l : ∀ k, (∀ y0 y1 y2 y3 y4, LeO (ddiref03_Zone.j0 k y0 y1 y2 y3 y4) (ddiref03_Zone.j0 (k + 1) y0 y1 y2 y3 y4)) ∧ (∀ y0 y1 y2 y3 y4 y5, LeO (ddiref03_Zone.j1 k y0 y1 y2 y3 y4 y5) (ddiref03_Zone.j1 (k + 1) y0 y1 y2 y3 y4 y5))
 | 0 => ⟨fun _ _ _ _ _ r h => by simp [ddiref03_Zone.j0] at h, fun _ _ _ _ _ _ r h => by simp [ddiref03_Zone.j1] at h⟩
 | k + 1 => by
  obtain ⟨ih0, ih1⟩ := ddiref03_Zone.mono_l k
  refine ⟨?_, ?_⟩
  ·
   intro y0 y1 y2 y3 y4
   unfold ddiref03_Zone.j0
   repeat' with_reducible first | exact ih0 _ _ _ _ _ | exact ih1 _ _ _ _ _ _ | exact ddiref02_Reverse.mono _ _ _ _ | exact ddiref03_Valid.mono _ _ _ _ _ | exact ddiref03_labels.mono _ _ _ | exact LeO.refl _ | exact LeO.none _ | refine LeO.ite ?_ ?_ | refine LeO.bind ?_ (fun _ => ?_)
  ·
   intro y0 y1 y2 y3 y4 y5
   unfold ddiref03_Zone.j1
   repeat' with_reducible first | exact ih0 _ _ _ _ _ | exact ih1 _ _ _ _ _ _ | exact ddiref02_Reverse.mono _ _ _ _ | exact ddiref03_Valid.mono _ _ _ _ _ | exact ddiref03_labels.mono _ _ _ | exact LeO.refl _ | exact LeO.none _ | refine LeO.ite ?_ ?_ | refine LeO.bind ?_ (fun _ => ?_)
theorem ddiref03_Zone.mono : ∀ a0 a1 a2 a3 k, LeO (ddiref03_Zone.f k a0 a1 a2 a3) (ddiref03_Zone.f (k + 1) a0 a1 a2 a3) := by
 intro a0 a1 a2 a3 k
 obtain ⟨ih0, ih1⟩ := ddiref03_Zone.mono_l k
 unfold ddiref03_Zone.f
 repeat' with_reducible first | exact ih0 _ _ _ _ _ | exact ih1 _ _ _ _ _ _ | exact ddiref02_Reverse.mono _ _ _ _ | exact ddiref03_Valid.mono _ _ _ _ _ | exact ddiref03_labels.mono _ _ _ | exact LeO.refl _ | exact LeO.none _ | refine LeO.ite ?_ ?_ | refine LeO.bind ?_ (fun _ => ?_)
set_option maxHeartbeats 40000000 in
set_option maxRecDepth 100000 in
theorem ddiref03_Zone.calls (k : Nat) (a0_0 : Bool) (a0_1 : Int) (a0_2 : Int) (a0_3 : Int) (r1 : ByteArray) (r2 : Bool) (w : World) (h : ddiref03_Zone.f k a0_0 a0_1 a0_2 a0_3 = some (r1, r2)) :
 Calls Tryz.prog 19 #[.agg #[.bool a0_0, .int .u64 a0_1, .int .u64 a0_2, .int .i64 a0_3]] w fun e w' => e = .returned (.tuple #[.string r1, .bool r2]) ∧ Below w.heap.size w w' := by
 have hu26 := Tryz.underlying26
 have hu24 := Tryz.underlying24
 have HB := Aside0.mk (Below.refl w.heap.size w)
 have H : (if a0_0 = true then (ddiref03_Zone.j0 k 4 a0_0 a0_1 a0_2 a0_3) else (ddiref03_Zone.j0 k 8 a0_0 a0_1 a0_2 a0_3)) = some (r1, r2) := h
 clear h
 have HC2 := Aside0.mk H
 clear H
 go_enter Tryz.func19, Tryz.ntmps19
 go_upto_if 9 with (first | ((with_reducible refine gate_dst (N := 1) rfl ?_); refine boxA (N := 1) (cs := #[.bool a0_0, .int .u64 a0_1, .int .u64 a0_2, .int .i64 a0_3]) (t := 26) ?_; intro gb519 hg w3 hbox hb; have BK519 := Aside0.mk (hbox); have GE519 := (pZ HB hg); replace HB := (pS HB hb); clear hb hbox hg; obtain ⟨hcz4_0, hcz4_1, hcz4_2, hcz4_3, hfz4_0, hfz4_1, hfz4_2, hfz4_3⟩ := pC4 BK519))
 repeat (go_quiet (first | ((with_reducible refine gate_dst (N := 1) rfl ?_); refine boxA (N := 1) (cs := #[.bool a0_0, .int .u64 a0_1, .int .u64 a0_2, .int .i64 a0_3]) (t := 26) ?_; intro gb519 hg w3 hbox hb; have BK519 := Aside0.mk (hbox); have GE519 := (pZ HB hg); replace HB := (pS HB hb); clear hb hbox hg; obtain ⟨hcz4_0, hcz4_1, hcz4_2, hcz4_3, hfz4_0, hfz4_1, hfz4_2, hfz4_3⟩ := pC4 BK519)); go_upto_if 9 with (first | ((with_reducible refine gate_dst (N := 1) rfl ?_); refine boxA (N := 1) (cs := #[.bool a0_0, .int .u64 a0_1, .int .u64 a0_2, .int .i64 a0_3]) (t := 26) ?_; intro gb519 hg w3 hbox hb; have BK519 := Aside0.mk (hbox); have GE519 := (pZ HB hg); replace HB := (pS HB hb); clear hb hbox hg; obtain ⟨hcz4_0, hcz4_1, hcz4_2, hcz4_3, hfz4_0, hfz4_1, hfz4_2, hfz4_3⟩ := pC4 BK519)))
 (try simp only [Act.put, List.setIfInBounds_toArray, List.set_cons_zero, List.set_cons_succ])
 go_cut [4] (fun v4 wc => ∃ (kq : Nat) (x4_1 : Int), v4 = .int .i64 x4_1 ∧ Aside0 (ddiref03_Zone.j0 kq x4_1 a0_0 a0_1 a0_2 a0_3 = some (r1, r2)) ∧ Aside0 (kq ≤ k) ∧ Aside0 (wc.heap[gb519]? = some (.cells #[.bool a0_0, .int .u64 a0_1, .int .u64 a0_2, .int .i64 a0_3] 26 (0, 0))) ∧ Aside0 (Below w.heap.size w wc))
 case first =>
  have H := HC2.out
  clear HC2
  by_cases c5 : a0_0 = true
  ·
   subst c5
   have H1 : (ddiref03_Zone.j0 k 4 true a0_1 a0_2 a0_3) = some (r1, r2) := by rw [if_pos rfl] at H; exact H
   clear H
   have H := H1
   clear H1
   have H' := Aside0.mk H
   clear H
   go_wp2
   repeat (go_quiet (fail); try go_wp2)
   go_meet
   case rel => exact ⟨_, (4), pT, H', ⟨by first | omega | exact Nat.le_refl _⟩, ⟨pM BK519⟩, ⟨pE HB⟩⟩
  ·
   replace c5 := Bool.eq_false_iff.mpr c5
   subst c5
   rw [if_neg (show ¬ (false = true) by decide)] at H
   have H' := Aside0.mk H
   clear H
   go_wp2
   repeat (go_quiet (fail); try go_wp2)
   go_meet
   case rel => exact ⟨_, (8), pT, H', ⟨by first | omega | exact Nat.le_refl _⟩, ⟨pM BK519⟩, ⟨pE HB⟩⟩
 case rest =>
  clear HC2
  try clear hcz4_0 hcz4_1 hcz4_2 hcz4_3
  try clear hfz4_0 hfz4_1 hfz4_2 hfz4_3
  obtain ⟨kq, x4_1, rfl, HA, HJ1, BK519, HB⟩ := hcut
  cases kq with
  | zero => exact absurd HA.out (by simp [ddiref03_Zone.j0])
  | succ kj1 =>
   have H := HA.out
   clear HA
   simp only [ddiref03_Zone.j0] at H
   have HC6 := Aside0.mk H
   clear H
   go_upto_region 4 with (fail)
   repeat (go_quiet (fail); go_upto_region 4 with (fail))
   go_cut [19] (fun v19 wc => ∃ (kq : Nat) (x19_5 : Bool), v19 = .bool x19_5 ∧ Aside0 (ddiref03_Zone.j1 kq x4_1 x19_5 a0_0 a0_1 a0_2 a0_3 = some (r1, r2)) ∧ Aside0 (kq ≤ kj1) ∧ Aside0 (wc.heap[gb519]? = some (.cells #[.bool a0_0, .int .u64 a0_1, .int .u64 a0_2, .int .i64 a0_3] 26 (0, 0))) ∧ Aside0 (Below w.heap.size w wc))
   case first =>
    have H := HC6.out
    clear HC6
    replace H := Option.bind_eq_some_iff.mp H
    obtain ⟨t520, A70, H⟩ := H
    have A7 := Aside0.mk A70
    clear A70
    by_cases c8 : t520 = true
    ·
     subst c8
     have H1 : (if x4_1 = 0 then (none) else (ddiref03_Zone.j1 kj1 x4_1 ((Int.tmod a0_3 x4_1) != 0) a0_0 a0_1 a0_2 a0_3)) = some (r1, r2) := by rw [if_pos rfl] at H; exact H
     clear H
     have H := H1
     clear H1
     by_cases c9 : x4_1 = 0
     ·
      rw [if_pos c9] at H
      exact absurd H (by simp)
     ·
      rw [if_neg c9] at H
      have c9b0 : (x4_1 == 0) = false := beq_eq_false_iff_ne.mpr c9
      have c9b1 : (x4_1 != 0) = true := bne_iff_ne.mpr c9
      (first | rw [c9b0] | (simp only [i64_w, i32_w]; rw [c9b0]) | skip)
      have H' := Aside0.mk H
      clear H
      obtain ⟨hcz10_0, hcz10_1, hcz10_2, hcz10_3, hfz10_0, hfz10_1, hfz10_2, hfz10_3⟩ := pC4 BK519
      go_wp2_with (first | (go_at_call 27; (with_reducible refine (ddiref03_Valid.calls kj1 a0_0 a0_1 a0_2 a0_3 true _ A7.out).mono ?_); rintro e w11 ⟨rfl, hb⟩; replace BK519 := (pB BK519 hb); replace HB := (pS HB hb); (try clear hb); obtain ⟨hcz12_0, hcz12_1, hcz12_2, hcz12_3, hfz12_0, hfz12_1, hfz12_2, hfz12_3⟩ := pC4 BK519))
      repeat (go_quiet (first | (go_at_call 27; (with_reducible refine (ddiref03_Valid.calls kj1 a0_0 a0_1 a0_2 a0_3 true _ A7.out).mono ?_); rintro e w11 ⟨rfl, hb⟩; replace BK519 := (pB BK519 hb); replace HB := (pS HB hb); (try clear hb); obtain ⟨hcz12_0, hcz12_1, hcz12_2, hcz12_3, hfz12_0, hfz12_1, hfz12_2, hfz12_3⟩ := pC4 BK519)); try go_wp2_with (first | (go_at_call 27; (with_reducible refine (ddiref03_Valid.calls kj1 a0_0 a0_1 a0_2 a0_3 true _ A7.out).mono ?_); rintro e w11 ⟨rfl, hb⟩; replace BK519 := (pB BK519 hb); replace HB := (pS HB hb); (try clear hb); obtain ⟨hcz12_0, hcz12_1, hcz12_2, hcz12_3, hfz12_0, hfz12_1, hfz12_2, hfz12_3⟩ := pC4 BK519)))
      refine Met.intro ?_
      go_step
      (repeat apply Exists.intro)
      refine ⟨?rel, ?heq_⟩
      case heq_ => first | rfl | (rw [c9b0]) | (simp only [c9b0])
      case rel => exact ⟨_, (((Int.tmod a0_3 x4_1) != 0)), pT, H', ⟨by have := HJ1.out; first | omega | exact Nat.le_refl _⟩, ⟨pM BK519⟩, ⟨pE HB⟩⟩
    ·
     replace c8 := Bool.eq_false_iff.mpr c8
     subst c8
     rw [if_neg (show ¬ (false = true) by decide)] at H
     have H' := Aside0.mk H
     clear H
     obtain ⟨hcz13_0, hcz13_1, hcz13_2, hcz13_3, hfz13_0, hfz13_1, hfz13_2, hfz13_3⟩ := pC4 BK519
     go_wp2_with (first | (go_at_call 27; (with_reducible refine (ddiref03_Valid.calls kj1 a0_0 a0_1 a0_2 a0_3 false _ A7.out).mono ?_); rintro e w14 ⟨rfl, hb⟩; replace BK519 := (pB BK519 hb); replace HB := (pS HB hb); (try clear hb)))
     repeat (go_quiet (first | (go_at_call 27; (with_reducible refine (ddiref03_Valid.calls kj1 a0_0 a0_1 a0_2 a0_3 false _ A7.out).mono ?_); rintro e w14 ⟨rfl, hb⟩; replace BK519 := (pB BK519 hb); replace HB := (pS HB hb); (try clear hb))); try go_wp2_with (first | (go_at_call 27; (with_reducible refine (ddiref03_Valid.calls kj1 a0_0 a0_1 a0_2 a0_3 false _ A7.out).mono ?_); rintro e w14 ⟨rfl, hb⟩; replace BK519 := (pB BK519 hb); replace HB := (pS HB hb); (try clear hb))))
     go_meet
     case rel => exact ⟨_, (true), pT, H', ⟨by have := HJ1.out; first | omega | exact Nat.le_refl _⟩, ⟨pM BK519⟩, ⟨pE HB⟩⟩
   case rest =>
    clear HC6
    try clear hcz4_0 hcz4_1 hcz4_2 hcz4_3
    try clear hfz4_0 hfz4_1 hfz4_2 hfz4_3
    obtain ⟨kq, x19_5, rfl, HA, HJ5, BK519, HB⟩ := hcut
    cases kq with
    | zero => exact absurd HA.out (by simp [ddiref03_Zone.j1])
    | succ kj5 =>
     have H := HA.out
     clear HA
     simp only [ddiref03_Zone.j1] at H
     by_cases c15 : x19_5 = true
     ·
      subst c15
      have H1 : (some ((⟨#[]⟩ : ByteArray), false)) = some (r1, r2) := by rw [if_pos rfl] at H; exact H
      clear H
      have H := H1
      clear H1
      simp only [Option.some.injEq, Prod.mk.injEq] at H
      obtain ⟨rfl, rfl⟩ := H
      go_wp2
      repeat (go_quiet (fail); try go_wp2)
      go_ret2
      exact pR (pE HB)
     ·
      replace c15 := Bool.eq_false_iff.mpr c15
      subst c15
      rw [if_neg (show ¬ (false = true) by decide)] at H
      replace H := Option.bind_eq_some_iff.mp H
      obtain ⟨⟨t521, t522⟩, A160, H⟩ := H
      replace H : ((ddiref03_Long.f a0_0).bind fun t523 => (if x4_1 = 0 then (none) else ((ddiref03_labels.f kj5 t521 (wrap64 (Int.tdiv (wrap64 (t523 - a0_3)) x4_1))).bind fun t524 => (some (t524, true))))) = some (r1, r2) := H
      have A16 := Aside0.mk A160
      clear A160
      replace H := Option.bind_eq_some_iff.mp H
      obtain ⟨t523, A170, H⟩ := H
      have A17 := Aside0.mk A170
      clear A170
      by_cases c18 : x4_1 = 0
      ·
       rw [if_pos c18] at H
       exact absurd H (by simp)
      ·
       rw [if_neg c18] at H
       have c18b0 : (x4_1 == 0) = false := beq_eq_false_iff_ne.mpr c18
       have c18b1 : (x4_1 != 0) = true := bne_iff_ne.mpr c18
       replace H := Option.bind_eq_some_iff.mp H
       obtain ⟨t524, A190, H⟩ := H
       have A19 := Aside0.mk A190
       clear A190
       simp only [Option.some.injEq, Prod.mk.injEq] at H
       obtain ⟨rfl, rfl⟩ := H
       obtain ⟨hcz20_0, hcz20_1, hcz20_2, hcz20_3, hfz20_0, hfz20_1, hfz20_2, hfz20_3⟩ := pC4 BK519
       go_wp2_with (first | (go_at_call 48; (with_reducible refine (ddiref02_Reverse.calls kj5 a0_0 a0_1 a0_2 t521 t522 _ A16.out).mono ?_); rintro e w21 ⟨rfl, hb⟩; replace BK519 := (pB BK519 hb); replace HB := (pS HB hb); (try clear hb); obtain ⟨hcz22_0, hcz22_1, hcz22_2, hcz22_3, hfz22_0, hfz22_1, hfz22_2, hfz22_3⟩ := pC4 BK519) | (go_at_call 45; (with_reducible refine (ddiref03_Long.calls a0_0 t523 _ A17.out).mono ?_); rintro e w' ⟨rfl, ⟨nd, rfl⟩⟩; (try first | exact ⟨rfl, _, World.drewN_drewN _ _ _⟩ | exact ⟨rfl, _, Eq.trans (World.drewN_drewN _ _ _) (congrArg (World.drewN _) (Nat.add_assoc _ _ _))⟩)) | (go_at_call 49; (with_reducible refine (ddiref03_labels.calls kj5 t521 (wrap64 (Int.tdiv (wrap64 (t523 - a0_3)) x4_1)) t524 _ A19.out).mono ?_); rintro e w' ⟨rfl, ⟨nd, rfl⟩⟩; (try first | exact ⟨rfl, _, World.drewN_drewN _ _ _⟩ | exact ⟨rfl, _, Eq.trans (World.drewN_drewN _ _ _) (congrArg (World.drewN _) (Nat.add_assoc _ _ _))⟩)))
       repeat (go_quiet (first | (go_at_call 48; (with_reducible refine (ddiref02_Reverse.calls kj5 a0_0 a0_1 a0_2 t521 t522 _ A16.out).mono ?_); rintro e w21 ⟨rfl, hb⟩; replace BK519 := (pB BK519 hb); replace HB := (pS HB hb); (try clear hb); obtain ⟨hcz22_0, hcz22_1, hcz22_2, hcz22_3, hfz22_0, hfz22_1, hfz22_2, hfz22_3⟩ := pC4 BK519) | (go_at_call 45; (with_reducible refine (ddiref03_Long.calls a0_0 t523 _ A17.out).mono ?_); rintro e w' ⟨rfl, ⟨nd, rfl⟩⟩; (try first | exact ⟨rfl, _, World.drewN_drewN _ _ _⟩ | exact ⟨rfl, _, Eq.trans (World.drewN_drewN _ _ _) (congrArg (World.drewN _) (Nat.add_assoc _ _ _))⟩)) | (go_at_call 49; (with_reducible refine (ddiref03_labels.calls kj5 t521 (wrap64 (Int.tdiv (wrap64 (t523 - a0_3)) x4_1)) t524 _ A19.out).mono ?_); rintro e w' ⟨rfl, ⟨nd, rfl⟩⟩; (try first | exact ⟨rfl, _, World.drewN_drewN _ _ _⟩ | exact ⟨rfl, _, Eq.trans (World.drewN_drewN _ _ _) (congrArg (World.drewN _) (Nat.add_assoc _ _ _))⟩))); try go_wp2_with (first | (go_at_call 48; (with_reducible refine (ddiref02_Reverse.calls kj5 a0_0 a0_1 a0_2 t521 t522 _ A16.out).mono ?_); rintro e w21 ⟨rfl, hb⟩; replace BK519 := (pB BK519 hb); replace HB := (pS HB hb); (try clear hb); obtain ⟨hcz22_0, hcz22_1, hcz22_2, hcz22_3, hfz22_0, hfz22_1, hfz22_2, hfz22_3⟩ := pC4 BK519) | (go_at_call 45; (with_reducible refine (ddiref03_Long.calls a0_0 t523 _ A17.out).mono ?_); rintro e w' ⟨rfl, ⟨nd, rfl⟩⟩; (try first | exact ⟨rfl, _, World.drewN_drewN _ _ _⟩ | exact ⟨rfl, _, Eq.trans (World.drewN_drewN _ _ _) (congrArg (World.drewN _) (Nat.add_assoc _ _ _))⟩)) | (go_at_call 49; (with_reducible refine (ddiref03_labels.calls kj5 t521 (wrap64 (Int.tdiv (wrap64 (t523 - a0_3)) x4_1)) t524 _ A19.out).mono ?_); rintro e w' ⟨rfl, ⟨nd, rfl⟩⟩; (try first | exact ⟨rfl, _, World.drewN_drewN _ _ _⟩ | exact ⟨rfl, _, Eq.trans (World.drewN_drewN _ _ _) (congrArg (World.drewN _) (Nat.add_assoc _ _ _))⟩))))
       go_ret2
       exact pR (pE HB)
end Go.Proofs.YteflcmmandlknaaGreatDoor.PA
