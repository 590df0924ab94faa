/- The Go functions in Lean, with the proofs that the code comes to these answers: printed by this session's program (wip/px) out of the seat's translation. Conditions: each theorem's own. -/
import Derived.Test.YteflcmmandlknaaGreatDoorPAx0
import Derived.Test.YteflcmmandlknaaGreatDoorPAx2
import Derived.Test.YteflcmmandlknaaGreatDoorPAx10
import Derived.Test.YteflcmmandlknaaGreatDoorPAx12
import Derived.Test.YteflcmmandlknaaGreatDoorPAx21
namespace Go.Proofs.YteflcmmandlknaaGreatDoor.PA
open Go.RowKit Go.Proofs.YteflcmmandlknaaGreatDoorW.PrintWords Go.Proofs.YteflcmmandlknaaGreatDoorW.PrintLast Go.Proofs.YteflcmmandlknaaGreatDoorW.PrintMore
attribute [local go_sem] max2_int min2_int max_two min_two max_three min_three max_four min_four   -- for this text's walks alone
attribute [local go_sem ↓] Ext.isSome_setCell
open Press
set_option linter.unusedVariables false
set_option linter.unusedSimpArgs false
attribute [local go_sem high] eqA26
/-! ### ddilaw03_PrefixCovers: function 5 -/
def ddilaw03_PrefixCovers.l0 : Nat → List (S26) → List (S26) → Int → Option (Bool)
 | 0, _, _, _ => none
 | k + 1, x3, x4, x5 => if x5 < (x3.length : Int) then (if 0 ≤ x5 then (if x5 < (x4.length : Int) then (if ((!(((rd_T26 x3 x5).f0.f0) == ((rd_T26 x4 x5).f0.f0)) || (!(((rd_T26 x3 x5).f0.f1) == ((rd_T26 x4 x5).f0.f1)) || (!(((rd_T26 x3 x5).f0.f2) == ((rd_T26 x4 x5).f0.f2))))) || (!(((rd_T26 x3 x5).f1) == ((rd_T26 x4 x5).f1)))) = true then (none) else (ddilaw03_PrefixCovers.l0 k x3 x4 (wrap64 (x5 + 1)))) else (none)) else (none)) else ((ddilaw03_awake.f k).bind fun t445 => (some t445))
def ddilaw03_PrefixCovers.f (k : Nat) (a0_0 : Bool) (a0_1 : Int) (a0_2 : Int) (a0_3 : Bool) (a0_4 : Int) (a0_5 : Int) : Option (Bool) := (prefix_Cover.f k a0_0 a0_1 a0_2 a0_3 a0_4 a0_5).bind fun t437 => ((ddiref03_Cover.f k a0_0 a0_1 a0_2 a0_3 a0_4 a0_5).bind fun t440 => (if (t437.length : Int) = (t440.length : Int) then (ddilaw03_PrefixCovers.l0 k t437 t440 0) else (none)))
theorem ddilaw03_PrefixCovers.mono_l : ∀ k, (∀ y0 y1 y2, LeO (ddilaw03_PrefixCovers.l0 k y0 y1 y2) (ddilaw03_PrefixCovers.l0 (k + 1) y0 y1 y2))
 | 0 => fun _ _ _ r h => by simp [ddilaw03_PrefixCovers.l0] at h
 | k + 1 => by
  have ih0 := ddilaw03_PrefixCovers.mono_l k
  ·
   intro y0 y1 y2
   unfold ddilaw03_PrefixCovers.l0
   repeat' with_reducible first | exact ih0 _ _ _ | exact ddilaw03_awake.mono _ | exact ddiref03_Cover.mono _ _ _ _ _ _ _ | exact prefix_Cover.mono _ _ _ _ _ _ _ | exact LeO.refl _ | exact LeO.none _ | refine LeO.ite ?_ ?_ | refine LeO.bind ?_ (fun _ => ?_)
theorem ddilaw03_PrefixCovers.mono : ∀ a0 a1 a2 a3 a4 a5 k, LeO (ddilaw03_PrefixCovers.f k a0 a1 a2 a3 a4 a5) (ddilaw03_PrefixCovers.f (k + 1) a0 a1 a2 a3 a4 a5) := by
 intro a0 a1 a2 a3 a4 a5 k
 have ih0 := ddilaw03_PrefixCovers.mono_l k
 unfold ddilaw03_PrefixCovers.f
 repeat' with_reducible first | exact ih0 _ _ _ | exact ddilaw03_awake.mono _ | exact ddiref03_Cover.mono _ _ _ _ _ _ _ | exact prefix_Cover.mono _ _ _ _ _ _ _ | exact LeO.refl _ | exact LeO.none _ | refine LeO.ite ?_ ?_ | refine LeO.bind ?_ (fun _ => ?_)
def ddilaw03_PrefixCovers.T7 : Bool × List (List Nat × List Nat) := (true, [([], []), ([], []), ([0, 1], [0, 1]), ([2], [2]), ([], []), ([], []), ([4, 5], [4, 5]), ([6], [6]), ([3, 7], [3, 7])])
def ddilaw03_PrefixCovers.B7 : List Nat := [0, 0, 3, 7, 0, 0, 48, 112, 255]
theorem ddilaw03_PrefixCovers.tab7 : rtab .any (opsOf Tryz.f5 7) = ddilaw03_PrefixCovers.T7 := by kernel_rfl
theorem ddilaw03_PrefixCovers.bits7 : waitsOk ddilaw03_PrefixCovers.T7.2 ddilaw03_PrefixCovers.B7 = true := by kernel_rfl
set_option maxHeartbeats 40000000 in
set_option maxRecDepth 100000 in
theorem ddilaw03_PrefixCovers.calls (k : Nat) (a0_0 : Bool) (a0_1 : Int) (a0_2 : Int) (a0_3 : Bool) (a0_4 : Int) (a0_5 : Int) (r : Bool) (w : World) (hLD : Laid w) (h : ddilaw03_PrefixCovers.f k a0_0 a0_1 a0_2 a0_3 a0_4 a0_5 = some r) :
 Calls Tryz.prog 5 #[.agg #[.bool a0_0, .int .u64 a0_1, .int .u64 a0_2, .bool a0_3, .int .u64 a0_4, .int .u64 a0_5]] w fun e w' => e = .returned (.bool r) ∧ Below w.heap.size w w' := by
 have hu33 := Tryz.underlying33
 have hu26 := Tryz.underlying26
 have HLD := Aside0.mk hLD
 clear hLD
 have HB := Aside0.mk (Below.refl w.heap.size w)
 have H : ((prefix_Cover.f k a0_0 a0_1 a0_2 a0_3 a0_4 a0_5).bind fun t437 => ((ddiref03_Cover.f k a0_0 a0_1 a0_2 a0_3 a0_4 a0_5).bind fun t440 => (if (t437.length : Int) = (t440.length : Int) then (ddilaw03_PrefixCovers.l0 k t437 t440 0) else (none)))) = some r := h
 clear h
 replace H := Option.bind_eq_some_iff.mp H
 obtain ⟨t437, A20, H⟩ := H
 have A2 := Aside0.mk A20
 clear A20
 replace H := Option.bind_eq_some_iff.mp H
 obtain ⟨t440, A30, H⟩ := H
 have A3 := Aside0.mk A30
 clear A30
 by_cases c4 : (t437.length : Int) = (t440.length : Int)
 ·
  rw [if_pos c4] at H
  have c4b0 : ((t437.length : Int) == (t440.length : Int)) = true := beq_iff_eq.mpr c4
  have c4b1 : ((t437.length : Int) != (t440.length : Int)) = false := bne_eq_false_iff_eq.mpr c4
  have c4b2 : (t437.length == t440.length) = true := by first | simpa using c4 | (simp at c4 ⊢; omega)
  clear c4
  have H' := Aside0.mk H
  clear H
  go_enter Tryz.func5, Tryz.ntmps5
  try go_wp2_with (first | ((with_reducible refine gate_ (.load 33 (.tmp 1)) rfl ?_); refine wpList_load_row (by rfl) 33 (.tmp 1) (by rfl) _ (by rfl) 33 _ (0, 0) _ (by first | exact BK436.out | exact pQ BK436) hu33 (by rfl) (by kernel_rfl) ?_) | ((with_reducible refine gate_dst (N := 1) rfl ?_); refine boxA (N := 1) (cs := #[.bool a0_0, .int .u64 a0_1, .int .u64 a0_2, .bool a0_3, .int .u64 a0_4, .int .u64 a0_5]) (t := 33) ?_; intro gb436 hg w5 hbox hb; have BK436 := Aside0.mk (hbox); have GE436 := (pZ HB hg); replace HB := (pS HB hb); clear hb hbox hg))
  replace BK436 := Aside0.mk (blk_drew BK436.out)
  replace HB := Aside0.mk (below_drew1 HB.out)
  refine start_ (n := 6) (S := fun w' => w'.cell? ⟨gb436, 0, none⟩ = some (.bool a0_0) ∧ w'.cell? ⟨gb436, 1, none⟩ = some (.int .u64 a0_1) ∧ w'.cell? ⟨gb436, 2, none⟩ = some (.int .u64 a0_2) ∧ w'.cell? ⟨gb436, 3, none⟩ = some (.bool a0_3) ∧ w'.cell? ⟨gb436, 4, none⟩ = some (.int .u64 a0_4) ∧ w'.cell? ⟨gb436, 5, none⟩ = some (.int .u64 a0_5)) (ds := []) (tk 6 0) (by kernel_rfl) rfl rfl ⟨(blk_cell BK436.out 0).trans rfl, (blk_cell BK436.out 1).trans rfl, (blk_cell BK436.out 2).trans rfl, (blk_cell BK436.out 3).trans rfl, (blk_cell BK436.out 4).trans rfl, (blk_cell BK436.out 5).trans rfl⟩ (fun hHeld => ?_)
  generalize w5.drew = w6 at BK436 HB hHeld ⊢
  refine take_ (i := 0) (N := some 6) (v := ?_) (a' := ?_) (tk 6 1) rfl rfl (by kernel_rfl) (fun _ _ _ h => h) (Or.inl ⟨by rfl, ?_⟩) hHeld ?_ ?_
  rotate_left
  ·
   rintro w' ⟨s0, s1, s2, s3, s4, s5⟩
   first
   | (refine Eq.trans (Ext.run_load_wide 33 _ (by rfl) gb436 #[.bool a0_0, .int .u64 a0_1, .int .u64 a0_2, .bool a0_3, .int .u64 a0_4, .int .u64 a0_5] _ (by rfl) hu33 (by rfl) (by kernel_rfl) ⟨s0, s1, s2, s3, s4, s5, trivial⟩) ?_; with_reducible rfl)
   | (go_simp; with_reducible rfl)
  rotate_left
  ·
   simp only [Act.put, List.setIfInBounds_toArray, List.set_cons_zero, List.set_cons_succ, i64_w, i32_w]
   rfl
  refine take_ (i := 2) (N := some 8) (v := ?_) (a' := ?_) (tr [1, 1, 1, 3]) rfl rfl (by kernel_rfl) (fun _ _ _ h => h) (Or.inl ⟨by rfl, ?_⟩) hHeld ?_ ?_
  rotate_left
  ·
   rintro w' ⟨s0, s1, s2, s3, s4, s5⟩
   first
   | (refine Eq.trans (Ext.run_load_wide 33 _ (by rfl) gb436 #[.bool a0_0, .int .u64 a0_1, .int .u64 a0_2, .bool a0_3, .int .u64 a0_4, .int .u64 a0_5] _ (by rfl) hu33 (by rfl) (by kernel_rfl) ⟨s0, s1, s2, s3, s4, s5, trivial⟩) ?_; with_reducible rfl)
   | (go_simp; with_reducible rfl)
  rotate_left
  ·
   simp only [Act.put, List.setIfInBounds_toArray, List.set_cons_zero, List.set_cons_succ, i64_w, i32_w]
   rfl
  refine one_ (i := 1) (N := some 7) (tk 6 3) rfl rfl (by kernel_rfl) (by decide) (fun K hK => ?_)
  refine goesR Tryz.func20 #[.agg #[.bool a0_0, .int .u64 a0_1, .int .u64 a0_2, .bool a0_3, .int .u64 a0_4, .int .u64 a0_5]] ?_
  with_reducible refine (prefix_Cover.calls k a0_0 a0_1 a0_2 a0_3 a0_4 a0_5 t437 _ ?side1 A2.out).mono ?_
  (case side1 => exact Laid.below HLD.out (pE HB))
  rintro e w7 ⟨v438, rfl, ho0, hb⟩
  refine ⟨_, rfl, ?_⟩
  have HO439 := Aside0.mk (Kd.R_lower ho0 (below_size (by repeat (first | (with_reducible first | exact HB.out | apply below_alloc | apply pw_below_drewN | apply below_drew1 | refine below_set ?_ GE436.out) | exact HB.out))))
  replace BK436 := (pB BK436 hb)
  replace HB := (pS HB hb)
  (try clear hb)
  (try clear hk)
  (try clear ho0)
  refine hK.out _ _ ⟨(blk_cell BK436.out 0).trans rfl, (blk_cell BK436.out 1).trans rfl, (blk_cell BK436.out 2).trans rfl, (blk_cell BK436.out 3).trans rfl, (blk_cell BK436.out 4).trans rfl, (blk_cell BK436.out 5).trans rfl⟩ (fun hHeld => ?_)
  clear hK K
  refine normA (N := some 7) ?_
  refine one_ (i := 3) (N := some 9) (tk 6 4) rfl rfl (by kernel_rfl) (by decide) (fun K hK => ?_)
  refine goesR Tryz.func21 #[.agg #[.bool a0_0, .int .u64 a0_1, .int .u64 a0_2, .bool a0_3, .int .u64 a0_4, .int .u64 a0_5]] ?_
  with_reducible refine (ddiref03_Cover.calls k a0_0 a0_1 a0_2 a0_3 a0_4 a0_5 t440 _ A3.out).mono ?_
  rintro e w8 ⟨v441, rfl, ho0, hb⟩
  refine ⟨_, rfl, ?_⟩
  have HO442 := Aside0.mk (Kd.R_lower (Kd.R_new' ho0 (Kd.R_lt (by (with_reducible repeat (first | apply Kd.R_alloc | apply Kd.R_drewN | apply Kd.R_drew)); exact HO439.out))) (below_size (by repeat (first | (with_reducible first | exact HB.out | apply below_alloc | apply pw_below_drewN | apply below_drew1 | refine below_set ?_ GE436.out) | exact HB.out))))
  replace HO439 := Aside0.mk (Kd.R_elder' (by (with_reducible repeat (first | apply Kd.R_alloc | apply Kd.R_drewN | apply Kd.R_drew)); exact HO439.out) (Kd.R_base ho0) hb)
  replace BK436 := (pB BK436 hb)
  replace HB := (pS HB hb)
  (try clear hb)
  (try clear hk)
  (try clear ho0)
  refine hK.out _ _ ⟨(blk_cell BK436.out 0).trans rfl, (blk_cell BK436.out 1).trans rfl, (blk_cell BK436.out 2).trans rfl, (blk_cell BK436.out 3).trans rfl, (blk_cell BK436.out 4).trans rfl, (blk_cell BK436.out 5).trans rfl⟩ (fun hHeld => ?_)
  clear hK K
  refine normA (N := some 9) ?_
  refine pure_ (i := 4) (N := some 3) (v := ?_) (a' := ?_) (tk 6 5) rfl rfl (by kernel_rfl) (fun _ _ _ h => h) (Or.inl ⟨by rfl, ?_⟩) ?_ ?_
  rotate_left
  ·
   intro w'
   go_simp
   with_reducible rfl
  rotate_left
  ·
   simp only [Act.put, List.setIfInBounds_toArray, List.set_cons_zero, List.set_cons_succ, i64_w, i32_w]
   rfl
  refine pure_ (i := 5) (N := some 4) (v := ?_) (a' := ?_) (tk 6 6) rfl rfl (by kernel_rfl) (fun _ _ _ h => h) (Or.inl ⟨by rfl, ?_⟩) ?_ ?_
  rotate_left
  ·
   intro w'
   go_simp
   with_reducible rfl
  rotate_left
  ·
   simp only [Act.put, List.setIfInBounds_toArray, List.set_cons_zero, List.set_cons_succ, i64_w, i32_w]
   rfl
  refine done_ (by kernel_rfl) ?_
  obtain ⟨Ao9, co9, eo9⟩ := Kd.R_slice HO439.out
  subst eo9
  obtain ⟨Ao10, co10, eo10⟩ := Kd.R_slice HO442.out
  subst eo10
  try go_wp2_with (first | ((with_reducible refine gate_ (.load 33 (.tmp 1)) rfl ?_); refine wpList_load_row (by rfl) 33 (.tmp 1) (by rfl) _ (by rfl) 33 _ (0, 0) _ (by first | exact BK436.out | exact pQ BK436) hu33 (by rfl) (by kernel_rfl) ?_))
  go_loopg [5] k (fun kq v5 w' => ∃ (x5_1 : Int), v5 = .int .i64 x5_1 ∧ Aside0 (ddilaw03_PrefixCovers.l0 kq t437 t440 x5_1 = some r) ∧ Aside0 (kq ≤ k) ∧ Aside0 (Kd.R k26 26 w' w.heap.size (fun k_ => some k_ ≠ ((.slice Ao10 t440.length co10) : Value).ownBlock) (.slice Ao9 t437.length co9) t437) ∧ Aside0 (Kd.R k26 26 w' w.heap.size (fun k_ => some k_ ≠ ((.slice Ao9 t437.length co9) : Value).ownBlock) (.slice Ao10 t440.length co10) t440) ∧ Aside0 (w'.heap[gb436]? = some (.cells #[.bool a0_0, .int .u64 a0_1, .int .u64 a0_2, .bool a0_3, .int .u64 a0_4, .int .u64 a0_5] 33 (0, 0))) ∧ Aside0 (Below w.heap.size w w'))
  case atStart => exact ⟨(0), pT, H', ⟨Nat.le_refl _⟩, ⟨by (with_reducible repeat (first | apply Kd.R_alloc | apply Kd.R_drewN | apply Kd.R_drew)); exact Kd.R_mono HO439.out (fun _ hk => hk.2)⟩, ⟨by (with_reducible repeat (first | apply Kd.R_alloc | apply Kd.R_drewN | apply Kd.R_drew)); exact Kd.R_mono HO442.out (fun _ hk => hk.2)⟩, ⟨pM BK436⟩, ⟨pE HB⟩⟩
  case round =>
   clear H'
   try clear c4
   try clear c4b0
   try clear c4b1
   try clear c4b2
   obtain ⟨x5_1, rfl, HA, HK1, HO_3, HO_4, BK436, HB⟩ := hrel
   cases gk with
   | zero => exact absurd HA.out (by simp [ddilaw03_PrefixCovers.l0])
   | succ k1 =>
    have H := HA.out
    clear HA
    simp only [ddilaw03_PrefixCovers.l0] at H
    by_cases c11 : x5_1 < (t437.length : Int)
    ·
     rw [if_pos c11] at H
     have c11b0 := decide_eq_true c11
     clear c11
     by_cases c12 : 0 ≤ x5_1
     ·
      rw [if_pos c12] at H
      have c12b0 := decide_eq_true c12
      clear c12
      by_cases c13 : x5_1 < (t440.length : Int)
      ·
       rw [if_pos c13] at H
       have c13b0 := decide_eq_true c13
       clear c13
       by_cases c14 : ((!(((rd_T26 t437 x5_1).f0.f0) == ((rd_T26 t440 x5_1).f0.f0)) || (!(((rd_T26 t437 x5_1).f0.f1) == ((rd_T26 t440 x5_1).f0.f1)) || (!(((rd_T26 t437 x5_1).f0.f2) == ((rd_T26 t440 x5_1).f0.f2))))) || (!(((rd_T26 t437 x5_1).f1) == ((rd_T26 t440 x5_1).f1)))) = true
       ·
        rw [if_pos c14] at H
        exact absurd H (by simp)
       ·
        rw [if_neg c14] at H
        have c14b0 : ((!(((rd_T26 t437 x5_1).f0.f0) == ((rd_T26 t440 x5_1).f0.f0)) || (!(((rd_T26 t437 x5_1).f0.f1) == ((rd_T26 t440 x5_1).f0.f1)) || (!(((rd_T26 t437 x5_1).f0.f2) == ((rd_T26 t440 x5_1).f0.f2))))) || (!(((rd_T26 t437 x5_1).f1) == ((rd_T26 t440 x5_1).f1)))) = false := by simpa using c14
        clear c14
        have H' := Aside0.mk H
        clear H
        try go_wp2_with (first | ((with_reducible refine gate_ (.load 33 (.tmp 1)) rfl ?_); refine wpList_load_row (by rfl) 33 (.tmp 1) (by rfl) _ (by rfl) 33 _ (0, 0) _ (by first | exact BK436.out | exact pQ BK436) hu33 (by rfl) (by kernel_rfl) ?_))
        replace HO_3 := Aside0.mk (Kd.R_drew HO_3.out)
        replace HO_4 := Aside0.mk (Kd.R_drew HO_4.out)
        replace BK436 := Aside0.mk (blk_drew BK436.out)
        replace HB := Aside0.mk (below_drew1 HB.out)
        have p443 : 0 ≤ (x5_1 : Int) := of_decide_eq_true (by first | (with_reducible assumption) | assumption)
        have q443 : x5_1 < (t437.length : Int) := of_decide_eq_true (by first | (with_reducible assumption) | assumption)
        obtain ⟨ad443, e443, hx443_0, hx443_1, hx443_2, hx443_3⟩ := at_T26 (Kd.R_reads' HO_3.out).2.2 x5_1 p443 q443
        cases e443
        replace p443 := eq_true p443
        replace q443 := eq_true q443
        have p444 : 0 ≤ (x5_1 : Int) := of_decide_eq_true (by first | (with_reducible assumption) | assumption)
        have q444 : x5_1 < (t440.length : Int) := of_decide_eq_true (by first | (with_reducible assumption) | assumption)
        obtain ⟨ad444, e444, hx444_0, hx444_1, hx444_2, hx444_3⟩ := at_T26 (Kd.R_reads' HO_4.out).2.2 x5_1 p444 q444
        cases e444
        replace p444 := eq_true p444
        replace q444 := eq_true q444
        refine start_ (n := 9) (S := fun w' => w'.cell? (ad443.add ((x5_1).toNat * 4)) = some (.bool ((rd_T26 t437 x5_1).f0.f0)) ∧ w'.cell? ⟨(ad443.add ((x5_1).toNat * 4)).block, (ad443.add ((x5_1).toNat * 4)).off + 1, none⟩ = some (.int .u64 ((rd_T26 t437 x5_1).f0.f1)) ∧ w'.cell? ⟨(ad443.add ((x5_1).toNat * 4)).block, (ad443.add ((x5_1).toNat * 4)).off + 2, none⟩ = some (.int .u64 ((rd_T26 t437 x5_1).f0.f2)) ∧ w'.cell? ⟨(ad443.add ((x5_1).toNat * 4)).block, (ad443.add ((x5_1).toNat * 4)).off + 3, none⟩ = some (.int .i64 ((rd_T26 t437 x5_1).f1)) ∧ w'.cell? (ad444.add ((x5_1).toNat * 4)) = some (.bool ((rd_T26 t440 x5_1).f0.f0)) ∧ w'.cell? ⟨(ad444.add ((x5_1).toNat * 4)).block, (ad444.add ((x5_1).toNat * 4)).off + 1, none⟩ = some (.int .u64 ((rd_T26 t440 x5_1).f0.f1)) ∧ w'.cell? ⟨(ad444.add ((x5_1).toNat * 4)).block, (ad444.add ((x5_1).toNat * 4)).off + 2, none⟩ = some (.int .u64 ((rd_T26 t440 x5_1).f0.f2)) ∧ w'.cell? ⟨(ad444.add ((x5_1).toNat * 4)).block, (ad444.add ((x5_1).toNat * 4)).off + 3, none⟩ = some (.int .i64 ((rd_T26 t440 x5_1).f1))) (ds := []) (tk 9 0) (by kernel_rfl) rfl rfl ⟨hx443_0, hx443_1, hx443_2, hx443_3, hx444_0, hx444_1, hx444_2, hx444_3⟩ (fun hHeld => ?_); refine with_tabW ddilaw03_PrefixCovers.tab7 ddilaw03_PrefixCovers.bits7 (fun HT_ HW_ => ?_)
        generalize wr.drew = w15 at HO_3 HO_4 BK436 HB hx443_0 hx443_1 hx443_2 hx443_3 hx444_0 hx444_1 hx444_2 hx444_3 hHeld ⊢
        refine pureA (i := 0) (some 21) HT_ (tk 9 1) ?_
        refine pureA (i := 1) (some 22) HT_ (tk 9 2) ?_
        refine pureA (i := 2) (some 23) HT_ (tk 9 3) ?_
        refine pureA (i := 4) (some 25) HT_ (tr [3, 1, 1, 4]) ?_
        refine pureA (i := 5) (some 26) HT_ (tr [3, 1, 2, 3]) ?_
        refine pureA (i := 6) (some 27) HT_ (tr [3, 1, 3, 2]) ?_
        refine takeA (i := 3) (some 24) HT_ HW_ (tk 9 7) hHeld ?_
        refine takeA (i := 7) (some 28) HT_ HW_ (tk 9 8) hHeld ?_
        refine pureA (i := 8) (some 29) HT_ (tk 9 9) ?_
        refine done_ (done_of HT_.out (by kernel_rfl)) ?_
        try go_wp2_with (first | ((with_reducible refine gate_ (.load 33 (.tmp 1)) rfl ?_); refine wpList_load_row (by rfl) 33 (.tmp 1) (by rfl) _ (by rfl) 33 _ (0, 0) _ (by first | exact BK436.out | exact pQ BK436) hu33 (by rfl) (by kernel_rfl) ?_))
        go_roundg k1
        case measure => have := HK1.out; omega
        case rel => exact ⟨(wrap64 (x5_1 + 1)), pT, H', ⟨by have := HK1.out; omega⟩, ⟨by (with_reducible repeat (first | apply Kd.R_alloc | apply Kd.R_drewN | apply Kd.R_drew)); exact HO_3.out⟩, ⟨by (with_reducible repeat (first | apply Kd.R_alloc | apply Kd.R_drewN | apply Kd.R_drew)); exact HO_4.out⟩, ⟨pM BK436⟩, ⟨pE HB⟩⟩
      ·
       rw [if_neg c13] at H
       exact absurd H (by simp)
     ·
      rw [if_neg c12] at H
      exact absurd H (by simp)
    ·
     rw [if_neg c11] at H
     have c11b0 := decide_eq_false c11
     clear c11
     replace H := Option.bind_eq_some_iff.mp H
     obtain ⟨t445, A160, H⟩ := H
     have A16 := Aside0.mk A160
     clear A160
     obtain rfl := Option.some.inj H
     go_wp2_with (first | ((with_reducible refine gate_ (.load 33 (.tmp 1)) rfl ?_); refine wpList_load_row (by rfl) 33 (.tmp 1) (by rfl) _ (by rfl) 33 _ (0, 0) _ (by first | exact BK436.out | exact pQ BK436) hu33 (by rfl) (by kernel_rfl) ?_) | ((with_reducible refine gate_callee (f := 9) rfl ?_); refine goesA (some 30) Tryz.func9 #[] ?_; (with_reducible refine (ddilaw03_awake.calls k1  t445 _ ?side1 A16.out).mono ?_); (case side1 => exact Laid.below HLD.out (pE HB)); rintro e w17 ⟨rfl, hb⟩; refine ⟨_, rfl, ?_⟩; replace HO_3 := Aside0.mk (Kd.R_below (by (with_reducible repeat (first | apply Kd.R_alloc | apply Kd.R_drewN | apply Kd.R_drew)); exact HO_3.out) hb); replace HO_4 := Aside0.mk (Kd.R_below (by (with_reducible repeat (first | apply Kd.R_alloc | apply Kd.R_drewN | apply Kd.R_drew)); exact HO_4.out) hb); replace BK436 := (pB BK436 hb); replace HB := (pS HB hb); (try clear hb); (try clear hk)))
     go_ret
     exact pR (pE HB)
 ·
  rw [if_neg c4] at H
  exact absurd H (by simp)
end Go.Proofs.YteflcmmandlknaaGreatDoor.PA
