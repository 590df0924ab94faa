/- The Go functions in Lean, with the proofs that the code comes to these answers: printed by this session's program (wip/px) out of the seat's translation. Conditions: each theorem's own. -/
import Derived.Test.YtaehonmfoanloaaDoorPAx0
namespace Go.Proofs.YtaehonmfoanloaaDoor.PA
open Go.RowKit Go.Proofs.YtaehonmfoanloaaDoorW.PrintWords Go.Proofs.YtaehonmfoanloaaDoorW.PrintLast Go.Proofs.YtaehonmfoanloaaDoorW.PrintMore
attribute [local go_sem] max2_int min2_int max_two min_two max_three min_three max_four min_four   -- for this text's walks alone
attribute [local go_sem ↓] Ext.isSome_setCell
open Press
set_option linter.unusedVariables false
set_option linter.unusedSimpArgs false

/-! ### ddiref02_value: function 89 -/
def ddiref02_value.l0 : Nat → ByteArray → Int → Int → Option (Int)
 | 0, _, _, _ => none
 | k + 1, x0, x3, x4 => if x4 < (x0.size : Int) then (if 0 ≤ x4 then (ddiref02_value.l0 k x0 (IntKind.u64.wrap ((IntKind.u64.wrap (x3 * 256)) + (IntKind.u64.wrap (bt x0 x4)))) (wrap64 (x4 + 1))) else (none)) else (some x3)
def ddiref02_value.f (k : Nat) (a0 : ByteArray) : Option (Int) := ddiref02_value.l0 k a0 0 0
theorem ddiref02_value.mono_l : ∀ k, (∀ y0 y1 y2, LeO (ddiref02_value.l0 k y0 y1 y2) (ddiref02_value.l0 (k + 1) y0 y1 y2))
 | 0 => fun _ _ _ r h => by simp [ddiref02_value.l0] at h
 | k + 1 => by
  have ih0 := ddiref02_value.mono_l k
  ·
   intro y0 y1 y2
   unfold ddiref02_value.l0
   repeat' with_reducible first | exact ih0 _ _ _ | exact LeO.refl _ | exact LeO.none _ | refine LeO.ite ?_ ?_ | refine LeO.bind ?_ (fun _ => ?_)
theorem ddiref02_value.mono : ∀ a0 k, LeO (ddiref02_value.f k a0) (ddiref02_value.f (k + 1) a0) := by
 intro a0 k
 have ih0 := ddiref02_value.mono_l k
 unfold ddiref02_value.f
 repeat' with_reducible first | exact ih0 _ _ _ | exact LeO.refl _ | exact LeO.none _ | refine LeO.ite ?_ ?_ | refine LeO.bind ?_ (fun _ => ?_)
set_option maxHeartbeats 40000000 in
set_option maxRecDepth 100000 in
theorem ddiref02_value.calls (k : Nat) (a0 : ByteArray) (r : Int) (w : World) (h : ddiref02_value.f k a0 = some r) :
 Calls Tryd.prog 89 #[.string a0] w fun e w' => e = .returned (.int .u64 r) ∧ Drawn0 w w' := by
 have H : (ddiref02_value.l0 k a0 0 0) = some r := h
 clear h
 have H' := Aside0.mk H
 clear H
 go_enter Tryd.func89, Tryd.ntmps89
 go_wp2
 go_loopg [3, 4] k (fun kq v3 v4 w' => ∃ (x3_1 : Int) (x4_1 : Int), v3 = .int .u64 x3_1 ∧ v4 = .int .i64 x4_1 ∧ Aside0 (ddiref02_value.l0 kq a0 x3_1 x4_1 = some r) ∧ Aside0 (kq ≤ k) ∧ Drawn0 w w')
 case atStart => exact ⟨(0), (0), pT, pT, H', ⟨Nat.le_refl _⟩, by repeat (first | exact Drawn0.refl _ | apply Drawn0.step)⟩
 case round =>
  clear H'
  obtain ⟨x3_1, x4_1, rfl, rfl, HA, HK1, ⟨m1, rfl⟩⟩ := hrel
  cases gk with
  | zero => exact absurd HA.out (by simp [ddiref02_value.l0])
  | succ k1 =>
   have H := HA.out
   clear HA
   simp only [ddiref02_value.l0] at H
   by_cases c2 : x4_1 < (a0.size : Int)
   ·
    rw [if_pos c2] at H
    have c2b0 := decide_eq_true c2
    clear c2
    by_cases c3 : 0 ≤ x4_1
    ·
     rw [if_pos c3] at H
     have c3b0 := decide_eq_true c3
     clear c3
     have H' := Aside0.mk H
     clear H
     have p4 : 0 ≤ (x4_1 : Int) := oD
     have q4 : x4_1 < (a0.size : Int) := oD
     have hx4 := bt_at a0 x4_1
     replace p4 := eq_true p4
     replace q4 := eq_true q4
     go_wp2
     go_roundg k1
     case measure => have := HK1.out; omega
     case rel => exact ⟨(IntKind.u64.wrap ((IntKind.u64.wrap (x3_1 * 256)) + (IntKind.u64.wrap (bt a0 x4_1)))), (wrap64 (x4_1 + 1)), pT, pT, H', ⟨by have := HK1.out; omega⟩, by repeat (first | exact Drawn0.refl _ | apply Drawn0.step)⟩
    ·
     rw [if_neg c3] at H
     exact absurd H (by simp)
   ·
    rw [if_neg c2] at H
    have c2b0 := decide_eq_false c2
    clear c2
    obtain rfl := Option.some.inj H
    go_wp2
    go_ret
    exact pV

/-! ### ddiref02_Read: function 72 -/
def ddiref02_Read.f (k : Nat) (a0 : ByteArray) : Option (Bool × Int × Int × Int) := if (a0.size : Int) > 16 then (some (false, 0, 0, 8)) else (if (a0.size : Int) = 16 then (if 0 ≤ 8 then (if 8 ≤ (a0.size : Int) then ((ddiref02_value.f k (a0.extract 0 8)).bind fun t231 => ((ddiref02_value.f k (a0.extract 8 a0.size)).bind fun t232 => (some (true, t231, t232, 0)))) else (none)) else (none)) else (if (a0.size : Int) = 4 then ((ddiref02_value.f k a0).bind fun t233 => (some (false, 0, t233, 0))) else (some (false, 0, 0, 6))))
theorem ddiref02_Read.mono : ∀ a0 k, LeO (ddiref02_Read.f k a0) (ddiref02_Read.f (k + 1) a0) := by
 intro a0 k
 unfold ddiref02_Read.f
 repeat' with_reducible first | exact ddiref02_value.mono _ _ | exact LeO.refl _ | exact LeO.none _ | refine LeO.ite ?_ ?_ | refine LeO.bind ?_ (fun _ => ?_)
def ddiref02_Read.T4 : Bool × List (List Nat × List Nat) := (true, [([], []), ([0], [0]), ([1], [1]), ([], []), ([3], [3]), ([4, 2], [4]), ([2, 5], [2, 5]), ([6, 5, 0, 1, 2, 3, 4, 5, 6], [6]), ([7, 0, 1, 2, 3, 4, 5, 6, 7], [])])
def ddiref02_Read.B4 : List Nat := [0, 1, 3, 0, 8, 31, 63, 127, 255]
theorem ddiref02_Read.tab4 : rtab .any (opsOf Tryd.f72 4) = ddiref02_Read.T4 := by kernel_rfl
theorem ddiref02_Read.bits4 : waitsOk ddiref02_Read.T4.2 ddiref02_Read.B4 = true := by kernel_rfl
set_option maxHeartbeats 40000000 in
set_option maxRecDepth 100000 in
theorem ddiref02_Read.calls (k : Nat) (a0 : ByteArray) (r1 : Bool) (r2 : Int) (r3 : Int) (r4 : Int) (w : World) (h : ddiref02_Read.f k a0 = some (r1, r2, r3, r4)) :
 Calls Tryd.prog 72 #[.string a0] w fun e w' => e = .returned (.tuple #[.agg #[.bool r1, .int .u64 r2, .int .u64 r3], .int .i64 r4]) ∧ Below w.heap.size w w' := by
 have hu24 := Tryd.underlying24
 have HB := Aside0.mk (Below.refl w.heap.size w)
 have H : (if (a0.size : Int) > 16 then (some (false, 0, 0, 8)) else (if (a0.size : Int) = 16 then (if 0 ≤ 8 then (if 8 ≤ (a0.size : Int) then ((ddiref02_value.f k (a0.extract 0 8)).bind fun t231 => ((ddiref02_value.f k (a0.extract 8 a0.size)).bind fun t232 => (some (true, t231, t232, 0)))) else (none)) else (none)) else (if (a0.size : Int) = 4 then ((ddiref02_value.f k a0).bind fun t233 => (some (false, 0, t233, 0))) else (some (false, 0, 0, 6))))) = some (r1, r2, r3, r4) := h
 clear h
 by_cases c2 : (a0.size : Int) > 16
 ·
  rw [if_pos c2] at H
  have c2b0 := decide_eq_true c2
  have c2b1 : decide (16 < a0.size) = true := decide_eq_true (by omega)
  clear c2
  simp only [Option.some.injEq, Prod.mk.injEq] at H
  obtain ⟨rfl, rfl, rfl, rfl⟩ := H
  go_enter Tryd.func72, Tryd.ntmps72
  go_wp2_with (first | ((with_reducible refine gate_dst (N := 2) rfl ?_); refine boxA (N := 2) (cs := #[.bool false, .int .u64 0, .int .u64 0]) (t := 24) ?_; intro gb230 hg w3 hbox hb; have BK230 := Aside0.mk (hbox); have GE230 := (pZ HB hg); replace HB := (pS HB hb); clear hb hbox hg; obtain ⟨hcz4_0, hcz4_1, hcz4_2, hfz4_0, hfz4_1, hfz4_2⟩ := pC3 BK230))
  refine bodyPost_ret (results_ct rfl _ _ gb230 24 #[.bool false, .int .u64 0, .int .u64 0] (0, 0) _ rfl (pP (pP (pP (pM BK230)))) Tryd.underlying24 rfl (by kernel_rfl)) rfl ?_
  exact pR (pE HB)
 ·
  rw [if_neg c2] at H
  have c2b0 := decide_eq_false c2
  have c2b1 : decide (16 < a0.size) = false := decide_eq_false (by omega)
  clear c2
  by_cases c5 : (a0.size : Int) = 16
  ·
   rw [if_pos c5] at H
   have c5b0 : ((a0.size : Int) == 16) = true := beq_iff_eq.mpr c5
   have c5b1 : ((a0.size : Int) != 16) = false := bne_eq_false_iff_eq.mpr c5
   clear c5
   by_cases c6 : 0 ≤ 8
   ·
    rw [if_pos c6] at H
    have c6b0 := eq_true c6
    have c6b1 := decide_eq_true c6
    clear c6
    by_cases c7 : 8 ≤ (a0.size : Int)
    ·
     rw [if_pos c7] at H
     have c7b0 := eq_true c7
     have c7b1 := decide_eq_true c7
     clear c7
     replace H := Option.bind_eq_some_iff.mp H
     obtain ⟨t231, A80, H⟩ := H
     have A8 := Aside0.mk A80
     clear A80
     have c9b0 := eq_true (oD : 8 ≤ (a0.size : Int))
     replace H := Option.bind_eq_some_iff.mp H
     obtain ⟨t232, A100, H⟩ := H
     have A10 := Aside0.mk A100
     clear A100
     simp only [Option.some.injEq, Prod.mk.injEq] at H
     obtain ⟨rfl, rfl, rfl, rfl⟩ := H
     go_enter Tryd.func72, Tryd.ntmps72
     try go_wp2_with (first | ((with_reducible refine gate_dst (N := 2) rfl ?_); refine boxA (N := 2) (cs := #[.bool false, .int .u64 0, .int .u64 0]) (t := 24) ?_; intro gb230 hg w11 hbox hb; have BK230 := Aside0.mk (hbox); have GE230 := (pZ HB hg); replace HB := (pS HB hb); clear hb hbox hg))
     replace BK230 := Aside0.mk (blk_drew BK230.out)
     replace HB := Aside0.mk (below_drew1 HB.out)
     refine start_ (n := 9) (S := fun w' => True) (ds := []) (tk 9 0) (by kernel_rfl) rfl rfl trivial (fun hHeld => ?_); refine with_tabW ddiref02_Read.tab4 ddiref02_Read.bits4 (fun HT_ HW_ => ?_)
     generalize w11.drew = w12 at BK230 HB hHeld ⊢
     refine pureA (i := 0) (some 11) HT_ (tk 9 1) ?_
     refine pureA (i := 1) (some 12) HT_ (tk 9 2) ?_
     refine pureA (i := 3) (some 14) HT_ (tr [2, 1, 1, 5]) ?_
     refine pureA (i := 4) (some 15) HT_ (tr [2, 1, 2, 4]) ?_
     refine one_ (i := 2) (N := some 13) (tk 9 5) rfl rfl (one_of HT_.out (by kernel_rfl)) (by decide) (fun K hK => ?_)
     refine goesR Tryd.func89 #[.string (a0.extract 0 8)] ?_
     with_reducible refine (ddiref02_value.calls k (a0.extract 0 8) t231 _ A8.out).mono ?_
     rintro e w' ⟨rfl, ⟨nd, rfl⟩⟩
     refine ⟨_, rfl, ?_⟩
     refine hK.out _ _ trivial (fun hHeld => ?_)
     clear hK K
     refine normA (N := some 13) ?_
     refine one_ (i := 5) (N := some 16) (tk 9 6) rfl rfl (one_of HT_.out (by kernel_rfl)) (by decide) (fun K hK => ?_)
     refine goesR Tryd.func89 #[.string (a0.extract 8 a0.size)] ?_
     with_reducible refine (ddiref02_value.calls k (a0.extract 8 a0.size) t232 _ A10.out).mono ?_
     rintro e w' ⟨rfl, ⟨nd, rfl⟩⟩
     refine ⟨_, rfl, ?_⟩
     refine hK.out _ _ trivial (fun hHeld => ?_)
     clear hK K
     refine normA (N := some 16) ?_
     refine pureA (i := 6) (some 17) HT_ (tk 9 7) ?_
     refine one_ (i := 7) (N := none) (tk 9 8) rfl rfl (one_of HT_.out (by kernel_rfl)) (by decide) (fun K hK => ?_)
     have hs13 : w12.cell? ⟨gb230, 0, none⟩ = some (.bool false) := bC BK230 0
     have hfs13 := blk_frozen BK230.out 0
     have hs14 : w12.cell? ⟨gb230, 1, none⟩ = some (.int .u64 0) := bC BK230 1
     have hfs14 := blk_frozen BK230.out 1
     have hs15 : w12.cell? ⟨gb230, 2, none⟩ = some (.int .u64 0) := bC BK230 2
     have hfs15 := blk_frozen BK230.out 2
     refine skip_ (w1 := ?_) (by rfl) rfl ?_ ?_
     rotate_left
     ·
      go_simp
      rfl
     refine hK.out _ _ trivial (fun hHeld => ?_)
     clear hK K
     refine pureA (i := 8) (some 3) HT_ (tk 9 9) ?_
     refine done_ (done_of HT_.out (by kernel_rfl)) ?_
     try go_wp2
     refine bodyPost_ret (results_ct rfl _ _ gb230 24 #[.bool true, .int .u64 t231, .int .u64 t232] (0, 0) _ rfl (pP (pP (pP (pM BK230)))) Tryd.underlying24 rfl (by kernel_rfl)) rfl ?_
     exact pR (pE HB)
    ·
     rw [if_neg c7] at H
     exact absurd H (by simp)
   ·
    rw [if_neg c6] at H
    exact absurd H (by simp)
  ·
   rw [if_neg c5] at H
   have c5b0 : ((a0.size : Int) == 16) = false := beq_eq_false_iff_ne.mpr c5
   have c5b1 : ((a0.size : Int) != 16) = true := bne_iff_ne.mpr c5
   by_cases c16 : (a0.size : Int) = 4
   ·
    rw [if_pos c16] at H
    have c16b0 : ((a0.size : Int) == 4) = true := beq_iff_eq.mpr c16
    have c16b1 : ((a0.size : Int) != 4) = false := bne_eq_false_iff_eq.mpr c16
    clear c16
    replace H := Option.bind_eq_some_iff.mp H
    obtain ⟨t233, A170, H⟩ := H
    have A17 := Aside0.mk A170
    clear A170
    simp only [Option.some.injEq, Prod.mk.injEq] at H
    obtain ⟨rfl, rfl, rfl, rfl⟩ := H
    go_enter Tryd.func72, Tryd.ntmps72
    go_wp2_with (first | ((with_reducible refine gate_dst (N := 2) rfl ?_); refine boxA (N := 2) (cs := #[.bool false, .int .u64 0, .int .u64 0]) (t := 24) ?_; intro gb230 hg w18 hbox hb; have BK230 := Aside0.mk (hbox); have GE230 := (pZ HB hg); replace HB := (pS HB hb); clear hb hbox hg) | ((with_reducible refine gate_callee (f := 89) rfl ?_); refine goesA (some 23) Tryd.func89 #[.string a0] ?_; (with_reducible refine (ddiref02_value.calls k a0 t233 _ A17.out).mono ?_); rintro e w' ⟨rfl, ⟨nd, rfl⟩⟩; refine ⟨_, rfl, ?_⟩; (try (rw [drewN_self w18]; generalize hq_ : World.drewN w18 _ = w18; replace BK230 : Aside0 (w18.heap[gb230]? = some (.cells #[.bool false, .int .u64 0, .int .u64 0] 24 (0, 0))) := ⟨by rw [← hq_]; exact (pM BK230)⟩; replace HB : Aside0 (Below w.heap.size w w18) := ⟨by rw [← hq_]; exact (by repeat (first | (with_reducible first | exact HB.out | apply below_alloc | apply pw_below_drewN | apply below_drew1 | refine below_set ?_ GE230.out) | exact HB.out))⟩; clear hq_)); obtain ⟨hcz19_0, hcz19_1, hcz19_2, hfz19_0, hfz19_1, hfz19_2⟩ := pC3 BK230))
    refine bodyPost_ret (results_ct rfl _ _ gb230 24 #[.bool false, .int .u64 0, .int .u64 t233] (0, 0) _ rfl (pP (pP (pP (pM BK230)))) Tryd.underlying24 rfl (by kernel_rfl)) rfl ?_
    exact pR (pE HB)
   ·
    rw [if_neg c16] at H
    have c16b0 : ((a0.size : Int) == 4) = false := beq_eq_false_iff_ne.mpr c16
    have c16b1 : ((a0.size : Int) != 4) = true := bne_iff_ne.mpr c16
    simp only [Option.some.injEq, Prod.mk.injEq] at H
    obtain ⟨rfl, rfl, rfl, rfl⟩ := H
    go_enter Tryd.func72, Tryd.ntmps72
    go_wp2_with (first | ((with_reducible refine gate_dst (N := 2) rfl ?_); refine boxA (N := 2) (cs := #[.bool false, .int .u64 0, .int .u64 0]) (t := 24) ?_; intro gb230 hg w20 hbox hb; have BK230 := Aside0.mk (hbox); have GE230 := (pZ HB hg); replace HB := (pS HB hb); clear hb hbox hg; obtain ⟨hcz21_0, hcz21_1, hcz21_2, hfz21_0, hfz21_1, hfz21_2⟩ := pC3 BK230))
    refine bodyPost_ret (results_ct rfl _ _ gb230 24 #[.bool false, .int .u64 0, .int .u64 0] (0, 0) _ rfl (pP (pP (pP (pM BK230)))) Tryd.underlying24 rfl (by kernel_rfl)) rfl ?_
    exact pR (pE HB)

/-! ### ddiref05_Take: function 74 -/
def ddiref05_Take.l0 : Nat → ByteArray → Int → Int → Int → Int → Int → Option (Int × Int × Int)
 | 0, _, _, _, _, _, _ => none
 | k + 1, x0, x2, x8, x9, x235000, x235001 => if x9 < x2 then (if x235001 = 0 then (if x235000 ≥ (x0.size : Int) then (some (0, x235000, 6)) else (if 0 ≤ x235000 then (if x235000 < (x0.size : Int) then (ddiref05_Take.l0 k x0 x2 (wrap64 ((wrap64 (x8 * 256)) + (wrap64 (bt x0 x235000)))) (wrap64 (x9 + 1)) (wrap64 (x235000 + 1)) x235001) else (none)) else (none))) else (some (0, x235000, x235001))) else (if x235001 = 0 then (some (x8, x235000, x235001)) else (some (0, x235000, x235001)))
def ddiref05_Take.f (k : Nat) (a0 : ByteArray) (a1_0 : Int) (a1_1 : Int) (a2 : Int) : Option (Int × Int × Int) := ddiref05_Take.l0 k a0 a2 0 0 a1_0 a1_1
theorem ddiref05_Take.mono_l : ∀ k, (∀ y0 y1 y2 y3 y4 y5, LeO (ddiref05_Take.l0 k y0 y1 y2 y3 y4 y5) (ddiref05_Take.l0 (k + 1) y0 y1 y2 y3 y4 y5))
 | 0 => fun _ _ _ _ _ _ r h => by simp [ddiref05_Take.l0] at h
 | k + 1 => by
  have ih0 := ddiref05_Take.mono_l k
  ·
   intro y0 y1 y2 y3 y4 y5
   unfold ddiref05_Take.l0
   repeat' with_reducible first | exact ih0 _ _ _ _ _ _ | exact LeO.refl _ | exact LeO.none _ | refine LeO.ite ?_ ?_ | refine LeO.bind ?_ (fun _ => ?_)
theorem ddiref05_Take.mono : ∀ a0 a1 a2 a3 k, LeO (ddiref05_Take.f k a0 a1 a2 a3) (ddiref05_Take.f (k + 1) a0 a1 a2 a3) := by
 intro a0 a1 a2 a3 k
 have ih0 := ddiref05_Take.mono_l k
 unfold ddiref05_Take.f
 repeat' with_reducible first | exact ih0 _ _ _ _ _ _ | exact LeO.refl _ | exact LeO.none _ | refine LeO.ite ?_ ?_ | refine LeO.bind ?_ (fun _ => ?_)
set_option maxHeartbeats 40000000 in
set_option maxRecDepth 100000 in
theorem ddiref05_Take.calls (k : Nat) (a0 : ByteArray) (a1_0 : Int) (a1_1 : Int) (a2 : Int) (r1 : Int) (r2 : Int) (r3 : Int) (w : World) (h : ddiref05_Take.f k a0 a1_0 a1_1 a2 = some (r1, r2, r3)) :
 Calls Tryd.prog 74 #[.string a0, .agg #[.int .i64 a1_0, .int .i64 a1_1], .int .i64 a2] w fun e w' => e = .returned (.tuple #[.int .i64 r1, .agg #[.int .i64 r2, .int .i64 r3]]) ∧ Below w.heap.size w w' := by
 have hu67 := Tryd.underlying67
 have HB := Aside0.mk (Below.refl w.heap.size w)
 have H : (ddiref05_Take.l0 k a0 a2 0 0 a1_0 a1_1) = some (r1, r2, r3) := h
 clear h
 have H' := Aside0.mk H
 clear H
 go_enter Tryd.func74, Tryd.ntmps74
 go_wp2_with (first | ((with_reducible refine gate_dst (N := 4) rfl ?_); refine boxA (N := 4) (cs := #[.int .i64 a1_0, .int .i64 a1_1]) (t := 67) ?_; intro gb234 hg w4 hbox hb; have BK234 := Aside0.mk (hbox); have GE234 := (pZ HB hg); replace HB := (pS HB hb); clear hb hbox hg) | ((with_reducible refine gate_dst (N := 7) rfl ?_); refine boxA (N := 7) (cs := #[.int .i64 0, .int .i64 0]) (t := 67) ?_; intro gb235 hg w5 hbox hb; have BK235 := Aside0.mk (hbox); have GE235 := (pZ HB hg); have NB234_235 := (pL BK234 hg); have NB235_234 := (pG BK234 hg); replace BK234 := (pB BK234 hb); replace HB := (pS HB hb); clear hb hbox hg))
 go_loopg [8, 9] k (fun kq v8 v9 w' => ∃ (x8_1 : Int) (x9_1 : Int) (x235000_1 : Int) (x236000_1 : Int) (x236001_1 : Int), v8 = .int .i64 x8_1 ∧ v9 = .int .i64 x9_1 ∧ Aside0 (ddiref05_Take.l0 kq a0 a2 x8_1 x9_1 x235000_1 a1_1 = some (r1, r2, r3)) ∧ Aside0 (kq ≤ k) ∧ Aside0 (w'.heap[gb234]? = some (.cells #[.int .i64 x235000_1, .int .i64 a1_1] 67 (0, 0))) ∧ Aside0 (w'.heap[gb235]? = some (.cells #[.int .i64 x236000_1, .int .i64 x236001_1] 67 (0, 0))) ∧ Aside0 (Below w.heap.size w w'))
 case atStart => exact ⟨(0), (0), (a1_0), (0), (0), pT, pT, H', ⟨Nat.le_refl _⟩, ⟨pM BK234⟩, ⟨pM BK235⟩, ⟨pE HB⟩⟩
 case round =>
  clear H'
  obtain ⟨x8_1, x9_1, x235000_1, x236000_1, x236001_1, rfl, rfl, HA, HK1, BK234, BK235, HB⟩ := hrel
  cases gk with
  | zero => exact absurd HA.out (by simp [ddiref05_Take.l0])
  | succ k1 =>
   have H := HA.out
   clear HA
   simp only [ddiref05_Take.l0] at H
   by_cases c6 : x9_1 < a2
   ·
    rw [if_pos c6] at H
    have c6b0 := decide_eq_true c6
    clear c6
    by_cases c7 : a1_1 = 0
    ·
     rw [if_pos c7] at H
     have c7b0 : (a1_1 == 0) = true := beq_iff_eq.mpr c7
     have c7b1 : (a1_1 != 0) = false := bne_eq_false_iff_eq.mpr c7
     clear c7
     by_cases c8 : x235000_1 ≥ (a0.size : Int)
     ·
      rw [if_pos c8] at H
      have c8b0 := decide_eq_true c8
      clear c8
      simp only [Option.some.injEq, Prod.mk.injEq] at H
      obtain ⟨rfl, rfl, rfl⟩ := H
      have hnb9 := NB234_235.out
      have hnc9 := NB235_234.out
      obtain ⟨hcz10_0, hcz10_1, hfz10_0, hfz10_1⟩ := pC2 BK234
      try go_wp2
      replace BK234 := Aside0.mk (blk_drew BK234.out)
      replace BK235 := Aside0.mk (blk_drew BK235.out)
      replace HB := Aside0.mk (below_drew1 HB.out)
      refine start_ (n := 5) (S := fun w' => w'.cell? ⟨gb234, 0, none⟩ = some (.int .i64 x235000_1) ∧ w'.cell? ⟨gb234, 1, none⟩ = some (.int .i64 a1_1)) (ds := []) (tk 5 0) (by kernel_rfl) rfl rfl ⟨bC BK234 0, bC BK234 1⟩ (fun hHeld => ?_)
      generalize wr.drew = w11 at BK234 BK235 HB hHeld ⊢
      refine pure_ (i := 0) (N := some 24) (v := ?_) (a' := ?_) (tk 5 1) rfl rfl (by kernel_rfl) (fun _ _ _ h => h) (Or.inl ⟨by rfl, ?_⟩) ?_ ?_
      rotate_left
      ·
       intro w'
       go_simp
       with_reducible rfl
      rotate_left
      ·
       simp only [Act.put, List.setIfInBounds_toArray, List.set_cons_zero, List.set_cons_succ, i64_w, i32_w]
       rfl
      refine pure_ (i := 3) (N := some 6) (v := ?_) (a' := ?_) (tr [1, 2, 1, 1]) rfl rfl (by kernel_rfl) (fun _ _ _ h => h) (Or.inl ⟨by rfl, ?_⟩) ?_ ?_
      rotate_left
      ·
       intro w'
       go_simp
       with_reducible rfl
      rotate_left
      ·
       simp only [Act.put, List.setIfInBounds_toArray, List.set_cons_zero, List.set_cons_succ, i64_w, i32_w]
       rfl
      refine take_ (i := 1) (N := some 25) (v := ?_) (a' := ?_) (tr [2, 1, 1, 1]) rfl rfl (by kernel_rfl) (fun _ _ _ h => h) (Or.inl ⟨by rfl, ?_⟩) hHeld ?_ ?_
      rotate_left
      ·
       rintro w' ⟨s0, s1⟩
       go_simp
       with_reducible rfl
      rotate_left
      ·
       simp only [Act.put, List.setIfInBounds_toArray, List.set_cons_zero, List.set_cons_succ, i64_w, i32_w]
       rfl
      refine pure_ (i := 2) (N := some 26) (v := ?_) (a' := ?_) (tk 5 4) rfl rfl (by kernel_rfl) (fun _ _ _ h => h) (Or.inl ⟨by rfl, ?_⟩) ?_ ?_
      rotate_left
      ·
       intro w'
       go_simp
       with_reducible rfl
      rotate_left
      ·
       simp only [Act.put, List.setIfInBounds_toArray, List.set_cons_zero, List.set_cons_succ, i64_w, i32_w]
       rfl
      refine one_ (i := 4) (N := none) (tk 5 5) rfl rfl (by kernel_rfl) (by decide) (fun K hK => ?_)
      have hs12 : w11.cell? ⟨gb235, 0, none⟩ = some (.int .i64 x236000_1) := bC BK235 0
      have hfs12 := blk_frozen BK235.out 0
      have hns12_0 := NB234_235.out
      have hms12_0 := NB235_234.out
      have hs13 : w11.cell? ⟨gb235, 1, none⟩ = some (.int .i64 x236001_1) := bC BK235 1
      have hfs13 := blk_frozen BK235.out 1
      have hns13_0 := NB234_235.out
      have hms13_0 := NB235_234.out
      refine skip_ (w1 := ?_) (by rfl) rfl ?_ ?_
      rotate_left
      ·
       go_simp
       rfl
      refine hK.out _ _ ⟨((cell_far (p := ⟨gb235, _, none⟩) NB234_235.out _).trans (((cell_far (p := ⟨gb235, _, none⟩) NB234_235.out _).trans (hHeld.1)))), ((cell_far (p := ⟨gb235, _, none⟩) NB234_235.out _).trans (((cell_far (p := ⟨gb235, _, none⟩) NB234_235.out _).trans (hHeld.2))))⟩ (fun hHeld => ?_)
      clear hK K
      refine done_ (by kernel_rfl) ?_
      try go_wp2
      refine bodyPost_ret (results_tc rfl _ _ gb235 67 #[.int .i64 x235000_1, .int .i64 6] (0, 0) _ rfl (pP (pP (pM BK235))) Tryd.underlying67 rfl (by kernel_rfl)) rfl ?_
      exact pR (pE HB)
     ·
      rw [if_neg c8] at H
      have c8b0 := decide_eq_false c8
      clear c8
      by_cases c14 : 0 ≤ x235000_1
      ·
       rw [if_pos c14] at H
       have c14b0 := decide_eq_true c14
       clear c14
       by_cases c15 : x235000_1 < (a0.size : Int)
       ·
        rw [if_pos c15] at H
        have c15b0 := decide_eq_true c15
        clear c15
        have H' := Aside0.mk H
        clear H
        have hnb17 := NB234_235.out
        have hnc17 := NB235_234.out
        obtain ⟨hcz18_0, hcz18_1, hfz18_0, hfz18_1⟩ := pC2 BK234
        have p16 : 0 ≤ (x235000_1 : Int) := oD
        have q16 : x235000_1 < (a0.size : Int) := oD
        have hx16 := bt_at a0 x235000_1
        replace p16 := eq_true p16
        replace q16 := eq_true q16
        go_wp2
        go_roundg k1
        case measure => have := HK1.out; omega
        case rel => exact ⟨(wrap64 ((wrap64 (x8_1 * 256)) + (wrap64 (bt a0 x235000_1)))), (wrap64 (x9_1 + 1)), (wrap64 (x235000_1 + 1)), (x236000_1), (x236001_1), pT, pT, H', ⟨by have := HK1.out; omega⟩, ⟨by (with_reducible repeat (first | refine blk_drewN ?_ _ | refine blk_drew ?_ | refine blk_alloc ?_ _)); refine blk_put (cs := #[.int .i64 x235000_1, .int .i64 a1_1]) ?_ 0 _ rfl; (with_reducible repeat (first | refine blk_drewN ?_ _ | refine blk_drew ?_ | refine blk_alloc ?_ _)); exact BK234.out⟩, ⟨by (with_reducible repeat (first | refine blk_drewN ?_ _ | refine blk_drew ?_ | refine blk_alloc ?_ _)); refine blk_far ?_ NB235_234.out _; (with_reducible repeat (first | refine blk_drewN ?_ _ | refine blk_drew ?_ | refine blk_alloc ?_ _)); exact BK235.out⟩, ⟨pE HB⟩⟩
       ·
        rw [if_neg c15] at H
        exact absurd H (by simp)
      ·
       rw [if_neg c14] at H
       exact absurd H (by simp)
    ·
     rw [if_neg c7] at H
     have c7b0 : (a1_1 == 0) = false := beq_eq_false_iff_ne.mpr c7
     have c7b1 : (a1_1 != 0) = true := bne_iff_ne.mpr c7
     simp only [Option.some.injEq, Prod.mk.injEq] at H
     obtain ⟨rfl, rfl, rfl⟩ := H
     have hnb19 := NB234_235.out
     have hnc19 := NB235_234.out
     obtain ⟨hcz20_0, hcz20_1, hfz20_0, hfz20_1⟩ := pC2 BK234
     try go_wp2
     replace BK234 := Aside0.mk (blk_drew BK234.out)
     replace BK235 := Aside0.mk (blk_drew BK235.out)
     replace HB := Aside0.mk (below_drew1 HB.out)
     refine start_ (n := 3) (S := fun w' => w'.cell? ⟨gb234, 0, none⟩ = some (.int .i64 x235000_1) ∧ w'.cell? ⟨gb234, 1, none⟩ = some (.int .i64 a1_1)) (ds := []) (tk 3 0) (by kernel_rfl) rfl rfl ⟨bC BK234 0, bC BK234 1⟩ (fun hHeld => ?_)
     generalize wr.drew = w21 at BK234 BK235 HB hHeld ⊢
     refine pure_ (i := 1) (N := some 6) (v := ?_) (a' := ?_) #[false, true, false] rfl rfl (by kernel_rfl) (fun _ _ _ h => h) (Or.inl ⟨by rfl, ?_⟩) ?_ ?_
     rotate_left
     ·
      intro w'
      go_simp
      with_reducible rfl
     rotate_left
     ·
      simp only [Act.put, List.setIfInBounds_toArray, List.set_cons_zero, List.set_cons_succ, i64_w, i32_w]
      rfl
     refine take_ (i := 0) (N := some 18) (v := ?_) (a' := ?_) (tk 3 2) rfl rfl (by kernel_rfl) (fun _ _ _ h => h) (Or.inl ⟨by rfl, ?_⟩) hHeld ?_ ?_
     rotate_left
     ·
      rintro w' ⟨s0, s1⟩
      go_simp
      with_reducible rfl
     rotate_left
     ·
      simp only [Act.put, List.setIfInBounds_toArray, List.set_cons_zero, List.set_cons_succ, i64_w, i32_w]
      rfl
     refine one_ (i := 2) (N := none) (tk 3 3) rfl rfl (by kernel_rfl) (by decide) (fun K hK => ?_)
     have hs22 : w21.cell? ⟨gb235, 0, none⟩ = some (.int .i64 x236000_1) := bC BK235 0
     have hfs22 := blk_frozen BK235.out 0
     have hns22_0 := NB234_235.out
     have hms22_0 := NB235_234.out
     have hs23 : w21.cell? ⟨gb235, 1, none⟩ = some (.int .i64 x236001_1) := bC BK235 1
     have hfs23 := blk_frozen BK235.out 1
     have hns23_0 := NB234_235.out
     have hms23_0 := NB235_234.out
     refine skip_ (w1 := ?_) (by rfl) rfl ?_ ?_
     rotate_left
     ·
      go_simp
      rfl
     refine hK.out _ _ ⟨((cell_far (p := ⟨gb235, _, none⟩) NB234_235.out _).trans (((cell_far (p := ⟨gb235, _, none⟩) NB234_235.out _).trans (hHeld.1)))), ((cell_far (p := ⟨gb235, _, none⟩) NB234_235.out _).trans (((cell_far (p := ⟨gb235, _, none⟩) NB234_235.out _).trans (hHeld.2))))⟩ (fun hHeld => ?_)
     clear hK K
     refine done_ (by kernel_rfl) ?_
     try go_wp2
     refine bodyPost_ret (results_tc rfl _ _ gb235 67 #[.int .i64 x235000_1, .int .i64 a1_1] (0, 0) _ rfl (pP (pP (pM BK235))) Tryd.underlying67 rfl (by kernel_rfl)) rfl ?_
     exact pR (pE HB)
   ·
    rw [if_neg c6] at H
    have c6b0 := decide_eq_false c6
    clear c6
    by_cases c24 : a1_1 = 0
    ·
     rw [if_pos c24] at H
     have c24b0 : (a1_1 == 0) = true := beq_iff_eq.mpr c24
     have c24b1 : (a1_1 != 0) = false := bne_eq_false_iff_eq.mpr c24
     clear c24
     simp only [Option.some.injEq, Prod.mk.injEq] at H
     obtain ⟨rfl, rfl, rfl⟩ := H
     have hnb25 := NB234_235.out
     have hnc25 := NB235_234.out
     obtain ⟨hcz26_0, hcz26_1, hfz26_0, hfz26_1⟩ := pC2 BK234
     try go_wp2
     replace BK234 := Aside0.mk (blk_drew BK234.out)
     replace BK235 := Aside0.mk (blk_drew BK235.out)
     replace HB := Aside0.mk (below_drew1 HB.out)
     refine start_ (n := 4) (S := fun w' => w'.cell? ⟨gb234, 0, none⟩ = some (.int .i64 x235000_1) ∧ w'.cell? ⟨gb234, 1, none⟩ = some (.int .i64 a1_1)) (ds := []) (tk 4 0) (by kernel_rfl) rfl rfl ⟨bC BK234 0, bC BK234 1⟩ (fun hHeld => ?_)
     generalize wr.drew = w27 at BK234 BK235 HB hHeld ⊢
     refine pure_ (i := 0) (N := some 43) (v := ?_) (a' := ?_) (tk 4 1) rfl rfl (by kernel_rfl) (fun _ _ _ h => h) (Or.inl ⟨by rfl, ?_⟩) ?_ ?_
     rotate_left
     ·
      intro w'
      go_simp
      with_reducible rfl
     rotate_left
     ·
      simp only [Act.put, List.setIfInBounds_toArray, List.set_cons_zero, List.set_cons_succ, i64_w, i32_w]
      rfl
     refine pure_ (i := 2) (N := some 6) (v := ?_) (a' := ?_) #[true, false, true, false] rfl rfl (by kernel_rfl) (fun _ _ _ h => h) (Or.inl ⟨by rfl, ?_⟩) ?_ ?_
     rotate_left
     ·
      intro w'
      go_simp
      with_reducible rfl
     rotate_left
     ·
      simp only [Act.put, List.setIfInBounds_toArray, List.set_cons_zero, List.set_cons_succ, i64_w, i32_w]
      rfl
     refine take_ (i := 1) (N := some 44) (v := ?_) (a' := ?_) (tk 4 3) rfl rfl (by kernel_rfl) (fun _ _ _ h => h) (Or.inl ⟨by rfl, ?_⟩) hHeld ?_ ?_
     rotate_left
     ·
      rintro w' ⟨s0, s1⟩
      go_simp
      with_reducible rfl
     rotate_left
     ·
      simp only [Act.put, List.setIfInBounds_toArray, List.set_cons_zero, List.set_cons_succ, i64_w, i32_w]
      rfl
     refine one_ (i := 3) (N := none) (tk 4 4) rfl rfl (by kernel_rfl) (by decide) (fun K hK => ?_)
     have hs28 : w27.cell? ⟨gb235, 0, none⟩ = some (.int .i64 x236000_1) := bC BK235 0
     have hfs28 := blk_frozen BK235.out 0
     have hns28_0 := NB234_235.out
     have hms28_0 := NB235_234.out
     have hs29 : w27.cell? ⟨gb235, 1, none⟩ = some (.int .i64 x236001_1) := bC BK235 1
     have hfs29 := blk_frozen BK235.out 1
     have hns29_0 := NB234_235.out
     have hms29_0 := NB235_234.out
     refine skip_ (w1 := ?_) (by rfl) rfl ?_ ?_
     rotate_left
     ·
      go_simp
      rfl
     refine hK.out _ _ ⟨((cell_far (p := ⟨gb235, _, none⟩) NB234_235.out _).trans (((cell_far (p := ⟨gb235, _, none⟩) NB234_235.out _).trans (hHeld.1)))), ((cell_far (p := ⟨gb235, _, none⟩) NB234_235.out _).trans (((cell_far (p := ⟨gb235, _, none⟩) NB234_235.out _).trans (hHeld.2))))⟩ (fun hHeld => ?_)
     clear hK K
     refine done_ (by kernel_rfl) ?_
     try go_wp2
     refine bodyPost_ret (results_tc rfl _ _ gb235 67 #[.int .i64 x235000_1, .int .i64 a1_1] (0, 0) _ rfl (pP (pP (pM BK235))) Tryd.underlying67 rfl (by kernel_rfl)) rfl ?_
     exact pR (pE HB)
    ·
     rw [if_neg c24] at H
     have c24b0 : (a1_1 == 0) = false := beq_eq_false_iff_ne.mpr c24
     have c24b1 : (a1_1 != 0) = true := bne_iff_ne.mpr c24
     simp only [Option.some.injEq, Prod.mk.injEq] at H
     obtain ⟨rfl, rfl, rfl⟩ := H
     have hnb30 := NB234_235.out
     have hnc30 := NB235_234.out
     obtain ⟨hcz31_0, hcz31_1, hfz31_0, hfz31_1⟩ := pC2 BK234
     try go_wp2
     replace BK234 := Aside0.mk (blk_drew BK234.out)
     replace BK235 := Aside0.mk (blk_drew BK235.out)
     replace HB := Aside0.mk (below_drew1 HB.out)
     refine start_ (n := 3) (S := fun w' => w'.cell? ⟨gb234, 0, none⟩ = some (.int .i64 x235000_1) ∧ w'.cell? ⟨gb234, 1, none⟩ = some (.int .i64 a1_1)) (ds := []) (tk 3 0) (by kernel_rfl) rfl rfl ⟨bC BK234 0, bC BK234 1⟩ (fun hHeld => ?_)
     generalize wr.drew = w32 at BK234 BK235 HB hHeld ⊢
     refine pure_ (i := 1) (N := some 6) (v := ?_) (a' := ?_) #[false, true, false] rfl rfl (by kernel_rfl) (fun _ _ _ h => h) (Or.inl ⟨by rfl, ?_⟩) ?_ ?_
     rotate_left
     ·
      intro w'
      go_simp
      with_reducible rfl
     rotate_left
     ·
      simp only [Act.put, List.setIfInBounds_toArray, List.set_cons_zero, List.set_cons_succ, i64_w, i32_w]
      rfl
     refine take_ (i := 0) (N := some 42) (v := ?_) (a' := ?_) (tk 3 2) rfl rfl (by kernel_rfl) (fun _ _ _ h => h) (Or.inl ⟨by rfl, ?_⟩) hHeld ?_ ?_
     rotate_left
     ·
      rintro w' ⟨s0, s1⟩
      go_simp
      with_reducible rfl
     rotate_left
     ·
      simp only [Act.put, List.setIfInBounds_toArray, List.set_cons_zero, List.set_cons_succ, i64_w, i32_w]
      rfl
     refine one_ (i := 2) (N := none) (tk 3 3) rfl rfl (by kernel_rfl) (by decide) (fun K hK => ?_)
     have hs33 : w32.cell? ⟨gb235, 0, none⟩ = some (.int .i64 x236000_1) := bC BK235 0
     have hfs33 := blk_frozen BK235.out 0
     have hns33_0 := NB234_235.out
     have hms33_0 := NB235_234.out
     have hs34 : w32.cell? ⟨gb235, 1, none⟩ = some (.int .i64 x236001_1) := bC BK235 1
     have hfs34 := blk_frozen BK235.out 1
     have hns34_0 := NB234_235.out
     have hms34_0 := NB235_234.out
     refine skip_ (w1 := ?_) (by rfl) rfl ?_ ?_
     rotate_left
     ·
      go_simp
      rfl
     refine hK.out _ _ ⟨((cell_far (p := ⟨gb235, _, none⟩) NB234_235.out _).trans (((cell_far (p := ⟨gb235, _, none⟩) NB234_235.out _).trans (hHeld.1)))), ((cell_far (p := ⟨gb235, _, none⟩) NB234_235.out _).trans (((cell_far (p := ⟨gb235, _, none⟩) NB234_235.out _).trans (hHeld.2))))⟩ (fun hHeld => ?_)
     clear hK K
     refine done_ (by kernel_rfl) ?_
     try go_wp2
     refine bodyPost_ret (results_tc rfl _ _ gb235 67 #[.int .i64 x235000_1, .int .i64 a1_1] (0, 0) _ rfl (pP (pP (pM BK235))) Tryd.underlying67 rfl (by kernel_rfl)) rfl ?_
     exact pR (pE HB)

end Go.Proofs.YtaehonmfoanloaaDoor.PA
