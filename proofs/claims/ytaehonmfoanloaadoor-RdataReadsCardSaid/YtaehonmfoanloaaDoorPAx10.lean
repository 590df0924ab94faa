/- The Go functions in Lean, with the proofs that the code comes to these answers: printed by this session's program (wip/px) out of the seat's translation. Conditions: each theorem's own. -/
import Derived.Test.YtaehonmfoanloaaDoorPAx0
import Derived.Test.YtaehonmfoanloaaDoorPAx6
import Derived.Test.YtaehonmfoanloaaDoorPAx7
import Derived.Test.YtaehonmfoanloaaDoorPAx8
namespace Go.Proofs.YtaehonmfoanloaaDoor.PA
open Go.RowKit Go.Proofs.YtaehonmfoanloaaDoorW.PrintWords Go.Proofs.YtaehonmfoanloaaDoorW.PrintLast Go.Proofs.YtaehonmfoanloaaDoorW.PrintMore
attribute [local go_sem] max2_int min2_int max_two min_two max_three min_three max_four min_four   -- for this text's walks alone
attribute [local go_sem ↓] Ext.isSome_setCell
open Press
set_option linter.unusedVariables false
set_option linter.unusedSimpArgs false

/-! ### ddiref05_takeBits: function 77 -/
mutual
def ddiref05_takeBits.j0 : Nat → ByteArray → Bool → Int → Int → Option (Int × Int × Int)
 | 0, _, _, _, _ => none
 | k + 1, x0, x26, x270000, x270001 => if x26 = true then (some (0, x270000, 7)) else ((ddiref05_Take.f k x0 x270000 x270001 1).bind fun bt274 => (if bt274.2.2 = 0 then (if bt274.1 = 0 then (ddiref05_takeBits.j1 k x0 bt274.1 true bt274.2.1 bt274.2.2) else (ddiref05_takeBits.j1 k x0 bt274.1 (decide (bt274.1 > 7)) bt274.2.1 bt274.2.2)) else (ddiref05_takeBits.j1 k x0 bt274.1 false bt274.2.1 bt274.2.2)))
def ddiref05_takeBits.j1 : Nat → ByteArray → Int → Bool → Int → Int → Option (Int × Int × Int)
 | 0, _, _, _, _, _ => none
 | k + 1, x0, x7, x46, x270000, x270001 => if x46 = true then (some (0, x270000, 7)) else ((ddiref05_run.f x0 x270000 x270001 x7).bind fun bt277 => (if bt277.2.2 = 0 then (ddiref05_takeBits.l0 k x7 bt277.1 0 0 bt277.2.1 bt277.2.2) else (some (0, bt277.2.1, bt277.2.2))))
def ddiref05_takeBits.l0 : Nat → Int → ByteArray → Int → Int → Int → Int → Option (Int × Int × Int)
 | 0, _, _, _, _, _, _ => none
 | k + 1, x7, x8, x9, x10, x270000, x270001 => if x10 < x7 then (ddiref05_takeBits.l1 k x7 x8 x9 x10 0 x270000 x270001) else (if 0 ≤ (wrap64 (x7 - 1)) then (if (wrap64 (x7 - 1)) < (x8.size : Int) then (if (bt x8 (wrap64 (x7 - 1))) = 0 then (some (0, x270000, 7)) else ((ddiref05_all.f k x9).bind fun t280 => (if t280 = true then (some (x9, x270000, x270001)) else (some (0, x270000, 7))))) else (none)) else (none))
def ddiref05_takeBits.l1 : Nat → Int → ByteArray → Int → Int → Int → Int → Int → Option (Int × Int × Int)
 | 0, _, _, _, _, _, _, _ => none
 | k + 1, x7, x8, x9, x10, x11, x270000, x270001 => if x11 < 8 then (if 0 ≤ x10 then (if x10 < (x8.size : Int) then (ddiref05_takeBits.l2 k x7 x8 x9 x10 x11 (wrap64 (bt x8 x10)) 0 x270000 x270001) else (none)) else (none)) else (ddiref05_takeBits.l0 k x7 x8 x9 (wrap64 (x10 + 1)) x270000 x270001)
def ddiref05_takeBits.l2 : Nat → Int → ByteArray → Int → Int → Int → Int → Int → Int → Int → Option (Int × Int × Int)
 | 0, _, _, _, _, _, _, _, _, _ => none
 | k + 1, x7, x8, x9, x10, x11, x12, x13, x270000, x270001 => if x13 < (wrap64 (7 - x11)) then (ddiref05_takeBits.l2 k x7 x8 x9 x10 x11 (wrap64 (Int.tdiv x12 2)) (wrap64 (x13 + 1)) x270000 x270001) else (if (Int.tmod x12 2) = 1 then (if 0 ≤ (IntKind.u64.wrap (wrap64 ((wrap64 (x10 * 8)) + x11))) then (ddiref05_takeBits.l1 k x7 x8 (IntKind.u64.wrap (x9 + (shl .u64 1 (IntKind.u64.wrap (wrap64 ((wrap64 (x10 * 8)) + x11)))))) x10 (wrap64 (x11 + 1)) x270000 x270001) else (none)) else (ddiref05_takeBits.l1 k x7 x8 x9 x10 (wrap64 (x11 + 1)) x270000 x270001))
end
def ddiref05_takeBits.f (k : Nat) (a0 : ByteArray) (a1_0 : Int) (a1_1 : Int) : Option (Int × Int × Int) := (ddiref05_Take.f k a0 a1_0 a1_1 1).bind fun bt271 => (if bt271.2.2 = 0 then (ddiref05_takeBits.j0 k a0 (bt271.1 != 0) bt271.2.1 bt271.2.2) else (ddiref05_takeBits.j0 k a0 false bt271.2.1 bt271.2.2))
theorem ddiref05_takeBits.mono_l : ∀ k, (∀ y0 y1 y2 y3, LeO (ddiref05_takeBits.j0 k y0 y1 y2 y3) (ddiref05_takeBits.j0 (k + 1) y0 y1 y2 y3)) ∧ (∀ y0 y1 y2 y3 y4, LeO (ddiref05_takeBits.j1 k y0 y1 y2 y3 y4) (ddiref05_takeBits.j1 (k + 1) y0 y1 y2 y3 y4)) ∧ (∀ y0 y1 y2 y3 y4 y5, LeO (ddiref05_takeBits.l0 k y0 y1 y2 y3 y4 y5) (ddiref05_takeBits.l0 (k + 1) y0 y1 y2 y3 y4 y5)) ∧ (∀ y0 y1 y2 y3 y4 y5 y6, LeO (ddiref05_takeBits.l1 k y0 y1 y2 y3 y4 y5 y6) (ddiref05_takeBits.l1 (k + 1) y0 y1 y2 y3 y4 y5 y6)) ∧ (∀ y0 y1 y2 y3 y4 y5 y6 y7 y8, LeO (ddiref05_takeBits.l2 k y0 y1 y2 y3 y4 y5 y6 y7 y8) (ddiref05_takeBits.l2 (k + 1) y0 y1 y2 y3 y4 y5 y6 y7 y8))
 | 0 => ⟨fun _ _ _ _ r h => by simp [ddiref05_takeBits.j0] at h, fun _ _ _ _ _ r h => by simp [ddiref05_takeBits.j1] at h, fun _ _ _ _ _ _ r h => by simp [ddiref05_takeBits.l0] at h, fun _ _ _ _ _ _ _ r h => by simp [ddiref05_takeBits.l1] at h, fun _ _ _ _ _ _ _ _ _ r h => by simp [ddiref05_takeBits.l2] at h⟩
 | k + 1 => by
  obtain ⟨ih0, ih1, ih2, ih3, ih4⟩ := ddiref05_takeBits.mono_l k
  refine ⟨?_, ?_, ?_, ?_, ?_⟩
  ·
   intro y0 y1 y2 y3
   unfold ddiref05_takeBits.j0
   repeat' with_reducible first | exact ih0 _ _ _ _ | exact ih1 _ _ _ _ _ | exact ih2 _ _ _ _ _ _ | exact ih3 _ _ _ _ _ _ _ | exact ih4 _ _ _ _ _ _ _ _ _ | exact ddiref05_Take.mono _ _ _ _ _ | exact ddiref05_all.mono _ _ | exact LeO.refl _ | exact LeO.none _ | refine LeO.ite ?_ ?_ | refine LeO.bind ?_ (fun _ => ?_)
  ·
   intro y0 y1 y2 y3 y4
   unfold ddiref05_takeBits.j1
   repeat' with_reducible first | exact ih0 _ _ _ _ | exact ih1 _ _ _ _ _ | exact ih2 _ _ _ _ _ _ | exact ih3 _ _ _ _ _ _ _ | exact ih4 _ _ _ _ _ _ _ _ _ | exact ddiref05_Take.mono _ _ _ _ _ | exact ddiref05_all.mono _ _ | exact LeO.refl _ | exact LeO.none _ | refine LeO.ite ?_ ?_ | refine LeO.bind ?_ (fun _ => ?_)
  ·
   intro y0 y1 y2 y3 y4 y5
   unfold ddiref05_takeBits.l0
   repeat' with_reducible first | exact ih0 _ _ _ _ | exact ih1 _ _ _ _ _ | exact ih2 _ _ _ _ _ _ | exact ih3 _ _ _ _ _ _ _ | exact ih4 _ _ _ _ _ _ _ _ _ | exact ddiref05_Take.mono _ _ _ _ _ | exact ddiref05_all.mono _ _ | exact LeO.refl _ | exact LeO.none _ | refine LeO.ite ?_ ?_ | refine LeO.bind ?_ (fun _ => ?_)
  ·
   intro y0 y1 y2 y3 y4 y5 y6
   unfold ddiref05_takeBits.l1
   repeat' with_reducible first | exact ih0 _ _ _ _ | exact ih1 _ _ _ _ _ | exact ih2 _ _ _ _ _ _ | exact ih3 _ _ _ _ _ _ _ | exact ih4 _ _ _ _ _ _ _ _ _ | exact ddiref05_Take.mono _ _ _ _ _ | exact ddiref05_all.mono _ _ | exact LeO.refl _ | exact LeO.none _ | refine LeO.ite ?_ ?_ | refine LeO.bind ?_ (fun _ => ?_)
  ·
   intro y0 y1 y2 y3 y4 y5 y6 y7 y8
   unfold ddiref05_takeBits.l2
   repeat' with_reducible first | exact ih0 _ _ _ _ | exact ih1 _ _ _ _ _ | exact ih2 _ _ _ _ _ _ | exact ih3 _ _ _ _ _ _ _ | exact ih4 _ _ _ _ _ _ _ _ _ | exact ddiref05_Take.mono _ _ _ _ _ | exact ddiref05_all.mono _ _ | exact LeO.refl _ | exact LeO.none _ | refine LeO.ite ?_ ?_ | refine LeO.bind ?_ (fun _ => ?_)
theorem ddiref05_takeBits.mono : ∀ a0 a1 a2 k, LeO (ddiref05_takeBits.f k a0 a1 a2) (ddiref05_takeBits.f (k + 1) a0 a1 a2) := by
 intro a0 a1 a2 k
 obtain ⟨ih0, ih1, ih2, ih3, ih4⟩ := ddiref05_takeBits.mono_l k
 unfold ddiref05_takeBits.f
 repeat' with_reducible first | exact ih0 _ _ _ _ | exact ih1 _ _ _ _ _ | exact ih2 _ _ _ _ _ _ | exact ih3 _ _ _ _ _ _ _ | exact ih4 _ _ _ _ _ _ _ _ _ | exact ddiref05_Take.mono _ _ _ _ _ | exact ddiref05_all.mono _ _ | exact LeO.refl _ | exact LeO.none _ | refine LeO.ite ?_ ?_ | refine LeO.bind ?_ (fun _ => ?_)
set_option maxHeartbeats 40000000 in
set_option maxRecDepth 100000 in
theorem ddiref05_takeBits.calls (k : Nat) (a0 : ByteArray) (a1_0 : Int) (a1_1 : Int) (r1 : Int) (r2 : Int) (r3 : Int) (w : World) (h : ddiref05_takeBits.f k a0 a1_0 a1_1 = some (r1, r2, r3)) :
 Calls Tryd.prog 77 #[.string a0, .agg #[.int .i64 a1_0, .int .i64 a1_1]] w fun e w' => e = .returned (.tuple #[.int .u64 r1, .agg #[.int .i64 r2, .int .i64 r3]]) ∧ Below w.heap.size w w' := by
 have hu67 := Tryd.underlying67
 have HB := Aside0.mk (Below.refl w.heap.size w)
 have H : ((ddiref05_Take.f k a0 a1_0 a1_1 1).bind fun bt271 => (if bt271.2.2 = 0 then (ddiref05_takeBits.j0 k a0 (bt271.1 != 0) bt271.2.1 bt271.2.2) else (ddiref05_takeBits.j0 k a0 false bt271.2.1 bt271.2.2))) = some (r1, r2, r3) := h
 clear h
 replace H := Option.bind_eq_some_iff.mp H
 obtain ⟨⟨t271, t272, t273⟩, A30, H⟩ := H
 replace H : (if t273 = 0 then (ddiref05_takeBits.j0 k a0 (t271 != 0) t272 t273) else (ddiref05_takeBits.j0 k a0 false t272 t273)) = some (r1, r2, r3) := H
 have A3 := Aside0.mk A30
 clear A30
 have HC4 := Aside0.mk H
 clear H
 go_enter Tryd.func77, Tryd.ntmps77
 go_upto_region 2 with (first | ((with_reducible refine gate_dst (N := 3) rfl ?_); refine boxA (N := 3) (cs := #[.int .i64 a1_0, .int .i64 a1_1]) (t := 67) ?_; intro gb269 hg w5 hbox hb; have BK269 := Aside0.mk (hbox); have GE269 := (pZ HB hg); replace HB := (pS HB hb); clear hb hbox hg) | ((with_reducible refine gate_dst (N := 5) rfl ?_); refine boxA (N := 5) (cs := #[.int .i64 0, .int .i64 0]) (t := 67) ?_; intro gb270 hg w6 hbox hb; have BK270 := Aside0.mk (hbox); have GE270 := (pZ HB hg); have NB269_270 := (pL BK269 hg); have NB270_269 := (pG BK269 hg); replace BK269 := (pB BK269 hb); replace HB := (pS HB hb); clear hb hbox hg; have hnb7 := NB269_270.out; have hnc7 := NB270_269.out; obtain ⟨hcz8_0, hcz8_1, hfz8_0, hfz8_1⟩ := pC2 BK269) | ((with_reducible refine gate_callee (f := 74) rfl ?_); refine goesA (some 17) Tryd.func74 #[.string a0, .agg #[.int .i64 a1_0, .int .i64 a1_1], .int .i64 1] ?_; (with_reducible refine (ddiref05_Take.calls k a0 a1_0 a1_1 1 t271 t272 t273 _ A3.out).mono ?_); rintro e w9 ⟨rfl, hb⟩; refine ⟨_, rfl, ?_⟩; replace BK269 := (pB BK269 hb); replace BK270 := (pB BK270 hb); replace HB := (pS HB hb); (try clear hb); obtain ⟨hcz10_0, hcz10_1, hfz10_0, hfz10_1⟩ := pC2 BK269))
 (try simp only [Act.put, List.setIfInBounds_toArray, List.set_cons_zero, List.set_cons_succ])
 go_cut [26] (fun v26 wc => ∃ (kq : Nat) (x26_3 : Bool), v26 = .bool x26_3 ∧ Aside0 (ddiref05_takeBits.j0 kq a0 x26_3 t272 t273 = some (r1, r2, r3)) ∧ Aside0 (kq ≤ k) ∧ Aside0 (wc.heap[gb269]? = some (.cells #[.int .i64 t272, .int .i64 t273] 67 (0, 0))) ∧ Aside0 (wc.heap[gb270]? = some (.cells #[.int .i64 0, .int .i64 0] 67 (0, 0))) ∧ Aside0 (Below w.heap.size w wc))
 case first =>
  have H := HC4.out
  clear HC4
  by_cases c11 : t273 = 0
  ·
   rw [if_pos c11] at H
   have c11b0 : (t273 == 0) = true := beq_iff_eq.mpr c11
   have c11b1 : (t273 != 0) = false := bne_eq_false_iff_eq.mpr c11
   clear c11
   (first | rw [c11b0] | (simp only [i64_w, i32_w]; rw [c11b0]) | skip)
   have H' := Aside0.mk H
   clear H
   have hnb12 := NB269_270.out
   have hnc12 := NB270_269.out
   obtain ⟨hcz13_0, hcz13_1, hfz13_0, hfz13_1⟩ := pC2 BK269
   go_wp2
   refine Met.intro ?_
   go_step
   (repeat apply Exists.intro)
   refine ⟨?rel, ?heq_⟩
   case heq_ => first | rfl | (rw [c11b0]) | (simp only [c11b0])
   case rel => exact ⟨_, ((t271 != 0)), pT, H', ⟨by first | omega | exact Nat.le_refl _⟩, ⟨by (with_reducible repeat (first | refine blk_drewN ?_ _ | refine blk_drew ?_ | refine blk_alloc ?_ _)); refine blk_put (cs := #[.int .i64 t272, .int .i64 a1_1]) ?_ 1 _ rfl; (with_reducible repeat (first | refine blk_drewN ?_ _ | refine blk_drew ?_ | refine blk_alloc ?_ _)); refine blk_put (cs := #[.int .i64 a1_0, .int .i64 a1_1]) ?_ 0 _ rfl; (with_reducible repeat (first | refine blk_drewN ?_ _ | refine blk_drew ?_ | refine blk_alloc ?_ _)); exact BK269.out⟩, ⟨by (with_reducible repeat (first | refine blk_drewN ?_ _ | refine blk_drew ?_ | refine blk_alloc ?_ _)); refine blk_far ?_ NB270_269.out _; (with_reducible repeat (first | refine blk_drewN ?_ _ | refine blk_drew ?_ | refine blk_alloc ?_ _)); refine blk_far ?_ NB270_269.out _; (with_reducible repeat (first | refine blk_drewN ?_ _ | refine blk_drew ?_ | refine blk_alloc ?_ _)); exact BK270.out⟩, ⟨pE HB⟩⟩
  ·
   rw [if_neg c11] at H
   have c11b0 : (t273 == 0) = false := beq_eq_false_iff_ne.mpr c11
   have c11b1 : (t273 != 0) = true := bne_iff_ne.mpr c11
   (first | rw [c11b0] | (simp only [i64_w, i32_w]; rw [c11b0]) | skip)
   have H' := Aside0.mk H
   clear H
   have hnb14 := NB269_270.out
   have hnc14 := NB270_269.out
   obtain ⟨hcz15_0, hcz15_1, hfz15_0, hfz15_1⟩ := pC2 BK269
   go_wp2
   refine Met.intro ?_
   go_step
   (repeat apply Exists.intro)
   refine ⟨?rel, ?heq_⟩
   case heq_ => first | rfl | (rw [c11b0]) | (simp only [c11b0])
   case rel => exact ⟨_, (false), pT, H', ⟨by first | omega | exact Nat.le_refl _⟩, ⟨by (with_reducible repeat (first | refine blk_drewN ?_ _ | refine blk_drew ?_ | refine blk_alloc ?_ _)); refine blk_put (cs := #[.int .i64 t272, .int .i64 a1_1]) ?_ 1 _ rfl; (with_reducible repeat (first | refine blk_drewN ?_ _ | refine blk_drew ?_ | refine blk_alloc ?_ _)); refine blk_put (cs := #[.int .i64 a1_0, .int .i64 a1_1]) ?_ 0 _ rfl; (with_reducible repeat (first | refine blk_drewN ?_ _ | refine blk_drew ?_ | refine blk_alloc ?_ _)); exact BK269.out⟩, ⟨by (with_reducible repeat (first | refine blk_drewN ?_ _ | refine blk_drew ?_ | refine blk_alloc ?_ _)); refine blk_far ?_ NB270_269.out _; (with_reducible repeat (first | refine blk_drewN ?_ _ | refine blk_drew ?_ | refine blk_alloc ?_ _)); refine blk_far ?_ NB270_269.out _; (with_reducible repeat (first | refine blk_drewN ?_ _ | refine blk_drew ?_ | refine blk_alloc ?_ _)); exact BK270.out⟩, ⟨pE HB⟩⟩
 case rest =>
  clear HC4
  try clear hcz10_0 hcz10_1
  try clear hcz8_0 hcz8_1
  try clear hfz10_0 hfz10_1
  try clear hfz8_0 hfz8_1
  obtain ⟨kq, x26_3, rfl, HA, HJ3, BK269, BK270, HB⟩ := hcut
  cases kq with
  | zero => exact absurd HA.out (by simp [ddiref05_takeBits.j0])
  | succ kj3 =>
   have H := HA.out
   clear HA
   simp only [ddiref05_takeBits.j0] at H
   by_cases c16 : x26_3 = true
   ·
    subst c16
    have H1 : (some (0, t272, 7)) = some (r1, r2, r3) := by rw [if_pos rfl] at H; exact H
    clear H
    have H := H1
    clear H1
    simp only [Option.some.injEq, Prod.mk.injEq] at H
    obtain ⟨rfl, rfl, rfl⟩ := H
    try go_wp2
    replace BK269 := Aside0.mk (blk_drew BK269.out)
    replace BK270 := Aside0.mk (blk_drew BK270.out)
    replace HB := Aside0.mk (below_drew1 HB.out)
    refine start_ (n := 5) (S := fun w' => w'.cell? ⟨gb269, 0, none⟩ = some (.int .i64 t272) ∧ w'.cell? ⟨gb269, 1, none⟩ = some (.int .i64 t273)) (ds := []) (tk 5 0) (by kernel_rfl) rfl rfl ⟨bC BK269 0, bC BK269 1⟩ (fun hHeld => ?_)
    generalize wc.drew = w17 at BK269 BK270 HB hHeld ⊢
    refine pure_ (i := 0) (N := some 27) (v := ?_) (a' := ?_) (tk 5 1) rfl rfl (by kernel_rfl) (fun _ _ _ h => h) (Or.inl ⟨by rfl, ?_⟩) ?_ ?_
    rotate_left
    ·
     intro w'
     go_simp
     with_reducible rfl
    rotate_left
    ·
     simp only [Act.put, List.setIfInBounds_toArray, List.set_cons_zero, List.set_cons_succ, i64_w, i32_w]
     rfl
    refine pure_ (i := 3) (N := some 4) (v := ?_) (a' := ?_) (tr [1, 2, 1, 1]) rfl rfl (by kernel_rfl) (fun _ _ _ h => h) (Or.inl ⟨by rfl, ?_⟩) ?_ ?_
    rotate_left
    ·
     intro w'
     go_simp
     with_reducible rfl
    rotate_left
    ·
     simp only [Act.put, List.setIfInBounds_toArray, List.set_cons_zero, List.set_cons_succ, i64_w, i32_w]
     rfl
    refine take_ (i := 1) (N := some 28) (v := ?_) (a' := ?_) (tr [2, 1, 1, 1]) rfl rfl (by kernel_rfl) (fun _ _ _ h => h) (Or.inl ⟨by rfl, ?_⟩) hHeld ?_ ?_
    rotate_left
    ·
     rintro w' ⟨s0, s1⟩
     go_simp
     with_reducible rfl
    rotate_left
    ·
     simp only [Act.put, List.setIfInBounds_toArray, List.set_cons_zero, List.set_cons_succ, i64_w, i32_w]
     rfl
    refine pure_ (i := 2) (N := some 29) (v := ?_) (a' := ?_) (tk 5 4) rfl rfl (by kernel_rfl) (fun _ _ _ h => h) (Or.inl ⟨by rfl, ?_⟩) ?_ ?_
    rotate_left
    ·
     intro w'
     go_simp
     with_reducible rfl
    rotate_left
    ·
     simp only [Act.put, List.setIfInBounds_toArray, List.set_cons_zero, List.set_cons_succ, i64_w, i32_w]
     rfl
    refine one_ (i := 4) (N := none) (tk 5 5) rfl rfl (by kernel_rfl) (by decide) (fun K hK => ?_)
    have hs18 : w17.cell? ⟨gb270, 0, none⟩ = some (.int .i64 0) := bC BK270 0
    have hfs18 := blk_frozen BK270.out 0
    have hns18_0 := NB269_270.out
    have hms18_0 := NB270_269.out
    have hs19 : w17.cell? ⟨gb270, 1, none⟩ = some (.int .i64 0) := bC BK270 1
    have hfs19 := blk_frozen BK270.out 1
    have hns19_0 := NB269_270.out
    have hms19_0 := NB270_269.out
    refine skip_ (w1 := ?_) (by rfl) rfl ?_ ?_
    rotate_left
    ·
     go_simp
     rfl
    refine hK.out _ _ ⟨((cell_far (p := ⟨gb270, _, none⟩) NB269_270.out _).trans (((cell_far (p := ⟨gb270, _, none⟩) NB269_270.out _).trans (hHeld.1)))), ((cell_far (p := ⟨gb270, _, none⟩) NB269_270.out _).trans (((cell_far (p := ⟨gb270, _, none⟩) NB269_270.out _).trans (hHeld.2))))⟩ (fun hHeld => ?_)
    clear hK K
    refine done_ (by kernel_rfl) ?_
    try go_wp2
    refine bodyPost_ret (results_tc rfl _ _ gb270 67 #[.int .i64 t272, .int .i64 7] (0, 0) _ rfl (pP (pP (pM BK270))) Tryd.underlying67 rfl (by kernel_rfl)) rfl ?_
    exact pR (pE HB)
   ·
    replace c16 := Bool.eq_false_iff.mpr c16
    subst c16
    rw [if_neg (show ¬ (false = true) by decide)] at H
    replace H := Option.bind_eq_some_iff.mp H
    obtain ⟨⟨t274, t275, t276⟩, A200, H⟩ := H
    replace H : (if t276 = 0 then (if t274 = 0 then (ddiref05_takeBits.j1 kj3 a0 t274 true t275 t276) else (ddiref05_takeBits.j1 kj3 a0 t274 (decide (t274 > 7)) t275 t276)) else (ddiref05_takeBits.j1 kj3 a0 t274 false t275 t276)) = some (r1, r2, r3) := H
    have A20 := Aside0.mk A200
    clear A200
    have HC21 := Aside0.mk H
    clear H
    have hnb22 := NB269_270.out
    have hnc22 := NB270_269.out
    obtain ⟨hcz23_0, hcz23_1, hfz23_0, hfz23_1⟩ := pC2 BK269
    go_upto_region 5 with (first | ((with_reducible refine gate_callee (f := 74) rfl ?_); refine goesA (some 33) Tryd.func74 #[.string a0, .agg #[.int .i64 t272, .int .i64 t273], .int .i64 1] ?_; (with_reducible refine (ddiref05_Take.calls kj3 a0 t272 t273 1 t274 t275 t276 _ A20.out).mono ?_); rintro e w24 ⟨rfl, hb⟩; refine ⟨_, rfl, ?_⟩; replace BK269 := (pB BK269 hb); replace BK270 := (pB BK270 hb); replace HB := (pS HB hb); (try clear hb); obtain ⟨hcz25_0, hcz25_1, hfz25_0, hfz25_1⟩ := pC2 BK269))
    (try simp only [Act.put, List.setIfInBounds_toArray, List.set_cons_zero, List.set_cons_succ])
    go_cut [46] (fun v46 wc => ∃ (kq : Nat) (x46_20 : Bool), v46 = .bool x46_20 ∧ Aside0 (ddiref05_takeBits.j1 kq a0 t274 x46_20 t275 t276 = some (r1, r2, r3)) ∧ Aside0 (kq ≤ kj3) ∧ Aside0 (wc.heap[gb269]? = some (.cells #[.int .i64 t275, .int .i64 t276] 67 (0, 0))) ∧ Aside0 (wc.heap[gb270]? = some (.cells #[.int .i64 0, .int .i64 0] 67 (0, 0))) ∧ Aside0 (Below w.heap.size w wc))
    case first =>
     have H := HC21.out
     clear HC21
     by_cases c26 : t276 = 0
     ·
      rw [if_pos c26] at H
      have c26b0 : (t276 == 0) = true := beq_iff_eq.mpr c26
      have c26b1 : (t276 != 0) = false := bne_eq_false_iff_eq.mpr c26
      clear c26
      (first | rw [c26b0] | (simp only [i64_w, i32_w]; rw [c26b0]) | skip)
      by_cases c27 : t274 = 0
      ·
       rw [if_pos c27] at H
       have c27b0 : (t274 == 0) = true := beq_iff_eq.mpr c27
       have c27b1 : (t274 != 0) = false := bne_eq_false_iff_eq.mpr c27
       clear c27
       have H' := Aside0.mk H
       clear H
       have hnb28 := NB269_270.out
       have hnc28 := NB270_269.out
       obtain ⟨hcz29_0, hcz29_1, hfz29_0, hfz29_1⟩ := pC2 BK269
       go_wp2
       refine Met.intro ?_
       go_step
       (repeat apply Exists.intro)
       refine ⟨?rel, ?heq_⟩
       case heq_ => first | rfl | (rw [c26b0]) | (simp only [c26b0])
       case rel => exact ⟨_, (true), pT, H', ⟨by have := HJ3.out; first | omega | exact Nat.le_refl _⟩, ⟨by (with_reducible repeat (first | refine blk_drewN ?_ _ | refine blk_drew ?_ | refine blk_alloc ?_ _)); refine blk_put (cs := #[.int .i64 t275, .int .i64 t273]) ?_ 1 _ rfl; (with_reducible repeat (first | refine blk_drewN ?_ _ | refine blk_drew ?_ | refine blk_alloc ?_ _)); refine blk_put (cs := #[.int .i64 t272, .int .i64 t273]) ?_ 0 _ rfl; (with_reducible repeat (first | refine blk_drewN ?_ _ | refine blk_drew ?_ | refine blk_alloc ?_ _)); exact BK269.out⟩, ⟨by (with_reducible repeat (first | refine blk_drewN ?_ _ | refine blk_drew ?_ | refine blk_alloc ?_ _)); refine blk_far ?_ NB270_269.out _; (with_reducible repeat (first | refine blk_drewN ?_ _ | refine blk_drew ?_ | refine blk_alloc ?_ _)); refine blk_far ?_ NB270_269.out _; (with_reducible repeat (first | refine blk_drewN ?_ _ | refine blk_drew ?_ | refine blk_alloc ?_ _)); exact BK270.out⟩, ⟨pE HB⟩⟩
      ·
       rw [if_neg c27] at H
       have c27b0 : (t274 == 0) = false := beq_eq_false_iff_ne.mpr c27
       have c27b1 : (t274 != 0) = true := bne_iff_ne.mpr c27
       have H' := Aside0.mk H
       clear H
       have hnb30 := NB269_270.out
       have hnc30 := NB270_269.out
       obtain ⟨hcz31_0, hcz31_1, hfz31_0, hfz31_1⟩ := pC2 BK269
       go_wp2
       refine Met.intro ?_
       go_step
       (repeat apply Exists.intro)
       refine ⟨?rel, ?heq_⟩
       case heq_ => first | rfl | (rw [c26b0]) | (simp only [c26b0])
       case rel => exact ⟨_, (decide (t274 > 7)), pT, H', ⟨by have := HJ3.out; first | omega | exact Nat.le_refl _⟩, ⟨by (with_reducible repeat (first | refine blk_drewN ?_ _ | refine blk_drew ?_ | refine blk_alloc ?_ _)); refine blk_put (cs := #[.int .i64 t275, .int .i64 t273]) ?_ 1 _ rfl; (with_reducible repeat (first | refine blk_drewN ?_ _ | refine blk_drew ?_ | refine blk_alloc ?_ _)); refine blk_put (cs := #[.int .i64 t272, .int .i64 t273]) ?_ 0 _ rfl; (with_reducible repeat (first | refine blk_drewN ?_ _ | refine blk_drew ?_ | refine blk_alloc ?_ _)); exact BK269.out⟩, ⟨by (with_reducible repeat (first | refine blk_drewN ?_ _ | refine blk_drew ?_ | refine blk_alloc ?_ _)); refine blk_far ?_ NB270_269.out _; (with_reducible repeat (first | refine blk_drewN ?_ _ | refine blk_drew ?_ | refine blk_alloc ?_ _)); refine blk_far ?_ NB270_269.out _; (with_reducible repeat (first | refine blk_drewN ?_ _ | refine blk_drew ?_ | refine blk_alloc ?_ _)); exact BK270.out⟩, ⟨pE HB⟩⟩
     ·
      rw [if_neg c26] at H
      have c26b0 : (t276 == 0) = false := beq_eq_false_iff_ne.mpr c26
      have c26b1 : (t276 != 0) = true := bne_iff_ne.mpr c26
      (first | rw [c26b0] | (simp only [i64_w, i32_w]; rw [c26b0]) | skip)
      have H' := Aside0.mk H
      clear H
      have hnb32 := NB269_270.out
      have hnc32 := NB270_269.out
      obtain ⟨hcz33_0, hcz33_1, hfz33_0, hfz33_1⟩ := pC2 BK269
      go_wp2
      refine Met.intro ?_
      go_step
      (repeat apply Exists.intro)
      refine ⟨?rel, ?heq_⟩
      case heq_ => first | rfl | (rw [c26b0]) | (simp only [c26b0])
      case rel => exact ⟨_, (false), pT, H', ⟨by have := HJ3.out; first | omega | exact Nat.le_refl _⟩, ⟨by (with_reducible repeat (first | refine blk_drewN ?_ _ | refine blk_drew ?_ | refine blk_alloc ?_ _)); refine blk_put (cs := #[.int .i64 t275, .int .i64 t273]) ?_ 1 _ rfl; (with_reducible repeat (first | refine blk_drewN ?_ _ | refine blk_drew ?_ | refine blk_alloc ?_ _)); refine blk_put (cs := #[.int .i64 t272, .int .i64 t273]) ?_ 0 _ rfl; (with_reducible repeat (first | refine blk_drewN ?_ _ | refine blk_drew ?_ | refine blk_alloc ?_ _)); exact BK269.out⟩, ⟨by (with_reducible repeat (first | refine blk_drewN ?_ _ | refine blk_drew ?_ | refine blk_alloc ?_ _)); refine blk_far ?_ NB270_269.out _; (with_reducible repeat (first | refine blk_drewN ?_ _ | refine blk_drew ?_ | refine blk_alloc ?_ _)); refine blk_far ?_ NB270_269.out _; (with_reducible repeat (first | refine blk_drewN ?_ _ | refine blk_drew ?_ | refine blk_alloc ?_ _)); exact BK270.out⟩, ⟨pE HB⟩⟩
    case rest =>
     clear HC21
     try clear c16
     try clear hcz10_0 hcz10_1
     try clear hcz23_0 hcz23_1
     try clear hcz25_0 hcz25_1
     try clear hcz8_0 hcz8_1
     try clear hfz10_0 hfz10_1
     try clear hfz23_0 hfz23_1
     try clear hfz25_0 hfz25_1
     try clear hfz8_0 hfz8_1
     obtain ⟨kq, x46_20, rfl, HA, HJ20, BK269, BK270, HB⟩ := hcut
     cases kq with
     | zero => exact absurd HA.out (by simp [ddiref05_takeBits.j1])
     | succ kj20 =>
      have H := HA.out
      clear HA
      simp only [ddiref05_takeBits.j1] at H
      by_cases c34 : x46_20 = true
      ·
       subst c34
       have H1 : (some (0, t275, 7)) = some (r1, r2, r3) := by rw [if_pos rfl] at H; exact H
       clear H
       have H := H1
       clear H1
       simp only [Option.some.injEq, Prod.mk.injEq] at H
       obtain ⟨rfl, rfl, rfl⟩ := H
       try go_wp2
       replace BK269 := Aside0.mk (blk_drew BK269.out)
       replace BK270 := Aside0.mk (blk_drew BK270.out)
       replace HB := Aside0.mk (below_drew1 HB.out)
       refine start_ (n := 5) (S := fun w' => w'.cell? ⟨gb269, 0, none⟩ = some (.int .i64 t275) ∧ w'.cell? ⟨gb269, 1, none⟩ = some (.int .i64 t276)) (ds := []) (tk 5 0) (by kernel_rfl) rfl rfl ⟨bC BK269 0, bC BK269 1⟩ (fun hHeld => ?_)
       generalize wc.drew = w35 at BK269 BK270 HB hHeld ⊢
       refine pure_ (i := 0) (N := some 47) (v := ?_) (a' := ?_) (tk 5 1) rfl rfl (by kernel_rfl) (fun _ _ _ h => h) (Or.inl ⟨by rfl, ?_⟩) ?_ ?_
       rotate_left
       ·
        intro w'
        go_simp
        with_reducible rfl
       rotate_left
       ·
        simp only [Act.put, List.setIfInBounds_toArray, List.set_cons_zero, List.set_cons_succ, i64_w, i32_w]
        rfl
       refine pure_ (i := 3) (N := some 4) (v := ?_) (a' := ?_) (tr [1, 2, 1, 1]) rfl rfl (by kernel_rfl) (fun _ _ _ h => h) (Or.inl ⟨by rfl, ?_⟩) ?_ ?_
       rotate_left
       ·
        intro w'
        go_simp
        with_reducible rfl
       rotate_left
       ·
        simp only [Act.put, List.setIfInBounds_toArray, List.set_cons_zero, List.set_cons_succ, i64_w, i32_w]
        rfl
       refine take_ (i := 1) (N := some 48) (v := ?_) (a' := ?_) (tr [2, 1, 1, 1]) rfl rfl (by kernel_rfl) (fun _ _ _ h => h) (Or.inl ⟨by rfl, ?_⟩) hHeld ?_ ?_
       rotate_left
       ·
        rintro w' ⟨s0, s1⟩
        go_simp
        with_reducible rfl
       rotate_left
       ·
        simp only [Act.put, List.setIfInBounds_toArray, List.set_cons_zero, List.set_cons_succ, i64_w, i32_w]
        rfl
       refine pure_ (i := 2) (N := some 49) (v := ?_) (a' := ?_) (tk 5 4) rfl rfl (by kernel_rfl) (fun _ _ _ h => h) (Or.inl ⟨by rfl, ?_⟩) ?_ ?_
       rotate_left
       ·
        intro w'
        go_simp
        with_reducible rfl
       rotate_left
       ·
        simp only [Act.put, List.setIfInBounds_toArray, List.set_cons_zero, List.set_cons_succ, i64_w, i32_w]
        rfl
       refine one_ (i := 4) (N := none) (tk 5 5) rfl rfl (by kernel_rfl) (by decide) (fun K hK => ?_)
       have hs36 : w35.cell? ⟨gb270, 0, none⟩ = some (.int .i64 0) := bC BK270 0
       have hfs36 := blk_frozen BK270.out 0
       have hns36_0 := NB269_270.out
       have hms36_0 := NB270_269.out
       have hs37 : w35.cell? ⟨gb270, 1, none⟩ = some (.int .i64 0) := bC BK270 1
       have hfs37 := blk_frozen BK270.out 1
       have hns37_0 := NB269_270.out
       have hms37_0 := NB270_269.out
       refine skip_ (w1 := ?_) (by rfl) rfl ?_ ?_
       rotate_left
       ·
        go_simp
        rfl
       refine hK.out _ _ ⟨((cell_far (p := ⟨gb270, _, none⟩) NB269_270.out _).trans (((cell_far (p := ⟨gb270, _, none⟩) NB269_270.out _).trans (hHeld.1)))), ((cell_far (p := ⟨gb270, _, none⟩) NB269_270.out _).trans (((cell_far (p := ⟨gb270, _, none⟩) NB269_270.out _).trans (hHeld.2))))⟩ (fun hHeld => ?_)
       clear hK K
       refine done_ (by kernel_rfl) ?_
       try go_wp2
       refine bodyPost_ret (results_tc rfl _ _ gb270 67 #[.int .i64 t275, .int .i64 7] (0, 0) _ rfl (pP (pP (pM BK270))) Tryd.underlying67 rfl (by kernel_rfl)) rfl ?_
       exact pR (pE HB)
      ·
       replace c34 := Bool.eq_false_iff.mpr c34
       subst c34
       rw [if_neg (show ¬ (false = true) by decide)] at H
       replace H := Option.bind_eq_some_iff.mp H
       obtain ⟨⟨t277, t278, t279⟩, A380, H⟩ := H
       replace H : (if t279 = 0 then (ddiref05_takeBits.l0 kj20 t274 t277 0 0 t278 t279) else (some (0, t278, t279))) = some (r1, r2, r3) := H
       have A38 := Aside0.mk A380
       clear A380
       by_cases c39 : t279 = 0
       ·
        rw [if_pos c39] at H
        have c39b0 : (t279 == 0) = true := beq_iff_eq.mpr c39
        have c39b1 : (t279 != 0) = false := bne_eq_false_iff_eq.mpr c39
        clear c39
        have H' := Aside0.mk H
        clear H
        have hnb40 := NB269_270.out
        have hnc40 := NB270_269.out
        obtain ⟨hcz41_0, hcz41_1, hfz41_0, hfz41_1⟩ := pC2 BK269
        go_wp2_with (first | ((with_reducible refine gate_callee (f := 71) rfl ?_); refine goesA (some 54) Tryd.func71 #[.string a0, .agg #[.int .i64 t275, .int .i64 t276], .int .i64 t274] ?_; (with_reducible refine (ddiref05_run.calls a0 t275 t276 t274 t277 t278 t279 _ A38.out).mono ?_); rintro e w42 ⟨rfl, hb⟩; refine ⟨_, rfl, ?_⟩; replace BK269 := (pB BK269 hb); replace BK270 := (pB BK270 hb); replace HB := (pS HB hb); (try clear hb); obtain ⟨hcz43_0, hcz43_1, hfz43_0, hfz43_1⟩ := pC2 BK269))
        go_loopg [9, 10] kj20 (fun kq v9 v10 w' => ∃ (x9_3 : Int) (x10_3 : Int), v9 = .int .u64 x9_3 ∧ v10 = .int .i64 x10_3 ∧ Aside0 (ddiref05_takeBits.l0 kq t274 t277 x9_3 x10_3 t278 t279 = some (r1, r2, r3)) ∧ Aside0 (kq ≤ kj20) ∧ Aside0 (w'.heap[gb269]? = some (.cells #[.int .i64 t278, .int .i64 t279] 67 (0, 0))) ∧ Aside0 (w'.heap[gb270]? = some (.cells #[.int .i64 0, .int .i64 0] 67 (0, 0))) ∧ Aside0 (Below w.heap.size w w'))
        case atStart => exact ⟨(0), (0), pT, pT, H', ⟨Nat.le_refl _⟩, ⟨by (with_reducible repeat (first | refine blk_drewN ?_ _ | refine blk_drew ?_ | refine blk_alloc ?_ _)); refine blk_put (cs := #[.int .i64 t278, .int .i64 t276]) ?_ 1 _ rfl; (with_reducible repeat (first | refine blk_drewN ?_ _ | refine blk_drew ?_ | refine blk_alloc ?_ _)); refine blk_put (cs := #[.int .i64 t275, .int .i64 t276]) ?_ 0 _ rfl; (with_reducible repeat (first | refine blk_drewN ?_ _ | refine blk_drew ?_ | refine blk_alloc ?_ _)); exact BK269.out⟩, ⟨by (with_reducible repeat (first | refine blk_drewN ?_ _ | refine blk_drew ?_ | refine blk_alloc ?_ _)); refine blk_far ?_ NB270_269.out _; (with_reducible repeat (first | refine blk_drewN ?_ _ | refine blk_drew ?_ | refine blk_alloc ?_ _)); refine blk_far ?_ NB270_269.out _; (with_reducible repeat (first | refine blk_drewN ?_ _ | refine blk_drew ?_ | refine blk_alloc ?_ _)); exact BK270.out⟩, ⟨pE HB⟩⟩
        case round =>
         clear H'
         try clear c16
         try clear c34
         try clear c39
         try clear c39b0
         try clear c39b1
         try clear hcz10_0 hcz10_1
         try clear hcz23_0 hcz23_1
         try clear hcz25_0 hcz25_1
         try clear hcz41_0 hcz41_1
         try clear hcz43_0 hcz43_1
         try clear hcz8_0 hcz8_1
         try clear hfz10_0 hfz10_1
         try clear hfz23_0 hfz23_1
         try clear hfz25_0 hfz25_1
         try clear hfz41_0 hfz41_1
         try clear hfz43_0 hfz43_1
         try clear hfz8_0 hfz8_1
         obtain ⟨x9_3, x10_3, rfl, rfl, HA, HK3, BK269, BK270, HB⟩ := hrel
         cases gk with
         | zero => exact absurd HA.out (by simp [ddiref05_takeBits.l0])
         | succ k3 =>
          have H := HA.out
          clear HA
          simp only [ddiref05_takeBits.l0] at H
          by_cases c44 : x10_3 < t274
          ·
           rw [if_pos c44] at H
           have c44b0 := decide_eq_true c44
           clear c44
           have H' := Aside0.mk H
           clear H
           go_wp2
           go_loopg [9, 11] k3 (fun kq v9 v11 w' => ∃ (x9_4 : Int) (x11_4 : Int), v9 = .int .u64 x9_4 ∧ v11 = .int .i64 x11_4 ∧ Aside0 (ddiref05_takeBits.l1 kq t274 t277 x9_4 x10_3 x11_4 t278 t279 = some (r1, r2, r3)) ∧ Aside0 (kq ≤ k3) ∧ Aside0 (w'.heap[gb269]? = some (.cells #[.int .i64 t278, .int .i64 t279] 67 (0, 0))) ∧ Aside0 (w'.heap[gb270]? = some (.cells #[.int .i64 0, .int .i64 0] 67 (0, 0))) ∧ Aside0 (Below w.heap.size w w'))
           case atStart => exact ⟨(x9_3), (0), pT, pT, H', ⟨Nat.le_refl _⟩, ⟨pM BK269⟩, ⟨pM BK270⟩, ⟨pE HB⟩⟩
           case round =>
            clear H'
            try clear c16
            try clear c34
            try clear c39
            try clear c39b0
            try clear c39b1
            try clear c44
            try clear c44b0
            try clear hcz10_0 hcz10_1
            try clear hcz23_0 hcz23_1
            try clear hcz25_0 hcz25_1
            try clear hcz41_0 hcz41_1
            try clear hcz43_0 hcz43_1
            try clear hcz8_0 hcz8_1
            try clear hfz10_0 hfz10_1
            try clear hfz23_0 hfz23_1
            try clear hfz25_0 hfz25_1
            try clear hfz41_0 hfz41_1
            try clear hfz43_0 hfz43_1
            try clear hfz8_0 hfz8_1
            obtain ⟨x9_4, x11_4, rfl, rfl, HA, HK4, BK269, BK270, HB⟩ := hrel
            cases gk with
            | zero => exact absurd HA.out (by simp [ddiref05_takeBits.l1])
            | succ k4 =>
             have H := HA.out
             clear HA
             simp only [ddiref05_takeBits.l1] at H
             by_cases c45 : x11_4 < 8
             ·
              rw [if_pos c45] at H
              have c45b0 := decide_eq_true c45
              clear c45
              by_cases c46 : 0 ≤ x10_3
              ·
               rw [if_pos c46] at H
               have c46b0 := decide_eq_true c46
               clear c46
               by_cases c47 : x10_3 < (t277.size : Int)
               ·
                rw [if_pos c47] at H
                have c47b0 := decide_eq_true c47
                clear c47
                have H' := Aside0.mk H
                clear H
                have p48 : 0 ≤ (x10_3 : Int) := oD
                have q48 : x10_3 < (t277.size : Int) := oD
                have hx48 := bt_at t277 x10_3
                replace p48 := eq_true p48
                replace q48 := eq_true q48
                go_wp2
                go_loopg [12, 13] k4 (fun kq v12 v13 w' => ∃ (x12_5 : Int) (x13_5 : Int), v12 = .int .i64 x12_5 ∧ v13 = .int .i64 x13_5 ∧ Aside0 (ddiref05_takeBits.l2 kq t274 t277 x9_4 x10_3 x11_4 x12_5 x13_5 t278 t279 = some (r1, r2, r3)) ∧ Aside0 (kq ≤ k4) ∧ Aside0 (w'.heap[gb269]? = some (.cells #[.int .i64 t278, .int .i64 t279] 67 (0, 0))) ∧ Aside0 (w'.heap[gb270]? = some (.cells #[.int .i64 0, .int .i64 0] 67 (0, 0))) ∧ Aside0 (Below w.heap.size w w'))
                case atStart => exact ⟨(wrap64 (bt t277 x10_3)), (0), pT, pT, H', ⟨Nat.le_refl _⟩, ⟨pM BK269⟩, ⟨pM BK270⟩, ⟨pE HB⟩⟩
                case round =>
                 clear H'
                 try clear c16
                 try clear c34
                 try clear c39
                 try clear c39b0
                 try clear c39b1
                 try clear c44
                 try clear c44b0
                 try clear c45
                 try clear c45b0
                 try clear c46
                 try clear c46b0
                 try clear c47
                 try clear c47b0
                 try clear p48
                 try clear q48
                 try clear hx48
                 try clear hcz10_0 hcz10_1
                 try clear hcz23_0 hcz23_1
                 try clear hcz25_0 hcz25_1
                 try clear hcz41_0 hcz41_1
                 try clear hcz43_0 hcz43_1
                 try clear hcz8_0 hcz8_1
                 try clear hfz10_0 hfz10_1
                 try clear hfz23_0 hfz23_1
                 try clear hfz25_0 hfz25_1
                 try clear hfz41_0 hfz41_1
                 try clear hfz43_0 hfz43_1
                 try clear hfz8_0 hfz8_1
                 try clear p48
                 try clear q48
                 obtain ⟨x12_5, x13_5, rfl, rfl, HA, HK5, BK269, BK270, HB⟩ := hrel
                 cases gk with
                 | zero => exact absurd HA.out (by simp [ddiref05_takeBits.l2])
                 | succ k5 =>
                  have H := HA.out
                  clear HA
                  simp only [ddiref05_takeBits.l2] at H
                  by_cases c49 : x13_5 < (wrap64 (7 - x11_4))
                  ·
                   rw [if_pos c49] at H
                   have c49b0 := decide_eq_true c49
                   clear c49
                   have H' := Aside0.mk H
                   clear H
                   go_wp2
                   go_roundg k5
                   case measure => have := HJ3.out; have := HJ20.out; have := HK3.out; have := HK4.out; have := HK5.out; omega
                   case rel => exact ⟨(wrap64 (Int.tdiv x12_5 2)), (wrap64 (x13_5 + 1)), pT, pT, H', ⟨by have := HJ3.out; have := HJ20.out; have := HK3.out; have := HK4.out; have := HK5.out; omega⟩, ⟨pM BK269⟩, ⟨pM BK270⟩, ⟨pE HB⟩⟩
                  ·
                   rw [if_neg c49] at H
                   have c49b0 := decide_eq_false c49
                   clear c49
                   by_cases c50 : (Int.tmod x12_5 2) = 1
                   ·
                    rw [if_pos c50] at H
                    have c50b0 : ((Int.tmod x12_5 2) == 1) = true := beq_iff_eq.mpr c50
                    have c50b1 : ((Int.tmod x12_5 2) != 1) = false := bne_eq_false_iff_eq.mpr c50
                    clear c50
                    obtain ⟨ji51, hji51⟩ : ∃ j_ : Int, (IntKind.u64.wrap (wrap64 ((wrap64 (x10_3 * 8)) + x11_4))) = j_ := ⟨_, rfl⟩
                    replace H : (if 0 ≤ (ji51) then (ddiref05_takeBits.l1 k5 t274 t277 (IntKind.u64.wrap (x9_4 + (shl .u64 1 (ji51)))) x10_3 (wrap64 (x11_4 + 1)) t278 t279) else (none)) = some (r1, r2, r3) := by first | (rw [hji51] at H; exact H) | (simp only [hji51] at H ⊢; exact H)
                    by_cases c52 : 0 ≤ (ji51)
                    ·
                     rw [if_pos c52] at H
                     have c52b0 := eq_true c52
                     have c52b1 := decide_eq_true c52
                     clear c52
                     obtain ⟨ji53, hji53⟩ : ∃ j_ : Int, (shl .u64 1 (ji51)) = j_ := ⟨_, rfl⟩
                     (try rw [hji53] at hji51)
                     replace H : (ddiref05_takeBits.l1 k5 t274 t277 (IntKind.u64.wrap (x9_4 + (ji53))) x10_3 (wrap64 (x11_4 + 1)) t278 t279) = some (r1, r2, r3) := by first | (rw [hji53] at H; exact H) | (simp only [hji53] at H ⊢; exact H)
                     have hji53_ : (IntKind.u64.wrap (1 * 2 ^ min (ji51).toNat 64)) = ji53 := hji53
                     have hji53z : (ji51) ≤ 64 → (IntKind.u64.wrap (1 * 2 ^ (ji51).toNat)) = ji53 := shl_small hji53
                     have hji53u : (IntKind.u64.wrap (2 ^ min (ji51).toNat 64)) = ji53 := by have h_ := hji53_; rw [Int.one_mul] at h_; exact h_
                     have hji53v : (ji51) ≤ 64 → (IntKind.u64.wrap (2 ^ (ji51).toNat)) = ji53 := fun hle_ => by have h_ := hji53z hle_; rw [Int.one_mul] at h_; exact h_
                     have H' := Aside0.mk H
                     clear H
                     go_wp2
                     go_roundg k5
                     case measure => have := HJ3.out; have := HJ20.out; have := HK3.out; have := HK4.out; have := HK5.out; omega
                     case rel => exact ⟨(IntKind.u64.wrap (x9_4 + (ji53))), (wrap64 (x11_4 + 1)), (by first | rfl | (simp; done) | (simp only [← hji53] <;> (first | rfl | simp)) | (simp [*]; done) | ((try simp only [Bool.not_not]); (generalize ByteArray.toList _ = l_); cases l_ <;> rfl) | (simp; (generalize ByteArray.toList _ = l_); cases l_ <;> rfl)), pT, (by first | exact H' | (simp only [hji51, hji53]; exact H') | (simp only [hji51, hji53] at H' ⊢; exact H')), ⟨by have := HJ3.out; have := HJ20.out; have := HK3.out; have := HK4.out; have := HK5.out; omega⟩, ⟨pM BK269⟩, ⟨pM BK270⟩, ⟨pE HB⟩⟩
                    ·
                     rw [if_neg c52] at H
                     exact absurd H (by simp)
                   ·
                    rw [if_neg c50] at H
                    have c50b0 : ((Int.tmod x12_5 2) == 1) = false := beq_eq_false_iff_ne.mpr c50
                    have c50b1 : ((Int.tmod x12_5 2) != 1) = true := bne_iff_ne.mpr c50
                    have H' := Aside0.mk H
                    clear H
                    go_wp2
                    go_roundg k5
                    case measure => have := HJ3.out; have := HJ20.out; have := HK3.out; have := HK4.out; have := HK5.out; omega
                    case rel => exact ⟨(x9_4), (wrap64 (x11_4 + 1)), pT, pT, H', ⟨by have := HJ3.out; have := HJ20.out; have := HK3.out; have := HK4.out; have := HK5.out; omega⟩, ⟨pM BK269⟩, ⟨pM BK270⟩, ⟨pE HB⟩⟩
               ·
                rw [if_neg c47] at H
                exact absurd H (by simp)
              ·
               rw [if_neg c46] at H
               exact absurd H (by simp)
             ·
              rw [if_neg c45] at H
              have c45b0 := decide_eq_false c45
              clear c45
              have H' := Aside0.mk H
              clear H
              go_wp2
              go_roundg k4
              case measure => have := HJ3.out; have := HJ20.out; have := HK3.out; have := HK4.out; omega
              case rel => exact ⟨(x9_4), (wrap64 (x10_3 + 1)), pT, pT, H', ⟨by have := HJ3.out; have := HJ20.out; have := HK3.out; have := HK4.out; omega⟩, ⟨pM BK269⟩, ⟨pM BK270⟩, ⟨pE HB⟩⟩
          ·
           rw [if_neg c44] at H
           have c44b0 := decide_eq_false c44
           clear c44
           obtain ⟨ji54, hji54⟩ : ∃ j_ : Int, (wrap64 (t274 - 1)) = j_ := ⟨_, rfl⟩
           replace H : (if 0 ≤ (ji54) then (if (ji54) < (t277.size : Int) then (if (bt t277 (ji54)) = 0 then (some (0, t278, 7)) else ((ddiref05_all.f k3 x9_3).bind fun t280 => (if t280 = true then (some (x9_3, t278, t279)) else (some (0, t278, 7))))) else (none)) else (none)) = some (r1, r2, r3) := by first | (rw [hji54] at H; exact H) | (simp only [hji54] at H ⊢; exact H)
           have hji54w : (IntKind.i64.wrap (t274 - 1)) = ji54 := (i64_w _).trans hji54
           by_cases c55 : 0 ≤ (ji54)
           ·
            rw [if_pos c55] at H
            have c55b0 := decide_eq_true c55
            clear c55
            by_cases c56 : (ji54) < (t277.size : Int)
            ·
             rw [if_pos c56] at H
             have c56b0 := decide_eq_true c56
             clear c56
             by_cases c58 : (bt t277 (ji54)) = 0
             ·
              rw [if_pos c58] at H
              have c58b0 : ((bt t277 (ji54)) == 0) = true := beq_iff_eq.mpr c58
              have c58b1 : ((bt t277 (ji54)) != 0) = false := bne_eq_false_iff_eq.mpr c58
              clear c58
              simp only [Option.some.injEq, Prod.mk.injEq] at H
              obtain ⟨rfl, rfl, rfl⟩ := H
              have p57 : 0 ≤ ((ji54) : Int) := oD
              have q57 : (ji54) < (t277.size : Int) := oD
              have hx57 := bt_at t277 (ji54)
              replace p57 := eq_true p57
              replace q57 := eq_true q57
              try go_wp2
              replace BK269 := Aside0.mk (blk_drew BK269.out)
              replace BK270 := Aside0.mk (blk_drew BK270.out)
              replace HB := Aside0.mk (below_drew1 HB.out)
              refine start_ (n := 5) (S := fun w' => w'.cell? ⟨gb269, 0, none⟩ = some (.int .i64 t278) ∧ w'.cell? ⟨gb269, 1, none⟩ = some (.int .i64 t279)) (ds := []) (tk 5 0) (by kernel_rfl) rfl rfl ⟨bC BK269 0, bC BK269 1⟩ (fun hHeld => ?_)
              generalize wr.drew = w59 at BK269 BK270 HB hHeld ⊢
              refine pure_ (i := 0) (N := some 103) (v := ?_) (a' := ?_) (tk 5 1) rfl rfl (by kernel_rfl) (fun _ _ _ h => h) (Or.inl ⟨by rfl, ?_⟩) ?_ ?_
              rotate_left
              ·
               intro w'
               go_simp
               with_reducible rfl
              rotate_left
              ·
               simp only [Act.put, List.setIfInBounds_toArray, List.set_cons_zero, List.set_cons_succ, i64_w, i32_w]
               rfl
              refine pure_ (i := 3) (N := some 4) (v := ?_) (a' := ?_) (tr [1, 2, 1, 1]) rfl rfl (by kernel_rfl) (fun _ _ _ h => h) (Or.inl ⟨by rfl, ?_⟩) ?_ ?_
              rotate_left
              ·
               intro w'
               go_simp
               with_reducible rfl
              rotate_left
              ·
               simp only [Act.put, List.setIfInBounds_toArray, List.set_cons_zero, List.set_cons_succ, i64_w, i32_w]
               rfl
              refine take_ (i := 1) (N := some 104) (v := ?_) (a' := ?_) (tr [2, 1, 1, 1]) rfl rfl (by kernel_rfl) (fun _ _ _ h => h) (Or.inl ⟨by rfl, ?_⟩) hHeld ?_ ?_
              rotate_left
              ·
               rintro w' ⟨s0, s1⟩
               go_simp
               with_reducible rfl
              rotate_left
              ·
               simp only [Act.put, List.setIfInBounds_toArray, List.set_cons_zero, List.set_cons_succ, i64_w, i32_w]
               rfl
              refine pure_ (i := 2) (N := some 105) (v := ?_) (a' := ?_) (tk 5 4) rfl rfl (by kernel_rfl) (fun _ _ _ h => h) (Or.inl ⟨by rfl, ?_⟩) ?_ ?_
              rotate_left
              ·
               intro w'
               go_simp
               with_reducible rfl
              rotate_left
              ·
               simp only [Act.put, List.setIfInBounds_toArray, List.set_cons_zero, List.set_cons_succ, i64_w, i32_w]
               rfl
              refine one_ (i := 4) (N := none) (tk 5 5) rfl rfl (by kernel_rfl) (by decide) (fun K hK => ?_)
              have hs60 : w59.cell? ⟨gb270, 0, none⟩ = some (.int .i64 0) := bC BK270 0
              have hfs60 := blk_frozen BK270.out 0
              have hns60_0 := NB269_270.out
              have hms60_0 := NB270_269.out
              have hs61 : w59.cell? ⟨gb270, 1, none⟩ = some (.int .i64 0) := bC BK270 1
              have hfs61 := blk_frozen BK270.out 1
              have hns61_0 := NB269_270.out
              have hms61_0 := NB270_269.out
              refine skip_ (w1 := ?_) (by rfl) rfl ?_ ?_
              rotate_left
              ·
               go_simp
               rfl
              refine hK.out _ _ ⟨((cell_far (p := ⟨gb270, _, none⟩) NB269_270.out _).trans (((cell_far (p := ⟨gb270, _, none⟩) NB269_270.out _).trans (hHeld.1)))), ((cell_far (p := ⟨gb270, _, none⟩) NB269_270.out _).trans (((cell_far (p := ⟨gb270, _, none⟩) NB269_270.out _).trans (hHeld.2))))⟩ (fun hHeld => ?_)
              clear hK K
              refine done_ (by kernel_rfl) ?_
              try go_wp2
              refine bodyPost_ret (results_tc rfl _ _ gb270 67 #[.int .i64 t278, .int .i64 7] (0, 0) _ rfl (pP (pP (pM BK270))) Tryd.underlying67 rfl (by kernel_rfl)) rfl ?_
              exact ⟨by first | rfl | (simp [errW_none, errW_some] <;> rfl) | (simp only [← hji54]; first | rfl | (simp [errW_none, errW_some] <;> rfl)) | (simp [*, errW_none, errW_some] <;> rfl), by repeat (first | (with_reducible first | exact HB.out | apply below_alloc | apply pw_below_drewN | apply below_drew1 | refine below_set ?_ GE269.out | refine below_set ?_ GE270.out) | exact HB.out)⟩
             ·
              rw [if_neg c58] at H
              have c58b0 : ((bt t277 (ji54)) == 0) = false := beq_eq_false_iff_ne.mpr c58
              have c58b1 : ((bt t277 (ji54)) != 0) = true := bne_iff_ne.mpr c58
              replace H := Option.bind_eq_some_iff.mp H
              obtain ⟨t280, A620, H⟩ := H
              have A62 := Aside0.mk A620
              clear A620
              by_cases c63 : t280 = true
              ·
               subst c63
               have H1 : (some (x9_3, t278, t279)) = some (r1, r2, r3) := by rw [if_pos rfl] at H; exact H
               clear H
               have H := H1
               clear H1
               simp only [Option.some.injEq, Prod.mk.injEq] at H
               obtain ⟨rfl, rfl, rfl⟩ := H
               have p57 : 0 ≤ ((ji54) : Int) := oD
               have q57 : (ji54) < (t277.size : Int) := oD
               have hx57 := bt_at t277 (ji54)
               replace p57 := eq_true p57
               replace q57 := eq_true q57
               try go_wp2_with (first | (go_at_call 37; (with_reducible refine (ddiref05_all.calls k3 x9_3 true _ A62.out).mono ?_); rintro e w' ⟨rfl, ⟨nd, rfl⟩⟩; (try (rw [drewN_self wr]; generalize hq_ : World.drewN wr _ = wr; replace BK269 : Aside0 (wr.heap[gb269]? = some (.cells #[.int .i64 t278, .int .i64 t279] 67 (0, 0))) := ⟨by rw [← hq_]; exact (pM BK269)⟩; replace BK270 : Aside0 (wr.heap[gb270]? = some (.cells #[.int .i64 0, .int .i64 0] 67 (0, 0))) := ⟨by rw [← hq_]; exact (pM BK270)⟩; replace HB : Aside0 (Below w.heap.size w wr) := ⟨by rw [← hq_]; exact (by repeat (first | (with_reducible first | exact HB.out | apply below_alloc | apply pw_below_drewN | apply below_drew1 | refine below_set ?_ GE269.out | refine below_set ?_ GE270.out) | exact HB.out))⟩; clear hq_))))
               replace BK269 := Aside0.mk (blk_drew BK269.out)
               replace BK270 := Aside0.mk (blk_drew BK270.out)
               replace HB := Aside0.mk (below_drew1 HB.out)
               refine start_ (n := 4) (S := fun w' => w'.cell? ⟨gb269, 0, none⟩ = some (.int .i64 t278) ∧ w'.cell? ⟨gb269, 1, none⟩ = some (.int .i64 t279)) (ds := []) (tk 4 0) (by kernel_rfl) rfl rfl ⟨bC BK269 0, bC BK269 1⟩ (fun hHeld => ?_)
               generalize wr.drew = w64 at BK269 BK270 HB hHeld ⊢
               refine pure_ (i := 0) (N := some 106) (v := ?_) (a' := ?_) (tk 4 1) rfl rfl (by kernel_rfl) (fun _ _ _ h => h) (Or.inl ⟨by rfl, ?_⟩) ?_ ?_
               rotate_left
               ·
                intro w'
                go_simp
                with_reducible rfl
               rotate_left
               ·
                simp only [Act.put, List.setIfInBounds_toArray, List.set_cons_zero, List.set_cons_succ, i64_w, i32_w]
                rfl
               refine pure_ (i := 2) (N := some 4) (v := ?_) (a' := ?_) #[true, false, true, false] rfl rfl (by kernel_rfl) (fun _ _ _ h => h) (Or.inl ⟨by rfl, ?_⟩) ?_ ?_
               rotate_left
               ·
                intro w'
                go_simp
                with_reducible rfl
               rotate_left
               ·
                simp only [Act.put, List.setIfInBounds_toArray, List.set_cons_zero, List.set_cons_succ, i64_w, i32_w]
                rfl
               refine take_ (i := 1) (N := some 107) (v := ?_) (a' := ?_) (tk 4 3) rfl rfl (by kernel_rfl) (fun _ _ _ h => h) (Or.inl ⟨by rfl, ?_⟩) hHeld ?_ ?_
               rotate_left
               ·
                rintro w' ⟨s0, s1⟩
                go_simp
                with_reducible rfl
               rotate_left
               ·
                simp only [Act.put, List.setIfInBounds_toArray, List.set_cons_zero, List.set_cons_succ, i64_w, i32_w]
                rfl
               refine one_ (i := 3) (N := none) (tk 4 4) rfl rfl (by kernel_rfl) (by decide) (fun K hK => ?_)
               have hs65 : w64.cell? ⟨gb270, 0, none⟩ = some (.int .i64 0) := bC BK270 0
               have hfs65 := blk_frozen BK270.out 0
               have hns65_0 := NB269_270.out
               have hms65_0 := NB270_269.out
               have hs66 : w64.cell? ⟨gb270, 1, none⟩ = some (.int .i64 0) := bC BK270 1
               have hfs66 := blk_frozen BK270.out 1
               have hns66_0 := NB269_270.out
               have hms66_0 := NB270_269.out
               refine skip_ (w1 := ?_) (by rfl) rfl ?_ ?_
               rotate_left
               ·
                go_simp
                rfl
               refine hK.out _ _ ⟨((cell_far (p := ⟨gb270, _, none⟩) NB269_270.out _).trans (((cell_far (p := ⟨gb270, _, none⟩) NB269_270.out _).trans (hHeld.1)))), ((cell_far (p := ⟨gb270, _, none⟩) NB269_270.out _).trans (((cell_far (p := ⟨gb270, _, none⟩) NB269_270.out _).trans (hHeld.2))))⟩ (fun hHeld => ?_)
               clear hK K
               refine done_ (by kernel_rfl) ?_
               try go_wp2
               refine bodyPost_ret (results_tc rfl _ _ gb270 67 #[.int .i64 t278, .int .i64 t279] (0, 0) _ rfl (pP (pP (pM BK270))) Tryd.underlying67 rfl (by kernel_rfl)) rfl ?_
               exact ⟨by first | rfl | (simp [errW_none, errW_some] <;> rfl) | (simp only [← hji54]; first | rfl | (simp [errW_none, errW_some] <;> rfl)) | (simp [*, errW_none, errW_some] <;> rfl), by repeat (first | (with_reducible first | exact HB.out | apply below_alloc | apply pw_below_drewN | apply below_drew1 | refine below_set ?_ GE269.out | refine below_set ?_ GE270.out) | exact HB.out)⟩
              ·
               replace c63 := Bool.eq_false_iff.mpr c63
               subst c63
               rw [if_neg (show ¬ (false = true) by decide)] at H
               simp only [Option.some.injEq, Prod.mk.injEq] at H
               obtain ⟨rfl, rfl, rfl⟩ := H
               have p57 : 0 ≤ ((ji54) : Int) := oD
               have q57 : (ji54) < (t277.size : Int) := oD
               have hx57 := bt_at t277 (ji54)
               replace p57 := eq_true p57
               replace q57 := eq_true q57
               try go_wp2_with (first | (go_at_call 37; (with_reducible refine (ddiref05_all.calls k3 x9_3 false _ A62.out).mono ?_); rintro e w' ⟨rfl, ⟨nd, rfl⟩⟩; (try (rw [drewN_self wr]; generalize hq_ : World.drewN wr _ = wr; replace BK269 : Aside0 (wr.heap[gb269]? = some (.cells #[.int .i64 t278, .int .i64 t279] 67 (0, 0))) := ⟨by rw [← hq_]; exact (pM BK269)⟩; replace BK270 : Aside0 (wr.heap[gb270]? = some (.cells #[.int .i64 0, .int .i64 0] 67 (0, 0))) := ⟨by rw [← hq_]; exact (pM BK270)⟩; replace HB : Aside0 (Below w.heap.size w wr) := ⟨by rw [← hq_]; exact (by repeat (first | (with_reducible first | exact HB.out | apply below_alloc | apply pw_below_drewN | apply below_drew1 | refine below_set ?_ GE269.out | refine below_set ?_ GE270.out) | exact HB.out))⟩; clear hq_))))
               replace BK269 := Aside0.mk (blk_drew BK269.out)
               replace BK270 := Aside0.mk (blk_drew BK270.out)
               replace HB := Aside0.mk (below_drew1 HB.out)
               refine start_ (n := 5) (S := fun w' => w'.cell? ⟨gb269, 0, none⟩ = some (.int .i64 t278) ∧ w'.cell? ⟨gb269, 1, none⟩ = some (.int .i64 t279)) (ds := []) (tk 5 0) (by kernel_rfl) rfl rfl ⟨bC BK269 0, bC BK269 1⟩ (fun hHeld => ?_)
               generalize wr.drew = w67 at BK269 BK270 HB hHeld ⊢
               refine pure_ (i := 0) (N := some 103) (v := ?_) (a' := ?_) (tk 5 1) rfl rfl (by kernel_rfl) (fun _ _ _ h => h) (Or.inl ⟨by rfl, ?_⟩) ?_ ?_
               rotate_left
               ·
                intro w'
                go_simp
                with_reducible rfl
               rotate_left
               ·
                simp only [Act.put, List.setIfInBounds_toArray, List.set_cons_zero, List.set_cons_succ, i64_w, i32_w]
                rfl
               refine pure_ (i := 3) (N := some 4) (v := ?_) (a' := ?_) (tr [1, 2, 1, 1]) rfl rfl (by kernel_rfl) (fun _ _ _ h => h) (Or.inl ⟨by rfl, ?_⟩) ?_ ?_
               rotate_left
               ·
                intro w'
                go_simp
                with_reducible rfl
               rotate_left
               ·
                simp only [Act.put, List.setIfInBounds_toArray, List.set_cons_zero, List.set_cons_succ, i64_w, i32_w]
                rfl
               refine take_ (i := 1) (N := some 104) (v := ?_) (a' := ?_) (tr [2, 1, 1, 1]) rfl rfl (by kernel_rfl) (fun _ _ _ h => h) (Or.inl ⟨by rfl, ?_⟩) hHeld ?_ ?_
               rotate_left
               ·
                rintro w' ⟨s0, s1⟩
                go_simp
                with_reducible rfl
               rotate_left
               ·
                simp only [Act.put, List.setIfInBounds_toArray, List.set_cons_zero, List.set_cons_succ, i64_w, i32_w]
                rfl
               refine pure_ (i := 2) (N := some 105) (v := ?_) (a' := ?_) (tk 5 4) rfl rfl (by kernel_rfl) (fun _ _ _ h => h) (Or.inl ⟨by rfl, ?_⟩) ?_ ?_
               rotate_left
               ·
                intro w'
                go_simp
                with_reducible rfl
               rotate_left
               ·
                simp only [Act.put, List.setIfInBounds_toArray, List.set_cons_zero, List.set_cons_succ, i64_w, i32_w]
                rfl
               refine one_ (i := 4) (N := none) (tk 5 5) rfl rfl (by kernel_rfl) (by decide) (fun K hK => ?_)
               have hs68 : w67.cell? ⟨gb270, 0, none⟩ = some (.int .i64 0) := bC BK270 0
               have hfs68 := blk_frozen BK270.out 0
               have hns68_0 := NB269_270.out
               have hms68_0 := NB270_269.out
               have hs69 : w67.cell? ⟨gb270, 1, none⟩ = some (.int .i64 0) := bC BK270 1
               have hfs69 := blk_frozen BK270.out 1
               have hns69_0 := NB269_270.out
               have hms69_0 := NB270_269.out
               refine skip_ (w1 := ?_) (by rfl) rfl ?_ ?_
               rotate_left
               ·
                go_simp
                rfl
               refine hK.out _ _ ⟨((cell_far (p := ⟨gb270, _, none⟩) NB269_270.out _).trans (((cell_far (p := ⟨gb270, _, none⟩) NB269_270.out _).trans (hHeld.1)))), ((cell_far (p := ⟨gb270, _, none⟩) NB269_270.out _).trans (((cell_far (p := ⟨gb270, _, none⟩) NB269_270.out _).trans (hHeld.2))))⟩ (fun hHeld => ?_)
               clear hK K
               refine done_ (by kernel_rfl) ?_
               try go_wp2
               refine bodyPost_ret (results_tc rfl _ _ gb270 67 #[.int .i64 t278, .int .i64 7] (0, 0) _ rfl (pP (pP (pM BK270))) Tryd.underlying67 rfl (by kernel_rfl)) rfl ?_
               exact ⟨by first | rfl | (simp [errW_none, errW_some] <;> rfl) | (simp only [← hji54]; first | rfl | (simp [errW_none, errW_some] <;> rfl)) | (simp [*, errW_none, errW_some] <;> rfl), by repeat (first | (with_reducible first | exact HB.out | apply below_alloc | apply pw_below_drewN | apply below_drew1 | refine below_set ?_ GE269.out | refine below_set ?_ GE270.out) | exact HB.out)⟩
            ·
             rw [if_neg c56] at H
             exact absurd H (by simp)
           ·
            rw [if_neg c55] at H
            exact absurd H (by simp)
       ·
        rw [if_neg c39] at H
        have c39b0 : (t279 == 0) = false := beq_eq_false_iff_ne.mpr c39
        have c39b1 : (t279 != 0) = true := bne_iff_ne.mpr c39
        simp only [Option.some.injEq, Prod.mk.injEq] at H
        obtain ⟨rfl, rfl, rfl⟩ := H
        have hnb70 := NB269_270.out
        have hnc70 := NB270_269.out
        obtain ⟨hcz71_0, hcz71_1, hfz71_0, hfz71_1⟩ := pC2 BK269
        try go_wp2_with (first | ((with_reducible refine gate_callee (f := 71) rfl ?_); refine goesA (some 54) Tryd.func71 #[.string a0, .agg #[.int .i64 t275, .int .i64 t276], .int .i64 t274] ?_; (with_reducible refine (ddiref05_run.calls a0 t275 t276 t274 t277 t278 t279 _ A38.out).mono ?_); rintro e w72 ⟨rfl, hb⟩; refine ⟨_, rfl, ?_⟩; replace BK269 := (pB BK269 hb); replace BK270 := (pB BK270 hb); replace HB := (pS HB hb); (try clear hb); obtain ⟨hcz73_0, hcz73_1, hfz73_0, hfz73_1⟩ := pC2 BK269))
        have n0_ : Aside0 (((w72.setCell ⟨gb269, 0, none⟩ (.int .i64 t278)).setCell ⟨gb269, 1, none⟩ (.int .i64 t279)).heap[gb269]? = some (.cells #[.int .i64 t278, .int .i64 t279] 67 (0, 0))) := ⟨by (with_reducible repeat (first | refine blk_drewN ?_ _ | refine blk_drew ?_ | refine blk_alloc ?_ _)); refine blk_put (cs := #[.int .i64 t278, .int .i64 t276]) ?_ 1 _ rfl; (with_reducible repeat (first | refine blk_drewN ?_ _ | refine blk_drew ?_ | refine blk_alloc ?_ _)); refine blk_put (cs := #[.int .i64 t275, .int .i64 t276]) ?_ 0 _ rfl; (with_reducible repeat (first | refine blk_drewN ?_ _ | refine blk_drew ?_ | refine blk_alloc ?_ _)); exact BK269.out⟩
        have n1_ : Aside0 (((w72.setCell ⟨gb269, 0, none⟩ (.int .i64 t278)).setCell ⟨gb269, 1, none⟩ (.int .i64 t279)).heap[gb270]? = some (.cells #[.int .i64 0, .int .i64 0] 67 (0, 0))) := ⟨by (with_reducible repeat (first | refine blk_drewN ?_ _ | refine blk_drew ?_ | refine blk_alloc ?_ _)); refine blk_far ?_ NB270_269.out _; (with_reducible repeat (first | refine blk_drewN ?_ _ | refine blk_drew ?_ | refine blk_alloc ?_ _)); refine blk_far ?_ NB270_269.out _; (with_reducible repeat (first | refine blk_drewN ?_ _ | refine blk_drew ?_ | refine blk_alloc ?_ _)); exact BK270.out⟩
        have n2_ : Aside0 (Below w.heap.size w ((w72.setCell ⟨gb269, 0, none⟩ (.int .i64 t278)).setCell ⟨gb269, 1, none⟩ (.int .i64 t279))) := ⟨pE HB⟩
        (try clear BK269)
        (try clear BK270)
        (try clear HB)
        generalize ((w72.setCell ⟨gb269, 0, none⟩ (.int .i64 t278)).setCell ⟨gb269, 1, none⟩ (.int .i64 t279)) = w74 at n0_ n1_ n2_ ⊢
        have BK269 := n0_
        have BK270 := n1_
        have HB := n2_
        clear n0_ n1_ n2_
        replace BK269 := Aside0.mk (blk_drew BK269.out)
        replace BK270 := Aside0.mk (blk_drew BK270.out)
        replace HB := Aside0.mk (below_drew1 HB.out)
        refine start_ (n := 3) (S := fun w' => w'.cell? ⟨gb269, 0, none⟩ = some (.int .i64 t278) ∧ w'.cell? ⟨gb269, 1, none⟩ = some (.int .i64 t279)) (ds := []) (tk 3 0) (by kernel_rfl) rfl rfl ⟨bC BK269 0, bC BK269 1⟩ (fun hHeld => ?_)
        generalize w74.drew = w75 at BK269 BK270 HB hHeld ⊢
        refine pure_ (i := 1) (N := some 4) (v := ?_) (a' := ?_) #[false, true, false] rfl rfl (by kernel_rfl) (fun _ _ _ h => h) (Or.inl ⟨by rfl, ?_⟩) ?_ ?_
        rotate_left
        ·
         intro w'
         go_simp
         with_reducible rfl
        rotate_left
        ·
         simp only [Act.put, List.setIfInBounds_toArray, List.set_cons_zero, List.set_cons_succ, i64_w, i32_w]
         rfl
        refine take_ (i := 0) (N := some 60) (v := ?_) (a' := ?_) (tk 3 2) rfl rfl (by kernel_rfl) (fun _ _ _ h => h) (Or.inl ⟨by rfl, ?_⟩) hHeld ?_ ?_
        rotate_left
        ·
         rintro w' ⟨s0, s1⟩
         go_simp
         with_reducible rfl
        rotate_left
        ·
         simp only [Act.put, List.setIfInBounds_toArray, List.set_cons_zero, List.set_cons_succ, i64_w, i32_w]
         rfl
        refine one_ (i := 2) (N := none) (tk 3 3) rfl rfl (by kernel_rfl) (by decide) (fun K hK => ?_)
        have hs76 : w75.cell? ⟨gb270, 0, none⟩ = some (.int .i64 0) := bC BK270 0
        have hfs76 := blk_frozen BK270.out 0
        have hns76_0 := NB269_270.out
        have hms76_0 := NB270_269.out
        have hs77 : w75.cell? ⟨gb270, 1, none⟩ = some (.int .i64 0) := bC BK270 1
        have hfs77 := blk_frozen BK270.out 1
        have hns77_0 := NB269_270.out
        have hms77_0 := NB270_269.out
        refine skip_ (w1 := ?_) (by rfl) rfl ?_ ?_
        rotate_left
        ·
         go_simp
         rfl
        refine hK.out _ _ ⟨((cell_far (p := ⟨gb270, _, none⟩) NB269_270.out _).trans (((cell_far (p := ⟨gb270, _, none⟩) NB269_270.out _).trans (hHeld.1)))), ((cell_far (p := ⟨gb270, _, none⟩) NB269_270.out _).trans (((cell_far (p := ⟨gb270, _, none⟩) NB269_270.out _).trans (hHeld.2))))⟩ (fun hHeld => ?_)
        clear hK K
        refine done_ (by kernel_rfl) ?_
        try go_wp2
        refine bodyPost_ret (results_tc rfl _ _ gb270 67 #[.int .i64 t278, .int .i64 t279] (0, 0) _ rfl (pP (pP (pM BK270))) Tryd.underlying67 rfl (by kernel_rfl)) rfl ?_
        exact pR (pE HB)

end Go.Proofs.YtaehonmfoanloaaDoor.PA
