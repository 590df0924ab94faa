/- The Go functions in Lean, with the proofs that the code comes to these answers: printed by this session's program (wip/px) out of the seat's translation. Conditions: each theorem's own. -/
import Derived.Test.YteflcmmandlknaaGreatDoorPAx0
import Derived.Test.YteflcmmandlknaaGreatDoorPAx2
import Derived.Test.YteflcmmandlknaaGreatDoorPAx4
import Derived.Test.YteflcmmandlknaaGreatDoorPAx10
import Derived.Test.YteflcmmandlknaaGreatDoorPAx11
import Derived.Test.YteflcmmandlknaaGreatDoorPAx12
import Derived.Test.YteflcmmandlknaaGreatDoorPAx14
import Derived.Test.YteflcmmandlknaaGreatDoorPAx15
namespace Go.Proofs.YteflcmmandlknaaGreatDoor.PA
open Go.RowKit Go.Proofs.YteflcmmandlknaaGreatDoorW.PrintWords Go.Proofs.YteflcmmandlknaaGreatDoorW.PrintLast Go.Proofs.YteflcmmandlknaaGreatDoorW.PrintMore
attribute [local go_sem] max2_int min2_int max_two min_two max_three min_three max_four min_four   -- for this text's walks alone
attribute [local go_sem ↓] Ext.isSome_setCell
open Press
set_option linter.unusedVariables false
set_option linter.unusedSimpArgs false
attribute [local go_sem high] eqA26
/-! ### ddilaw03_PrefixTells: function 6 -/
def ddilaw03_PrefixTells.j0 : Nat → Bool → Bool → Int → Int → Int → Bool → Int → Int → Int → Bool → Int → Int → Int → Option (Bool)
 | 0, _, _, _, _, _, _, _, _, _, _, _, _, _ => none
 | k + 1, x78, x441000, x441001, x441002, x441003, x441004, x441005, x441006, x441007, x441008, x441009, x441010, x441011 => if x78 = true then (none) else ((prefix_Contains.f x441000 x441001 x441002 x441003 x441008 x441009 x441010).bind fun t461 => ((ddiref03_Contains.f k x441000 x441001 x441002 x441003 x441008 x441009 x441010).bind fun t462 => (if (t461 == t462) = true then ((prefix_Within.f x441000 x441001 x441002 x441003 x441004 x441005 x441006 x441007).bind fun t463 => ((ddiref03_Within.f k x441000 x441001 x441002 x441003 x441004 x441005 x441006 x441007).bind fun t464 => (if (t463 == t464) = true then ((prefix_Overlap.f x441000 x441001 x441002 x441003 x441004 x441005 x441006 x441007).bind fun t465 => ((ddiref03_Overlap.f k x441000 x441001 x441002 x441003 x441004 x441005 x441006 x441007).bind fun t466 => (if (t465 == t466) = true then ((ddilaw03_awake.f k).bind fun t467 => (some t467)) else (none)))) else (none)))) else (none))))
def ddilaw03_PrefixTells.f (k : Nat) (a0_0 : Bool) (a0_1 : Int) (a0_2 : Int) (a0_3 : Int) (a0_4 : Bool) (a0_5 : Int) (a0_6 : Int) (a0_7 : Int) (a0_8 : Bool) (a0_9 : Int) (a0_10 : Int) (a0_11 : Int) : Option (Bool) := (prefix_Print.f k a0_0 a0_1 a0_2 a0_3).bind fun bt441 => ((ddiref03_Print.f k a0_0 a0_1 a0_2 a0_3).bind fun bt443 => ((prefix_Of.f a0_8 a0_9 a0_10 a0_11).bind fun bt445 => ((ddiref03_Of.f k a0_8 a0_9 a0_10 a0_11).bind fun bt451 => ((prefix_Valid.f a0_0 a0_1 a0_2 a0_3).bind fun t457 => ((ddiref03_Valid.f k a0_0 a0_1 a0_2 a0_3).bind fun t458 => (if (t457 != t458) = true then (ddilaw03_PrefixTells.j0 k true a0_0 a0_1 a0_2 a0_3 a0_4 a0_5 a0_6 a0_7 a0_8 a0_9 a0_10 a0_11) else (if bt441.1.toList = bt443.1.toList then (if bt441.2 = bt443.2 then ((prefix_Compare.f k a0_0 a0_1 a0_2 a0_3 a0_4 a0_5 a0_6 a0_7).bind fun t459 => ((ddiref03_Compare.f a0_0 a0_1 a0_2 a0_3 a0_4 a0_5 a0_6 a0_7).bind fun t460 => (if t459 = t460 then (if ((!(bt445.1 == bt451.1) || (!(bt445.2.1 == bt451.2.1) || (!(bt445.2.2.1 == bt451.2.2.1)))) || (!(bt445.2.2.2.1 == bt451.2.2.2.1))) = true then (ddilaw03_PrefixTells.j0 k true a0_0 a0_1 a0_2 a0_3 a0_4 a0_5 a0_6 a0_7 a0_8 a0_9 a0_10 a0_11) else (ddilaw03_PrefixTells.j0 k (bt445.2.2.2.2 != bt451.2.2.2.2) a0_0 a0_1 a0_2 a0_3 a0_4 a0_5 a0_6 a0_7 a0_8 a0_9 a0_10 a0_11)) else (ddilaw03_PrefixTells.j0 k true a0_0 a0_1 a0_2 a0_3 a0_4 a0_5 a0_6 a0_7 a0_8 a0_9 a0_10 a0_11)))) else (ddilaw03_PrefixTells.j0 k true a0_0 a0_1 a0_2 a0_3 a0_4 a0_5 a0_6 a0_7 a0_8 a0_9 a0_10 a0_11)) else (ddilaw03_PrefixTells.j0 k true a0_0 a0_1 a0_2 a0_3 a0_4 a0_5 a0_6 a0_7 a0_8 a0_9 a0_10 a0_11))))))))
theorem ddilaw03_PrefixTells.mono_l : ∀ k, (∀ y0 y1 y2 y3 y4 y5 y6 y7 y8 y9 y10 y11 y12, LeO (ddilaw03_PrefixTells.j0 k y0 y1 y2 y3 y4 y5 y6 y7 y8 y9 y10 y11 y12) (ddilaw03_PrefixTells.j0 (k + 1) y0 y1 y2 y3 y4 y5 y6 y7 y8 y9 y10 y11 y12))
 | 0 => fun _ _ _ _ _ _ _ _ _ _ _ _ _ r h => by simp [ddilaw03_PrefixTells.j0] at h
 | k + 1 => by
  have ih0 := ddilaw03_PrefixTells.mono_l k
  ·
   intro y0 y1 y2 y3 y4 y5 y6 y7 y8 y9 y10 y11 y12
   unfold ddilaw03_PrefixTells.j0
   repeat' with_reducible first | exact ih0 _ _ _ _ _ _ _ _ _ _ _ _ _ | exact ddilaw03_awake.mono _ | exact ddiref03_Contains.mono _ _ _ _ _ _ _ _ | exact ddiref03_Of.mono _ _ _ _ _ | exact ddiref03_Overlap.mono _ _ _ _ _ _ _ _ _ | exact ddiref03_Print.mono _ _ _ _ _ | exact ddiref03_Valid.mono _ _ _ _ _ | exact ddiref03_Within.mono _ _ _ _ _ _ _ _ _ | exact prefix_Compare.mono _ _ _ _ _ _ _ _ _ | exact prefix_Print.mono _ _ _ _ _ | exact LeO.refl _ | exact LeO.none _ | refine LeO.ite ?_ ?_ | refine LeO.bind ?_ (fun _ => ?_)
theorem ddilaw03_PrefixTells.mono : ∀ a0 a1 a2 a3 a4 a5 a6 a7 a8 a9 a10 a11 k, LeO (ddilaw03_PrefixTells.f k a0 a1 a2 a3 a4 a5 a6 a7 a8 a9 a10 a11) (ddilaw03_PrefixTells.f (k + 1) a0 a1 a2 a3 a4 a5 a6 a7 a8 a9 a10 a11) := by
 intro a0 a1 a2 a3 a4 a5 a6 a7 a8 a9 a10 a11 k
 have ih0 := ddilaw03_PrefixTells.mono_l k
 unfold ddilaw03_PrefixTells.f
 repeat' with_reducible first | exact ih0 _ _ _ _ _ _ _ _ _ _ _ _ _ | exact ddilaw03_awake.mono _ | exact ddiref03_Contains.mono _ _ _ _ _ _ _ _ | exact ddiref03_Of.mono _ _ _ _ _ | exact ddiref03_Overlap.mono _ _ _ _ _ _ _ _ _ | exact ddiref03_Print.mono _ _ _ _ _ | exact ddiref03_Valid.mono _ _ _ _ _ | exact ddiref03_Within.mono _ _ _ _ _ _ _ _ _ | exact prefix_Compare.mono _ _ _ _ _ _ _ _ _ | exact prefix_Print.mono _ _ _ _ _ | exact LeO.refl _ | exact LeO.none _ | refine LeO.ite ?_ ?_ | refine LeO.bind ?_ (fun _ => ?_)
def ddilaw03_PrefixTells.T5 : Bool × List (List Nat × List Nat) := (true, [([], []), ([0], [0]), ([1], [1]), ([], []), ([3], [3]), ([4, 2], [4]), ([2, 5], [2, 5]), ([6, 5], [6]), ([7], [7]), ([7], [7]), ([8, 9, 7], [7, 8, 9]), ([7, 10], [7, 10]), ([11, 7], [11]), ([12], [12]), ([12], [12]), ([13, 14, 12], [12, 13, 14]), ([12, 15], [12, 15]), ([16, 12], [16]), ([17], [17]), ([18, 17], [17, 18]), ([17], [17]), ([20, 17], [17, 20]), ([19, 21, 17, 17], [17, 19, 21]), ([17], [17]), ([23, 17], [17, 23]), ([17], [17]), ([25, 17], [17, 25]), ([24, 26, 22, 17], [17, 24, 26]), ([22, 27, 17], [17, 22, 27]), ([17, 28], [17, 28]), ([29, 27], [29]), ([30], [30]), ([30], [30]), ([31, 32, 30], [30, 31, 32]), ([30, 33], [30, 33]), ([34, 30], [34]), ([35], [35]), ([35], [35]), ([36, 37, 35], [35, 36, 37]), ([35, 38], [35, 38])])
def ddilaw03_PrefixTells.B5 : List Nat := [0, 1, 3, 0, 8, 31, 63, 127, 255, 255, 1023, 2047, 4095, 8191, 8191, 32767, 65535, 131071, 262143, 524287, 262143, 1310719, 4194303, 262143, 8650751, 262143, 33816575, 134217727, 268435455, 536870911, 1073741823, 2147483647, 2147483647, 8589934591, 17179869183, 34359738367, 68719476735, 68719476735, 274877906943, 549755813887]
theorem ddilaw03_PrefixTells.tab5 : rtab .any (opsOf Tryz.f6 5) = ddilaw03_PrefixTells.T5 := by kernel_rfl
theorem ddilaw03_PrefixTells.bits5 : waitsOk ddilaw03_PrefixTells.T5.2 ddilaw03_PrefixTells.B5 = true := by kernel_rfl
def ddilaw03_PrefixTells.T7 : Bool × List (List Nat × List Nat) := (true, [([], []), ([0], [0]), ([], []), ([2], [2]), ([1, 3], [1, 3]), ([], []), ([5], [5]), ([], []), ([7], [7]), ([6, 8, 4], [6, 8]), ([4, 9], [4, 9]), ([10, 9], [10]), ([11], [11]), ([12, 11], [11, 12]), ([11], [11]), ([14, 11], [11, 14]), ([13, 15, 11, 11], [11, 13, 15]), ([11], [11]), ([17, 11], [11, 17]), ([11], [11]), ([19, 11], [11, 19]), ([18, 20, 16, 11], [11, 18, 20]), ([16, 21, 11], [11, 16, 21]), ([11, 22], [11, 22]), ([23, 21], [23]), ([24], [24]), ([25, 24], [24, 25]), ([24], [24]), ([27, 24], [24, 27]), ([26, 28, 24, 24], [24, 26, 28]), ([24], [24]), ([30, 24], [24, 30]), ([24], [24]), ([32, 24], [24, 32]), ([31, 33, 29, 24], [24, 31, 33]), ([29, 34, 24], [24, 29, 34]), ([24, 35], [24, 35]), ([36, 34], [36]), ([37, 37], [37]), ([37, 38], [37, 38]), ([39, 38, 0, 1, 2, 3, 4, 5, 6, 7, 8, 9, 10, 11, 12, 13, 14, 15, 16, 17, 18, 19, 20, 21, 22, 23, 24, 25, 26, 27, 28, 29, 30, 31, 32, 33, 34, 35, 36, 37, 38, 39], [39])])
def ddilaw03_PrefixTells.B7 : List Nat := [0, 1, 0, 4, 15, 0, 32, 0, 128, 511, 1023, 2047, 4095, 8191, 4095, 20479, 65535, 4095, 135167, 4095, 528383, 2097151, 4194303, 8388607, 16777215, 33554431, 67108863, 33554431, 167772159, 536870911, 33554431, 1107296255, 33554431, 4328521727, 17179869183, 34359738367, 68719476735, 137438953471, 274877906943, 549755813887, 1099511627775]
theorem ddilaw03_PrefixTells.tab7 : rtab .any (opsOf Tryz.f6 7) = ddilaw03_PrefixTells.T7 := by kernel_rfl
theorem ddilaw03_PrefixTells.bits7 : waitsOk ddilaw03_PrefixTells.T7.2 ddilaw03_PrefixTells.B7 = true := by kernel_rfl
set_option maxHeartbeats 40000000 in
set_option maxRecDepth 100000 in
theorem ddilaw03_PrefixTells.calls (k : Nat) (a0_0 : Bool) (a0_1 : Int) (a0_2 : Int) (a0_3 : Int) (a0_4 : Bool) (a0_5 : Int) (a0_6 : Int) (a0_7 : Int) (a0_8 : Bool) (a0_9 : Int) (a0_10 : Int) (a0_11 : Int) (r : Bool) (w : World) (hLD : Laid w) (h : ddilaw03_PrefixTells.f k a0_0 a0_1 a0_2 a0_3 a0_4 a0_5 a0_6 a0_7 a0_8 a0_9 a0_10 a0_11 = some r) :
 Calls Tryz.prog 6 #[.agg #[.bool a0_0, .int .u64 a0_1, .int .u64 a0_2, .int .i64 a0_3, .bool a0_4, .int .u64 a0_5, .int .u64 a0_6, .int .i64 a0_7, .bool a0_8, .int .u64 a0_9, .int .u64 a0_10, .int .i64 a0_11]] w fun e w' => e = .returned (.bool r) ∧ Below w.heap.size w w' := by
 have hu49 := Tryz.underlying49
 have hu26 := Tryz.underlying26
 have hu24 := Tryz.underlying24
 have HLD := Aside0.mk hLD
 clear hLD
 have HB := Aside0.mk (Below.refl w.heap.size w)
 have H : ((prefix_Print.f k a0_0 a0_1 a0_2 a0_3).bind fun bt441 => ((ddiref03_Print.f k a0_0 a0_1 a0_2 a0_3).bind fun bt443 => ((prefix_Of.f a0_8 a0_9 a0_10 a0_11).bind fun bt445 => ((ddiref03_Of.f k a0_8 a0_9 a0_10 a0_11).bind fun bt451 => ((prefix_Valid.f a0_0 a0_1 a0_2 a0_3).bind fun t457 => ((ddiref03_Valid.f k a0_0 a0_1 a0_2 a0_3).bind fun t458 => (if (t457 != t458) = true then (ddilaw03_PrefixTells.j0 k true a0_0 a0_1 a0_2 a0_3 a0_4 a0_5 a0_6 a0_7 a0_8 a0_9 a0_10 a0_11) else (if bt441.1.toList = bt443.1.toList then (if bt441.2 = bt443.2 then ((prefix_Compare.f k a0_0 a0_1 a0_2 a0_3 a0_4 a0_5 a0_6 a0_7).bind fun t459 => ((ddiref03_Compare.f a0_0 a0_1 a0_2 a0_3 a0_4 a0_5 a0_6 a0_7).bind fun t460 => (if t459 = t460 then (if ((!(bt445.1 == bt451.1) || (!(bt445.2.1 == bt451.2.1) || (!(bt445.2.2.1 == bt451.2.2.1)))) || (!(bt445.2.2.2.1 == bt451.2.2.2.1))) = true then (ddilaw03_PrefixTells.j0 k true a0_0 a0_1 a0_2 a0_3 a0_4 a0_5 a0_6 a0_7 a0_8 a0_9 a0_10 a0_11) else (ddilaw03_PrefixTells.j0 k (bt445.2.2.2.2 != bt451.2.2.2.2) a0_0 a0_1 a0_2 a0_3 a0_4 a0_5 a0_6 a0_7 a0_8 a0_9 a0_10 a0_11)) else (ddilaw03_PrefixTells.j0 k true a0_0 a0_1 a0_2 a0_3 a0_4 a0_5 a0_6 a0_7 a0_8 a0_9 a0_10 a0_11)))) else (ddilaw03_PrefixTells.j0 k true a0_0 a0_1 a0_2 a0_3 a0_4 a0_5 a0_6 a0_7 a0_8 a0_9 a0_10 a0_11)) else (ddilaw03_PrefixTells.j0 k true a0_0 a0_1 a0_2 a0_3 a0_4 a0_5 a0_6 a0_7 a0_8 a0_9 a0_10 a0_11))))))))) = some r := h
 clear h
 replace H := Option.bind_eq_some_iff.mp H
 obtain ⟨⟨t441, t442⟩, A20, H⟩ := H
 replace H : ((ddiref03_Print.f k a0_0 a0_1 a0_2 a0_3).bind fun bt443 => ((prefix_Of.f a0_8 a0_9 a0_10 a0_11).bind fun bt445 => ((ddiref03_Of.f k a0_8 a0_9 a0_10 a0_11).bind fun bt451 => ((prefix_Valid.f a0_0 a0_1 a0_2 a0_3).bind fun t457 => ((ddiref03_Valid.f k a0_0 a0_1 a0_2 a0_3).bind fun t458 => (if (t457 != t458) = true then (ddilaw03_PrefixTells.j0 k true a0_0 a0_1 a0_2 a0_3 a0_4 a0_5 a0_6 a0_7 a0_8 a0_9 a0_10 a0_11) else (if t441.toList = bt443.1.toList then (if t442 = bt443.2 then ((prefix_Compare.f k a0_0 a0_1 a0_2 a0_3 a0_4 a0_5 a0_6 a0_7).bind fun t459 => ((ddiref03_Compare.f a0_0 a0_1 a0_2 a0_3 a0_4 a0_5 a0_6 a0_7).bind fun t460 => (if t459 = t460 then (if ((!(bt445.1 == bt451.1) || (!(bt445.2.1 == bt451.2.1) || (!(bt445.2.2.1 == bt451.2.2.1)))) || (!(bt445.2.2.2.1 == bt451.2.2.2.1))) = true then (ddilaw03_PrefixTells.j0 k true a0_0 a0_1 a0_2 a0_3 a0_4 a0_5 a0_6 a0_7 a0_8 a0_9 a0_10 a0_11) else (ddilaw03_PrefixTells.j0 k (bt445.2.2.2.2 != bt451.2.2.2.2) a0_0 a0_1 a0_2 a0_3 a0_4 a0_5 a0_6 a0_7 a0_8 a0_9 a0_10 a0_11)) else (ddilaw03_PrefixTells.j0 k true a0_0 a0_1 a0_2 a0_3 a0_4 a0_5 a0_6 a0_7 a0_8 a0_9 a0_10 a0_11)))) else (ddilaw03_PrefixTells.j0 k true a0_0 a0_1 a0_2 a0_3 a0_4 a0_5 a0_6 a0_7 a0_8 a0_9 a0_10 a0_11)) else (ddilaw03_PrefixTells.j0 k true a0_0 a0_1 a0_2 a0_3 a0_4 a0_5 a0_6 a0_7 a0_8 a0_9 a0_10 a0_11)))))))) = some r := H
 have A2 := Aside0.mk A20
 clear A20
 replace H := Option.bind_eq_some_iff.mp H
 obtain ⟨⟨t443, t444⟩, A30, H⟩ := H
 replace H : ((prefix_Of.f a0_8 a0_9 a0_10 a0_11).bind fun bt445 => ((ddiref03_Of.f k a0_8 a0_9 a0_10 a0_11).bind fun bt451 => ((prefix_Valid.f a0_0 a0_1 a0_2 a0_3).bind fun t457 => ((ddiref03_Valid.f k a0_0 a0_1 a0_2 a0_3).bind fun t458 => (if (t457 != t458) = true then (ddilaw03_PrefixTells.j0 k true a0_0 a0_1 a0_2 a0_3 a0_4 a0_5 a0_6 a0_7 a0_8 a0_9 a0_10 a0_11) else (if t441.toList = t443.toList then (if t442 = t444 then ((prefix_Compare.f k a0_0 a0_1 a0_2 a0_3 a0_4 a0_5 a0_6 a0_7).bind fun t459 => ((ddiref03_Compare.f a0_0 a0_1 a0_2 a0_3 a0_4 a0_5 a0_6 a0_7).bind fun t460 => (if t459 = t460 then (if ((!(bt445.1 == bt451.1) || (!(bt445.2.1 == bt451.2.1) || (!(bt445.2.2.1 == bt451.2.2.1)))) || (!(bt445.2.2.2.1 == bt451.2.2.2.1))) = true then (ddilaw03_PrefixTells.j0 k true a0_0 a0_1 a0_2 a0_3 a0_4 a0_5 a0_6 a0_7 a0_8 a0_9 a0_10 a0_11) else (ddilaw03_PrefixTells.j0 k (bt445.2.2.2.2 != bt451.2.2.2.2) a0_0 a0_1 a0_2 a0_3 a0_4 a0_5 a0_6 a0_7 a0_8 a0_9 a0_10 a0_11)) else (ddilaw03_PrefixTells.j0 k true a0_0 a0_1 a0_2 a0_3 a0_4 a0_5 a0_6 a0_7 a0_8 a0_9 a0_10 a0_11)))) else (ddilaw03_PrefixTells.j0 k true a0_0 a0_1 a0_2 a0_3 a0_4 a0_5 a0_6 a0_7 a0_8 a0_9 a0_10 a0_11)) else (ddilaw03_PrefixTells.j0 k true a0_0 a0_1 a0_2 a0_3 a0_4 a0_5 a0_6 a0_7 a0_8 a0_9 a0_10 a0_11))))))) = some r := H
 have A3 := Aside0.mk A30
 clear A30
 replace H := Option.bind_eq_some_iff.mp H
 obtain ⟨⟨t445, t446, t447, t448, t449⟩, A40, H⟩ := H
 replace H : ((ddiref03_Of.f k a0_8 a0_9 a0_10 a0_11).bind fun bt451 => ((prefix_Valid.f a0_0 a0_1 a0_2 a0_3).bind fun t457 => ((ddiref03_Valid.f k a0_0 a0_1 a0_2 a0_3).bind fun t458 => (if (t457 != t458) = true then (ddilaw03_PrefixTells.j0 k true a0_0 a0_1 a0_2 a0_3 a0_4 a0_5 a0_6 a0_7 a0_8 a0_9 a0_10 a0_11) else (if t441.toList = t443.toList then (if t442 = t444 then ((prefix_Compare.f k a0_0 a0_1 a0_2 a0_3 a0_4 a0_5 a0_6 a0_7).bind fun t459 => ((ddiref03_Compare.f a0_0 a0_1 a0_2 a0_3 a0_4 a0_5 a0_6 a0_7).bind fun t460 => (if t459 = t460 then (if ((!(t445 == bt451.1) || (!(t446 == bt451.2.1) || (!(t447 == bt451.2.2.1)))) || (!(t448 == bt451.2.2.2.1))) = true then (ddilaw03_PrefixTells.j0 k true a0_0 a0_1 a0_2 a0_3 a0_4 a0_5 a0_6 a0_7 a0_8 a0_9 a0_10 a0_11) else (ddilaw03_PrefixTells.j0 k (t449 != bt451.2.2.2.2) a0_0 a0_1 a0_2 a0_3 a0_4 a0_5 a0_6 a0_7 a0_8 a0_9 a0_10 a0_11)) else (ddilaw03_PrefixTells.j0 k true a0_0 a0_1 a0_2 a0_3 a0_4 a0_5 a0_6 a0_7 a0_8 a0_9 a0_10 a0_11)))) else (ddilaw03_PrefixTells.j0 k true a0_0 a0_1 a0_2 a0_3 a0_4 a0_5 a0_6 a0_7 a0_8 a0_9 a0_10 a0_11)) else (ddilaw03_PrefixTells.j0 k true a0_0 a0_1 a0_2 a0_3 a0_4 a0_5 a0_6 a0_7 a0_8 a0_9 a0_10 a0_11)))))) = some r := H
 have A4 := Aside0.mk A40
 clear A40
 replace H := Option.bind_eq_some_iff.mp H
 obtain ⟨⟨t451, t452, t453, t454, t455⟩, A50, H⟩ := H
 replace H : ((prefix_Valid.f a0_0 a0_1 a0_2 a0_3).bind fun t457 => ((ddiref03_Valid.f k a0_0 a0_1 a0_2 a0_3).bind fun t458 => (if (t457 != t458) = true then (ddilaw03_PrefixTells.j0 k true a0_0 a0_1 a0_2 a0_3 a0_4 a0_5 a0_6 a0_7 a0_8 a0_9 a0_10 a0_11) else (if t441.toList = t443.toList then (if t442 = t444 then ((prefix_Compare.f k a0_0 a0_1 a0_2 a0_3 a0_4 a0_5 a0_6 a0_7).bind fun t459 => ((ddiref03_Compare.f a0_0 a0_1 a0_2 a0_3 a0_4 a0_5 a0_6 a0_7).bind fun t460 => (if t459 = t460 then (if ((!(t445 == t451) || (!(t446 == t452) || (!(t447 == t453)))) || (!(t448 == t454))) = true then (ddilaw03_PrefixTells.j0 k true a0_0 a0_1 a0_2 a0_3 a0_4 a0_5 a0_6 a0_7 a0_8 a0_9 a0_10 a0_11) else (ddilaw03_PrefixTells.j0 k (t449 != t455) a0_0 a0_1 a0_2 a0_3 a0_4 a0_5 a0_6 a0_7 a0_8 a0_9 a0_10 a0_11)) else (ddilaw03_PrefixTells.j0 k true a0_0 a0_1 a0_2 a0_3 a0_4 a0_5 a0_6 a0_7 a0_8 a0_9 a0_10 a0_11)))) else (ddilaw03_PrefixTells.j0 k true a0_0 a0_1 a0_2 a0_3 a0_4 a0_5 a0_6 a0_7 a0_8 a0_9 a0_10 a0_11)) else (ddilaw03_PrefixTells.j0 k true a0_0 a0_1 a0_2 a0_3 a0_4 a0_5 a0_6 a0_7 a0_8 a0_9 a0_10 a0_11))))) = some r := H
 have A5 := Aside0.mk A50
 clear A50
 have HC6 := Aside0.mk H
 clear H
 go_enter Tryz.func6, Tryz.ntmps6
 go_upto_region 5 with (first | ((with_reducible refine gate_dst (N := 1) rfl ?_); refine boxA (N := 1) (cs := #[.bool a0_0, .int .u64 a0_1, .int .u64 a0_2, .int .i64 a0_3, .bool a0_4, .int .u64 a0_5, .int .u64 a0_6, .int .i64 a0_7, .bool a0_8, .int .u64 a0_9, .int .u64 a0_10, .int .i64 a0_11]) (t := 49) ?_; intro gb440 hg w7 hbox hb; have BK440 := Aside0.mk (hbox); have GE440 := (pZ HB hg); replace HB := (pS HB hb); clear hb hbox hg; obtain ⟨hcz8_0, hcz8_1, hcz8_2, hcz8_3, hcz8_4, hcz8_5, hcz8_6, hcz8_7, hcz8_8, hcz8_9, hcz8_10, hcz8_11, hfz8_0, hfz8_1, hfz8_2, hfz8_3, hfz8_4, hfz8_5, hfz8_6, hfz8_7, hfz8_8, hfz8_9, hfz8_10, hfz8_11⟩ := pC12 BK440) | ((with_reducible refine gate_callee (f := 22) rfl ?_); refine goesA (some 14) Tryz.func22 #[.agg #[.bool a0_0, .int .u64 a0_1, .int .u64 a0_2, .int .i64 a0_3]] ?_; (with_reducible refine (prefix_Print.calls k a0_0 a0_1 a0_2 a0_3 t441 t442 _ ?side1 A2.out).mono ?_); (case side1 => exact Laid.below HLD.out (pE HB)); rintro e w9 ⟨rfl, hb⟩; refine ⟨_, rfl, ?_⟩; replace BK440 := (pB BK440 hb); replace HB := (pS HB hb); (try clear hb); obtain ⟨hcz10_0, hcz10_1, hcz10_2, hcz10_3, hcz10_4, hcz10_5, hcz10_6, hcz10_7, hcz10_8, hcz10_9, hcz10_10, hcz10_11, hfz10_0, hfz10_1, hfz10_2, hfz10_3, hfz10_4, hfz10_5, hfz10_6, hfz10_7, hfz10_8, hfz10_9, hfz10_10, hfz10_11⟩ := pC12 BK440) | ((with_reducible refine gate_callee (f := 23) rfl ?_); refine goesA (some 20) Tryz.func23 #[.agg #[.bool a0_0, .int .u64 a0_1, .int .u64 a0_2, .int .i64 a0_3]] ?_; (with_reducible refine (ddiref03_Print.calls k a0_0 a0_1 a0_2 a0_3 t443 t444 _ A3.out).mono ?_); rintro e w11 ⟨rfl, hb⟩; refine ⟨_, rfl, ?_⟩; replace BK440 := (pB BK440 hb); replace HB := (pS HB hb); (try clear hb); obtain ⟨hcz12_0, hcz12_1, hcz12_2, hcz12_3, hcz12_4, hcz12_5, hcz12_6, hcz12_7, hcz12_8, hcz12_9, hcz12_10, hcz12_11, hfz12_0, hfz12_1, hfz12_2, hfz12_3, hfz12_4, hfz12_5, hfz12_6, hfz12_7, hfz12_8, hfz12_9, hfz12_10, hfz12_11⟩ := pC12 BK440) | ((with_reducible refine gate_callee (f := 24) rfl ?_); refine goesA (some 28) Tryz.func24 #[.agg #[.bool a0_8, .int .u64 a0_9, .int .u64 a0_10], .int .i64 a0_11] ?_; (with_reducible refine (prefix_Of.calls a0_8 a0_9 a0_10 a0_11 t445 t446 t447 t448 t449 _ A4.out).mono ?_); rintro e w13 ⟨rfl, hb⟩; refine ⟨_, rfl, ?_⟩; replace BK440 := (pB BK440 hb); replace HB := (pS HB hb); (try clear hb)) | ((with_reducible refine gate_dst (N := 7) rfl ?_); refine boxA (N := 7) (cs := #[.bool false, .int .u64 0, .int .u64 0, .int .i64 0]) (t := 26) ?_; intro gb450 hg w14 hbox hb; have BK450 := Aside0.mk (hbox); have GE450 := (pZ HB hg); have NB440_450 := (pL BK440 hg); have NB450_440 := (pG BK440 hg); replace BK440 := (pB BK440 hb); replace HB := (pS HB hb); clear hb hbox hg; have hnb15 := NB450_440.out; have hnc15 := NB440_450.out; obtain ⟨hcz16_0, hcz16_1, hcz16_2, hcz16_3, hfz16_0, hfz16_1, hfz16_2, hfz16_3⟩ := pC4 BK450; obtain ⟨hcz17_0, hcz17_1, hcz17_2, hcz17_3, hcz17_4, hcz17_5, hcz17_6, hcz17_7, hcz17_8, hcz17_9, hcz17_10, hcz17_11, hfz17_0, hfz17_1, hfz17_2, hfz17_3, hfz17_4, hfz17_5, hfz17_6, hfz17_7, hfz17_8, hfz17_9, hfz17_10, hfz17_11⟩ := pC12 BK440) | ((with_reducible refine gate_callee (f := 25) rfl ?_); refine goesA (some 36) Tryz.func25 #[.agg #[.bool a0_8, .int .u64 a0_9, .int .u64 a0_10], .int .i64 a0_11] ?_; (with_reducible refine (ddiref03_Of.calls k a0_8 a0_9 a0_10 a0_11 t451 t452 t453 t454 t455 _ A5.out).mono ?_); rintro e w18 ⟨rfl, hb⟩; refine ⟨_, rfl, ?_⟩; replace BK440 := (pD hb (pK NB440_450 (pK NB440_450 (pK NB440_450 (pK NB440_450 (pM BK440)))))); replace BK450 := (pD hb (pP (pP (pP (pP (pM BK450)))))); replace HB := (pS HB hb); (try clear hb)) | ((with_reducible refine gate_dst (N := 9) rfl ?_); refine boxA (N := 9) (cs := #[.bool false, .int .u64 0, .int .u64 0, .int .i64 0]) (t := 26) ?_; intro gb456 hg w19 hbox hb; have BK456 := Aside0.mk (hbox); have GE456 := (pZ HB hg); have NB440_456 := (pL BK440 hg); have NB456_440 := (pG BK440 hg); have NB450_456 := (pL BK450 hg); have NB456_450 := (pG BK450 hg); replace BK440 := (pB BK440 hb); replace BK450 := (pB BK450 hb); replace HB := (pS HB hb); clear hb hbox hg; have hnb20 := NB456_440.out; have hnc20 := NB440_456.out; have hnb21 := NB456_450.out; have hnc21 := NB450_456.out; obtain ⟨hcz22_0, hcz22_1, hcz22_2, hcz22_3, hfz22_0, hfz22_1, hfz22_2, hfz22_3⟩ := pC4 BK456))
 (try simp only [Act.put, List.setIfInBounds_toArray, List.set_cons_zero, List.set_cons_succ])
 go_cut [78] (fun v78 wc => ∃ (kq : Nat) (x78_5 : Bool), v78 = .bool x78_5 ∧ Aside0 (ddilaw03_PrefixTells.j0 kq x78_5 a0_0 a0_1 a0_2 a0_3 a0_4 a0_5 a0_6 a0_7 a0_8 a0_9 a0_10 a0_11 = some r) ∧ Aside0 (kq ≤ k) ∧ Aside0 (wc.heap[gb440]? = some (.cells #[.bool a0_0, .int .u64 a0_1, .int .u64 a0_2, .int .i64 a0_3, .bool a0_4, .int .u64 a0_5, .int .u64 a0_6, .int .i64 a0_7, .bool a0_8, .int .u64 a0_9, .int .u64 a0_10, .int .i64 a0_11] 49 (0, 0))) ∧ Aside0 (wc.heap[gb450]? = some (.cells #[.bool t445, .int .u64 t446, .int .u64 t447, .int .i64 t448] 26 (0, 0))) ∧ Aside0 (wc.heap[gb456]? = some (.cells #[.bool t451, .int .u64 t452, .int .u64 t453, .int .i64 t454] 26 (0, 0))) ∧ Aside0 (Below w.heap.size w wc))
 case first =>
  have H := HC6.out
  clear HC6
  replace H := Option.bind_eq_some_iff.mp H
  obtain ⟨t457, A230, H⟩ := H
  have A23 := Aside0.mk A230
  clear A230
  replace H := Option.bind_eq_some_iff.mp H
  obtain ⟨t458, A240, H⟩ := H
  have A24 := Aside0.mk A240
  clear A240
  by_cases c25 : (t457 != t458) = true
  ·
   rw [if_pos c25] at H
   have c25b0 : (t457 != t458) = true := c25
   (try (have c25b1 : decide (t457 = t458) = false := by simpa using c25))
   (try (have c25b2 : (t457 == t458) = false := by simpa using c25))
   (try (have c25b3 : ¬ (t457 = t458) := by simpa using c25))
   clear c25
   (first | rw [c25b0] | (simp only [i64_w, i32_w]; rw [c25b0]) | skip)
   have H' := Aside0.mk H
   clear H
   try go_wp2
   have n0_ : Aside0 (((((w19.setCell ⟨gb456, 0, none⟩ (.bool t451)).setCell ⟨gb456, 1, none⟩ (.int .u64 t452)).setCell ⟨gb456, 2, none⟩ (.int .u64 t453)).setCell ⟨gb456, 3, none⟩ (.int .i64 t454)).heap[gb440]? = some (.cells #[.bool a0_0, .int .u64 a0_1, .int .u64 a0_2, .int .i64 a0_3, .bool a0_4, .int .u64 a0_5, .int .u64 a0_6, .int .i64 a0_7, .bool a0_8, .int .u64 a0_9, .int .u64 a0_10, .int .i64 a0_11] 49 (0, 0))) := ⟨by (with_reducible repeat (first | refine blk_drewN ?_ _ | refine blk_drew ?_ | refine blk_alloc ?_ _)); refine blk_far ?_ NB440_456.out _; (with_reducible repeat (first | refine blk_drewN ?_ _ | refine blk_drew ?_ | refine blk_alloc ?_ _)); refine blk_far ?_ NB440_456.out _; (with_reducible repeat (first | refine blk_drewN ?_ _ | refine blk_drew ?_ | refine blk_alloc ?_ _)); refine blk_far ?_ NB440_456.out _; (with_reducible repeat (first | refine blk_drewN ?_ _ | refine blk_drew ?_ | refine blk_alloc ?_ _)); refine blk_far ?_ NB440_456.out _; (with_reducible repeat (first | refine blk_drewN ?_ _ | refine blk_drew ?_ | refine blk_alloc ?_ _)); exact BK440.out⟩
   have n1_ : Aside0 (((((w19.setCell ⟨gb456, 0, none⟩ (.bool t451)).setCell ⟨gb456, 1, none⟩ (.int .u64 t452)).setCell ⟨gb456, 2, none⟩ (.int .u64 t453)).setCell ⟨gb456, 3, none⟩ (.int .i64 t454)).heap[gb450]? = some (.cells #[.bool t445, .int .u64 t446, .int .u64 t447, .int .i64 t448] 26 (0, 0))) := ⟨by (with_reducible repeat (first | refine blk_drewN ?_ _ | refine blk_drew ?_ | refine blk_alloc ?_ _)); refine blk_far ?_ NB450_456.out _; (with_reducible repeat (first | refine blk_drewN ?_ _ | refine blk_drew ?_ | refine blk_alloc ?_ _)); refine blk_far ?_ NB450_456.out _; (with_reducible repeat (first | refine blk_drewN ?_ _ | refine blk_drew ?_ | refine blk_alloc ?_ _)); refine blk_far ?_ NB450_456.out _; (with_reducible repeat (first | refine blk_drewN ?_ _ | refine blk_drew ?_ | refine blk_alloc ?_ _)); refine blk_far ?_ NB450_456.out _; (with_reducible repeat (first | refine blk_drewN ?_ _ | refine blk_drew ?_ | refine blk_alloc ?_ _)); exact BK450.out⟩
   have n2_ : Aside0 (((((w19.setCell ⟨gb456, 0, none⟩ (.bool t451)).setCell ⟨gb456, 1, none⟩ (.int .u64 t452)).setCell ⟨gb456, 2, none⟩ (.int .u64 t453)).setCell ⟨gb456, 3, none⟩ (.int .i64 t454)).heap[gb456]? = some (.cells #[.bool t451, .int .u64 t452, .int .u64 t453, .int .i64 t454] 26 (0, 0))) := ⟨by (with_reducible repeat (first | refine blk_drewN ?_ _ | refine blk_drew ?_ | refine blk_alloc ?_ _)); refine blk_put (cs := #[.bool t451, .int .u64 t452, .int .u64 t453, .int .i64 0]) ?_ 3 _ rfl; (with_reducible repeat (first | refine blk_drewN ?_ _ | refine blk_drew ?_ | refine blk_alloc ?_ _)); refine blk_put (cs := #[.bool t451, .int .u64 t452, .int .u64 0, .int .i64 0]) ?_ 2 _ rfl; (with_reducible repeat (first | refine blk_drewN ?_ _ | refine blk_drew ?_ | refine blk_alloc ?_ _)); refine blk_put (cs := #[.bool t451, .int .u64 0, .int .u64 0, .int .i64 0]) ?_ 1 _ rfl; (with_reducible repeat (first | refine blk_drewN ?_ _ | refine blk_drew ?_ | refine blk_alloc ?_ _)); refine blk_put (cs := #[.bool false, .int .u64 0, .int .u64 0, .int .i64 0]) ?_ 0 _ rfl; (with_reducible repeat (first | refine blk_drewN ?_ _ | refine blk_drew ?_ | refine blk_alloc ?_ _)); exact BK456.out⟩
   have n3_ : Aside0 (Below w.heap.size w ((((w19.setCell ⟨gb456, 0, none⟩ (.bool t451)).setCell ⟨gb456, 1, none⟩ (.int .u64 t452)).setCell ⟨gb456, 2, none⟩ (.int .u64 t453)).setCell ⟨gb456, 3, none⟩ (.int .i64 t454))) := ⟨pE HB⟩
   (try clear BK440)
   (try clear BK450)
   (try clear BK456)
   (try clear HB)
   generalize ((((w19.setCell ⟨gb456, 0, none⟩ (.bool t451)).setCell ⟨gb456, 1, none⟩ (.int .u64 t452)).setCell ⟨gb456, 2, none⟩ (.int .u64 t453)).setCell ⟨gb456, 3, none⟩ (.int .i64 t454)) = w26 at n0_ n1_ n2_ n3_ ⊢
   have BK440 := n0_
   have BK450 := n1_
   have BK456 := n2_
   have HB := n3_
   clear n0_ n1_ n2_ n3_
   replace BK440 := Aside0.mk (blk_drew BK440.out)
   replace BK450 := Aside0.mk (blk_drew BK450.out)
   replace BK456 := Aside0.mk (blk_drew BK456.out)
   replace HB := Aside0.mk (below_drew1 HB.out)
   refine start_ (n := 40) (S := fun w' => w'.cell? ⟨gb440, 0, none⟩ = some (.bool a0_0) ∧ w'.cell? ⟨gb440, 1, none⟩ = some (.int .u64 a0_1) ∧ w'.cell? ⟨gb440, 2, none⟩ = some (.int .u64 a0_2) ∧ w'.cell? ⟨gb440, 3, none⟩ = some (.int .i64 a0_3) ∧ w'.cell? ⟨gb440, 4, none⟩ = some (.bool a0_4) ∧ w'.cell? ⟨gb440, 5, none⟩ = some (.int .u64 a0_5) ∧ w'.cell? ⟨gb440, 6, none⟩ = some (.int .u64 a0_6) ∧ w'.cell? ⟨gb440, 7, none⟩ = some (.int .i64 a0_7) ∧ w'.cell? ⟨gb440, 8, none⟩ = some (.bool a0_8) ∧ w'.cell? ⟨gb440, 9, none⟩ = some (.int .u64 a0_9) ∧ w'.cell? ⟨gb440, 10, none⟩ = some (.int .u64 a0_10) ∧ w'.cell? ⟨gb440, 11, none⟩ = some (.int .i64 a0_11)) (ds := []) (tk 40 0) (by kernel_rfl) rfl rfl ⟨bC BK440 0, bC BK440 1, bC BK440 2, bC BK440 3, bC BK440 4, bC BK440 5, bC BK440 6, bC BK440 7, bC BK440 8, bC BK440 9, bC BK440 10, bC BK440 11⟩ (fun hHeld => ?_); refine with_tabW ddilaw03_PrefixTells.tab5 ddilaw03_PrefixTells.bits5 (fun HT_ HW_ => ?_)
   generalize w26.drew = w27 at BK440 BK450 BK456 HB hHeld ⊢
   refine pureA (i := 0) (some 39) HT_ (tk 40 1) ?_
   refine pureA (i := 3) (some 42) HT_ (tr [1, 2, 1, 36]) ?_
   refine takeA (i := 1) (some 40) HT_ HW_ (tr [2, 1, 1, 36]) hHeld ?_
   refine takeA (i := 4) (some 43) HT_ HW_ (tr [2, 1, 2, 35]) hHeld ?_
   refine one_ (i := 2) (N := some 41) (tk 40 5) rfl rfl (one_of HT_.out (by kernel_rfl)) (by decide) (fun K hK => ?_)
   refine goesR Tryz.func26 #[.agg #[.bool a0_0, .int .u64 a0_1, .int .u64 a0_2, .int .i64 a0_3]] ?_
   with_reducible refine (prefix_Valid.calls a0_0 a0_1 a0_2 a0_3 t457 _ A23.out).mono ?_
   rintro e w28 ⟨rfl, hb⟩
   refine ⟨_, rfl, ?_⟩
   replace BK440 := (pB BK440 hb)
   replace BK450 := (pB BK450 hb)
   replace BK456 := (pB BK456 hb)
   replace HB := (pS HB hb)
   (try clear hb)
   refine hK.out _ _ ⟨bC BK440 0, bC BK440 1, bC BK440 2, bC BK440 3, bC BK440 4, bC BK440 5, bC BK440 6, bC BK440 7, bC BK440 8, bC BK440 9, bC BK440 10, bC BK440 11⟩ (fun hHeld => ?_)
   clear hK K
   refine normA (N := some 41) ?_
   refine one_ (i := 5) (N := some 44) (tk 40 6) rfl rfl (one_of HT_.out (by kernel_rfl)) (by decide) (fun K hK => ?_)
   refine goesR Tryz.func27 #[.agg #[.bool a0_0, .int .u64 a0_1, .int .u64 a0_2, .int .i64 a0_3]] ?_
   with_reducible refine (ddiref03_Valid.calls k a0_0 a0_1 a0_2 a0_3 t458 _ A24.out).mono ?_
   rintro e w29 ⟨rfl, hb⟩
   refine ⟨_, rfl, ?_⟩
   replace BK440 := (pB BK440 hb)
   replace BK450 := (pB BK450 hb)
   replace BK456 := (pB BK456 hb)
   replace HB := (pS HB hb)
   (try clear hb)
   refine hK.out _ _ ⟨bC BK440 0, bC BK440 1, bC BK440 2, bC BK440 3, bC BK440 4, bC BK440 5, bC BK440 6, bC BK440 7, bC BK440 8, bC BK440 9, bC BK440 10, bC BK440 11⟩ (fun hHeld => ?_)
   clear hK K
   refine normA (N := some 44) ?_
   refine pureA (i := 6) (some 45) HT_ (tk 40 7) ?_
   refine pureA (i := 7) (some 46) HT_ (tk 40 8) ?_
   refine pureB (i := 8) (some 47) HT_ (tk 40 9) ?_
   refine pureB (i := 9) (some 48) HT_ (tk 40 10) ?_
   refine pureB (i := 10) (some 49) HT_ (tk 40 11) ?_
   refine pureA (i := 11) (some 50) HT_ (tk 40 12) ?_
   refine pureA (i := 12) (some 51) HT_ (tk 40 13) ?_
   refine pureB (i := 13) (some 52) HT_ (tk 40 14) ?_
   refine pureB (i := 14) (some 53) HT_ (tk 40 15) ?_
   refine pureB (i := 15) (some 54) HT_ (tk 40 16) ?_
   refine pureA (i := 16) (some 55) HT_ (tk 40 17) ?_
   refine pureA (i := 17) (some 56) HT_ (tk 40 18) ?_
   refine pureB (i := 18) (some 57) HT_ (tk 40 19) ?_
   refine pureB (i := 19) (some 58) HT_ (tk 40 20) ?_
   refine pureB (i := 20) (some 59) HT_ (tk 40 21) ?_
   refine pureB (i := 21) (some 60) HT_ (tk 40 22) ?_
   refine pureB (i := 22) (some 61) HT_ (tk 40 23) ?_
   refine pureB (i := 23) (some 62) HT_ (tk 40 24) ?_
   refine pureB (i := 24) (some 63) HT_ (tk 40 25) ?_
   refine pureB (i := 25) (some 64) HT_ (tk 40 26) ?_
   refine pureB (i := 26) (some 65) HT_ (tk 40 27) ?_
   refine pureB (i := 27) (some 66) HT_ (tk 40 28) ?_
   refine pureB (i := 28) (some 67) HT_ (tk 40 29) ?_
   refine pureA (i := 29) (some 68) HT_ (tk 40 30) ?_
   refine pureA (i := 30) (some 69) HT_ (tk 40 31) ?_
   refine pureB (i := 31) (some 70) HT_ (tk 40 32) ?_
   refine pureB (i := 32) (some 71) HT_ (tk 40 33) ?_
   refine pureB (i := 33) (some 72) HT_ (tk 40 34) ?_
   refine pureA (i := 34) (some 73) HT_ (tk 40 35) ?_
   refine pureA (i := 35) (some 74) HT_ (tk 40 36) ?_
   refine pureB (i := 36) (some 75) HT_ (tk 40 37) ?_
   refine pureB (i := 37) (some 76) HT_ (tk 40 38) ?_
   refine pureB (i := 38) (some 77) HT_ (tk 40 39) ?_
   refine pureA (i := 39) (some 78) HT_ (tk 40 40) ?_
   refine done_ (done_of HT_.out (by kernel_rfl)) ?_
   try go_wp2
   refine Met.intro ?_
   go_step
   (repeat apply Exists.intro)
   refine ⟨?rel, ?heq_⟩
   case heq_ => first | rfl | (rw [c25b0]) | (simp only [c25b0])
   case rel => exact ⟨_, (true), pT, H', ⟨by first | omega | exact Nat.le_refl _⟩, ⟨pM BK440⟩, ⟨pM BK450⟩, ⟨pM BK456⟩, ⟨pE HB⟩⟩
  ·
   rw [if_neg c25] at H
   have c25b0 : (t457 != t458) = false := by simpa using c25
   (try (have c25b1 : decide (t457 = t458) = true := by simpa using c25))
   (try (have c25b2 : (t457 == t458) = true := by simpa using c25))
   clear c25
   (first | rw [c25b0] | (simp only [i64_w, i32_w]; rw [c25b0]) | skip)
   by_cases c30 : t441.toList = t443.toList
   ·
    rw [if_pos c30] at H
    have c30b0 : (t441.toList == t443.toList) = true := beq_iff_eq.mpr c30
    have c30b1 : (t441.toList != t443.toList) = false := bne_eq_false_iff_eq.mpr c30
    clear c30
    by_cases c31 : t442 = t444
    ·
     rw [if_pos c31] at H
     have c31b0 : (t442 == t444) = true := beq_iff_eq.mpr c31
     have c31b1 : (t442 != t444) = false := bne_eq_false_iff_eq.mpr c31
     clear c31
     replace H := Option.bind_eq_some_iff.mp H
     obtain ⟨t459, A320, H⟩ := H
     have A32 := Aside0.mk A320
     clear A320
     replace H := Option.bind_eq_some_iff.mp H
     obtain ⟨t460, A330, H⟩ := H
     have A33 := Aside0.mk A330
     clear A330
     by_cases c34 : t459 = t460
     ·
      rw [if_pos c34] at H
      have c34b0 : (t459 == t460) = true := beq_iff_eq.mpr c34
      have c34b1 : (t459 != t460) = false := bne_eq_false_iff_eq.mpr c34
      clear c34
      by_cases c35 : ((!(t445 == t451) || (!(t446 == t452) || (!(t447 == t453)))) || (!(t448 == t454))) = true
      ·
       rw [if_pos c35] at H
       have c35b0 : ((!(t445 == t451) || (!(t446 == t452) || (!(t447 == t453)))) || (!(t448 == t454))) = true := c35
       clear c35
       have H' := Aside0.mk H
       clear H
       try go_wp2
       have n0_ : Aside0 (((((w19.setCell ⟨gb456, 0, none⟩ (.bool t451)).setCell ⟨gb456, 1, none⟩ (.int .u64 t452)).setCell ⟨gb456, 2, none⟩ (.int .u64 t453)).setCell ⟨gb456, 3, none⟩ (.int .i64 t454)).heap[gb440]? = some (.cells #[.bool a0_0, .int .u64 a0_1, .int .u64 a0_2, .int .i64 a0_3, .bool a0_4, .int .u64 a0_5, .int .u64 a0_6, .int .i64 a0_7, .bool a0_8, .int .u64 a0_9, .int .u64 a0_10, .int .i64 a0_11] 49 (0, 0))) := ⟨by (with_reducible repeat (first | refine blk_drewN ?_ _ | refine blk_drew ?_ | refine blk_alloc ?_ _)); refine blk_far ?_ NB440_456.out _; (with_reducible repeat (first | refine blk_drewN ?_ _ | refine blk_drew ?_ | refine blk_alloc ?_ _)); refine blk_far ?_ NB440_456.out _; (with_reducible repeat (first | refine blk_drewN ?_ _ | refine blk_drew ?_ | refine blk_alloc ?_ _)); refine blk_far ?_ NB440_456.out _; (with_reducible repeat (first | refine blk_drewN ?_ _ | refine blk_drew ?_ | refine blk_alloc ?_ _)); refine blk_far ?_ NB440_456.out _; (with_reducible repeat (first | refine blk_drewN ?_ _ | refine blk_drew ?_ | refine blk_alloc ?_ _)); exact BK440.out⟩
       have n1_ : Aside0 (((((w19.setCell ⟨gb456, 0, none⟩ (.bool t451)).setCell ⟨gb456, 1, none⟩ (.int .u64 t452)).setCell ⟨gb456, 2, none⟩ (.int .u64 t453)).setCell ⟨gb456, 3, none⟩ (.int .i64 t454)).heap[gb450]? = some (.cells #[.bool t445, .int .u64 t446, .int .u64 t447, .int .i64 t448] 26 (0, 0))) := ⟨by (with_reducible repeat (first | refine blk_drewN ?_ _ | refine blk_drew ?_ | refine blk_alloc ?_ _)); refine blk_far ?_ NB450_456.out _; (with_reducible repeat (first | refine blk_drewN ?_ _ | refine blk_drew ?_ | refine blk_alloc ?_ _)); refine blk_far ?_ NB450_456.out _; (with_reducible repeat (first | refine blk_drewN ?_ _ | refine blk_drew ?_ | refine blk_alloc ?_ _)); refine blk_far ?_ NB450_456.out _; (with_reducible repeat (first | refine blk_drewN ?_ _ | refine blk_drew ?_ | refine blk_alloc ?_ _)); refine blk_far ?_ NB450_456.out _; (with_reducible repeat (first | refine blk_drewN ?_ _ | refine blk_drew ?_ | refine blk_alloc ?_ _)); exact BK450.out⟩
       have n2_ : Aside0 (((((w19.setCell ⟨gb456, 0, none⟩ (.bool t451)).setCell ⟨gb456, 1, none⟩ (.int .u64 t452)).setCell ⟨gb456, 2, none⟩ (.int .u64 t453)).setCell ⟨gb456, 3, none⟩ (.int .i64 t454)).heap[gb456]? = some (.cells #[.bool t451, .int .u64 t452, .int .u64 t453, .int .i64 t454] 26 (0, 0))) := ⟨by (with_reducible repeat (first | refine blk_drewN ?_ _ | refine blk_drew ?_ | refine blk_alloc ?_ _)); refine blk_put (cs := #[.bool t451, .int .u64 t452, .int .u64 t453, .int .i64 0]) ?_ 3 _ rfl; (with_reducible repeat (first | refine blk_drewN ?_ _ | refine blk_drew ?_ | refine blk_alloc ?_ _)); refine blk_put (cs := #[.bool t451, .int .u64 t452, .int .u64 0, .int .i64 0]) ?_ 2 _ rfl; (with_reducible repeat (first | refine blk_drewN ?_ _ | refine blk_drew ?_ | refine blk_alloc ?_ _)); refine blk_put (cs := #[.bool t451, .int .u64 0, .int .u64 0, .int .i64 0]) ?_ 1 _ rfl; (with_reducible repeat (first | refine blk_drewN ?_ _ | refine blk_drew ?_ | refine blk_alloc ?_ _)); refine blk_put (cs := #[.bool false, .int .u64 0, .int .u64 0, .int .i64 0]) ?_ 0 _ rfl; (with_reducible repeat (first | refine blk_drewN ?_ _ | refine blk_drew ?_ | refine blk_alloc ?_ _)); exact BK456.out⟩
       have n3_ : Aside0 (Below w.heap.size w ((((w19.setCell ⟨gb456, 0, none⟩ (.bool t451)).setCell ⟨gb456, 1, none⟩ (.int .u64 t452)).setCell ⟨gb456, 2, none⟩ (.int .u64 t453)).setCell ⟨gb456, 3, none⟩ (.int .i64 t454))) := ⟨pE HB⟩
       (try clear BK440)
       (try clear BK450)
       (try clear BK456)
       (try clear HB)
       generalize ((((w19.setCell ⟨gb456, 0, none⟩ (.bool t451)).setCell ⟨gb456, 1, none⟩ (.int .u64 t452)).setCell ⟨gb456, 2, none⟩ (.int .u64 t453)).setCell ⟨gb456, 3, none⟩ (.int .i64 t454)) = w36 at n0_ n1_ n2_ n3_ ⊢
       have BK440 := n0_
       have BK450 := n1_
       have BK456 := n2_
       have HB := n3_
       clear n0_ n1_ n2_ n3_
       replace BK440 := Aside0.mk (blk_drew BK440.out)
       replace BK450 := Aside0.mk (blk_drew BK450.out)
       replace BK456 := Aside0.mk (blk_drew BK456.out)
       replace HB := Aside0.mk (below_drew1 HB.out)
       refine start_ (n := 40) (S := fun w' => w'.cell? ⟨gb440, 0, none⟩ = some (.bool a0_0) ∧ w'.cell? ⟨gb440, 1, none⟩ = some (.int .u64 a0_1) ∧ w'.cell? ⟨gb440, 2, none⟩ = some (.int .u64 a0_2) ∧ w'.cell? ⟨gb440, 3, none⟩ = some (.int .i64 a0_3) ∧ w'.cell? ⟨gb440, 4, none⟩ = some (.bool a0_4) ∧ w'.cell? ⟨gb440, 5, none⟩ = some (.int .u64 a0_5) ∧ w'.cell? ⟨gb440, 6, none⟩ = some (.int .u64 a0_6) ∧ w'.cell? ⟨gb440, 7, none⟩ = some (.int .i64 a0_7) ∧ w'.cell? ⟨gb440, 8, none⟩ = some (.bool a0_8) ∧ w'.cell? ⟨gb440, 9, none⟩ = some (.int .u64 a0_9) ∧ w'.cell? ⟨gb440, 10, none⟩ = some (.int .u64 a0_10) ∧ w'.cell? ⟨gb440, 11, none⟩ = some (.int .i64 a0_11) ∧ w'.cell? ⟨gb450, 0, none⟩ = some (.bool t445) ∧ w'.cell? ⟨gb450, 1, none⟩ = some (.int .u64 t446) ∧ w'.cell? ⟨gb450, 2, none⟩ = some (.int .u64 t447) ∧ w'.cell? ⟨gb450, 3, none⟩ = some (.int .i64 t448) ∧ w'.cell? ⟨gb456, 0, none⟩ = some (.bool t451) ∧ w'.cell? ⟨gb456, 1, none⟩ = some (.int .u64 t452) ∧ w'.cell? ⟨gb456, 2, none⟩ = some (.int .u64 t453) ∧ w'.cell? ⟨gb456, 3, none⟩ = some (.int .i64 t454)) (ds := []) (tk 40 0) (by kernel_rfl) rfl rfl ⟨bC BK440 0, bC BK440 1, bC BK440 2, bC BK440 3, bC BK440 4, bC BK440 5, bC BK440 6, bC BK440 7, bC BK440 8, bC BK440 9, bC BK440 10, bC BK440 11, bC BK450 0, bC BK450 1, bC BK450 2, bC BK450 3, bC BK456 0, bC BK456 1, bC BK456 2, bC BK456 3⟩ (fun hHeld => ?_); refine with_tabW ddilaw03_PrefixTells.tab5 ddilaw03_PrefixTells.bits5 (fun HT_ HW_ => ?_)
       generalize w36.drew = w37 at BK440 BK450 BK456 HB hHeld ⊢
       refine pureA (i := 0) (some 39) HT_ (tk 40 1) ?_
       refine pureA (i := 3) (some 42) HT_ (tr [1, 2, 1, 36]) ?_
       refine takeA (i := 1) (some 40) HT_ HW_ (tr [2, 1, 1, 36]) hHeld ?_
       refine takeA (i := 4) (some 43) HT_ HW_ (tr [2, 1, 2, 35]) hHeld ?_
       refine one_ (i := 2) (N := some 41) (tk 40 5) rfl rfl (one_of HT_.out (by kernel_rfl)) (by decide) (fun K hK => ?_)
       refine goesR Tryz.func26 #[.agg #[.bool a0_0, .int .u64 a0_1, .int .u64 a0_2, .int .i64 a0_3]] ?_
       with_reducible refine (prefix_Valid.calls a0_0 a0_1 a0_2 a0_3 t457 _ A23.out).mono ?_
       rintro e w38 ⟨rfl, hb⟩
       refine ⟨_, rfl, ?_⟩
       replace BK440 := (pB BK440 hb)
       replace BK450 := (pB BK450 hb)
       replace BK456 := (pB BK456 hb)
       replace HB := (pS HB hb)
       (try clear hb)
       refine hK.out _ _ ⟨bC BK440 0, bC BK440 1, bC BK440 2, bC BK440 3, bC BK440 4, bC BK440 5, bC BK440 6, bC BK440 7, bC BK440 8, bC BK440 9, bC BK440 10, bC BK440 11, bC BK450 0, bC BK450 1, bC BK450 2, bC BK450 3, bC BK456 0, bC BK456 1, bC BK456 2, bC BK456 3⟩ (fun hHeld => ?_)
       clear hK K
       refine normA (N := some 41) ?_
       refine one_ (i := 5) (N := some 44) (tk 40 6) rfl rfl (one_of HT_.out (by kernel_rfl)) (by decide) (fun K hK => ?_)
       refine goesR Tryz.func27 #[.agg #[.bool a0_0, .int .u64 a0_1, .int .u64 a0_2, .int .i64 a0_3]] ?_
       with_reducible refine (ddiref03_Valid.calls k a0_0 a0_1 a0_2 a0_3 t458 _ A24.out).mono ?_
       rintro e w39 ⟨rfl, hb⟩
       refine ⟨_, rfl, ?_⟩
       replace BK440 := (pB BK440 hb)
       replace BK450 := (pB BK450 hb)
       replace BK456 := (pB BK456 hb)
       replace HB := (pS HB hb)
       (try clear hb)
       refine hK.out _ _ ⟨bC BK440 0, bC BK440 1, bC BK440 2, bC BK440 3, bC BK440 4, bC BK440 5, bC BK440 6, bC BK440 7, bC BK440 8, bC BK440 9, bC BK440 10, bC BK440 11, bC BK450 0, bC BK450 1, bC BK450 2, bC BK450 3, bC BK456 0, bC BK456 1, bC BK456 2, bC BK456 3⟩ (fun hHeld => ?_)
       clear hK K
       refine normA (N := some 44) ?_
       refine pureA (i := 6) (some 45) HT_ (tk 40 7) ?_
       refine pureA (i := 7) (some 46) HT_ (tk 40 8) ?_
       refine pureA (i := 8) (some 47) HT_ (tk 40 9) ?_
       refine pureA (i := 9) (some 48) HT_ (tk 40 10) ?_
       refine pureA (i := 10) (some 49) HT_ (tk 40 11) ?_
       refine pureA (i := 11) (some 50) HT_ (tk 40 12) ?_
       refine pureA (i := 12) (some 51) HT_ (tk 40 13) ?_
       refine pureA (i := 13) (some 52) HT_ (tk 40 14) ?_
       refine pureA (i := 14) (some 53) HT_ (tk 40 15) ?_
       refine pureA (i := 15) (some 54) HT_ (tk 40 16) ?_
       refine pureA (i := 16) (some 55) HT_ (tk 40 17) ?_
       refine pureA (i := 17) (some 56) HT_ (tk 40 18) ?_
       refine pureA (i := 18) (some 57) HT_ (tk 40 19) ?_
       refine pureA (i := 20) (some 59) HT_ (tr [19, 1, 1, 19]) ?_
       refine pureA (i := 23) (some 62) HT_ (tr [19, 1, 1, 2, 1, 16]) ?_
       refine pureA (i := 25) (some 64) HT_ (tr [19, 1, 1, 2, 1, 1, 1, 14]) ?_
       refine takeA (i := 19) (some 58) HT_ HW_ (tr [21, 2, 1, 1, 1, 14]) hHeld ?_
       refine takeA (i := 21) (some 60) HT_ HW_ (tr [22, 1, 1, 1, 1, 14]) hHeld ?_
       refine takeA (i := 24) (some 63) HT_ HW_ (tr [22, 1, 3, 14]) hHeld ?_
       refine takeA (i := 26) (some 65) HT_ HW_ (tr [22, 1, 4, 13]) hHeld ?_
       refine one_ (i := 22) (N := some 61) (tk 40 27) rfl rfl (one_of HT_.out (by kernel_rfl)) (by decide) (fun K hK => ?_)
       refine goesR Tryz.func28 #[.agg #[.bool a0_0, .int .u64 a0_1, .int .u64 a0_2, .int .i64 a0_3], .agg #[.bool a0_4, .int .u64 a0_5, .int .u64 a0_6, .int .i64 a0_7]] ?_
       with_reducible refine (prefix_Compare.calls k a0_0 a0_1 a0_2 a0_3 a0_4 a0_5 a0_6 a0_7 t459 _ A32.out).mono ?_
       rintro e w40 ⟨rfl, hb⟩
       refine ⟨_, rfl, ?_⟩
       replace BK440 := (pB BK440 hb)
       replace BK450 := (pB BK450 hb)
       replace BK456 := (pB BK456 hb)
       replace HB := (pS HB hb)
       (try clear hb)
       refine hK.out _ _ ⟨bC BK440 0, bC BK440 1, bC BK440 2, bC BK440 3, bC BK440 4, bC BK440 5, bC BK440 6, bC BK440 7, bC BK440 8, bC BK440 9, bC BK440 10, bC BK440 11, bC BK450 0, bC BK450 1, bC BK450 2, bC BK450 3, bC BK456 0, bC BK456 1, bC BK456 2, bC BK456 3⟩ (fun hHeld => ?_)
       clear hK K
       refine normA (N := some 61) ?_
       refine one_ (i := 27) (N := some 66) (tk 40 28) rfl rfl (one_of HT_.out (by kernel_rfl)) (by decide) (fun K hK => ?_)
       refine goesR Tryz.func29 #[.agg #[.bool a0_0, .int .u64 a0_1, .int .u64 a0_2, .int .i64 a0_3], .agg #[.bool a0_4, .int .u64 a0_5, .int .u64 a0_6, .int .i64 a0_7]] ?_
       with_reducible refine (ddiref03_Compare.calls a0_0 a0_1 a0_2 a0_3 a0_4 a0_5 a0_6 a0_7 t460 _ A33.out).mono ?_
       rintro e w41 ⟨rfl, hb⟩
       refine ⟨_, rfl, ?_⟩
       replace BK440 := (pB BK440 hb)
       replace BK450 := (pB BK450 hb)
       replace BK456 := (pB BK456 hb)
       replace HB := (pS HB hb)
       (try clear hb)
       refine hK.out _ _ ⟨bC BK440 0, bC BK440 1, bC BK440 2, bC BK440 3, bC BK440 4, bC BK440 5, bC BK440 6, bC BK440 7, bC BK440 8, bC BK440 9, bC BK440 10, bC BK440 11, bC BK450 0, bC BK450 1, bC BK450 2, bC BK450 3, bC BK456 0, bC BK456 1, bC BK456 2, bC BK456 3⟩ (fun hHeld => ?_)
       clear hK K
       refine normA (N := some 66) ?_
       refine pureA (i := 28) (some 67) HT_ (tk 40 29) ?_
       refine pureA (i := 29) (some 68) HT_ (tk 40 30) ?_
       refine pureA (i := 30) (some 69) HT_ (tk 40 31) ?_
       refine takeA (i := 31) (some 70) HT_ HW_ (tk 40 32) hHeld ?_
       refine takeA (i := 32) (some 71) HT_ HW_ (tk 40 33) hHeld ?_
       refine pureA (i := 33) (some 72) HT_ (tk 40 34) ?_
       refine pureA (i := 34) (some 73) HT_ (tk 40 35) ?_
       refine pureA (i := 35) (some 74) HT_ (tk 40 36) ?_
       refine pureB (i := 36) (some 75) HT_ (tk 40 37) ?_
       refine pureB (i := 37) (some 76) HT_ (tk 40 38) ?_
       refine pureB (i := 38) (some 77) HT_ (tk 40 39) ?_
       refine pureA (i := 39) (some 78) HT_ (tk 40 40) ?_
       refine done_ (done_of HT_.out (by kernel_rfl)) ?_
       try go_wp2
       refine Met.intro ?_
       go_step
       (repeat apply Exists.intro)
       refine ⟨?rel, ?heq_⟩
       case heq_ => first | rfl | (rw [c25b0]) | (simp only [c25b0])
       case rel => exact ⟨_, (true), pT, H', ⟨by first | omega | exact Nat.le_refl _⟩, ⟨pM BK440⟩, ⟨pM BK450⟩, ⟨pM BK456⟩, ⟨pE HB⟩⟩
      ·
       rw [if_neg c35] at H
       have c35b0 : ((!(t445 == t451) || (!(t446 == t452) || (!(t447 == t453)))) || (!(t448 == t454))) = false := by simpa using c35
       clear c35
       have H' := Aside0.mk H
       clear H
       try go_wp2
       have n0_ : Aside0 (((((w19.setCell ⟨gb456, 0, none⟩ (.bool t451)).setCell ⟨gb456, 1, none⟩ (.int .u64 t452)).setCell ⟨gb456, 2, none⟩ (.int .u64 t453)).setCell ⟨gb456, 3, none⟩ (.int .i64 t454)).heap[gb440]? = some (.cells #[.bool a0_0, .int .u64 a0_1, .int .u64 a0_2, .int .i64 a0_3, .bool a0_4, .int .u64 a0_5, .int .u64 a0_6, .int .i64 a0_7, .bool a0_8, .int .u64 a0_9, .int .u64 a0_10, .int .i64 a0_11] 49 (0, 0))) := ⟨by (with_reducible repeat (first | refine blk_drewN ?_ _ | refine blk_drew ?_ | refine blk_alloc ?_ _)); refine blk_far ?_ NB440_456.out _; (with_reducible repeat (first | refine blk_drewN ?_ _ | refine blk_drew ?_ | refine blk_alloc ?_ _)); refine blk_far ?_ NB440_456.out _; (with_reducible repeat (first | refine blk_drewN ?_ _ | refine blk_drew ?_ | refine blk_alloc ?_ _)); refine blk_far ?_ NB440_456.out _; (with_reducible repeat (first | refine blk_drewN ?_ _ | refine blk_drew ?_ | refine blk_alloc ?_ _)); refine blk_far ?_ NB440_456.out _; (with_reducible repeat (first | refine blk_drewN ?_ _ | refine blk_drew ?_ | refine blk_alloc ?_ _)); exact BK440.out⟩
       have n1_ : Aside0 (((((w19.setCell ⟨gb456, 0, none⟩ (.bool t451)).setCell ⟨gb456, 1, none⟩ (.int .u64 t452)).setCell ⟨gb456, 2, none⟩ (.int .u64 t453)).setCell ⟨gb456, 3, none⟩ (.int .i64 t454)).heap[gb450]? = some (.cells #[.bool t445, .int .u64 t446, .int .u64 t447, .int .i64 t448] 26 (0, 0))) := ⟨by (with_reducible repeat (first | refine blk_drewN ?_ _ | refine blk_drew ?_ | refine blk_alloc ?_ _)); refine blk_far ?_ NB450_456.out _; (with_reducible repeat (first | refine blk_drewN ?_ _ | refine blk_drew ?_ | refine blk_alloc ?_ _)); refine blk_far ?_ NB450_456.out _; (with_reducible repeat (first | refine blk_drewN ?_ _ | refine blk_drew ?_ | refine blk_alloc ?_ _)); refine blk_far ?_ NB450_456.out _; (with_reducible repeat (first | refine blk_drewN ?_ _ | refine blk_drew ?_ | refine blk_alloc ?_ _)); refine blk_far ?_ NB450_456.out _; (with_reducible repeat (first | refine blk_drewN ?_ _ | refine blk_drew ?_ | refine blk_alloc ?_ _)); exact BK450.out⟩
       have n2_ : Aside0 (((((w19.setCell ⟨gb456, 0, none⟩ (.bool t451)).setCell ⟨gb456, 1, none⟩ (.int .u64 t452)).setCell ⟨gb456, 2, none⟩ (.int .u64 t453)).setCell ⟨gb456, 3, none⟩ (.int .i64 t454)).heap[gb456]? = some (.cells #[.bool t451, .int .u64 t452, .int .u64 t453, .int .i64 t454] 26 (0, 0))) := ⟨by (with_reducible repeat (first | refine blk_drewN ?_ _ | refine blk_drew ?_ | refine blk_alloc ?_ _)); refine blk_put (cs := #[.bool t451, .int .u64 t452, .int .u64 t453, .int .i64 0]) ?_ 3 _ rfl; (with_reducible repeat (first | refine blk_drewN ?_ _ | refine blk_drew ?_ | refine blk_alloc ?_ _)); refine blk_put (cs := #[.bool t451, .int .u64 t452, .int .u64 0, .int .i64 0]) ?_ 2 _ rfl; (with_reducible repeat (first | refine blk_drewN ?_ _ | refine blk_drew ?_ | refine blk_alloc ?_ _)); refine blk_put (cs := #[.bool t451, .int .u64 0, .int .u64 0, .int .i64 0]) ?_ 1 _ rfl; (with_reducible repeat (first | refine blk_drewN ?_ _ | refine blk_drew ?_ | refine blk_alloc ?_ _)); refine blk_put (cs := #[.bool false, .int .u64 0, .int .u64 0, .int .i64 0]) ?_ 0 _ rfl; (with_reducible repeat (first | refine blk_drewN ?_ _ | refine blk_drew ?_ | refine blk_alloc ?_ _)); exact BK456.out⟩
       have n3_ : Aside0 (Below w.heap.size w ((((w19.setCell ⟨gb456, 0, none⟩ (.bool t451)).setCell ⟨gb456, 1, none⟩ (.int .u64 t452)).setCell ⟨gb456, 2, none⟩ (.int .u64 t453)).setCell ⟨gb456, 3, none⟩ (.int .i64 t454))) := ⟨pE HB⟩
       (try clear BK440)
       (try clear BK450)
       (try clear BK456)
       (try clear HB)
       generalize ((((w19.setCell ⟨gb456, 0, none⟩ (.bool t451)).setCell ⟨gb456, 1, none⟩ (.int .u64 t452)).setCell ⟨gb456, 2, none⟩ (.int .u64 t453)).setCell ⟨gb456, 3, none⟩ (.int .i64 t454)) = w42 at n0_ n1_ n2_ n3_ ⊢
       have BK440 := n0_
       have BK450 := n1_
       have BK456 := n2_
       have HB := n3_
       clear n0_ n1_ n2_ n3_
       replace BK440 := Aside0.mk (blk_drew BK440.out)
       replace BK450 := Aside0.mk (blk_drew BK450.out)
       replace BK456 := Aside0.mk (blk_drew BK456.out)
       replace HB := Aside0.mk (below_drew1 HB.out)
       refine start_ (n := 40) (S := fun w' => w'.cell? ⟨gb440, 0, none⟩ = some (.bool a0_0) ∧ w'.cell? ⟨gb440, 1, none⟩ = some (.int .u64 a0_1) ∧ w'.cell? ⟨gb440, 2, none⟩ = some (.int .u64 a0_2) ∧ w'.cell? ⟨gb440, 3, none⟩ = some (.int .i64 a0_3) ∧ w'.cell? ⟨gb440, 4, none⟩ = some (.bool a0_4) ∧ w'.cell? ⟨gb440, 5, none⟩ = some (.int .u64 a0_5) ∧ w'.cell? ⟨gb440, 6, none⟩ = some (.int .u64 a0_6) ∧ w'.cell? ⟨gb440, 7, none⟩ = some (.int .i64 a0_7) ∧ w'.cell? ⟨gb440, 8, none⟩ = some (.bool a0_8) ∧ w'.cell? ⟨gb440, 9, none⟩ = some (.int .u64 a0_9) ∧ w'.cell? ⟨gb440, 10, none⟩ = some (.int .u64 a0_10) ∧ w'.cell? ⟨gb440, 11, none⟩ = some (.int .i64 a0_11) ∧ w'.cell? ⟨gb450, 0, none⟩ = some (.bool t445) ∧ w'.cell? ⟨gb450, 1, none⟩ = some (.int .u64 t446) ∧ w'.cell? ⟨gb450, 2, none⟩ = some (.int .u64 t447) ∧ w'.cell? ⟨gb450, 3, none⟩ = some (.int .i64 t448) ∧ w'.cell? ⟨gb456, 0, none⟩ = some (.bool t451) ∧ w'.cell? ⟨gb456, 1, none⟩ = some (.int .u64 t452) ∧ w'.cell? ⟨gb456, 2, none⟩ = some (.int .u64 t453) ∧ w'.cell? ⟨gb456, 3, none⟩ = some (.int .i64 t454)) (ds := []) (tk 40 0) (by kernel_rfl) rfl rfl ⟨bC BK440 0, bC BK440 1, bC BK440 2, bC BK440 3, bC BK440 4, bC BK440 5, bC BK440 6, bC BK440 7, bC BK440 8, bC BK440 9, bC BK440 10, bC BK440 11, bC BK450 0, bC BK450 1, bC BK450 2, bC BK450 3, bC BK456 0, bC BK456 1, bC BK456 2, bC BK456 3⟩ (fun hHeld => ?_); refine with_tabW ddilaw03_PrefixTells.tab5 ddilaw03_PrefixTells.bits5 (fun HT_ HW_ => ?_)
       generalize w42.drew = w43 at BK440 BK450 BK456 HB hHeld ⊢
       refine pureA (i := 0) (some 39) HT_ (tk 40 1) ?_
       refine pureA (i := 3) (some 42) HT_ (tr [1, 2, 1, 36]) ?_
       refine takeA (i := 1) (some 40) HT_ HW_ (tr [2, 1, 1, 36]) hHeld ?_
       refine takeA (i := 4) (some 43) HT_ HW_ (tr [2, 1, 2, 35]) hHeld ?_
       refine one_ (i := 2) (N := some 41) (tk 40 5) rfl rfl (one_of HT_.out (by kernel_rfl)) (by decide) (fun K hK => ?_)
       refine goesR Tryz.func26 #[.agg #[.bool a0_0, .int .u64 a0_1, .int .u64 a0_2, .int .i64 a0_3]] ?_
       with_reducible refine (prefix_Valid.calls a0_0 a0_1 a0_2 a0_3 t457 _ A23.out).mono ?_
       rintro e w44 ⟨rfl, hb⟩
       refine ⟨_, rfl, ?_⟩
       replace BK440 := (pB BK440 hb)
       replace BK450 := (pB BK450 hb)
       replace BK456 := (pB BK456 hb)
       replace HB := (pS HB hb)
       (try clear hb)
       refine hK.out _ _ ⟨bC BK440 0, bC BK440 1, bC BK440 2, bC BK440 3, bC BK440 4, bC BK440 5, bC BK440 6, bC BK440 7, bC BK440 8, bC BK440 9, bC BK440 10, bC BK440 11, bC BK450 0, bC BK450 1, bC BK450 2, bC BK450 3, bC BK456 0, bC BK456 1, bC BK456 2, bC BK456 3⟩ (fun hHeld => ?_)
       clear hK K
       refine normA (N := some 41) ?_
       refine one_ (i := 5) (N := some 44) (tk 40 6) rfl rfl (one_of HT_.out (by kernel_rfl)) (by decide) (fun K hK => ?_)
       refine goesR Tryz.func27 #[.agg #[.bool a0_0, .int .u64 a0_1, .int .u64 a0_2, .int .i64 a0_3]] ?_
       with_reducible refine (ddiref03_Valid.calls k a0_0 a0_1 a0_2 a0_3 t458 _ A24.out).mono ?_
       rintro e w45 ⟨rfl, hb⟩
       refine ⟨_, rfl, ?_⟩
       replace BK440 := (pB BK440 hb)
       replace BK450 := (pB BK450 hb)
       replace BK456 := (pB BK456 hb)
       replace HB := (pS HB hb)
       (try clear hb)
       refine hK.out _ _ ⟨bC BK440 0, bC BK440 1, bC BK440 2, bC BK440 3, bC BK440 4, bC BK440 5, bC BK440 6, bC BK440 7, bC BK440 8, bC BK440 9, bC BK440 10, bC BK440 11, bC BK450 0, bC BK450 1, bC BK450 2, bC BK450 3, bC BK456 0, bC BK456 1, bC BK456 2, bC BK456 3⟩ (fun hHeld => ?_)
       clear hK K
       refine normA (N := some 44) ?_
       refine pureA (i := 6) (some 45) HT_ (tk 40 7) ?_
       refine pureA (i := 7) (some 46) HT_ (tk 40 8) ?_
       refine pureA (i := 8) (some 47) HT_ (tk 40 9) ?_
       refine pureA (i := 9) (some 48) HT_ (tk 40 10) ?_
       refine pureA (i := 10) (some 49) HT_ (tk 40 11) ?_
       refine pureA (i := 11) (some 50) HT_ (tk 40 12) ?_
       refine pureA (i := 12) (some 51) HT_ (tk 40 13) ?_
       refine pureA (i := 13) (some 52) HT_ (tk 40 14) ?_
       refine pureA (i := 14) (some 53) HT_ (tk 40 15) ?_
       refine pureA (i := 15) (some 54) HT_ (tk 40 16) ?_
       refine pureA (i := 16) (some 55) HT_ (tk 40 17) ?_
       refine pureA (i := 17) (some 56) HT_ (tk 40 18) ?_
       refine pureA (i := 18) (some 57) HT_ (tk 40 19) ?_
       refine pureA (i := 20) (some 59) HT_ (tr [19, 1, 1, 19]) ?_
       refine pureA (i := 23) (some 62) HT_ (tr [19, 1, 1, 2, 1, 16]) ?_
       refine pureA (i := 25) (some 64) HT_ (tr [19, 1, 1, 2, 1, 1, 1, 14]) ?_
       refine takeA (i := 19) (some 58) HT_ HW_ (tr [21, 2, 1, 1, 1, 14]) hHeld ?_
       refine takeA (i := 21) (some 60) HT_ HW_ (tr [22, 1, 1, 1, 1, 14]) hHeld ?_
       refine takeA (i := 24) (some 63) HT_ HW_ (tr [22, 1, 3, 14]) hHeld ?_
       refine takeA (i := 26) (some 65) HT_ HW_ (tr [22, 1, 4, 13]) hHeld ?_
       refine one_ (i := 22) (N := some 61) (tk 40 27) rfl rfl (one_of HT_.out (by kernel_rfl)) (by decide) (fun K hK => ?_)
       refine goesR Tryz.func28 #[.agg #[.bool a0_0, .int .u64 a0_1, .int .u64 a0_2, .int .i64 a0_3], .agg #[.bool a0_4, .int .u64 a0_5, .int .u64 a0_6, .int .i64 a0_7]] ?_
       with_reducible refine (prefix_Compare.calls k a0_0 a0_1 a0_2 a0_3 a0_4 a0_5 a0_6 a0_7 t459 _ A32.out).mono ?_
       rintro e w46 ⟨rfl, hb⟩
       refine ⟨_, rfl, ?_⟩
       replace BK440 := (pB BK440 hb)
       replace BK450 := (pB BK450 hb)
       replace BK456 := (pB BK456 hb)
       replace HB := (pS HB hb)
       (try clear hb)
       refine hK.out _ _ ⟨bC BK440 0, bC BK440 1, bC BK440 2, bC BK440 3, bC BK440 4, bC BK440 5, bC BK440 6, bC BK440 7, bC BK440 8, bC BK440 9, bC BK440 10, bC BK440 11, bC BK450 0, bC BK450 1, bC BK450 2, bC BK450 3, bC BK456 0, bC BK456 1, bC BK456 2, bC BK456 3⟩ (fun hHeld => ?_)
       clear hK K
       refine normA (N := some 61) ?_
       refine one_ (i := 27) (N := some 66) (tk 40 28) rfl rfl (one_of HT_.out (by kernel_rfl)) (by decide) (fun K hK => ?_)
       refine goesR Tryz.func29 #[.agg #[.bool a0_0, .int .u64 a0_1, .int .u64 a0_2, .int .i64 a0_3], .agg #[.bool a0_4, .int .u64 a0_5, .int .u64 a0_6, .int .i64 a0_7]] ?_
       with_reducible refine (ddiref03_Compare.calls a0_0 a0_1 a0_2 a0_3 a0_4 a0_5 a0_6 a0_7 t460 _ A33.out).mono ?_
       rintro e w47 ⟨rfl, hb⟩
       refine ⟨_, rfl, ?_⟩
       replace BK440 := (pB BK440 hb)
       replace BK450 := (pB BK450 hb)
       replace BK456 := (pB BK456 hb)
       replace HB := (pS HB hb)
       (try clear hb)
       refine hK.out _ _ ⟨bC BK440 0, bC BK440 1, bC BK440 2, bC BK440 3, bC BK440 4, bC BK440 5, bC BK440 6, bC BK440 7, bC BK440 8, bC BK440 9, bC BK440 10, bC BK440 11, bC BK450 0, bC BK450 1, bC BK450 2, bC BK450 3, bC BK456 0, bC BK456 1, bC BK456 2, bC BK456 3⟩ (fun hHeld => ?_)
       clear hK K
       refine normA (N := some 66) ?_
       refine pureA (i := 28) (some 67) HT_ (tk 40 29) ?_
       refine pureA (i := 29) (some 68) HT_ (tk 40 30) ?_
       refine pureA (i := 30) (some 69) HT_ (tk 40 31) ?_
       refine takeA (i := 31) (some 70) HT_ HW_ (tk 40 32) hHeld ?_
       refine takeA (i := 32) (some 71) HT_ HW_ (tk 40 33) hHeld ?_
       refine pureA (i := 33) (some 72) HT_ (tk 40 34) ?_
       refine pureA (i := 34) (some 73) HT_ (tk 40 35) ?_
       refine pureA (i := 35) (some 74) HT_ (tk 40 36) ?_
       refine pureA (i := 36) (some 75) HT_ (tk 40 37) ?_
       refine pureA (i := 37) (some 76) HT_ (tk 40 38) ?_
       refine pureA (i := 38) (some 77) HT_ (tk 40 39) ?_
       refine pureA (i := 39) (some 78) HT_ (tk 40 40) ?_
       refine done_ (done_of HT_.out (by kernel_rfl)) ?_
       try go_wp2
       refine Met.intro ?_
       go_step
       (repeat apply Exists.intro)
       refine ⟨?rel, ?heq_⟩
       case heq_ => first | rfl | (rw [c25b0]) | (simp only [c25b0])
       case rel => exact ⟨_, ((t449 != t455)), pT, H', ⟨by first | omega | exact Nat.le_refl _⟩, ⟨pM BK440⟩, ⟨pM BK450⟩, ⟨pM BK456⟩, ⟨pE HB⟩⟩
     ·
      rw [if_neg c34] at H
      have c34b0 : (t459 == t460) = false := beq_eq_false_iff_ne.mpr c34
      have c34b1 : (t459 != t460) = true := bne_iff_ne.mpr c34
      have H' := Aside0.mk H
      clear H
      try go_wp2
      have n0_ : Aside0 (((((w19.setCell ⟨gb456, 0, none⟩ (.bool t451)).setCell ⟨gb456, 1, none⟩ (.int .u64 t452)).setCell ⟨gb456, 2, none⟩ (.int .u64 t453)).setCell ⟨gb456, 3, none⟩ (.int .i64 t454)).heap[gb440]? = some (.cells #[.bool a0_0, .int .u64 a0_1, .int .u64 a0_2, .int .i64 a0_3, .bool a0_4, .int .u64 a0_5, .int .u64 a0_6, .int .i64 a0_7, .bool a0_8, .int .u64 a0_9, .int .u64 a0_10, .int .i64 a0_11] 49 (0, 0))) := ⟨by (with_reducible repeat (first | refine blk_drewN ?_ _ | refine blk_drew ?_ | refine blk_alloc ?_ _)); refine blk_far ?_ NB440_456.out _; (with_reducible repeat (first | refine blk_drewN ?_ _ | refine blk_drew ?_ | refine blk_alloc ?_ _)); refine blk_far ?_ NB440_456.out _; (with_reducible repeat (first | refine blk_drewN ?_ _ | refine blk_drew ?_ | refine blk_alloc ?_ _)); refine blk_far ?_ NB440_456.out _; (with_reducible repeat (first | refine blk_drewN ?_ _ | refine blk_drew ?_ | refine blk_alloc ?_ _)); refine blk_far ?_ NB440_456.out _; (with_reducible repeat (first | refine blk_drewN ?_ _ | refine blk_drew ?_ | refine blk_alloc ?_ _)); exact BK440.out⟩
      have n1_ : Aside0 (((((w19.setCell ⟨gb456, 0, none⟩ (.bool t451)).setCell ⟨gb456, 1, none⟩ (.int .u64 t452)).setCell ⟨gb456, 2, none⟩ (.int .u64 t453)).setCell ⟨gb456, 3, none⟩ (.int .i64 t454)).heap[gb450]? = some (.cells #[.bool t445, .int .u64 t446, .int .u64 t447, .int .i64 t448] 26 (0, 0))) := ⟨by (with_reducible repeat (first | refine blk_drewN ?_ _ | refine blk_drew ?_ | refine blk_alloc ?_ _)); refine blk_far ?_ NB450_456.out _; (with_reducible repeat (first | refine blk_drewN ?_ _ | refine blk_drew ?_ | refine blk_alloc ?_ _)); refine blk_far ?_ NB450_456.out _; (with_reducible repeat (first | refine blk_drewN ?_ _ | refine blk_drew ?_ | refine blk_alloc ?_ _)); refine blk_far ?_ NB450_456.out _; (with_reducible repeat (first | refine blk_drewN ?_ _ | refine blk_drew ?_ | refine blk_alloc ?_ _)); refine blk_far ?_ NB450_456.out _; (with_reducible repeat (first | refine blk_drewN ?_ _ | refine blk_drew ?_ | refine blk_alloc ?_ _)); exact BK450.out⟩
      have n2_ : Aside0 (((((w19.setCell ⟨gb456, 0, none⟩ (.bool t451)).setCell ⟨gb456, 1, none⟩ (.int .u64 t452)).setCell ⟨gb456, 2, none⟩ (.int .u64 t453)).setCell ⟨gb456, 3, none⟩ (.int .i64 t454)).heap[gb456]? = some (.cells #[.bool t451, .int .u64 t452, .int .u64 t453, .int .i64 t454] 26 (0, 0))) := ⟨by (with_reducible repeat (first | refine blk_drewN ?_ _ | refine blk_drew ?_ | refine blk_alloc ?_ _)); refine blk_put (cs := #[.bool t451, .int .u64 t452, .int .u64 t453, .int .i64 0]) ?_ 3 _ rfl; (with_reducible repeat (first | refine blk_drewN ?_ _ | refine blk_drew ?_ | refine blk_alloc ?_ _)); refine blk_put (cs := #[.bool t451, .int .u64 t452, .int .u64 0, .int .i64 0]) ?_ 2 _ rfl; (with_reducible repeat (first | refine blk_drewN ?_ _ | refine blk_drew ?_ | refine blk_alloc ?_ _)); refine blk_put (cs := #[.bool t451, .int .u64 0, .int .u64 0, .int .i64 0]) ?_ 1 _ rfl; (with_reducible repeat (first | refine blk_drewN ?_ _ | refine blk_drew ?_ | refine blk_alloc ?_ _)); refine blk_put (cs := #[.bool false, .int .u64 0, .int .u64 0, .int .i64 0]) ?_ 0 _ rfl; (with_reducible repeat (first | refine blk_drewN ?_ _ | refine blk_drew ?_ | refine blk_alloc ?_ _)); exact BK456.out⟩
      have n3_ : Aside0 (Below w.heap.size w ((((w19.setCell ⟨gb456, 0, none⟩ (.bool t451)).setCell ⟨gb456, 1, none⟩ (.int .u64 t452)).setCell ⟨gb456, 2, none⟩ (.int .u64 t453)).setCell ⟨gb456, 3, none⟩ (.int .i64 t454))) := ⟨pE HB⟩
      (try clear BK440)
      (try clear BK450)
      (try clear BK456)
      (try clear HB)
      generalize ((((w19.setCell ⟨gb456, 0, none⟩ (.bool t451)).setCell ⟨gb456, 1, none⟩ (.int .u64 t452)).setCell ⟨gb456, 2, none⟩ (.int .u64 t453)).setCell ⟨gb456, 3, none⟩ (.int .i64 t454)) = w48 at n0_ n1_ n2_ n3_ ⊢
      have BK440 := n0_
      have BK450 := n1_
      have BK456 := n2_
      have HB := n3_
      clear n0_ n1_ n2_ n3_
      replace BK440 := Aside0.mk (blk_drew BK440.out)
      replace BK450 := Aside0.mk (blk_drew BK450.out)
      replace BK456 := Aside0.mk (blk_drew BK456.out)
      replace HB := Aside0.mk (below_drew1 HB.out)
      refine start_ (n := 40) (S := fun w' => w'.cell? ⟨gb440, 0, none⟩ = some (.bool a0_0) ∧ w'.cell? ⟨gb440, 1, none⟩ = some (.int .u64 a0_1) ∧ w'.cell? ⟨gb440, 2, none⟩ = some (.int .u64 a0_2) ∧ w'.cell? ⟨gb440, 3, none⟩ = some (.int .i64 a0_3) ∧ w'.cell? ⟨gb440, 4, none⟩ = some (.bool a0_4) ∧ w'.cell? ⟨gb440, 5, none⟩ = some (.int .u64 a0_5) ∧ w'.cell? ⟨gb440, 6, none⟩ = some (.int .u64 a0_6) ∧ w'.cell? ⟨gb440, 7, none⟩ = some (.int .i64 a0_7) ∧ w'.cell? ⟨gb440, 8, none⟩ = some (.bool a0_8) ∧ w'.cell? ⟨gb440, 9, none⟩ = some (.int .u64 a0_9) ∧ w'.cell? ⟨gb440, 10, none⟩ = some (.int .u64 a0_10) ∧ w'.cell? ⟨gb440, 11, none⟩ = some (.int .i64 a0_11)) (ds := []) (tk 40 0) (by kernel_rfl) rfl rfl ⟨bC BK440 0, bC BK440 1, bC BK440 2, bC BK440 3, bC BK440 4, bC BK440 5, bC BK440 6, bC BK440 7, bC BK440 8, bC BK440 9, bC BK440 10, bC BK440 11⟩ (fun hHeld => ?_); refine with_tabW ddilaw03_PrefixTells.tab5 ddilaw03_PrefixTells.bits5 (fun HT_ HW_ => ?_)
      generalize w48.drew = w49 at BK440 BK450 BK456 HB hHeld ⊢
      refine pureA (i := 0) (some 39) HT_ (tk 40 1) ?_
      refine pureA (i := 3) (some 42) HT_ (tr [1, 2, 1, 36]) ?_
      refine takeA (i := 1) (some 40) HT_ HW_ (tr [2, 1, 1, 36]) hHeld ?_
      refine takeA (i := 4) (some 43) HT_ HW_ (tr [2, 1, 2, 35]) hHeld ?_
      refine one_ (i := 2) (N := some 41) (tk 40 5) rfl rfl (one_of HT_.out (by kernel_rfl)) (by decide) (fun K hK => ?_)
      refine goesR Tryz.func26 #[.agg #[.bool a0_0, .int .u64 a0_1, .int .u64 a0_2, .int .i64 a0_3]] ?_
      with_reducible refine (prefix_Valid.calls a0_0 a0_1 a0_2 a0_3 t457 _ A23.out).mono ?_
      rintro e w50 ⟨rfl, hb⟩
      refine ⟨_, rfl, ?_⟩
      replace BK440 := (pB BK440 hb)
      replace BK450 := (pB BK450 hb)
      replace BK456 := (pB BK456 hb)
      replace HB := (pS HB hb)
      (try clear hb)
      refine hK.out _ _ ⟨bC BK440 0, bC BK440 1, bC BK440 2, bC BK440 3, bC BK440 4, bC BK440 5, bC BK440 6, bC BK440 7, bC BK440 8, bC BK440 9, bC BK440 10, bC BK440 11⟩ (fun hHeld => ?_)
      clear hK K
      refine normA (N := some 41) ?_
      refine one_ (i := 5) (N := some 44) (tk 40 6) rfl rfl (one_of HT_.out (by kernel_rfl)) (by decide) (fun K hK => ?_)
      refine goesR Tryz.func27 #[.agg #[.bool a0_0, .int .u64 a0_1, .int .u64 a0_2, .int .i64 a0_3]] ?_
      with_reducible refine (ddiref03_Valid.calls k a0_0 a0_1 a0_2 a0_3 t458 _ A24.out).mono ?_
      rintro e w51 ⟨rfl, hb⟩
      refine ⟨_, rfl, ?_⟩
      replace BK440 := (pB BK440 hb)
      replace BK450 := (pB BK450 hb)
      replace BK456 := (pB BK456 hb)
      replace HB := (pS HB hb)
      (try clear hb)
      refine hK.out _ _ ⟨bC BK440 0, bC BK440 1, bC BK440 2, bC BK440 3, bC BK440 4, bC BK440 5, bC BK440 6, bC BK440 7, bC BK440 8, bC BK440 9, bC BK440 10, bC BK440 11⟩ (fun hHeld => ?_)
      clear hK K
      refine normA (N := some 44) ?_
      refine pureA (i := 6) (some 45) HT_ (tk 40 7) ?_
      refine pureA (i := 7) (some 46) HT_ (tk 40 8) ?_
      refine pureA (i := 8) (some 47) HT_ (tk 40 9) ?_
      refine pureA (i := 9) (some 48) HT_ (tk 40 10) ?_
      refine pureA (i := 10) (some 49) HT_ (tk 40 11) ?_
      refine pureA (i := 11) (some 50) HT_ (tk 40 12) ?_
      refine pureA (i := 12) (some 51) HT_ (tk 40 13) ?_
      refine pureA (i := 13) (some 52) HT_ (tk 40 14) ?_
      refine pureA (i := 14) (some 53) HT_ (tk 40 15) ?_
      refine pureA (i := 15) (some 54) HT_ (tk 40 16) ?_
      refine pureA (i := 16) (some 55) HT_ (tk 40 17) ?_
      refine pureA (i := 17) (some 56) HT_ (tk 40 18) ?_
      refine pureA (i := 18) (some 57) HT_ (tk 40 19) ?_
      refine pureA (i := 20) (some 59) HT_ (tr [19, 1, 1, 19]) ?_
      refine pureA (i := 23) (some 62) HT_ (tr [19, 1, 1, 2, 1, 16]) ?_
      refine pureA (i := 25) (some 64) HT_ (tr [19, 1, 1, 2, 1, 1, 1, 14]) ?_
      refine takeA (i := 19) (some 58) HT_ HW_ (tr [21, 2, 1, 1, 1, 14]) hHeld ?_
      refine takeA (i := 21) (some 60) HT_ HW_ (tr [22, 1, 1, 1, 1, 14]) hHeld ?_
      refine takeA (i := 24) (some 63) HT_ HW_ (tr [22, 1, 3, 14]) hHeld ?_
      refine takeA (i := 26) (some 65) HT_ HW_ (tr [22, 1, 4, 13]) hHeld ?_
      refine one_ (i := 22) (N := some 61) (tk 40 27) rfl rfl (one_of HT_.out (by kernel_rfl)) (by decide) (fun K hK => ?_)
      refine goesR Tryz.func28 #[.agg #[.bool a0_0, .int .u64 a0_1, .int .u64 a0_2, .int .i64 a0_3], .agg #[.bool a0_4, .int .u64 a0_5, .int .u64 a0_6, .int .i64 a0_7]] ?_
      with_reducible refine (prefix_Compare.calls k a0_0 a0_1 a0_2 a0_3 a0_4 a0_5 a0_6 a0_7 t459 _ A32.out).mono ?_
      rintro e w52 ⟨rfl, hb⟩
      refine ⟨_, rfl, ?_⟩
      replace BK440 := (pB BK440 hb)
      replace BK450 := (pB BK450 hb)
      replace BK456 := (pB BK456 hb)
      replace HB := (pS HB hb)
      (try clear hb)
      refine hK.out _ _ ⟨bC BK440 0, bC BK440 1, bC BK440 2, bC BK440 3, bC BK440 4, bC BK440 5, bC BK440 6, bC BK440 7, bC BK440 8, bC BK440 9, bC BK440 10, bC BK440 11⟩ (fun hHeld => ?_)
      clear hK K
      refine normA (N := some 61) ?_
      refine one_ (i := 27) (N := some 66) (tk 40 28) rfl rfl (one_of HT_.out (by kernel_rfl)) (by decide) (fun K hK => ?_)
      refine goesR Tryz.func29 #[.agg #[.bool a0_0, .int .u64 a0_1, .int .u64 a0_2, .int .i64 a0_3], .agg #[.bool a0_4, .int .u64 a0_5, .int .u64 a0_6, .int .i64 a0_7]] ?_
      with_reducible refine (ddiref03_Compare.calls a0_0 a0_1 a0_2 a0_3 a0_4 a0_5 a0_6 a0_7 t460 _ A33.out).mono ?_
      rintro e w53 ⟨rfl, hb⟩
      refine ⟨_, rfl, ?_⟩
      replace BK440 := (pB BK440 hb)
      replace BK450 := (pB BK450 hb)
      replace BK456 := (pB BK456 hb)
      replace HB := (pS HB hb)
      (try clear hb)
      refine hK.out _ _ ⟨bC BK440 0, bC BK440 1, bC BK440 2, bC BK440 3, bC BK440 4, bC BK440 5, bC BK440 6, bC BK440 7, bC BK440 8, bC BK440 9, bC BK440 10, bC BK440 11⟩ (fun hHeld => ?_)
      clear hK K
      refine normA (N := some 66) ?_
      refine pureA (i := 28) (some 67) HT_ (tk 40 29) ?_
      refine pureA (i := 29) (some 68) HT_ (tk 40 30) ?_
      refine pureA (i := 30) (some 69) HT_ (tk 40 31) ?_
      refine pureB (i := 31) (some 70) HT_ (tk 40 32) ?_
      refine pureB (i := 32) (some 71) HT_ (tk 40 33) ?_
      refine pureB (i := 33) (some 72) HT_ (tk 40 34) ?_
      refine pureA (i := 34) (some 73) HT_ (tk 40 35) ?_
      refine pureA (i := 35) (some 74) HT_ (tk 40 36) ?_
      refine pureB (i := 36) (some 75) HT_ (tk 40 37) ?_
      refine pureB (i := 37) (some 76) HT_ (tk 40 38) ?_
      refine pureB (i := 38) (some 77) HT_ (tk 40 39) ?_
      refine pureA (i := 39) (some 78) HT_ (tk 40 40) ?_
      refine done_ (done_of HT_.out (by kernel_rfl)) ?_
      try go_wp2
      refine Met.intro ?_
      go_step
      (repeat apply Exists.intro)
      refine ⟨?rel, ?heq_⟩
      case heq_ => first | rfl | (rw [c25b0]) | (simp only [c25b0])
      case rel => exact ⟨_, (true), pT, H', ⟨by first | omega | exact Nat.le_refl _⟩, ⟨pM BK440⟩, ⟨pM BK450⟩, ⟨pM BK456⟩, ⟨pE HB⟩⟩
    ·
     rw [if_neg c31] at H
     have c31b0 : (t442 == t444) = false := beq_eq_false_iff_ne.mpr c31
     have c31b1 : (t442 != t444) = true := bne_iff_ne.mpr c31
     have H' := Aside0.mk H
     clear H
     try go_wp2
     have n0_ : Aside0 (((((w19.setCell ⟨gb456, 0, none⟩ (.bool t451)).setCell ⟨gb456, 1, none⟩ (.int .u64 t452)).setCell ⟨gb456, 2, none⟩ (.int .u64 t453)).setCell ⟨gb456, 3, none⟩ (.int .i64 t454)).heap[gb440]? = some (.cells #[.bool a0_0, .int .u64 a0_1, .int .u64 a0_2, .int .i64 a0_3, .bool a0_4, .int .u64 a0_5, .int .u64 a0_6, .int .i64 a0_7, .bool a0_8, .int .u64 a0_9, .int .u64 a0_10, .int .i64 a0_11] 49 (0, 0))) := ⟨by (with_reducible repeat (first | refine blk_drewN ?_ _ | refine blk_drew ?_ | refine blk_alloc ?_ _)); refine blk_far ?_ NB440_456.out _; (with_reducible repeat (first | refine blk_drewN ?_ _ | refine blk_drew ?_ | refine blk_alloc ?_ _)); refine blk_far ?_ NB440_456.out _; (with_reducible repeat (first | refine blk_drewN ?_ _ | refine blk_drew ?_ | refine blk_alloc ?_ _)); refine blk_far ?_ NB440_456.out _; (with_reducible repeat (first | refine blk_drewN ?_ _ | refine blk_drew ?_ | refine blk_alloc ?_ _)); refine blk_far ?_ NB440_456.out _; (with_reducible repeat (first | refine blk_drewN ?_ _ | refine blk_drew ?_ | refine blk_alloc ?_ _)); exact BK440.out⟩
     have n1_ : Aside0 (((((w19.setCell ⟨gb456, 0, none⟩ (.bool t451)).setCell ⟨gb456, 1, none⟩ (.int .u64 t452)).setCell ⟨gb456, 2, none⟩ (.int .u64 t453)).setCell ⟨gb456, 3, none⟩ (.int .i64 t454)).heap[gb450]? = some (.cells #[.bool t445, .int .u64 t446, .int .u64 t447, .int .i64 t448] 26 (0, 0))) := ⟨by (with_reducible repeat (first | refine blk_drewN ?_ _ | refine blk_drew ?_ | refine blk_alloc ?_ _)); refine blk_far ?_ NB450_456.out _; (with_reducible repeat (first | refine blk_drewN ?_ _ | refine blk_drew ?_ | refine blk_alloc ?_ _)); refine blk_far ?_ NB450_456.out _; (with_reducible repeat (first | refine blk_drewN ?_ _ | refine blk_drew ?_ | refine blk_alloc ?_ _)); refine blk_far ?_ NB450_456.out _; (with_reducible repeat (first | refine blk_drewN ?_ _ | refine blk_drew ?_ | refine blk_alloc ?_ _)); refine blk_far ?_ NB450_456.out _; (with_reducible repeat (first | refine blk_drewN ?_ _ | refine blk_drew ?_ | refine blk_alloc ?_ _)); exact BK450.out⟩
     have n2_ : Aside0 (((((w19.setCell ⟨gb456, 0, none⟩ (.bool t451)).setCell ⟨gb456, 1, none⟩ (.int .u64 t452)).setCell ⟨gb456, 2, none⟩ (.int .u64 t453)).setCell ⟨gb456, 3, none⟩ (.int .i64 t454)).heap[gb456]? = some (.cells #[.bool t451, .int .u64 t452, .int .u64 t453, .int .i64 t454] 26 (0, 0))) := ⟨by (with_reducible repeat (first | refine blk_drewN ?_ _ | refine blk_drew ?_ | refine blk_alloc ?_ _)); refine blk_put (cs := #[.bool t451, .int .u64 t452, .int .u64 t453, .int .i64 0]) ?_ 3 _ rfl; (with_reducible repeat (first | refine blk_drewN ?_ _ | refine blk_drew ?_ | refine blk_alloc ?_ _)); refine blk_put (cs := #[.bool t451, .int .u64 t452, .int .u64 0, .int .i64 0]) ?_ 2 _ rfl; (with_reducible repeat (first | refine blk_drewN ?_ _ | refine blk_drew ?_ | refine blk_alloc ?_ _)); refine blk_put (cs := #[.bool t451, .int .u64 0, .int .u64 0, .int .i64 0]) ?_ 1 _ rfl; (with_reducible repeat (first | refine blk_drewN ?_ _ | refine blk_drew ?_ | refine blk_alloc ?_ _)); refine blk_put (cs := #[.bool false, .int .u64 0, .int .u64 0, .int .i64 0]) ?_ 0 _ rfl; (with_reducible repeat (first | refine blk_drewN ?_ _ | refine blk_drew ?_ | refine blk_alloc ?_ _)); exact BK456.out⟩
     have n3_ : Aside0 (Below w.heap.size w ((((w19.setCell ⟨gb456, 0, none⟩ (.bool t451)).setCell ⟨gb456, 1, none⟩ (.int .u64 t452)).setCell ⟨gb456, 2, none⟩ (.int .u64 t453)).setCell ⟨gb456, 3, none⟩ (.int .i64 t454))) := ⟨pE HB⟩
     (try clear BK440)
     (try clear BK450)
     (try clear BK456)
     (try clear HB)
     generalize ((((w19.setCell ⟨gb456, 0, none⟩ (.bool t451)).setCell ⟨gb456, 1, none⟩ (.int .u64 t452)).setCell ⟨gb456, 2, none⟩ (.int .u64 t453)).setCell ⟨gb456, 3, none⟩ (.int .i64 t454)) = w54 at n0_ n1_ n2_ n3_ ⊢
     have BK440 := n0_
     have BK450 := n1_
     have BK456 := n2_
     have HB := n3_
     clear n0_ n1_ n2_ n3_
     replace BK440 := Aside0.mk (blk_drew BK440.out)
     replace BK450 := Aside0.mk (blk_drew BK450.out)
     replace BK456 := Aside0.mk (blk_drew BK456.out)
     replace HB := Aside0.mk (below_drew1 HB.out)
     refine start_ (n := 40) (S := fun w' => w'.cell? ⟨gb440, 0, none⟩ = some (.bool a0_0) ∧ w'.cell? ⟨gb440, 1, none⟩ = some (.int .u64 a0_1) ∧ w'.cell? ⟨gb440, 2, none⟩ = some (.int .u64 a0_2) ∧ w'.cell? ⟨gb440, 3, none⟩ = some (.int .i64 a0_3) ∧ w'.cell? ⟨gb440, 4, none⟩ = some (.bool a0_4) ∧ w'.cell? ⟨gb440, 5, none⟩ = some (.int .u64 a0_5) ∧ w'.cell? ⟨gb440, 6, none⟩ = some (.int .u64 a0_6) ∧ w'.cell? ⟨gb440, 7, none⟩ = some (.int .i64 a0_7) ∧ w'.cell? ⟨gb440, 8, none⟩ = some (.bool a0_8) ∧ w'.cell? ⟨gb440, 9, none⟩ = some (.int .u64 a0_9) ∧ w'.cell? ⟨gb440, 10, none⟩ = some (.int .u64 a0_10) ∧ w'.cell? ⟨gb440, 11, none⟩ = some (.int .i64 a0_11)) (ds := []) (tk 40 0) (by kernel_rfl) rfl rfl ⟨bC BK440 0, bC BK440 1, bC BK440 2, bC BK440 3, bC BK440 4, bC BK440 5, bC BK440 6, bC BK440 7, bC BK440 8, bC BK440 9, bC BK440 10, bC BK440 11⟩ (fun hHeld => ?_); refine with_tabW ddilaw03_PrefixTells.tab5 ddilaw03_PrefixTells.bits5 (fun HT_ HW_ => ?_)
     generalize w54.drew = w55 at BK440 BK450 BK456 HB hHeld ⊢
     refine pureA (i := 0) (some 39) HT_ (tk 40 1) ?_
     refine pureA (i := 3) (some 42) HT_ (tr [1, 2, 1, 36]) ?_
     refine takeA (i := 1) (some 40) HT_ HW_ (tr [2, 1, 1, 36]) hHeld ?_
     refine takeA (i := 4) (some 43) HT_ HW_ (tr [2, 1, 2, 35]) hHeld ?_
     refine one_ (i := 2) (N := some 41) (tk 40 5) rfl rfl (one_of HT_.out (by kernel_rfl)) (by decide) (fun K hK => ?_)
     refine goesR Tryz.func26 #[.agg #[.bool a0_0, .int .u64 a0_1, .int .u64 a0_2, .int .i64 a0_3]] ?_
     with_reducible refine (prefix_Valid.calls a0_0 a0_1 a0_2 a0_3 t457 _ A23.out).mono ?_
     rintro e w56 ⟨rfl, hb⟩
     refine ⟨_, rfl, ?_⟩
     replace BK440 := (pB BK440 hb)
     replace BK450 := (pB BK450 hb)
     replace BK456 := (pB BK456 hb)
     replace HB := (pS HB hb)
     (try clear hb)
     refine hK.out _ _ ⟨bC BK440 0, bC BK440 1, bC BK440 2, bC BK440 3, bC BK440 4, bC BK440 5, bC BK440 6, bC BK440 7, bC BK440 8, bC BK440 9, bC BK440 10, bC BK440 11⟩ (fun hHeld => ?_)
     clear hK K
     refine normA (N := some 41) ?_
     refine one_ (i := 5) (N := some 44) (tk 40 6) rfl rfl (one_of HT_.out (by kernel_rfl)) (by decide) (fun K hK => ?_)
     refine goesR Tryz.func27 #[.agg #[.bool a0_0, .int .u64 a0_1, .int .u64 a0_2, .int .i64 a0_3]] ?_
     with_reducible refine (ddiref03_Valid.calls k a0_0 a0_1 a0_2 a0_3 t458 _ A24.out).mono ?_
     rintro e w57 ⟨rfl, hb⟩
     refine ⟨_, rfl, ?_⟩
     replace BK440 := (pB BK440 hb)
     replace BK450 := (pB BK450 hb)
     replace BK456 := (pB BK456 hb)
     replace HB := (pS HB hb)
     (try clear hb)
     refine hK.out _ _ ⟨bC BK440 0, bC BK440 1, bC BK440 2, bC BK440 3, bC BK440 4, bC BK440 5, bC BK440 6, bC BK440 7, bC BK440 8, bC BK440 9, bC BK440 10, bC BK440 11⟩ (fun hHeld => ?_)
     clear hK K
     refine normA (N := some 44) ?_
     refine pureA (i := 6) (some 45) HT_ (tk 40 7) ?_
     refine pureA (i := 7) (some 46) HT_ (tk 40 8) ?_
     refine pureA (i := 8) (some 47) HT_ (tk 40 9) ?_
     refine pureA (i := 9) (some 48) HT_ (tk 40 10) ?_
     refine pureA (i := 10) (some 49) HT_ (tk 40 11) ?_
     refine pureA (i := 11) (some 50) HT_ (tk 40 12) ?_
     refine pureA (i := 12) (some 51) HT_ (tk 40 13) ?_
     refine pureA (i := 13) (some 52) HT_ (tk 40 14) ?_
     refine pureA (i := 14) (some 53) HT_ (tk 40 15) ?_
     refine pureA (i := 15) (some 54) HT_ (tk 40 16) ?_
     refine pureA (i := 16) (some 55) HT_ (tk 40 17) ?_
     refine pureA (i := 17) (some 56) HT_ (tk 40 18) ?_
     refine pureB (i := 18) (some 57) HT_ (tk 40 19) ?_
     refine pureB (i := 19) (some 58) HT_ (tk 40 20) ?_
     refine pureB (i := 20) (some 59) HT_ (tk 40 21) ?_
     refine pureB (i := 21) (some 60) HT_ (tk 40 22) ?_
     refine pureB (i := 22) (some 61) HT_ (tk 40 23) ?_
     refine pureB (i := 23) (some 62) HT_ (tk 40 24) ?_
     refine pureB (i := 24) (some 63) HT_ (tk 40 25) ?_
     refine pureB (i := 25) (some 64) HT_ (tk 40 26) ?_
     refine pureB (i := 26) (some 65) HT_ (tk 40 27) ?_
     refine pureB (i := 27) (some 66) HT_ (tk 40 28) ?_
     refine pureB (i := 28) (some 67) HT_ (tk 40 29) ?_
     refine pureA (i := 29) (some 68) HT_ (tk 40 30) ?_
     refine pureA (i := 30) (some 69) HT_ (tk 40 31) ?_
     refine pureB (i := 31) (some 70) HT_ (tk 40 32) ?_
     refine pureB (i := 32) (some 71) HT_ (tk 40 33) ?_
     refine pureB (i := 33) (some 72) HT_ (tk 40 34) ?_
     refine pureA (i := 34) (some 73) HT_ (tk 40 35) ?_
     refine pureA (i := 35) (some 74) HT_ (tk 40 36) ?_
     refine pureB (i := 36) (some 75) HT_ (tk 40 37) ?_
     refine pureB (i := 37) (some 76) HT_ (tk 40 38) ?_
     refine pureB (i := 38) (some 77) HT_ (tk 40 39) ?_
     refine pureA (i := 39) (some 78) HT_ (tk 40 40) ?_
     refine done_ (done_of HT_.out (by kernel_rfl)) ?_
     try go_wp2
     refine Met.intro ?_
     go_step
     (repeat apply Exists.intro)
     refine ⟨?rel, ?heq_⟩
     case heq_ => first | rfl | (rw [c25b0]) | (simp only [c25b0])
     case rel => exact ⟨_, (true), pT, H', ⟨by first | omega | exact Nat.le_refl _⟩, ⟨pM BK440⟩, ⟨pM BK450⟩, ⟨pM BK456⟩, ⟨pE HB⟩⟩
   ·
    rw [if_neg c30] at H
    have c30b0 : (t441.toList == t443.toList) = false := beq_eq_false_iff_ne.mpr c30
    have c30b1 : (t441.toList != t443.toList) = true := bne_iff_ne.mpr c30
    have H' := Aside0.mk H
    clear H
    try go_wp2
    have n0_ : Aside0 (((((w19.setCell ⟨gb456, 0, none⟩ (.bool t451)).setCell ⟨gb456, 1, none⟩ (.int .u64 t452)).setCell ⟨gb456, 2, none⟩ (.int .u64 t453)).setCell ⟨gb456, 3, none⟩ (.int .i64 t454)).heap[gb440]? = some (.cells #[.bool a0_0, .int .u64 a0_1, .int .u64 a0_2, .int .i64 a0_3, .bool a0_4, .int .u64 a0_5, .int .u64 a0_6, .int .i64 a0_7, .bool a0_8, .int .u64 a0_9, .int .u64 a0_10, .int .i64 a0_11] 49 (0, 0))) := ⟨by (with_reducible repeat (first | refine blk_drewN ?_ _ | refine blk_drew ?_ | refine blk_alloc ?_ _)); refine blk_far ?_ NB440_456.out _; (with_reducible repeat (first | refine blk_drewN ?_ _ | refine blk_drew ?_ | refine blk_alloc ?_ _)); refine blk_far ?_ NB440_456.out _; (with_reducible repeat (first | refine blk_drewN ?_ _ | refine blk_drew ?_ | refine blk_alloc ?_ _)); refine blk_far ?_ NB440_456.out _; (with_reducible repeat (first | refine blk_drewN ?_ _ | refine blk_drew ?_ | refine blk_alloc ?_ _)); refine blk_far ?_ NB440_456.out _; (with_reducible repeat (first | refine blk_drewN ?_ _ | refine blk_drew ?_ | refine blk_alloc ?_ _)); exact BK440.out⟩
    have n1_ : Aside0 (((((w19.setCell ⟨gb456, 0, none⟩ (.bool t451)).setCell ⟨gb456, 1, none⟩ (.int .u64 t452)).setCell ⟨gb456, 2, none⟩ (.int .u64 t453)).setCell ⟨gb456, 3, none⟩ (.int .i64 t454)).heap[gb450]? = some (.cells #[.bool t445, .int .u64 t446, .int .u64 t447, .int .i64 t448] 26 (0, 0))) := ⟨by (with_reducible repeat (first | refine blk_drewN ?_ _ | refine blk_drew ?_ | refine blk_alloc ?_ _)); refine blk_far ?_ NB450_456.out _; (with_reducible repeat (first | refine blk_drewN ?_ _ | refine blk_drew ?_ | refine blk_alloc ?_ _)); refine blk_far ?_ NB450_456.out _; (with_reducible repeat (first | refine blk_drewN ?_ _ | refine blk_drew ?_ | refine blk_alloc ?_ _)); refine blk_far ?_ NB450_456.out _; (with_reducible repeat (first | refine blk_drewN ?_ _ | refine blk_drew ?_ | refine blk_alloc ?_ _)); refine blk_far ?_ NB450_456.out _; (with_reducible repeat (first | refine blk_drewN ?_ _ | refine blk_drew ?_ | refine blk_alloc ?_ _)); exact BK450.out⟩
    have n2_ : Aside0 (((((w19.setCell ⟨gb456, 0, none⟩ (.bool t451)).setCell ⟨gb456, 1, none⟩ (.int .u64 t452)).setCell ⟨gb456, 2, none⟩ (.int .u64 t453)).setCell ⟨gb456, 3, none⟩ (.int .i64 t454)).heap[gb456]? = some (.cells #[.bool t451, .int .u64 t452, .int .u64 t453, .int .i64 t454] 26 (0, 0))) := ⟨by (with_reducible repeat (first | refine blk_drewN ?_ _ | refine blk_drew ?_ | refine blk_alloc ?_ _)); refine blk_put (cs := #[.bool t451, .int .u64 t452, .int .u64 t453, .int .i64 0]) ?_ 3 _ rfl; (with_reducible repeat (first | refine blk_drewN ?_ _ | refine blk_drew ?_ | refine blk_alloc ?_ _)); refine blk_put (cs := #[.bool t451, .int .u64 t452, .int .u64 0, .int .i64 0]) ?_ 2 _ rfl; (with_reducible repeat (first | refine blk_drewN ?_ _ | refine blk_drew ?_ | refine blk_alloc ?_ _)); refine blk_put (cs := #[.bool t451, .int .u64 0, .int .u64 0, .int .i64 0]) ?_ 1 _ rfl; (with_reducible repeat (first | refine blk_drewN ?_ _ | refine blk_drew ?_ | refine blk_alloc ?_ _)); refine blk_put (cs := #[.bool false, .int .u64 0, .int .u64 0, .int .i64 0]) ?_ 0 _ rfl; (with_reducible repeat (first | refine blk_drewN ?_ _ | refine blk_drew ?_ | refine blk_alloc ?_ _)); exact BK456.out⟩
    have n3_ : Aside0 (Below w.heap.size w ((((w19.setCell ⟨gb456, 0, none⟩ (.bool t451)).setCell ⟨gb456, 1, none⟩ (.int .u64 t452)).setCell ⟨gb456, 2, none⟩ (.int .u64 t453)).setCell ⟨gb456, 3, none⟩ (.int .i64 t454))) := ⟨pE HB⟩
    (try clear BK440)
    (try clear BK450)
    (try clear BK456)
    (try clear HB)
    generalize ((((w19.setCell ⟨gb456, 0, none⟩ (.bool t451)).setCell ⟨gb456, 1, none⟩ (.int .u64 t452)).setCell ⟨gb456, 2, none⟩ (.int .u64 t453)).setCell ⟨gb456, 3, none⟩ (.int .i64 t454)) = w58 at n0_ n1_ n2_ n3_ ⊢
    have BK440 := n0_
    have BK450 := n1_
    have BK456 := n2_
    have HB := n3_
    clear n0_ n1_ n2_ n3_
    replace BK440 := Aside0.mk (blk_drew BK440.out)
    replace BK450 := Aside0.mk (blk_drew BK450.out)
    replace BK456 := Aside0.mk (blk_drew BK456.out)
    replace HB := Aside0.mk (below_drew1 HB.out)
    refine start_ (n := 40) (S := fun w' => w'.cell? ⟨gb440, 0, none⟩ = some (.bool a0_0) ∧ w'.cell? ⟨gb440, 1, none⟩ = some (.int .u64 a0_1) ∧ w'.cell? ⟨gb440, 2, none⟩ = some (.int .u64 a0_2) ∧ w'.cell? ⟨gb440, 3, none⟩ = some (.int .i64 a0_3) ∧ w'.cell? ⟨gb440, 4, none⟩ = some (.bool a0_4) ∧ w'.cell? ⟨gb440, 5, none⟩ = some (.int .u64 a0_5) ∧ w'.cell? ⟨gb440, 6, none⟩ = some (.int .u64 a0_6) ∧ w'.cell? ⟨gb440, 7, none⟩ = some (.int .i64 a0_7) ∧ w'.cell? ⟨gb440, 8, none⟩ = some (.bool a0_8) ∧ w'.cell? ⟨gb440, 9, none⟩ = some (.int .u64 a0_9) ∧ w'.cell? ⟨gb440, 10, none⟩ = some (.int .u64 a0_10) ∧ w'.cell? ⟨gb440, 11, none⟩ = some (.int .i64 a0_11)) (ds := []) (tk 40 0) (by kernel_rfl) rfl rfl ⟨bC BK440 0, bC BK440 1, bC BK440 2, bC BK440 3, bC BK440 4, bC BK440 5, bC BK440 6, bC BK440 7, bC BK440 8, bC BK440 9, bC BK440 10, bC BK440 11⟩ (fun hHeld => ?_); refine with_tabW ddilaw03_PrefixTells.tab5 ddilaw03_PrefixTells.bits5 (fun HT_ HW_ => ?_)
    generalize w58.drew = w59 at BK440 BK450 BK456 HB hHeld ⊢
    refine pureA (i := 0) (some 39) HT_ (tk 40 1) ?_
    refine pureA (i := 3) (some 42) HT_ (tr [1, 2, 1, 36]) ?_
    refine takeA (i := 1) (some 40) HT_ HW_ (tr [2, 1, 1, 36]) hHeld ?_
    refine takeA (i := 4) (some 43) HT_ HW_ (tr [2, 1, 2, 35]) hHeld ?_
    refine one_ (i := 2) (N := some 41) (tk 40 5) rfl rfl (one_of HT_.out (by kernel_rfl)) (by decide) (fun K hK => ?_)
    refine goesR Tryz.func26 #[.agg #[.bool a0_0, .int .u64 a0_1, .int .u64 a0_2, .int .i64 a0_3]] ?_
    with_reducible refine (prefix_Valid.calls a0_0 a0_1 a0_2 a0_3 t457 _ A23.out).mono ?_
    rintro e w60 ⟨rfl, hb⟩
    refine ⟨_, rfl, ?_⟩
    replace BK440 := (pB BK440 hb)
    replace BK450 := (pB BK450 hb)
    replace BK456 := (pB BK456 hb)
    replace HB := (pS HB hb)
    (try clear hb)
    refine hK.out _ _ ⟨bC BK440 0, bC BK440 1, bC BK440 2, bC BK440 3, bC BK440 4, bC BK440 5, bC BK440 6, bC BK440 7, bC BK440 8, bC BK440 9, bC BK440 10, bC BK440 11⟩ (fun hHeld => ?_)
    clear hK K
    refine normA (N := some 41) ?_
    refine one_ (i := 5) (N := some 44) (tk 40 6) rfl rfl (one_of HT_.out (by kernel_rfl)) (by decide) (fun K hK => ?_)
    refine goesR Tryz.func27 #[.agg #[.bool a0_0, .int .u64 a0_1, .int .u64 a0_2, .int .i64 a0_3]] ?_
    with_reducible refine (ddiref03_Valid.calls k a0_0 a0_1 a0_2 a0_3 t458 _ A24.out).mono ?_
    rintro e w61 ⟨rfl, hb⟩
    refine ⟨_, rfl, ?_⟩
    replace BK440 := (pB BK440 hb)
    replace BK450 := (pB BK450 hb)
    replace BK456 := (pB BK456 hb)
    replace HB := (pS HB hb)
    (try clear hb)
    refine hK.out _ _ ⟨bC BK440 0, bC BK440 1, bC BK440 2, bC BK440 3, bC BK440 4, bC BK440 5, bC BK440 6, bC BK440 7, bC BK440 8, bC BK440 9, bC BK440 10, bC BK440 11⟩ (fun hHeld => ?_)
    clear hK K
    refine normA (N := some 44) ?_
    refine pureA (i := 6) (some 45) HT_ (tk 40 7) ?_
    refine pureA (i := 7) (some 46) HT_ (tk 40 8) ?_
    refine pureA (i := 8) (some 47) HT_ (tk 40 9) ?_
    refine pureA (i := 9) (some 48) HT_ (tk 40 10) ?_
    refine pureA (i := 10) (some 49) HT_ (tk 40 11) ?_
    refine pureA (i := 11) (some 50) HT_ (tk 40 12) ?_
    refine pureA (i := 12) (some 51) HT_ (tk 40 13) ?_
    refine pureB (i := 13) (some 52) HT_ (tk 40 14) ?_
    refine pureB (i := 14) (some 53) HT_ (tk 40 15) ?_
    refine pureB (i := 15) (some 54) HT_ (tk 40 16) ?_
    refine pureA (i := 16) (some 55) HT_ (tk 40 17) ?_
    refine pureA (i := 17) (some 56) HT_ (tk 40 18) ?_
    refine pureB (i := 18) (some 57) HT_ (tk 40 19) ?_
    refine pureB (i := 19) (some 58) HT_ (tk 40 20) ?_
    refine pureB (i := 20) (some 59) HT_ (tk 40 21) ?_
    refine pureB (i := 21) (some 60) HT_ (tk 40 22) ?_
    refine pureB (i := 22) (some 61) HT_ (tk 40 23) ?_
    refine pureB (i := 23) (some 62) HT_ (tk 40 24) ?_
    refine pureB (i := 24) (some 63) HT_ (tk 40 25) ?_
    refine pureB (i := 25) (some 64) HT_ (tk 40 26) ?_
    refine pureB (i := 26) (some 65) HT_ (tk 40 27) ?_
    refine pureB (i := 27) (some 66) HT_ (tk 40 28) ?_
    refine pureB (i := 28) (some 67) HT_ (tk 40 29) ?_
    refine pureA (i := 29) (some 68) HT_ (tk 40 30) ?_
    refine pureA (i := 30) (some 69) HT_ (tk 40 31) ?_
    refine pureB (i := 31) (some 70) HT_ (tk 40 32) ?_
    refine pureB (i := 32) (some 71) HT_ (tk 40 33) ?_
    refine pureB (i := 33) (some 72) HT_ (tk 40 34) ?_
    refine pureA (i := 34) (some 73) HT_ (tk 40 35) ?_
    refine pureA (i := 35) (some 74) HT_ (tk 40 36) ?_
    refine pureB (i := 36) (some 75) HT_ (tk 40 37) ?_
    refine pureB (i := 37) (some 76) HT_ (tk 40 38) ?_
    refine pureB (i := 38) (some 77) HT_ (tk 40 39) ?_
    refine pureA (i := 39) (some 78) HT_ (tk 40 40) ?_
    refine done_ (done_of HT_.out (by kernel_rfl)) ?_
    try go_wp2
    refine Met.intro ?_
    go_step
    (repeat apply Exists.intro)
    refine ⟨?rel, ?heq_⟩
    case heq_ => first | rfl | (rw [c25b0]) | (simp only [c25b0])
    case rel => exact ⟨_, (true), pT, H', ⟨by first | omega | exact Nat.le_refl _⟩, ⟨pM BK440⟩, ⟨pM BK450⟩, ⟨pM BK456⟩, ⟨pE HB⟩⟩
 case rest =>
  clear HC6
  obtain ⟨kq, x78_5, rfl, HA, HJ5, BK440, BK450, BK456, HB⟩ := hcut
  cases kq with
  | zero => exact absurd HA.out (by simp [ddilaw03_PrefixTells.j0])
  | succ kj5 =>
   have H := HA.out
   clear HA
   simp only [ddilaw03_PrefixTells.j0] at H
   by_cases c62 : x78_5 = true
   ·
    subst c62
    rw [if_pos rfl] at H
    exact absurd H (by simp)
   ·
    replace c62 := Bool.eq_false_iff.mpr c62
    subst c62
    rw [if_neg (show ¬ (false = true) by decide)] at H
    replace H := Option.bind_eq_some_iff.mp H
    obtain ⟨t461, A630, H⟩ := H
    have A63 := Aside0.mk A630
    clear A630
    replace H := Option.bind_eq_some_iff.mp H
    obtain ⟨t462, A640, H⟩ := H
    have A64 := Aside0.mk A640
    clear A640
    by_cases c65 : (t461 == t462) = true
    ·
     rw [if_pos c65] at H
     have c65b0 : (t461 == t462) = true := c65
     (try (have c65b1 : decide (t461 = t462) = true := by simpa using c65))
     (try (have c65b2 : (t461 == t462) = true := by simpa using c65))
     clear c65
     replace H := Option.bind_eq_some_iff.mp H
     obtain ⟨t463, A660, H⟩ := H
     have A66 := Aside0.mk A660
     clear A660
     replace H := Option.bind_eq_some_iff.mp H
     obtain ⟨t464, A670, H⟩ := H
     have A67 := Aside0.mk A670
     clear A670
     by_cases c68 : (t463 == t464) = true
     ·
      rw [if_pos c68] at H
      have c68b0 : (t463 == t464) = true := c68
      (try (have c68b1 : decide (t463 = t464) = true := by simpa using c68))
      (try (have c68b2 : (t463 == t464) = true := by simpa using c68))
      clear c68
      replace H := Option.bind_eq_some_iff.mp H
      obtain ⟨t465, A690, H⟩ := H
      have A69 := Aside0.mk A690
      clear A690
      replace H := Option.bind_eq_some_iff.mp H
      obtain ⟨t466, A700, H⟩ := H
      have A70 := Aside0.mk A700
      clear A700
      by_cases c71 : (t465 == t466) = true
      ·
       rw [if_pos c71] at H
       have c71b0 : (t465 == t466) = true := c71
       (try (have c71b1 : decide (t465 = t466) = true := by simpa using c71))
       (try (have c71b2 : (t465 == t466) = true := by simpa using c71))
       clear c71
       replace H := Option.bind_eq_some_iff.mp H
       obtain ⟨t467, A720, H⟩ := H
       have A72 := Aside0.mk A720
       clear A720
       obtain rfl := Option.some.inj H
       try go_wp2
       replace BK440 := Aside0.mk (blk_drew BK440.out)
       replace BK450 := Aside0.mk (blk_drew BK450.out)
       replace BK456 := Aside0.mk (blk_drew BK456.out)
       replace HB := Aside0.mk (below_drew1 HB.out)
       refine start_ (n := 41) (S := fun w' => w'.cell? ⟨gb440, 0, none⟩ = some (.bool a0_0) ∧ w'.cell? ⟨gb440, 1, none⟩ = some (.int .u64 a0_1) ∧ w'.cell? ⟨gb440, 2, none⟩ = some (.int .u64 a0_2) ∧ w'.cell? ⟨gb440, 3, none⟩ = some (.int .i64 a0_3) ∧ w'.cell? ⟨gb440, 4, none⟩ = some (.bool a0_4) ∧ w'.cell? ⟨gb440, 5, none⟩ = some (.int .u64 a0_5) ∧ w'.cell? ⟨gb440, 6, none⟩ = some (.int .u64 a0_6) ∧ w'.cell? ⟨gb440, 7, none⟩ = some (.int .i64 a0_7) ∧ w'.cell? ⟨gb440, 8, none⟩ = some (.bool a0_8) ∧ w'.cell? ⟨gb440, 9, none⟩ = some (.int .u64 a0_9) ∧ w'.cell? ⟨gb440, 10, none⟩ = some (.int .u64 a0_10) ∧ w'.cell? ⟨gb440, 11, none⟩ = some (.int .i64 a0_11)) (ds := []) (tk 41 0) (by kernel_rfl) rfl rfl ⟨bC BK440 0, bC BK440 1, bC BK440 2, bC BK440 3, bC BK440 4, bC BK440 5, bC BK440 6, bC BK440 7, bC BK440 8, bC BK440 9, bC BK440 10, bC BK440 11⟩ (fun hHeld => ?_); refine with_tabW ddilaw03_PrefixTells.tab7 ddilaw03_PrefixTells.bits7 (fun HT_ HW_ => ?_)
       generalize wc.drew = w73 at BK440 BK450 BK456 HB hHeld ⊢
       refine pureA (i := 0) (some 79) HT_ (tk 41 1) ?_
       refine pureA (i := 2) (some 81) HT_ (tr [1, 1, 1, 38]) ?_
       refine pureA (i := 5) (some 84) HT_ (tr [1, 1, 1, 2, 1, 35]) ?_
       refine pureA (i := 7) (some 86) HT_ (tr [1, 1, 1, 2, 1, 1, 1, 33]) ?_
       refine takeA (i := 1) (some 80) HT_ HW_ (tr [3, 2, 1, 1, 1, 33]) hHeld ?_
       refine takeA (i := 3) (some 82) HT_ HW_ (tr [4, 1, 1, 1, 1, 33]) hHeld ?_
       refine takeA (i := 6) (some 85) HT_ HW_ (tr [4, 1, 3, 33]) hHeld ?_
       refine takeA (i := 8) (some 87) HT_ HW_ (tr [4, 1, 4, 32]) hHeld ?_
       refine one_ (i := 4) (N := some 83) (tk 41 9) rfl rfl (one_of HT_.out (by kernel_rfl)) (by decide) (fun K hK => ?_)
       refine goesR Tryz.func30 #[.agg #[.bool a0_0, .int .u64 a0_1, .int .u64 a0_2, .int .i64 a0_3], .agg #[.bool a0_8, .int .u64 a0_9, .int .u64 a0_10]] ?_
       with_reducible refine (prefix_Contains.calls a0_0 a0_1 a0_2 a0_3 a0_8 a0_9 a0_10 t461 _ A63.out).mono ?_
       rintro e w74 ⟨rfl, hb⟩
       refine ⟨_, rfl, ?_⟩
       replace BK440 := (pB BK440 hb)
       replace BK450 := (pB BK450 hb)
       replace BK456 := (pB BK456 hb)
       replace HB := (pS HB hb)
       (try clear hb)
       refine hK.out _ _ ⟨bC BK440 0, bC BK440 1, bC BK440 2, bC BK440 3, bC BK440 4, bC BK440 5, bC BK440 6, bC BK440 7, bC BK440 8, bC BK440 9, bC BK440 10, bC BK440 11⟩ (fun hHeld => ?_)
       clear hK K
       refine normA (N := some 83) ?_
       refine one_ (i := 9) (N := some 88) (tk 41 10) rfl rfl (one_of HT_.out (by kernel_rfl)) (by decide) (fun K hK => ?_)
       refine goesR Tryz.func31 #[.agg #[.bool a0_0, .int .u64 a0_1, .int .u64 a0_2, .int .i64 a0_3], .agg #[.bool a0_8, .int .u64 a0_9, .int .u64 a0_10]] ?_
       with_reducible refine (ddiref03_Contains.calls kj5 a0_0 a0_1 a0_2 a0_3 a0_8 a0_9 a0_10 t462 _ A64.out).mono ?_
       rintro e w75 ⟨rfl, hb⟩
       refine ⟨_, rfl, ?_⟩
       replace BK440 := (pB BK440 hb)
       replace BK450 := (pB BK450 hb)
       replace BK456 := (pB BK456 hb)
       replace HB := (pS HB hb)
       (try clear hb)
       refine hK.out _ _ ⟨bC BK440 0, bC BK440 1, bC BK440 2, bC BK440 3, bC BK440 4, bC BK440 5, bC BK440 6, bC BK440 7, bC BK440 8, bC BK440 9, bC BK440 10, bC BK440 11⟩ (fun hHeld => ?_)
       clear hK K
       refine normA (N := some 88) ?_
       refine pureA (i := 10) (some 89) HT_ (tk 41 11) ?_
       refine pureA (i := 11) (some 90) HT_ (tk 41 12) ?_
       refine pureA (i := 12) (some 91) HT_ (tk 41 13) ?_
       refine pureA (i := 14) (some 93) HT_ (tr [13, 1, 1, 26]) ?_
       refine pureA (i := 17) (some 96) HT_ (tr [13, 1, 1, 2, 1, 23]) ?_
       refine pureA (i := 19) (some 98) HT_ (tr [13, 1, 1, 2, 1, 1, 1, 21]) ?_
       refine takeA (i := 13) (some 92) HT_ HW_ (tr [15, 2, 1, 1, 1, 21]) hHeld ?_
       refine takeA (i := 15) (some 94) HT_ HW_ (tr [16, 1, 1, 1, 1, 21]) hHeld ?_
       refine takeA (i := 18) (some 97) HT_ HW_ (tr [16, 1, 3, 21]) hHeld ?_
       refine takeA (i := 20) (some 99) HT_ HW_ (tr [16, 1, 4, 20]) hHeld ?_
       refine one_ (i := 16) (N := some 95) (tk 41 21) rfl rfl (one_of HT_.out (by kernel_rfl)) (by decide) (fun K hK => ?_)
       refine goesR Tryz.func32 #[.agg #[.bool a0_0, .int .u64 a0_1, .int .u64 a0_2, .int .i64 a0_3], .agg #[.bool a0_4, .int .u64 a0_5, .int .u64 a0_6, .int .i64 a0_7]] ?_
       with_reducible refine (prefix_Within.calls a0_0 a0_1 a0_2 a0_3 a0_4 a0_5 a0_6 a0_7 t463 _ A66.out).mono ?_
       rintro e w76 ⟨rfl, hb⟩
       refine ⟨_, rfl, ?_⟩
       replace BK440 := (pB BK440 hb)
       replace BK450 := (pB BK450 hb)
       replace BK456 := (pB BK456 hb)
       replace HB := (pS HB hb)
       (try clear hb)
       refine hK.out _ _ ⟨bC BK440 0, bC BK440 1, bC BK440 2, bC BK440 3, bC BK440 4, bC BK440 5, bC BK440 6, bC BK440 7, bC BK440 8, bC BK440 9, bC BK440 10, bC BK440 11⟩ (fun hHeld => ?_)
       clear hK K
       refine normA (N := some 95) ?_
       refine one_ (i := 21) (N := some 100) (tk 41 22) rfl rfl (one_of HT_.out (by kernel_rfl)) (by decide) (fun K hK => ?_)
       refine goesR Tryz.func33 #[.agg #[.bool a0_0, .int .u64 a0_1, .int .u64 a0_2, .int .i64 a0_3], .agg #[.bool a0_4, .int .u64 a0_5, .int .u64 a0_6, .int .i64 a0_7]] ?_
       with_reducible refine (ddiref03_Within.calls kj5 a0_0 a0_1 a0_2 a0_3 a0_4 a0_5 a0_6 a0_7 t464 _ A67.out).mono ?_
       rintro e w77 ⟨rfl, hb⟩
       refine ⟨_, rfl, ?_⟩
       replace BK440 := (pB BK440 hb)
       replace BK450 := (pB BK450 hb)
       replace BK456 := (pB BK456 hb)
       replace HB := (pS HB hb)
       (try clear hb)
       refine hK.out _ _ ⟨bC BK440 0, bC BK440 1, bC BK440 2, bC BK440 3, bC BK440 4, bC BK440 5, bC BK440 6, bC BK440 7, bC BK440 8, bC BK440 9, bC BK440 10, bC BK440 11⟩ (fun hHeld => ?_)
       clear hK K
       refine normA (N := some 100) ?_
       refine pureA (i := 22) (some 101) HT_ (tk 41 23) ?_
       refine pureA (i := 23) (some 102) HT_ (tk 41 24) ?_
       refine pureA (i := 24) (some 103) HT_ (tk 41 25) ?_
       refine pureA (i := 25) (some 104) HT_ (tk 41 26) ?_
       refine pureA (i := 27) (some 106) HT_ (tr [26, 1, 1, 13]) ?_
       refine pureA (i := 30) (some 109) HT_ (tr [26, 1, 1, 2, 1, 10]) ?_
       refine pureA (i := 32) (some 111) HT_ (tr [26, 1, 1, 2, 1, 1, 1, 8]) ?_
       refine takeA (i := 26) (some 105) HT_ HW_ (tr [28, 2, 1, 1, 1, 8]) hHeld ?_
       refine takeA (i := 28) (some 107) HT_ HW_ (tr [29, 1, 1, 1, 1, 8]) hHeld ?_
       refine takeA (i := 31) (some 110) HT_ HW_ (tr [29, 1, 3, 8]) hHeld ?_
       refine takeA (i := 33) (some 112) HT_ HW_ (tr [29, 1, 4, 7]) hHeld ?_
       refine one_ (i := 29) (N := some 108) (tk 41 34) rfl rfl (one_of HT_.out (by kernel_rfl)) (by decide) (fun K hK => ?_)
       refine goesR Tryz.func34 #[.agg #[.bool a0_0, .int .u64 a0_1, .int .u64 a0_2, .int .i64 a0_3], .agg #[.bool a0_4, .int .u64 a0_5, .int .u64 a0_6, .int .i64 a0_7]] ?_
       with_reducible refine (prefix_Overlap.calls a0_0 a0_1 a0_2 a0_3 a0_4 a0_5 a0_6 a0_7 t465 _ A69.out).mono ?_
       rintro e w78 ⟨rfl, hb⟩
       refine ⟨_, rfl, ?_⟩
       replace BK440 := (pB BK440 hb)
       replace BK450 := (pB BK450 hb)
       replace BK456 := (pB BK456 hb)
       replace HB := (pS HB hb)
       (try clear hb)
       refine hK.out _ _ ⟨bC BK440 0, bC BK440 1, bC BK440 2, bC BK440 3, bC BK440 4, bC BK440 5, bC BK440 6, bC BK440 7, bC BK440 8, bC BK440 9, bC BK440 10, bC BK440 11⟩ (fun hHeld => ?_)
       clear hK K
       refine normA (N := some 108) ?_
       refine one_ (i := 34) (N := some 113) (tk 41 35) rfl rfl (one_of HT_.out (by kernel_rfl)) (by decide) (fun K hK => ?_)
       refine goesR Tryz.func35 #[.agg #[.bool a0_0, .int .u64 a0_1, .int .u64 a0_2, .int .i64 a0_3], .agg #[.bool a0_4, .int .u64 a0_5, .int .u64 a0_6, .int .i64 a0_7]] ?_
       with_reducible refine (ddiref03_Overlap.calls kj5 a0_0 a0_1 a0_2 a0_3 a0_4 a0_5 a0_6 a0_7 t466 _ A70.out).mono ?_
       rintro e w79 ⟨rfl, hb⟩
       refine ⟨_, rfl, ?_⟩
       replace BK440 := (pB BK440 hb)
       replace BK450 := (pB BK450 hb)
       replace BK456 := (pB BK456 hb)
       replace HB := (pS HB hb)
       (try clear hb)
       refine hK.out _ _ ⟨bC BK440 0, bC BK440 1, bC BK440 2, bC BK440 3, bC BK440 4, bC BK440 5, bC BK440 6, bC BK440 7, bC BK440 8, bC BK440 9, bC BK440 10, bC BK440 11⟩ (fun hHeld => ?_)
       clear hK K
       refine normA (N := some 113) ?_
       refine pureA (i := 35) (some 114) HT_ (tk 41 36) ?_
       refine pureA (i := 36) (some 115) HT_ (tk 41 37) ?_
       refine pureA (i := 37) (some 116) HT_ (tk 41 38) ?_
       refine one_ (i := 38) (N := some 117) (tk 41 39) rfl rfl (one_of HT_.out (by kernel_rfl)) (by decide) (fun K hK => ?_)
       refine goesR Tryz.func9 #[] ?_
       with_reducible refine (ddilaw03_awake.calls kj5  t467 _ ?side1 A72.out).mono ?_
       (case side1 => exact Laid.below HLD.out (pE HB))
       rintro e w80 ⟨rfl, hb⟩
       refine ⟨_, rfl, ?_⟩
       replace BK440 := (pB BK440 hb)
       replace BK450 := (pB BK450 hb)
       replace BK456 := (pB BK456 hb)
       replace HB := (pS HB hb)
       (try clear hb)
       refine hK.out _ _ ⟨bC BK440 0, bC BK440 1, bC BK440 2, bC BK440 3, bC BK440 4, bC BK440 5, bC BK440 6, bC BK440 7, bC BK440 8, bC BK440 9, bC BK440 10, bC BK440 11⟩ (fun hHeld => ?_)
       clear hK K
       refine normA (N := some 117) ?_
       refine pureA (i := 39) (some 118) HT_ (tk 41 40) ?_
       refine pureA (i := 40) (some 2) HT_ (tk 41 41) ?_
       refine done_ (done_of HT_.out (by kernel_rfl)) ?_
       try go_wp2
       go_ret
       exact pR (pE HB)
      ·
       rw [if_neg c71] at H
       have c71b0 : (t465 == t466) = false := by simpa using c71
       (try (have c71b1 : decide (t465 = t466) = false := by simpa using c71))
       (try (have c71b2 : (t465 == t466) = false := by simpa using c71))
       (try (have c71b3 : ¬ (t465 = t466) := by simpa using c71))
       clear c71
       exact absurd H (by simp)
     ·
      rw [if_neg c68] at H
      have c68b0 : (t463 == t464) = false := by simpa using c68
      (try (have c68b1 : decide (t463 = t464) = false := by simpa using c68))
      (try (have c68b2 : (t463 == t464) = false := by simpa using c68))
      (try (have c68b3 : ¬ (t463 = t464) := by simpa using c68))
      clear c68
      exact absurd H (by simp)
    ·
     rw [if_neg c65] at H
     have c65b0 : (t461 == t462) = false := by simpa using c65
     (try (have c65b1 : decide (t461 = t462) = false := by simpa using c65))
     (try (have c65b2 : (t461 == t462) = false := by simpa using c65))
     (try (have c65b3 : ¬ (t461 = t462) := by simpa using c65))
     clear c65
     exact absurd H (by simp)
end Go.Proofs.YteflcmmandlknaaGreatDoor.PA
