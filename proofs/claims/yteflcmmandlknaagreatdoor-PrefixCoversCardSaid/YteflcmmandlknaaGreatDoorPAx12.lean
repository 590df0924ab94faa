/- The Go functions in Lean, with the proofs that the code comes to these answers: printed by this session's program (wip/px) out of the seat's translation. Conditions: each theorem's own. -/
import Derived.Test.YteflcmmandlknaaGreatDoorPAx0
import Derived.Test.YteflcmmandlknaaGreatDoorPAx2
import Derived.Test.YteflcmmandlknaaGreatDoorPAx6
import Derived.Test.YteflcmmandlknaaGreatDoorPAx7
import Derived.Test.YteflcmmandlknaaGreatDoorPAx9
import Derived.Test.YteflcmmandlknaaGreatDoorPAx10
import Derived.Test.YteflcmmandlknaaGreatDoorPAx11
namespace Go.Proofs.YteflcmmandlknaaGreatDoor.PA
open Go.RowKit Go.Proofs.YteflcmmandlknaaGreatDoorW.PrintWords Go.Proofs.YteflcmmandlknaaGreatDoorW.PrintLast Go.Proofs.YteflcmmandlknaaGreatDoorW.PrintMore
attribute [local go_sem] max2_int min2_int max_two min_two max_three min_three max_four min_four   -- for this text's walks alone
attribute [local go_sem ↓] Ext.isSome_setCell
open Press
set_option linter.unusedVariables false
set_option linter.unusedSimpArgs false
attribute [local go_sem high] eqA26
/-! ### ddilaw03_awake: function 9 -/
def ddilaw03_awake.j0 : Nat → ByteArray → List (S26) → ByteArray → Int → Bool → Bool → Int → Int → Int → Bool → Int → Int → Int → Bool → Int → Int → Int → Option (Bool)
 | 0, _, _, _, _, _, _, _, _, _, _, _, _, _, _, _, _, _ => none
 | k + 1, x5, x10, x11, x13, x74, x310000, x310001, x310002, x310003, x336000, x336001, x336002, x336003, x337000, x337001, x337002, x337003 => if x74 = true then (none) else ((ddilaw03_four.f 167772160 8).bind fun bt352 => (if ((x310000 == bt352.1 && (x310001 == bt352.2.1 && (x310002 == bt352.2.2.1))) && (x310003 == bt352.2.2.2)) = true then (if x5.toList = ([49, 48, 46, 48, 46, 48, 46, 52, 47, 51, 48] : List UInt8) then ((ddilaw03_four.f 167772160 9).bind fun bt356 => (if ((x336000 == bt356.1 && (x336001 == bt356.2.1 && (x336002 == bt356.2.2.1))) && (x336003 == bt356.2.2.2)) = true then ((ddilaw03_four.f 176160768 9).bind fun bt360 => (if ((x337000 == bt360.1 && (x337001 == bt360.2.1 && (x337002 == bt360.2.2.1))) && (x337003 == bt360.2.2.2)) = true then (if 1 < (x10.length : Int) then ((ddilaw03_four.f 167772162 31).bind fun bt365 => (if ((((rd_T26 x10 1).f0.f0) == bt365.1 && (((rd_T26 x10 1).f0.f1) == bt365.2.1 && (((rd_T26 x10 1).f0.f2) == bt365.2.2.1))) && (((rd_T26 x10 1).f1) == bt365.2.2.2)) = true then (if x11.toList = ([50, 46, 49, 48, 46, 105, 110, 45, 97, 100, 100, 114, 46, 97, 114, 112, 97, 46] : List UInt8) then (some (x13 == 4)) else (none)) else (none))) else (none)) else (none))) else (none))) else (none)) else (none)))
def ddilaw03_awake.f (k : Nat)  : Option (Bool) := (prefix_Parse.f k (⟨#[49, 48, 46, 48, 46, 48, 46, 48, 47, 56]⟩ : ByteArray)).bind fun bt304 => ((prefix_Parse.f k (⟨#[49, 48, 46, 48, 46, 48, 46, 49, 47, 56]⟩ : ByteArray)).bind fun bt310 => ((ddilaw03_four.f 167772164 30).bind fun bt316 => ((prefix_Print.f k bt316.1 bt316.2.1 bt316.2.2.1 bt316.2.2.2).bind fun bt320 => ((ddilaw03_four.f 167772160 8).bind fun bt322 => ((prefix_Halves.f k bt322.1 bt322.2.1 bt322.2.2.1 bt322.2.2.2).bind fun bt326 => ((prefix_Cover.f k false 0 167772161 false 0 167772164).bind fun t337 => ((ddilaw03_four.f 167903232 16).bind fun bt340 => ((prefix_Zone.f k bt340.1 bt340.2.1 bt340.2.2.1 bt340.2.2.2).bind fun bt344 => ((ddilaw03_four.f 167772164 30).bind fun bt346 => ((prefix_Size.f bt346.1 bt346.2.1 bt346.2.2.1 bt346.2.2.2).bind fun bt350 => (if bt304.2.2.2.2 = 0 then (if bt310.2.2.2.2 = 3 then (if bt320.2 = 0 then (if bt326.2.2.2.2.2.2.2.2 = true then (if bt344.2 = true then (if bt350.2 = true then (ddilaw03_awake.j0 k bt320.1 t337 bt344.1 bt350.1 ((t337.length : Int) != 3) bt304.1 bt304.2.1 bt304.2.2.1 bt304.2.2.2.1 bt326.1 bt326.2.1 bt326.2.2.1 bt326.2.2.2.1 bt326.2.2.2.2.1 bt326.2.2.2.2.2.1 bt326.2.2.2.2.2.2.1 bt326.2.2.2.2.2.2.2.1) else (ddilaw03_awake.j0 k bt320.1 t337 bt344.1 bt350.1 true bt304.1 bt304.2.1 bt304.2.2.1 bt304.2.2.2.1 bt326.1 bt326.2.1 bt326.2.2.1 bt326.2.2.2.1 bt326.2.2.2.2.1 bt326.2.2.2.2.2.1 bt326.2.2.2.2.2.2.1 bt326.2.2.2.2.2.2.2.1)) else (ddilaw03_awake.j0 k bt320.1 t337 bt344.1 bt350.1 true bt304.1 bt304.2.1 bt304.2.2.1 bt304.2.2.2.1 bt326.1 bt326.2.1 bt326.2.2.1 bt326.2.2.2.1 bt326.2.2.2.2.1 bt326.2.2.2.2.2.1 bt326.2.2.2.2.2.2.1 bt326.2.2.2.2.2.2.2.1)) else (ddilaw03_awake.j0 k bt320.1 t337 bt344.1 bt350.1 true bt304.1 bt304.2.1 bt304.2.2.1 bt304.2.2.2.1 bt326.1 bt326.2.1 bt326.2.2.1 bt326.2.2.2.1 bt326.2.2.2.2.1 bt326.2.2.2.2.2.1 bt326.2.2.2.2.2.2.1 bt326.2.2.2.2.2.2.2.1)) else (ddilaw03_awake.j0 k bt320.1 t337 bt344.1 bt350.1 true bt304.1 bt304.2.1 bt304.2.2.1 bt304.2.2.2.1 bt326.1 bt326.2.1 bt326.2.2.1 bt326.2.2.2.1 bt326.2.2.2.2.1 bt326.2.2.2.2.2.1 bt326.2.2.2.2.2.2.1 bt326.2.2.2.2.2.2.2.1)) else (ddilaw03_awake.j0 k bt320.1 t337 bt344.1 bt350.1 true bt304.1 bt304.2.1 bt304.2.2.1 bt304.2.2.2.1 bt326.1 bt326.2.1 bt326.2.2.1 bt326.2.2.2.1 bt326.2.2.2.2.1 bt326.2.2.2.2.2.1 bt326.2.2.2.2.2.2.1 bt326.2.2.2.2.2.2.2.1)) else (ddilaw03_awake.j0 k bt320.1 t337 bt344.1 bt350.1 true bt304.1 bt304.2.1 bt304.2.2.1 bt304.2.2.2.1 bt326.1 bt326.2.1 bt326.2.2.1 bt326.2.2.2.1 bt326.2.2.2.2.1 bt326.2.2.2.2.2.1 bt326.2.2.2.2.2.2.1 bt326.2.2.2.2.2.2.2.1))))))))))))
theorem ddilaw03_awake.mono_l : ∀ k, (∀ y0 y1 y2 y3 y4 y5 y6 y7 y8 y9 y10 y11 y12 y13 y14 y15 y16, LeO (ddilaw03_awake.j0 k y0 y1 y2 y3 y4 y5 y6 y7 y8 y9 y10 y11 y12 y13 y14 y15 y16) (ddilaw03_awake.j0 (k + 1) y0 y1 y2 y3 y4 y5 y6 y7 y8 y9 y10 y11 y12 y13 y14 y15 y16))
 | 0 => fun _ _ _ _ _ _ _ _ _ _ _ _ _ _ _ _ _ r h => by simp [ddilaw03_awake.j0] at h
 | k + 1 => by
  have ih0 := ddilaw03_awake.mono_l k
  ·
   intro y0 y1 y2 y3 y4 y5 y6 y7 y8 y9 y10 y11 y12 y13 y14 y15 y16
   unfold ddilaw03_awake.j0
   repeat' with_reducible first | exact ih0 _ _ _ _ _ _ _ _ _ _ _ _ _ _ _ _ _ | exact prefix_Cover.mono _ _ _ _ _ _ _ | exact prefix_Halves.mono _ _ _ _ _ | exact prefix_Parse.mono _ _ | exact prefix_Print.mono _ _ _ _ _ | exact prefix_Zone.mono _ _ _ _ _ | exact LeO.refl _ | exact LeO.none _ | refine LeO.ite ?_ ?_ | refine LeO.bind ?_ (fun _ => ?_)
theorem ddilaw03_awake.mono : ∀ k, LeO (ddilaw03_awake.f k ) (ddilaw03_awake.f (k + 1) ) := by
 intro  k
 have ih0 := ddilaw03_awake.mono_l k
 unfold ddilaw03_awake.f
 repeat' with_reducible first | exact ih0 _ _ _ _ _ _ _ _ _ _ _ _ _ _ _ _ _ | exact prefix_Cover.mono _ _ _ _ _ _ _ | exact prefix_Halves.mono _ _ _ _ _ | exact prefix_Parse.mono _ _ | exact prefix_Print.mono _ _ _ _ _ | exact prefix_Zone.mono _ _ _ _ _ | exact LeO.refl _ | exact LeO.none _ | refine LeO.ite ?_ ?_ | refine LeO.bind ?_ (fun _ => ?_)
def ddilaw03_awake.T10 : Bool × List (List Nat × List Nat) := (true, [([], []), ([], []), ([0, 1], [0, 1]), ([2, 1], [2]), ([3], [3]), ([4, 3], [3, 4]), ([3, 5], [3, 5]), ([6, 3], [6]), ([7], [7]), ([7, 7], [7]), ([8, 9, 7], [7, 8, 9]), ([7, 10], [7, 10]), ([11, 9], [11]), ([12], [12]), ([12, 12], [12]), ([13, 14, 12], [12, 13, 14]), ([12, 15], [12, 15]), ([16, 14], [16]), ([17], [17]), ([18, 17], [17, 18]), ([19, 17], [17, 19]), ([17, 17], [17]), ([20, 21, 17], [17, 20, 21]), ([17, 22], [17, 22]), ([23, 21], [23]), ([24], [24]), ([25, 24], [24, 25]), ([24, 26], [24, 26]), ([27, 24], [27]), ([28], [28]), ([29, 28], [28, 29]), ([28, 30], [28, 30]), ([31, 28, 0, 1, 2, 3, 4, 5, 6, 7, 8, 9, 10, 11, 12, 13, 14, 15, 16, 17, 18, 19, 20, 21, 22, 23, 24, 25, 26, 27, 28, 29, 30, 31], [31])])
def ddilaw03_awake.B10 : List Nat := [0, 0, 3, 7, 15, 31, 63, 127, 255, 255, 1023, 2047, 4095, 8191, 8191, 32767, 65535, 131071, 262143, 524287, 1048575, 262143, 4194303, 8388607, 16777215, 33554431, 67108863, 134217727, 268435455, 536870911, 1073741823, 2147483647, 4294967295]
theorem ddilaw03_awake.tab10 : rtab .any (opsOf Tryz.f9 10) = ddilaw03_awake.T10 := by kernel_rfl
theorem ddilaw03_awake.bits10 : waitsOk ddilaw03_awake.T10.2 ddilaw03_awake.B10 = true := by kernel_rfl
set_option maxHeartbeats 40000000 in
set_option maxRecDepth 100000 in
theorem ddilaw03_awake.calls (k : Nat)  (r : Bool) (w : World) (hLD : Laid w) (h : ddilaw03_awake.f k  = some r) :
 Calls Tryz.prog 9 #[] w fun e w' => e = .returned (.bool r) ∧ Below w.heap.size w w' := by
 have hbl36 : ∀ (x1_ : Bool) (x2_ : Int) (x3_ : Int) (x4_ : Bool) (x5_ : Int) (x6_ : Int), Tryz.prog.built 33 [(0, (.agg #[(.bool x1_), (.int .u64 x2_), (.int .u64 x3_)])), (1, (.agg #[(.bool x4_), (.int .u64 x5_), (.int .u64 x6_)]))] = some #[(.bool x1_), (.int .u64 x2_), (.int .u64 x3_), (.bool x4_), (.int .u64 x5_), (.int .u64 x6_)] := by intros; kernel_rfl
 have hu26 := Tryz.underlying26
 have hu24 := Tryz.underlying24
 have hu33 := Tryz.underlying33
 have HLD := Aside0.mk hLD
 clear hLD
 have HB := Aside0.mk (Below.refl w.heap.size w)
 have H : ((prefix_Parse.f k (⟨#[49, 48, 46, 48, 46, 48, 46, 48, 47, 56]⟩ : ByteArray)).bind fun bt304 => ((prefix_Parse.f k (⟨#[49, 48, 46, 48, 46, 48, 46, 49, 47, 56]⟩ : ByteArray)).bind fun bt310 => ((ddilaw03_four.f 167772164 30).bind fun bt316 => ((prefix_Print.f k bt316.1 bt316.2.1 bt316.2.2.1 bt316.2.2.2).bind fun bt320 => ((ddilaw03_four.f 167772160 8).bind fun bt322 => ((prefix_Halves.f k bt322.1 bt322.2.1 bt322.2.2.1 bt322.2.2.2).bind fun bt326 => ((prefix_Cover.f k false 0 167772161 false 0 167772164).bind fun t337 => ((ddilaw03_four.f 167903232 16).bind fun bt340 => ((prefix_Zone.f k bt340.1 bt340.2.1 bt340.2.2.1 bt340.2.2.2).bind fun bt344 => ((ddilaw03_four.f 167772164 30).bind fun bt346 => ((prefix_Size.f bt346.1 bt346.2.1 bt346.2.2.1 bt346.2.2.2).bind fun bt350 => (if bt304.2.2.2.2 = 0 then (if bt310.2.2.2.2 = 3 then (if bt320.2 = 0 then (if bt326.2.2.2.2.2.2.2.2 = true then (if bt344.2 = true then (if bt350.2 = true then (ddilaw03_awake.j0 k bt320.1 t337 bt344.1 bt350.1 ((t337.length : Int) != 3) bt304.1 bt304.2.1 bt304.2.2.1 bt304.2.2.2.1 bt326.1 bt326.2.1 bt326.2.2.1 bt326.2.2.2.1 bt326.2.2.2.2.1 bt326.2.2.2.2.2.1 bt326.2.2.2.2.2.2.1 bt326.2.2.2.2.2.2.2.1) else (ddilaw03_awake.j0 k bt320.1 t337 bt344.1 bt350.1 true bt304.1 bt304.2.1 bt304.2.2.1 bt304.2.2.2.1 bt326.1 bt326.2.1 bt326.2.2.1 bt326.2.2.2.1 bt326.2.2.2.2.1 bt326.2.2.2.2.2.1 bt326.2.2.2.2.2.2.1 bt326.2.2.2.2.2.2.2.1)) else (ddilaw03_awake.j0 k bt320.1 t337 bt344.1 bt350.1 true bt304.1 bt304.2.1 bt304.2.2.1 bt304.2.2.2.1 bt326.1 bt326.2.1 bt326.2.2.1 bt326.2.2.2.1 bt326.2.2.2.2.1 bt326.2.2.2.2.2.1 bt326.2.2.2.2.2.2.1 bt326.2.2.2.2.2.2.2.1)) else (ddilaw03_awake.j0 k bt320.1 t337 bt344.1 bt350.1 true bt304.1 bt304.2.1 bt304.2.2.1 bt304.2.2.2.1 bt326.1 bt326.2.1 bt326.2.2.1 bt326.2.2.2.1 bt326.2.2.2.2.1 bt326.2.2.2.2.2.1 bt326.2.2.2.2.2.2.1 bt326.2.2.2.2.2.2.2.1)) else (ddilaw03_awake.j0 k bt320.1 t337 bt344.1 bt350.1 true bt304.1 bt304.2.1 bt304.2.2.1 bt304.2.2.2.1 bt326.1 bt326.2.1 bt326.2.2.1 bt326.2.2.2.1 bt326.2.2.2.2.1 bt326.2.2.2.2.2.1 bt326.2.2.2.2.2.2.1 bt326.2.2.2.2.2.2.2.1)) else (ddilaw03_awake.j0 k bt320.1 t337 bt344.1 bt350.1 true bt304.1 bt304.2.1 bt304.2.2.1 bt304.2.2.2.1 bt326.1 bt326.2.1 bt326.2.2.1 bt326.2.2.2.1 bt326.2.2.2.2.1 bt326.2.2.2.2.2.1 bt326.2.2.2.2.2.2.1 bt326.2.2.2.2.2.2.2.1)) else (ddilaw03_awake.j0 k bt320.1 t337 bt344.1 bt350.1 true bt304.1 bt304.2.1 bt304.2.2.1 bt304.2.2.2.1 bt326.1 bt326.2.1 bt326.2.2.1 bt326.2.2.2.1 bt326.2.2.2.2.1 bt326.2.2.2.2.2.1 bt326.2.2.2.2.2.2.1 bt326.2.2.2.2.2.2.2.1))))))))))))) = some r := h
 clear h
 replace H := Option.bind_eq_some_iff.mp H
 obtain ⟨⟨t304, t305, t306, t307, t308⟩, A10, H⟩ := H
 replace H : ((prefix_Parse.f k (⟨#[49, 48, 46, 48, 46, 48, 46, 49, 47, 56]⟩ : ByteArray)).bind fun bt310 => ((ddilaw03_four.f 167772164 30).bind fun bt316 => ((prefix_Print.f k bt316.1 bt316.2.1 bt316.2.2.1 bt316.2.2.2).bind fun bt320 => ((ddilaw03_four.f 167772160 8).bind fun bt322 => ((prefix_Halves.f k bt322.1 bt322.2.1 bt322.2.2.1 bt322.2.2.2).bind fun bt326 => ((prefix_Cover.f k false 0 167772161 false 0 167772164).bind fun t337 => ((ddilaw03_four.f 167903232 16).bind fun bt340 => ((prefix_Zone.f k bt340.1 bt340.2.1 bt340.2.2.1 bt340.2.2.2).bind fun bt344 => ((ddilaw03_four.f 167772164 30).bind fun bt346 => ((prefix_Size.f bt346.1 bt346.2.1 bt346.2.2.1 bt346.2.2.2).bind fun bt350 => (if t308 = 0 then (if bt310.2.2.2.2 = 3 then (if bt320.2 = 0 then (if bt326.2.2.2.2.2.2.2.2 = true then (if bt344.2 = true then (if bt350.2 = true then (ddilaw03_awake.j0 k bt320.1 t337 bt344.1 bt350.1 ((t337.length : Int) != 3) t304 t305 t306 t307 bt326.1 bt326.2.1 bt326.2.2.1 bt326.2.2.2.1 bt326.2.2.2.2.1 bt326.2.2.2.2.2.1 bt326.2.2.2.2.2.2.1 bt326.2.2.2.2.2.2.2.1) else (ddilaw03_awake.j0 k bt320.1 t337 bt344.1 bt350.1 true t304 t305 t306 t307 bt326.1 bt326.2.1 bt326.2.2.1 bt326.2.2.2.1 bt326.2.2.2.2.1 bt326.2.2.2.2.2.1 bt326.2.2.2.2.2.2.1 bt326.2.2.2.2.2.2.2.1)) else (ddilaw03_awake.j0 k bt320.1 t337 bt344.1 bt350.1 true t304 t305 t306 t307 bt326.1 bt326.2.1 bt326.2.2.1 bt326.2.2.2.1 bt326.2.2.2.2.1 bt326.2.2.2.2.2.1 bt326.2.2.2.2.2.2.1 bt326.2.2.2.2.2.2.2.1)) else (ddilaw03_awake.j0 k bt320.1 t337 bt344.1 bt350.1 true t304 t305 t306 t307 bt326.1 bt326.2.1 bt326.2.2.1 bt326.2.2.2.1 bt326.2.2.2.2.1 bt326.2.2.2.2.2.1 bt326.2.2.2.2.2.2.1 bt326.2.2.2.2.2.2.2.1)) else (ddilaw03_awake.j0 k bt320.1 t337 bt344.1 bt350.1 true t304 t305 t306 t307 bt326.1 bt326.2.1 bt326.2.2.1 bt326.2.2.2.1 bt326.2.2.2.2.1 bt326.2.2.2.2.2.1 bt326.2.2.2.2.2.2.1 bt326.2.2.2.2.2.2.2.1)) else (ddilaw03_awake.j0 k bt320.1 t337 bt344.1 bt350.1 true t304 t305 t306 t307 bt326.1 bt326.2.1 bt326.2.2.1 bt326.2.2.2.1 bt326.2.2.2.2.1 bt326.2.2.2.2.2.1 bt326.2.2.2.2.2.2.1 bt326.2.2.2.2.2.2.2.1)) else (ddilaw03_awake.j0 k bt320.1 t337 bt344.1 bt350.1 true t304 t305 t306 t307 bt326.1 bt326.2.1 bt326.2.2.1 bt326.2.2.2.1 bt326.2.2.2.2.1 bt326.2.2.2.2.2.1 bt326.2.2.2.2.2.2.1 bt326.2.2.2.2.2.2.2.1)))))))))))) = some r := H
 have A1 := Aside0.mk A10
 clear A10
 replace H := Option.bind_eq_some_iff.mp H
 obtain ⟨⟨t310, t311, t312, t313, t314⟩, A20, H⟩ := H
 replace H : ((ddilaw03_four.f 167772164 30).bind fun bt316 => ((prefix_Print.f k bt316.1 bt316.2.1 bt316.2.2.1 bt316.2.2.2).bind fun bt320 => ((ddilaw03_four.f 167772160 8).bind fun bt322 => ((prefix_Halves.f k bt322.1 bt322.2.1 bt322.2.2.1 bt322.2.2.2).bind fun bt326 => ((prefix_Cover.f k false 0 167772161 false 0 167772164).bind fun t337 => ((ddilaw03_four.f 167903232 16).bind fun bt340 => ((prefix_Zone.f k bt340.1 bt340.2.1 bt340.2.2.1 bt340.2.2.2).bind fun bt344 => ((ddilaw03_four.f 167772164 30).bind fun bt346 => ((prefix_Size.f bt346.1 bt346.2.1 bt346.2.2.1 bt346.2.2.2).bind fun bt350 => (if t308 = 0 then (if t314 = 3 then (if bt320.2 = 0 then (if bt326.2.2.2.2.2.2.2.2 = true then (if bt344.2 = true then (if bt350.2 = true then (ddilaw03_awake.j0 k bt320.1 t337 bt344.1 bt350.1 ((t337.length : Int) != 3) t304 t305 t306 t307 bt326.1 bt326.2.1 bt326.2.2.1 bt326.2.2.2.1 bt326.2.2.2.2.1 bt326.2.2.2.2.2.1 bt326.2.2.2.2.2.2.1 bt326.2.2.2.2.2.2.2.1) else (ddilaw03_awake.j0 k bt320.1 t337 bt344.1 bt350.1 true t304 t305 t306 t307 bt326.1 bt326.2.1 bt326.2.2.1 bt326.2.2.2.1 bt326.2.2.2.2.1 bt326.2.2.2.2.2.1 bt326.2.2.2.2.2.2.1 bt326.2.2.2.2.2.2.2.1)) else (ddilaw03_awake.j0 k bt320.1 t337 bt344.1 bt350.1 true t304 t305 t306 t307 bt326.1 bt326.2.1 bt326.2.2.1 bt326.2.2.2.1 bt326.2.2.2.2.1 bt326.2.2.2.2.2.1 bt326.2.2.2.2.2.2.1 bt326.2.2.2.2.2.2.2.1)) else (ddilaw03_awake.j0 k bt320.1 t337 bt344.1 bt350.1 true t304 t305 t306 t307 bt326.1 bt326.2.1 bt326.2.2.1 bt326.2.2.2.1 bt326.2.2.2.2.1 bt326.2.2.2.2.2.1 bt326.2.2.2.2.2.2.1 bt326.2.2.2.2.2.2.2.1)) else (ddilaw03_awake.j0 k bt320.1 t337 bt344.1 bt350.1 true t304 t305 t306 t307 bt326.1 bt326.2.1 bt326.2.2.1 bt326.2.2.2.1 bt326.2.2.2.2.1 bt326.2.2.2.2.2.1 bt326.2.2.2.2.2.2.1 bt326.2.2.2.2.2.2.2.1)) else (ddilaw03_awake.j0 k bt320.1 t337 bt344.1 bt350.1 true t304 t305 t306 t307 bt326.1 bt326.2.1 bt326.2.2.1 bt326.2.2.2.1 bt326.2.2.2.2.1 bt326.2.2.2.2.2.1 bt326.2.2.2.2.2.2.1 bt326.2.2.2.2.2.2.2.1)) else (ddilaw03_awake.j0 k bt320.1 t337 bt344.1 bt350.1 true t304 t305 t306 t307 bt326.1 bt326.2.1 bt326.2.2.1 bt326.2.2.2.1 bt326.2.2.2.2.1 bt326.2.2.2.2.2.1 bt326.2.2.2.2.2.2.1 bt326.2.2.2.2.2.2.2.1))))))))))) = some r := H
 have A2 := Aside0.mk A20
 clear A20
 replace H := Option.bind_eq_some_iff.mp H
 obtain ⟨⟨t316, t317, t318, t319⟩, A30, H⟩ := H
 replace H : ((prefix_Print.f k t316 t317 t318 t319).bind fun bt320 => ((ddilaw03_four.f 167772160 8).bind fun bt322 => ((prefix_Halves.f k bt322.1 bt322.2.1 bt322.2.2.1 bt322.2.2.2).bind fun bt326 => ((prefix_Cover.f k false 0 167772161 false 0 167772164).bind fun t337 => ((ddilaw03_four.f 167903232 16).bind fun bt340 => ((prefix_Zone.f k bt340.1 bt340.2.1 bt340.2.2.1 bt340.2.2.2).bind fun bt344 => ((ddilaw03_four.f 167772164 30).bind fun bt346 => ((prefix_Size.f bt346.1 bt346.2.1 bt346.2.2.1 bt346.2.2.2).bind fun bt350 => (if t308 = 0 then (if t314 = 3 then (if bt320.2 = 0 then (if bt326.2.2.2.2.2.2.2.2 = true then (if bt344.2 = true then (if bt350.2 = true then (ddilaw03_awake.j0 k bt320.1 t337 bt344.1 bt350.1 ((t337.length : Int) != 3) t304 t305 t306 t307 bt326.1 bt326.2.1 bt326.2.2.1 bt326.2.2.2.1 bt326.2.2.2.2.1 bt326.2.2.2.2.2.1 bt326.2.2.2.2.2.2.1 bt326.2.2.2.2.2.2.2.1) else (ddilaw03_awake.j0 k bt320.1 t337 bt344.1 bt350.1 true t304 t305 t306 t307 bt326.1 bt326.2.1 bt326.2.2.1 bt326.2.2.2.1 bt326.2.2.2.2.1 bt326.2.2.2.2.2.1 bt326.2.2.2.2.2.2.1 bt326.2.2.2.2.2.2.2.1)) else (ddilaw03_awake.j0 k bt320.1 t337 bt344.1 bt350.1 true t304 t305 t306 t307 bt326.1 bt326.2.1 bt326.2.2.1 bt326.2.2.2.1 bt326.2.2.2.2.1 bt326.2.2.2.2.2.1 bt326.2.2.2.2.2.2.1 bt326.2.2.2.2.2.2.2.1)) else (ddilaw03_awake.j0 k bt320.1 t337 bt344.1 bt350.1 true t304 t305 t306 t307 bt326.1 bt326.2.1 bt326.2.2.1 bt326.2.2.2.1 bt326.2.2.2.2.1 bt326.2.2.2.2.2.1 bt326.2.2.2.2.2.2.1 bt326.2.2.2.2.2.2.2.1)) else (ddilaw03_awake.j0 k bt320.1 t337 bt344.1 bt350.1 true t304 t305 t306 t307 bt326.1 bt326.2.1 bt326.2.2.1 bt326.2.2.2.1 bt326.2.2.2.2.1 bt326.2.2.2.2.2.1 bt326.2.2.2.2.2.2.1 bt326.2.2.2.2.2.2.2.1)) else (ddilaw03_awake.j0 k bt320.1 t337 bt344.1 bt350.1 true t304 t305 t306 t307 bt326.1 bt326.2.1 bt326.2.2.1 bt326.2.2.2.1 bt326.2.2.2.2.1 bt326.2.2.2.2.2.1 bt326.2.2.2.2.2.2.1 bt326.2.2.2.2.2.2.2.1)) else (ddilaw03_awake.j0 k bt320.1 t337 bt344.1 bt350.1 true t304 t305 t306 t307 bt326.1 bt326.2.1 bt326.2.2.1 bt326.2.2.2.1 bt326.2.2.2.2.1 bt326.2.2.2.2.2.1 bt326.2.2.2.2.2.2.1 bt326.2.2.2.2.2.2.2.1)))))))))) = some r := H
 have A3 := Aside0.mk A30
 clear A30
 replace H := Option.bind_eq_some_iff.mp H
 obtain ⟨⟨t320, t321⟩, A40, H⟩ := H
 replace H : ((ddilaw03_four.f 167772160 8).bind fun bt322 => ((prefix_Halves.f k bt322.1 bt322.2.1 bt322.2.2.1 bt322.2.2.2).bind fun bt326 => ((prefix_Cover.f k false 0 167772161 false 0 167772164).bind fun t337 => ((ddilaw03_four.f 167903232 16).bind fun bt340 => ((prefix_Zone.f k bt340.1 bt340.2.1 bt340.2.2.1 bt340.2.2.2).bind fun bt344 => ((ddilaw03_four.f 167772164 30).bind fun bt346 => ((prefix_Size.f bt346.1 bt346.2.1 bt346.2.2.1 bt346.2.2.2).bind fun bt350 => (if t308 = 0 then (if t314 = 3 then (if t321 = 0 then (if bt326.2.2.2.2.2.2.2.2 = true then (if bt344.2 = true then (if bt350.2 = true then (ddilaw03_awake.j0 k t320 t337 bt344.1 bt350.1 ((t337.length : Int) != 3) t304 t305 t306 t307 bt326.1 bt326.2.1 bt326.2.2.1 bt326.2.2.2.1 bt326.2.2.2.2.1 bt326.2.2.2.2.2.1 bt326.2.2.2.2.2.2.1 bt326.2.2.2.2.2.2.2.1) else (ddilaw03_awake.j0 k t320 t337 bt344.1 bt350.1 true t304 t305 t306 t307 bt326.1 bt326.2.1 bt326.2.2.1 bt326.2.2.2.1 bt326.2.2.2.2.1 bt326.2.2.2.2.2.1 bt326.2.2.2.2.2.2.1 bt326.2.2.2.2.2.2.2.1)) else (ddilaw03_awake.j0 k t320 t337 bt344.1 bt350.1 true t304 t305 t306 t307 bt326.1 bt326.2.1 bt326.2.2.1 bt326.2.2.2.1 bt326.2.2.2.2.1 bt326.2.2.2.2.2.1 bt326.2.2.2.2.2.2.1 bt326.2.2.2.2.2.2.2.1)) else (ddilaw03_awake.j0 k t320 t337 bt344.1 bt350.1 true t304 t305 t306 t307 bt326.1 bt326.2.1 bt326.2.2.1 bt326.2.2.2.1 bt326.2.2.2.2.1 bt326.2.2.2.2.2.1 bt326.2.2.2.2.2.2.1 bt326.2.2.2.2.2.2.2.1)) else (ddilaw03_awake.j0 k t320 t337 bt344.1 bt350.1 true t304 t305 t306 t307 bt326.1 bt326.2.1 bt326.2.2.1 bt326.2.2.2.1 bt326.2.2.2.2.1 bt326.2.2.2.2.2.1 bt326.2.2.2.2.2.2.1 bt326.2.2.2.2.2.2.2.1)) else (ddilaw03_awake.j0 k t320 t337 bt344.1 bt350.1 true t304 t305 t306 t307 bt326.1 bt326.2.1 bt326.2.2.1 bt326.2.2.2.1 bt326.2.2.2.2.1 bt326.2.2.2.2.2.1 bt326.2.2.2.2.2.2.1 bt326.2.2.2.2.2.2.2.1)) else (ddilaw03_awake.j0 k t320 t337 bt344.1 bt350.1 true t304 t305 t306 t307 bt326.1 bt326.2.1 bt326.2.2.1 bt326.2.2.2.1 bt326.2.2.2.2.1 bt326.2.2.2.2.2.1 bt326.2.2.2.2.2.2.1 bt326.2.2.2.2.2.2.2.1))))))))) = some r := H
 have A4 := Aside0.mk A40
 clear A40
 replace H := Option.bind_eq_some_iff.mp H
 obtain ⟨⟨t322, t323, t324, t325⟩, A50, H⟩ := H
 replace H : ((prefix_Halves.f k t322 t323 t324 t325).bind fun bt326 => ((prefix_Cover.f k false 0 167772161 false 0 167772164).bind fun t337 => ((ddilaw03_four.f 167903232 16).bind fun bt340 => ((prefix_Zone.f k bt340.1 bt340.2.1 bt340.2.2.1 bt340.2.2.2).bind fun bt344 => ((ddilaw03_four.f 167772164 30).bind fun bt346 => ((prefix_Size.f bt346.1 bt346.2.1 bt346.2.2.1 bt346.2.2.2).bind fun bt350 => (if t308 = 0 then (if t314 = 3 then (if t321 = 0 then (if bt326.2.2.2.2.2.2.2.2 = true then (if bt344.2 = true then (if bt350.2 = true then (ddilaw03_awake.j0 k t320 t337 bt344.1 bt350.1 ((t337.length : Int) != 3) t304 t305 t306 t307 bt326.1 bt326.2.1 bt326.2.2.1 bt326.2.2.2.1 bt326.2.2.2.2.1 bt326.2.2.2.2.2.1 bt326.2.2.2.2.2.2.1 bt326.2.2.2.2.2.2.2.1) else (ddilaw03_awake.j0 k t320 t337 bt344.1 bt350.1 true t304 t305 t306 t307 bt326.1 bt326.2.1 bt326.2.2.1 bt326.2.2.2.1 bt326.2.2.2.2.1 bt326.2.2.2.2.2.1 bt326.2.2.2.2.2.2.1 bt326.2.2.2.2.2.2.2.1)) else (ddilaw03_awake.j0 k t320 t337 bt344.1 bt350.1 true t304 t305 t306 t307 bt326.1 bt326.2.1 bt326.2.2.1 bt326.2.2.2.1 bt326.2.2.2.2.1 bt326.2.2.2.2.2.1 bt326.2.2.2.2.2.2.1 bt326.2.2.2.2.2.2.2.1)) else (ddilaw03_awake.j0 k t320 t337 bt344.1 bt350.1 true t304 t305 t306 t307 bt326.1 bt326.2.1 bt326.2.2.1 bt326.2.2.2.1 bt326.2.2.2.2.1 bt326.2.2.2.2.2.1 bt326.2.2.2.2.2.2.1 bt326.2.2.2.2.2.2.2.1)) else (ddilaw03_awake.j0 k t320 t337 bt344.1 bt350.1 true t304 t305 t306 t307 bt326.1 bt326.2.1 bt326.2.2.1 bt326.2.2.2.1 bt326.2.2.2.2.1 bt326.2.2.2.2.2.1 bt326.2.2.2.2.2.2.1 bt326.2.2.2.2.2.2.2.1)) else (ddilaw03_awake.j0 k t320 t337 bt344.1 bt350.1 true t304 t305 t306 t307 bt326.1 bt326.2.1 bt326.2.2.1 bt326.2.2.2.1 bt326.2.2.2.2.1 bt326.2.2.2.2.2.1 bt326.2.2.2.2.2.2.1 bt326.2.2.2.2.2.2.2.1)) else (ddilaw03_awake.j0 k t320 t337 bt344.1 bt350.1 true t304 t305 t306 t307 bt326.1 bt326.2.1 bt326.2.2.1 bt326.2.2.2.1 bt326.2.2.2.2.1 bt326.2.2.2.2.2.1 bt326.2.2.2.2.2.2.1 bt326.2.2.2.2.2.2.2.1)))))))) = some r := H
 have A5 := Aside0.mk A50
 clear A50
 replace H := Option.bind_eq_some_iff.mp H
 obtain ⟨⟨t326, t327, t328, t329, t330, t331, t332, t333, t334⟩, A60, H⟩ := H
 replace H : ((prefix_Cover.f k false 0 167772161 false 0 167772164).bind fun t337 => ((ddilaw03_four.f 167903232 16).bind fun bt340 => ((prefix_Zone.f k bt340.1 bt340.2.1 bt340.2.2.1 bt340.2.2.2).bind fun bt344 => ((ddilaw03_four.f 167772164 30).bind fun bt346 => ((prefix_Size.f bt346.1 bt346.2.1 bt346.2.2.1 bt346.2.2.2).bind fun bt350 => (if t308 = 0 then (if t314 = 3 then (if t321 = 0 then (if t334 = true then (if bt344.2 = true then (if bt350.2 = true then (ddilaw03_awake.j0 k t320 t337 bt344.1 bt350.1 ((t337.length : Int) != 3) t304 t305 t306 t307 t326 t327 t328 t329 t330 t331 t332 t333) else (ddilaw03_awake.j0 k t320 t337 bt344.1 bt350.1 true t304 t305 t306 t307 t326 t327 t328 t329 t330 t331 t332 t333)) else (ddilaw03_awake.j0 k t320 t337 bt344.1 bt350.1 true t304 t305 t306 t307 t326 t327 t328 t329 t330 t331 t332 t333)) else (ddilaw03_awake.j0 k t320 t337 bt344.1 bt350.1 true t304 t305 t306 t307 t326 t327 t328 t329 t330 t331 t332 t333)) else (ddilaw03_awake.j0 k t320 t337 bt344.1 bt350.1 true t304 t305 t306 t307 t326 t327 t328 t329 t330 t331 t332 t333)) else (ddilaw03_awake.j0 k t320 t337 bt344.1 bt350.1 true t304 t305 t306 t307 t326 t327 t328 t329 t330 t331 t332 t333)) else (ddilaw03_awake.j0 k t320 t337 bt344.1 bt350.1 true t304 t305 t306 t307 t326 t327 t328 t329 t330 t331 t332 t333))))))) = some r := H
 have A6 := Aside0.mk A60
 clear A60
 replace H := Option.bind_eq_some_iff.mp H
 obtain ⟨t337, A70, H⟩ := H
 have A7 := Aside0.mk A70
 clear A70
 replace H := Option.bind_eq_some_iff.mp H
 obtain ⟨⟨t340, t341, t342, t343⟩, A80, H⟩ := H
 replace H : ((prefix_Zone.f k t340 t341 t342 t343).bind fun bt344 => ((ddilaw03_four.f 167772164 30).bind fun bt346 => ((prefix_Size.f bt346.1 bt346.2.1 bt346.2.2.1 bt346.2.2.2).bind fun bt350 => (if t308 = 0 then (if t314 = 3 then (if t321 = 0 then (if t334 = true then (if bt344.2 = true then (if bt350.2 = true then (ddilaw03_awake.j0 k t320 t337 bt344.1 bt350.1 ((t337.length : Int) != 3) t304 t305 t306 t307 t326 t327 t328 t329 t330 t331 t332 t333) else (ddilaw03_awake.j0 k t320 t337 bt344.1 bt350.1 true t304 t305 t306 t307 t326 t327 t328 t329 t330 t331 t332 t333)) else (ddilaw03_awake.j0 k t320 t337 bt344.1 bt350.1 true t304 t305 t306 t307 t326 t327 t328 t329 t330 t331 t332 t333)) else (ddilaw03_awake.j0 k t320 t337 bt344.1 bt350.1 true t304 t305 t306 t307 t326 t327 t328 t329 t330 t331 t332 t333)) else (ddilaw03_awake.j0 k t320 t337 bt344.1 bt350.1 true t304 t305 t306 t307 t326 t327 t328 t329 t330 t331 t332 t333)) else (ddilaw03_awake.j0 k t320 t337 bt344.1 bt350.1 true t304 t305 t306 t307 t326 t327 t328 t329 t330 t331 t332 t333)) else (ddilaw03_awake.j0 k t320 t337 bt344.1 bt350.1 true t304 t305 t306 t307 t326 t327 t328 t329 t330 t331 t332 t333))))) = some r := H
 have A8 := Aside0.mk A80
 clear A80
 replace H := Option.bind_eq_some_iff.mp H
 obtain ⟨⟨t344, t345⟩, A90, H⟩ := H
 replace H : ((ddilaw03_four.f 167772164 30).bind fun bt346 => ((prefix_Size.f bt346.1 bt346.2.1 bt346.2.2.1 bt346.2.2.2).bind fun bt350 => (if t308 = 0 then (if t314 = 3 then (if t321 = 0 then (if t334 = true then (if t345 = true then (if bt350.2 = true then (ddilaw03_awake.j0 k t320 t337 t344 bt350.1 ((t337.length : Int) != 3) t304 t305 t306 t307 t326 t327 t328 t329 t330 t331 t332 t333) else (ddilaw03_awake.j0 k t320 t337 t344 bt350.1 true t304 t305 t306 t307 t326 t327 t328 t329 t330 t331 t332 t333)) else (ddilaw03_awake.j0 k t320 t337 t344 bt350.1 true t304 t305 t306 t307 t326 t327 t328 t329 t330 t331 t332 t333)) else (ddilaw03_awake.j0 k t320 t337 t344 bt350.1 true t304 t305 t306 t307 t326 t327 t328 t329 t330 t331 t332 t333)) else (ddilaw03_awake.j0 k t320 t337 t344 bt350.1 true t304 t305 t306 t307 t326 t327 t328 t329 t330 t331 t332 t333)) else (ddilaw03_awake.j0 k t320 t337 t344 bt350.1 true t304 t305 t306 t307 t326 t327 t328 t329 t330 t331 t332 t333)) else (ddilaw03_awake.j0 k t320 t337 t344 bt350.1 true t304 t305 t306 t307 t326 t327 t328 t329 t330 t331 t332 t333)))) = some r := H
 have A9 := Aside0.mk A90
 clear A90
 replace H := Option.bind_eq_some_iff.mp H
 obtain ⟨⟨t346, t347, t348, t349⟩, A100, H⟩ := H
 replace H : ((prefix_Size.f t346 t347 t348 t349).bind fun bt350 => (if t308 = 0 then (if t314 = 3 then (if t321 = 0 then (if t334 = true then (if t345 = true then (if bt350.2 = true then (ddilaw03_awake.j0 k t320 t337 t344 bt350.1 ((t337.length : Int) != 3) t304 t305 t306 t307 t326 t327 t328 t329 t330 t331 t332 t333) else (ddilaw03_awake.j0 k t320 t337 t344 bt350.1 true t304 t305 t306 t307 t326 t327 t328 t329 t330 t331 t332 t333)) else (ddilaw03_awake.j0 k t320 t337 t344 bt350.1 true t304 t305 t306 t307 t326 t327 t328 t329 t330 t331 t332 t333)) else (ddilaw03_awake.j0 k t320 t337 t344 bt350.1 true t304 t305 t306 t307 t326 t327 t328 t329 t330 t331 t332 t333)) else (ddilaw03_awake.j0 k t320 t337 t344 bt350.1 true t304 t305 t306 t307 t326 t327 t328 t329 t330 t331 t332 t333)) else (ddilaw03_awake.j0 k t320 t337 t344 bt350.1 true t304 t305 t306 t307 t326 t327 t328 t329 t330 t331 t332 t333)) else (ddilaw03_awake.j0 k t320 t337 t344 bt350.1 true t304 t305 t306 t307 t326 t327 t328 t329 t330 t331 t332 t333))) = some r := H
 have A10 := Aside0.mk A100
 clear A100
 replace H := Option.bind_eq_some_iff.mp H
 obtain ⟨⟨t350, t351⟩, A110, H⟩ := H
 replace H : (if t308 = 0 then (if t314 = 3 then (if t321 = 0 then (if t334 = true then (if t345 = true then (if t351 = true then (ddilaw03_awake.j0 k t320 t337 t344 t350 ((t337.length : Int) != 3) t304 t305 t306 t307 t326 t327 t328 t329 t330 t331 t332 t333) else (ddilaw03_awake.j0 k t320 t337 t344 t350 true t304 t305 t306 t307 t326 t327 t328 t329 t330 t331 t332 t333)) else (ddilaw03_awake.j0 k t320 t337 t344 t350 true t304 t305 t306 t307 t326 t327 t328 t329 t330 t331 t332 t333)) else (ddilaw03_awake.j0 k t320 t337 t344 t350 true t304 t305 t306 t307 t326 t327 t328 t329 t330 t331 t332 t333)) else (ddilaw03_awake.j0 k t320 t337 t344 t350 true t304 t305 t306 t307 t326 t327 t328 t329 t330 t331 t332 t333)) else (ddilaw03_awake.j0 k t320 t337 t344 t350 true t304 t305 t306 t307 t326 t327 t328 t329 t330 t331 t332 t333)) else (ddilaw03_awake.j0 k t320 t337 t344 t350 true t304 t305 t306 t307 t326 t327 t328 t329 t330 t331 t332 t333)) = some r := H
 have A11 := Aside0.mk A110
 clear A110
 have HC12 := Aside0.mk H
 clear H
 go_enter Tryz.func9, Tryz.ntmps9
 go_upto_region 8 with (first | ((with_reducible refine gate_callee (f := 7) rfl ?_); refine goesA (some 16) Tryz.func7 #[.string (⟨#[49, 48, 46, 48, 46, 48, 46, 48, 47, 56]⟩ : ByteArray)] ?_; (with_reducible refine (prefix_Parse.calls k (⟨#[49, 48, 46, 48, 46, 48, 46, 48, 47, 56]⟩ : ByteArray) t304 t305 t306 t307 t308 _ ?side1 A1.out).mono ?_); (case side1 => exact Laid.below HLD.out (pE HB)); rintro e w13 ⟨rfl, hb⟩; refine ⟨_, rfl, ?_⟩; replace HB := (pS HB hb); (try clear hb); (try clear hk)) | ((with_reducible refine gate_dst (N := 1) rfl ?_); (try (refine gate_guard (by rfl) ?_; dsimp only)); refine boxA (N := 1) (cs := #[.bool false, .int .u64 0, .int .u64 0, .int .i64 0]) (t := 26) ?_; intro gb309 hg w14 hbox hb; have BK309 := Aside0.mk (hbox); have GE309 := (pZ HB hg); replace HB := (pS HB hb); clear hb hbox hg; obtain ⟨hcz15_0, hcz15_1, hcz15_2, hcz15_3, hfz15_0, hfz15_1, hfz15_2, hfz15_3⟩ := pC4 BK309) | ((with_reducible refine gate_callee (f := 7) rfl ?_); refine goesA (some 20) Tryz.func7 #[.string (⟨#[49, 48, 46, 48, 46, 48, 46, 49, 47, 56]⟩ : ByteArray)] ?_; (with_reducible refine (prefix_Parse.calls k (⟨#[49, 48, 46, 48, 46, 48, 46, 49, 47, 56]⟩ : ByteArray) t310 t311 t312 t313 t314 _ ?side1 A2.out).mono ?_); (case side1 => exact Laid.below HLD.out (pE HB)); rintro e w16 ⟨rfl, hb⟩; refine ⟨_, rfl, ?_⟩; replace BK309 := (pD hb (pP (pP (pP (pP (pM BK309)))))); replace HB := (pS HB hb); (try clear hb); (try clear hk)) | ((with_reducible refine gate_dst (N := 3) rfl ?_); (try (refine gate_guard (by rfl) ?_; dsimp only)); refine boxA (N := 3) (cs := #[.bool false, .int .u64 0, .int .u64 0, .int .i64 0]) (t := 26) ?_; intro gb315 hg w17 hbox hb; have BK315 := Aside0.mk (hbox); have GE315 := (pZ HB hg); have NB309_315 := (pL BK309 hg); have NB315_309 := (pG BK309 hg); replace BK309 := (pB BK309 hb); replace HB := (pS HB hb); clear hb hbox hg; have hnb18 := NB315_309.out; have hnc18 := NB309_315.out; obtain ⟨hcz19_0, hcz19_1, hcz19_2, hcz19_3, hfz19_0, hfz19_1, hfz19_2, hfz19_3⟩ := pC4 BK315) | ((with_reducible refine gate_callee (f := 42) rfl ?_); refine goesA (some 24) Tryz.func42 #[.int .u64 167772164, .int .i64 30] ?_; (with_reducible refine (ddilaw03_four.calls 167772164 30 t316 t317 t318 t319 _ A3.out).mono ?_); rintro e w20 ⟨rfl, hb⟩; refine ⟨_, rfl, ?_⟩; replace BK309 := (pD hb (pK NB309_315 (pK NB309_315 (pK NB309_315 (pK NB309_315 (pM BK309)))))); replace BK315 := (pD hb (pP (pP (pP (pP (pM BK315)))))); replace HB := (pS HB hb); (try clear hb); (try clear hk)) | ((with_reducible refine gate_callee (f := 22) rfl ?_); refine goesA (some 25) Tryz.func22 #[.agg #[.bool t316, .int .u64 t317, .int .u64 t318, .int .i64 t319]] ?_; (with_reducible refine (prefix_Print.calls k t316 t317 t318 t319 t320 t321 _ ?side1 A4.out).mono ?_); (case side1 => exact Laid.below HLD.out (pE HB)); rintro e w21 ⟨rfl, hb⟩; refine ⟨_, rfl, ?_⟩; replace BK309 := (pB BK309 hb); replace BK315 := (pB BK315 hb); replace HB := (pS HB hb); (try clear hb); (try clear hk)) | ((with_reducible refine gate_callee (f := 42) rfl ?_); refine goesA (some 29) Tryz.func42 #[.int .u64 167772160, .int .i64 8] ?_; (with_reducible refine (ddilaw03_four.calls 167772160 8 t322 t323 t324 t325 _ A5.out).mono ?_); rintro e w22 ⟨rfl, hb⟩; refine ⟨_, rfl, ?_⟩; replace BK309 := (pB BK309 hb); replace BK315 := (pB BK315 hb); replace HB := (pS HB hb); (try clear hb); (try clear hk)) | ((with_reducible refine gate_callee (f := 12) rfl ?_); refine goesA (some 30) Tryz.func12 #[.agg #[.bool t322, .int .u64 t323, .int .u64 t324, .int .i64 t325]] ?_; (with_reducible refine (prefix_Halves.calls k t322 t323 t324 t325 t326 t327 t328 t329 t330 t331 t332 t333 t334 _ A6.out).mono ?_); rintro e w23 ⟨rfl, hb⟩; refine ⟨_, rfl, ?_⟩; replace BK309 := (pB BK309 hb); replace BK315 := (pB BK315 hb); replace HB := (pS HB hb); (try clear hb); (try clear hk)) | ((with_reducible refine gate_dst (N := 7) rfl ?_); (try (refine gate_guard (by rfl) ?_; dsimp only)); refine boxA (N := 7) (cs := #[.bool false, .int .u64 0, .int .u64 0, .int .i64 0]) (t := 26) ?_; intro gb335 hg w24 hbox hb; have BK335 := Aside0.mk (hbox); have GE335 := (pZ HB hg); have NB309_335 := (pL BK309 hg); have NB335_309 := (pG BK309 hg); have NB315_335 := (pL BK315 hg); have NB335_315 := (pG BK315 hg); replace BK309 := (pB BK309 hb); replace BK315 := (pB BK315 hb); replace HB := (pS HB hb); clear hb hbox hg) | ((with_reducible refine gate_dst (N := 8) rfl ?_); (try (refine gate_guard (by rfl) ?_; dsimp only)); refine boxA (N := 8) (cs := #[.bool false, .int .u64 0, .int .u64 0, .int .i64 0]) (t := 26) ?_; intro gb336 hg w25 hbox hb; have BK336 := Aside0.mk (hbox); have GE336 := (pZ HB hg); have NB309_336 := (pL BK309 hg); have NB336_309 := (pG BK309 hg); have NB315_336 := (pL BK315 hg); have NB336_315 := (pG BK315 hg); have NB335_336 := (pL BK335 hg); have NB336_335 := (pG BK335 hg); replace BK309 := (pB BK309 hb); replace BK315 := (pB BK315 hb); replace BK335 := (pB BK335 hb); replace HB := (pS HB hb); clear hb hbox hg; have hnb26 := NB335_309.out; have hnc26 := NB309_335.out; have hnb27 := NB335_315.out; have hnc27 := NB315_335.out; have hnb28 := NB335_336.out; have hnc28 := NB336_335.out; obtain ⟨hcz29_0, hcz29_1, hcz29_2, hcz29_3, hfz29_0, hfz29_1, hfz29_2, hfz29_3⟩ := pC4 BK335; have hnb30 := NB336_309.out; have hnc30 := NB309_336.out; have hnb31 := NB336_315.out; have hnc31 := NB315_336.out; obtain ⟨hcz32_0, hcz32_1, hcz32_2, hcz32_3, hfz32_0, hfz32_1, hfz32_2, hfz32_3⟩ := pC4 BK336) | ((with_reducible refine gate_store (t := 26) (p := 8) rfl ?_); refine store_event (t := 26) (p := 8) (v := ?vo_w33) (w1 := ((((((((w25.setCell ⟨gb335, 0, none⟩ (.bool t326)).setCell ⟨gb335, 1, none⟩ (.int .u64 t327)).setCell ⟨gb335, 2, none⟩ (.int .u64 t328)).setCell ⟨gb335, 3, none⟩ (.int .i64 t329)).setCell ⟨gb336, 0, none⟩ (.bool t330)).setCell ⟨gb336, 1, none⟩ (.int .u64 t331)).setCell ⟨gb336, 2, none⟩ (.int .u64 t332)).setCell ⟨gb336, 3, none⟩ (.int .i64 t333))) ?hg ?ho ?hn ?hr ?_; (case ho => rfl); (case hg => rfl); (case hn => rfl); (case hr => first | (exact Ext.run_store_chain 26 _ _ rfl _ _ _ _ rfl rfl (pK NB336_335 (pK NB336_335 (pK NB336_335 (pK NB336_335 (pM BK336))))) (by kernel_rfl) rfl rfl rfl) | (go_simp; done) | (go_simp; rfl)); intro w33 hw; have n0_ : Aside0 (w33.heap[gb309]? = some (.cells #[.bool t304, .int .u64 t305, .int .u64 t306, .int .i64 t307] 26 (0, 0))) := (pW hw (pK NB309_336 (pK NB309_336 (pK NB309_336 (pK NB309_336 (pK NB309_335 (pK NB309_335 (pK NB309_335 (pK NB309_335 (pM BK309)))))))))); have n1_ : Aside0 (w33.heap[gb315]? = some (.cells #[.bool t310, .int .u64 t311, .int .u64 t312, .int .i64 t313] 26 (0, 0))) := (pW hw (pK NB315_336 (pK NB315_336 (pK NB315_336 (pK NB315_336 (pK NB315_335 (pK NB315_335 (pK NB315_335 (pK NB315_335 (pM BK315)))))))))); have n2_ : Aside0 (w33.heap[gb335]? = some (.cells #[.bool t326, .int .u64 t327, .int .u64 t328, .int .i64 t329] 26 (0, 0))) := (pW hw (pK NB335_336 (pK NB335_336 (pK NB335_336 (pK NB335_336 (pP (pP (pP (pP (pM BK335)))))))))); have n3_ : Aside0 (w33.heap[gb336]? = some (.cells #[.bool t330, .int .u64 t331, .int .u64 t332, .int .i64 t333] 26 (0, 0))) := (pW hw (pP (pP (pP (pP (pK NB336_335 (pK NB336_335 (pK NB336_335 (pK NB336_335 (pM BK336)))))))))); have n4_ : Aside0 (Below w.heap.size w w33) := ⟨(by rw [hw]; exact (by repeat (first | (with_reducible first | exact HB.out | apply below_alloc | apply pw_below_drewN | apply below_drew1 | refine below_set ?_ GE309.out | refine below_set ?_ GE315.out | refine below_set ?_ GE335.out | refine below_set ?_ GE336.out) | exact HB.out)))⟩; clear hw; clear BK309; clear BK315; clear BK335; clear BK336; clear HB; have BK309 := n0_; have BK315 := n1_; have BK335 := n2_; have BK336 := n3_; have HB := n4_; clear n0_ n1_ n2_ n3_ n4_) | ((with_reducible refine gate_callee (f := 20) rfl ?_); refine goesA (some 37) Tryz.func20 #[.agg #[.bool false, .int .u64 0, .int .u64 167772161, .bool false, .int .u64 0, .int .u64 167772164]] ?_; (with_reducible refine (prefix_Cover.calls k false 0 167772161 false 0 167772164 t337 _ ?side1 A7.out).mono ?_); (case side1 => exact Laid.below HLD.out (pE HB)); rintro e w34 ⟨v338, rfl, ho0, hb⟩; refine ⟨_, rfl, ?_⟩; have HO339 := Aside0.mk (Kd.R_lower (Kd.R_newB (Kd.R_newB (Kd.R_newB (Kd.R_newB ho0 (g := gb309) (o := .cells #[.bool t304, .int .u64 t305, .int .u64 t306, .int .i64 t307] 26 (0, 0)) (pM BK309)) (g := gb315) (o := .cells #[.bool t310, .int .u64 t311, .int .u64 t312, .int .i64 t313] 26 (0, 0)) (pM BK315)) (g := gb335) (o := .cells #[.bool t326, .int .u64 t327, .int .u64 t328, .int .i64 t329] 26 (0, 0)) (pM BK335)) (g := gb336) (o := .cells #[.bool t330, .int .u64 t331, .int .u64 t332, .int .i64 t333] 26 (0, 0)) (pM BK336)) (below_size (by repeat (first | (with_reducible first | exact HB.out | apply below_alloc | apply pw_below_drewN | apply below_drew1 | refine below_set ?_ GE309.out | refine below_set ?_ GE315.out | refine below_set ?_ GE335.out | refine below_set ?_ GE336.out) | exact HB.out)))); replace BK309 := (pB BK309 hb); replace BK315 := (pB BK315 hb); replace BK335 := (pB BK335 hb); replace BK336 := (pB BK336 hb); replace HB := (pS HB hb); (try clear hb); (try clear hk); (try clear ho0)) | ((with_reducible refine gate_callee (f := 42) rfl ?_); refine goesA (some 39) Tryz.func42 #[.int .u64 167903232, .int .i64 16] ?_; (with_reducible refine (ddilaw03_four.calls 167903232 16 t340 t341 t342 t343 _ A8.out).mono ?_); rintro e w35 ⟨rfl, hb⟩; refine ⟨_, rfl, ?_⟩; replace HO339 := Aside0.mk (Kd.R_below (by (with_reducible repeat (first | apply Kd.R_alloc | apply Kd.R_drewN | apply Kd.R_drew)); exact HO339.out) hb); replace BK309 := (pB BK309 hb); replace BK315 := (pB BK315 hb); replace BK335 := (pB BK335 hb); replace BK336 := (pB BK336 hb); replace HB := (pS HB hb); (try clear hb); (try clear hk)) | ((with_reducible refine gate_callee (f := 18) rfl ?_); refine goesA (some 40) Tryz.func18 #[.agg #[.bool t340, .int .u64 t341, .int .u64 t342, .int .i64 t343]] ?_; (with_reducible refine (prefix_Zone.calls k t340 t341 t342 t343 t344 t345 _ ?side1 A9.out).mono ?_); (case side1 => exact Laid.below HLD.out (pE HB)); rintro e w36 ⟨rfl, hb⟩; refine ⟨_, rfl, ?_⟩; replace HO339 := Aside0.mk (Kd.R_below (by (with_reducible repeat (first | apply Kd.R_alloc | apply Kd.R_drewN | apply Kd.R_drew)); exact HO339.out) hb); replace BK309 := (pB BK309 hb); replace BK315 := (pB BK315 hb); replace BK335 := (pB BK335 hb); replace BK336 := (pB BK336 hb); replace HB := (pS HB hb); (try clear hb); (try clear hk)) | ((with_reducible refine gate_callee (f := 42) rfl ?_); refine goesA (some 44) Tryz.func42 #[.int .u64 167772164, .int .i64 30] ?_; (with_reducible refine (ddilaw03_four.calls 167772164 30 t346 t347 t348 t349 _ A10.out).mono ?_); rintro e w37 ⟨rfl, hb⟩; refine ⟨_, rfl, ?_⟩; replace HO339 := Aside0.mk (Kd.R_below (by (with_reducible repeat (first | apply Kd.R_alloc | apply Kd.R_drewN | apply Kd.R_drew)); exact HO339.out) hb); replace BK309 := (pB BK309 hb); replace BK315 := (pB BK315 hb); replace BK335 := (pB BK335 hb); replace BK336 := (pB BK336 hb); replace HB := (pS HB hb); (try clear hb); (try clear hk)) | ((with_reducible refine gate_callee (f := 16) rfl ?_); refine goesA (some 45) Tryz.func16 #[.agg #[.bool t346, .int .u64 t347, .int .u64 t348, .int .i64 t349]] ?_; (with_reducible refine (prefix_Size.calls t346 t347 t348 t349 t350 t351 _ A11.out).mono ?_); rintro e w38 ⟨rfl, hb⟩; refine ⟨_, rfl, ?_⟩; replace HO339 := Aside0.mk (Kd.R_below (by (with_reducible repeat (first | apply Kd.R_alloc | apply Kd.R_drewN | apply Kd.R_drew)); exact HO339.out) hb); replace BK309 := (pB BK309 hb); replace BK315 := (pB BK315 hb); replace BK335 := (pB BK335 hb); replace BK336 := (pB BK336 hb); replace HB := (pS HB hb); (try clear hb); (try clear hk)))
 (try simp only [Act.put, List.setIfInBounds_toArray, List.set_cons_zero, List.set_cons_succ])
 go_cut [74] (fun v74 wc => ∃ (kq : Nat) (x74_11 : Bool), v74 = .bool x74_11 ∧ Aside0 (ddilaw03_awake.j0 kq t320 t337 t344 t350 x74_11 t304 t305 t306 t307 t326 t327 t328 t329 t330 t331 t332 t333 = some r) ∧ Aside0 (kq ≤ k) ∧ Aside0 (Kd.R k26 26 wc w.heap.size (fun k_ => k_ ≠ gb309 ∧ k_ ≠ gb315 ∧ k_ ≠ gb335 ∧ k_ ≠ gb336) v338 t337) ∧ Aside0 (wc.heap[gb309]? = some (.cells #[.bool t304, .int .u64 t305, .int .u64 t306, .int .i64 t307] 26 (0, 0))) ∧ Aside0 (wc.heap[gb315]? = some (.cells #[.bool t310, .int .u64 t311, .int .u64 t312, .int .i64 t313] 26 (0, 0))) ∧ Aside0 (wc.heap[gb335]? = some (.cells #[.bool t326, .int .u64 t327, .int .u64 t328, .int .i64 t329] 26 (0, 0))) ∧ Aside0 (wc.heap[gb336]? = some (.cells #[.bool t330, .int .u64 t331, .int .u64 t332, .int .i64 t333] 26 (0, 0))) ∧ Aside0 (Below w.heap.size w wc))
 case first =>
  have H := HC12.out
  clear HC12
  by_cases c39 : t308 = 0
  ·
   rw [if_pos c39] at H
   have c39b0 : (t308 == 0) = true := beq_iff_eq.mpr c39
   have c39b1 : (t308 != 0) = false := bne_eq_false_iff_eq.mpr c39
   clear c39
   (first | rw [c39b0] | (simp only [i64_w, i32_w]; rw [c39b0]) | skip)
   by_cases c40 : t314 = 3
   ·
    rw [if_pos c40] at H
    have c40b0 : (t314 == 3) = true := beq_iff_eq.mpr c40
    have c40b1 : (t314 != 3) = false := bne_eq_false_iff_eq.mpr c40
    clear c40
    by_cases c41 : t321 = 0
    ·
     rw [if_pos c41] at H
     have c41b0 : (t321 == 0) = true := beq_iff_eq.mpr c41
     have c41b1 : (t321 != 0) = false := bne_eq_false_iff_eq.mpr c41
     clear c41
     by_cases c42 : t334 = true
     ·
      subst c42
      rw [if_pos rfl] at H
      by_cases c43 : t345 = true
      ·
       subst c43
       rw [if_pos rfl] at H
       by_cases c44 : t351 = true
       ·
        subst c44
        rw [if_pos rfl] at H
        have H' := Aside0.mk H
        clear H
        obtain ⟨Ao45, co45, eo45⟩ := Kd.R_slice HO339.out
        subst eo45
        go_wp2_with (first | ((with_reducible refine gate_dst (N := 36) rfl ?_); refine Ext.wpList_buildC ?hgd 33 _ ?ho ?hb ?_; (case hgd => rfl); (case ho => rfl); (case hb => ((try go_simp); exact hbl36 _ _ _ _ _ _))))
        refine Met.intro ?_
        go_step
        (repeat apply Exists.intro)
        refine ⟨?rel, ?heq_⟩
        case heq_ => first | rfl | (rw [c39b0]) | (simp only [c39b0])
        case rel => exact ⟨_, (((t337.length : Int) != 3)), pT, H', ⟨by first | omega | exact Nat.le_refl _⟩, ⟨by (with_reducible repeat (first | apply Kd.R_alloc | apply Kd.R_drewN | apply Kd.R_drew)); exact Kd.R_mono HO339.out (fun _ hk => ⟨hk.1.1.1.2, ⟨hk.1.1.2, ⟨hk.1.2, hk.2⟩⟩⟩)⟩, ⟨pM BK309⟩, ⟨pM BK315⟩, ⟨pM BK335⟩, ⟨pM BK336⟩, ⟨pE HB⟩⟩
       ·
        replace c44 := Bool.eq_false_iff.mpr c44
        subst c44
        rw [if_neg (show ¬ (false = true) by decide)] at H
        have H' := Aside0.mk H
        clear H
        go_wp2_with (first | ((with_reducible refine gate_dst (N := 36) rfl ?_); refine Ext.wpList_buildC ?hgd 33 _ ?ho ?hb ?_; (case hgd => rfl); (case ho => rfl); (case hb => ((try go_simp); exact hbl36 _ _ _ _ _ _))))
        refine Met.intro ?_
        go_step
        (repeat apply Exists.intro)
        refine ⟨?rel, ?heq_⟩
        case heq_ => first | rfl | (rw [c39b0]) | (simp only [c39b0])
        case rel => exact ⟨_, (true), pT, H', ⟨by first | omega | exact Nat.le_refl _⟩, ⟨by (with_reducible repeat (first | apply Kd.R_alloc | apply Kd.R_drewN | apply Kd.R_drew)); exact Kd.R_mono HO339.out (fun _ hk => ⟨hk.1.1.1.2, ⟨hk.1.1.2, ⟨hk.1.2, hk.2⟩⟩⟩)⟩, ⟨pM BK309⟩, ⟨pM BK315⟩, ⟨pM BK335⟩, ⟨pM BK336⟩, ⟨pE HB⟩⟩
      ·
       replace c43 := Bool.eq_false_iff.mpr c43
       subst c43
       rw [if_neg (show ¬ (false = true) by decide)] at H
       have H' := Aside0.mk H
       clear H
       go_wp2_with (first | ((with_reducible refine gate_dst (N := 36) rfl ?_); refine Ext.wpList_buildC ?hgd 33 _ ?ho ?hb ?_; (case hgd => rfl); (case ho => rfl); (case hb => ((try go_simp); exact hbl36 _ _ _ _ _ _))))
       refine Met.intro ?_
       go_step
       (repeat apply Exists.intro)
       refine ⟨?rel, ?heq_⟩
       case heq_ => first | rfl | (rw [c39b0]) | (simp only [c39b0])
       case rel => exact ⟨_, (true), pT, H', ⟨by first | omega | exact Nat.le_refl _⟩, ⟨by (with_reducible repeat (first | apply Kd.R_alloc | apply Kd.R_drewN | apply Kd.R_drew)); exact Kd.R_mono HO339.out (fun _ hk => ⟨hk.1.1.1.2, ⟨hk.1.1.2, ⟨hk.1.2, hk.2⟩⟩⟩)⟩, ⟨pM BK309⟩, ⟨pM BK315⟩, ⟨pM BK335⟩, ⟨pM BK336⟩, ⟨pE HB⟩⟩
     ·
      replace c42 := Bool.eq_false_iff.mpr c42
      subst c42
      rw [if_neg (show ¬ (false = true) by decide)] at H
      have H' := Aside0.mk H
      clear H
      go_wp2_with (first | ((with_reducible refine gate_dst (N := 36) rfl ?_); refine Ext.wpList_buildC ?hgd 33 _ ?ho ?hb ?_; (case hgd => rfl); (case ho => rfl); (case hb => ((try go_simp); exact hbl36 _ _ _ _ _ _))))
      refine Met.intro ?_
      go_step
      (repeat apply Exists.intro)
      refine ⟨?rel, ?heq_⟩
      case heq_ => first | rfl | (rw [c39b0]) | (simp only [c39b0])
      case rel => exact ⟨_, (true), pT, H', ⟨by first | omega | exact Nat.le_refl _⟩, ⟨by (with_reducible repeat (first | apply Kd.R_alloc | apply Kd.R_drewN | apply Kd.R_drew)); exact Kd.R_mono HO339.out (fun _ hk => ⟨hk.1.1.1.2, ⟨hk.1.1.2, ⟨hk.1.2, hk.2⟩⟩⟩)⟩, ⟨pM BK309⟩, ⟨pM BK315⟩, ⟨pM BK335⟩, ⟨pM BK336⟩, ⟨pE HB⟩⟩
    ·
     rw [if_neg c41] at H
     have c41b0 : (t321 == 0) = false := beq_eq_false_iff_ne.mpr c41
     have c41b1 : (t321 != 0) = true := bne_iff_ne.mpr c41
     have H' := Aside0.mk H
     clear H
     go_wp2_with (first | ((with_reducible refine gate_dst (N := 36) rfl ?_); refine Ext.wpList_buildC ?hgd 33 _ ?ho ?hb ?_; (case hgd => rfl); (case ho => rfl); (case hb => ((try go_simp); exact hbl36 _ _ _ _ _ _))))
     refine Met.intro ?_
     go_step
     (repeat apply Exists.intro)
     refine ⟨?rel, ?heq_⟩
     case heq_ => first | rfl | (rw [c39b0]) | (simp only [c39b0])
     case rel => exact ⟨_, (true), pT, H', ⟨by first | omega | exact Nat.le_refl _⟩, ⟨by (with_reducible repeat (first | apply Kd.R_alloc | apply Kd.R_drewN | apply Kd.R_drew)); exact Kd.R_mono HO339.out (fun _ hk => ⟨hk.1.1.1.2, ⟨hk.1.1.2, ⟨hk.1.2, hk.2⟩⟩⟩)⟩, ⟨pM BK309⟩, ⟨pM BK315⟩, ⟨pM BK335⟩, ⟨pM BK336⟩, ⟨pE HB⟩⟩
   ·
    rw [if_neg c40] at H
    have c40b0 : (t314 == 3) = false := beq_eq_false_iff_ne.mpr c40
    have c40b1 : (t314 != 3) = true := bne_iff_ne.mpr c40
    have H' := Aside0.mk H
    clear H
    go_wp2_with (first | ((with_reducible refine gate_dst (N := 36) rfl ?_); refine Ext.wpList_buildC ?hgd 33 _ ?ho ?hb ?_; (case hgd => rfl); (case ho => rfl); (case hb => ((try go_simp); exact hbl36 _ _ _ _ _ _))))
    refine Met.intro ?_
    go_step
    (repeat apply Exists.intro)
    refine ⟨?rel, ?heq_⟩
    case heq_ => first | rfl | (rw [c39b0]) | (simp only [c39b0])
    case rel => exact ⟨_, (true), pT, H', ⟨by first | omega | exact Nat.le_refl _⟩, ⟨by (with_reducible repeat (first | apply Kd.R_alloc | apply Kd.R_drewN | apply Kd.R_drew)); exact Kd.R_mono HO339.out (fun _ hk => ⟨hk.1.1.1.2, ⟨hk.1.1.2, ⟨hk.1.2, hk.2⟩⟩⟩)⟩, ⟨pM BK309⟩, ⟨pM BK315⟩, ⟨pM BK335⟩, ⟨pM BK336⟩, ⟨pE HB⟩⟩
  ·
   rw [if_neg c39] at H
   have c39b0 : (t308 == 0) = false := beq_eq_false_iff_ne.mpr c39
   have c39b1 : (t308 != 0) = true := bne_iff_ne.mpr c39
   (first | rw [c39b0] | (simp only [i64_w, i32_w]; rw [c39b0]) | skip)
   have H' := Aside0.mk H
   clear H
   go_wp2_with (first | ((with_reducible refine gate_dst (N := 36) rfl ?_); refine Ext.wpList_buildC ?hgd 33 _ ?ho ?hb ?_; (case hgd => rfl); (case ho => rfl); (case hb => ((try go_simp); exact hbl36 _ _ _ _ _ _))))
   refine Met.intro ?_
   go_step
   (repeat apply Exists.intro)
   refine ⟨?rel, ?heq_⟩
   case heq_ => first | rfl | (rw [c39b0]) | (simp only [c39b0])
   case rel => exact ⟨_, (true), pT, H', ⟨by first | omega | exact Nat.le_refl _⟩, ⟨by (with_reducible repeat (first | apply Kd.R_alloc | apply Kd.R_drewN | apply Kd.R_drew)); exact Kd.R_mono HO339.out (fun _ hk => ⟨hk.1.1.1.2, ⟨hk.1.1.2, ⟨hk.1.2, hk.2⟩⟩⟩)⟩, ⟨pM BK309⟩, ⟨pM BK315⟩, ⟨pM BK335⟩, ⟨pM BK336⟩, ⟨pE HB⟩⟩
 case rest =>
  clear HC12
  try clear hcz15_0 hcz15_1 hcz15_2 hcz15_3
  try clear hcz19_0 hcz19_1 hcz19_2 hcz19_3
  try clear hcz29_0 hcz29_1 hcz29_2 hcz29_3
  try clear hcz32_0 hcz32_1 hcz32_2 hcz32_3
  try clear hfz15_0 hfz15_1 hfz15_2 hfz15_3
  try clear hfz19_0 hfz19_1 hfz19_2 hfz19_3
  try clear hfz29_0 hfz29_1 hfz29_2 hfz29_3
  try clear hfz32_0 hfz32_1 hfz32_2 hfz32_3
  obtain ⟨kq, x74_11, rfl, HA, HJ11, HO_10, BK309, BK315, BK335, BK336, HB⟩ := hcut
  cases kq with
  | zero => exact absurd HA.out (by simp [ddilaw03_awake.j0])
  | succ kj11 =>
   have H := HA.out
   clear HA
   simp only [ddilaw03_awake.j0] at H
   by_cases c46 : x74_11 = true
   ·
    subst c46
    rw [if_pos rfl] at H
    exact absurd H (by simp)
   ·
    replace c46 := Bool.eq_false_iff.mpr c46
    subst c46
    rw [if_neg (show ¬ (false = true) by decide)] at H
    replace H := Option.bind_eq_some_iff.mp H
    obtain ⟨⟨t352, t353, t354, t355⟩, A470, H⟩ := H
    replace H : (if ((t304 == t352 && (t305 == t353 && (t306 == t354))) && (t307 == t355)) = true then (if t320.toList = ([49, 48, 46, 48, 46, 48, 46, 52, 47, 51, 48] : List UInt8) then ((ddilaw03_four.f 167772160 9).bind fun bt356 => (if ((t326 == bt356.1 && (t327 == bt356.2.1 && (t328 == bt356.2.2.1))) && (t329 == bt356.2.2.2)) = true then ((ddilaw03_four.f 176160768 9).bind fun bt360 => (if ((t330 == bt360.1 && (t331 == bt360.2.1 && (t332 == bt360.2.2.1))) && (t333 == bt360.2.2.2)) = true then (if 1 < (t337.length : Int) then ((ddilaw03_four.f 167772162 31).bind fun bt365 => (if ((((rd_T26 t337 1).f0.f0) == bt365.1 && (((rd_T26 t337 1).f0.f1) == bt365.2.1 && (((rd_T26 t337 1).f0.f2) == bt365.2.2.1))) && (((rd_T26 t337 1).f1) == bt365.2.2.2)) = true then (if t344.toList = ([50, 46, 49, 48, 46, 105, 110, 45, 97, 100, 100, 114, 46, 97, 114, 112, 97, 46] : List UInt8) then (some (t350 == 4)) else (none)) else (none))) else (none)) else (none))) else (none))) else (none)) else (none)) = some r := H
    have A47 := Aside0.mk A470
    clear A470
    by_cases c48 : ((t304 == t352 && (t305 == t353 && (t306 == t354))) && (t307 == t355)) = true
    ·
     rw [if_pos c48] at H
     have c48b0 : ((t304 == t352 && (t305 == t353 && (t306 == t354))) && (t307 == t355)) = true := c48
     clear c48
     by_cases c49 : t320.toList = ([49, 48, 46, 48, 46, 48, 46, 52, 47, 51, 48] : List UInt8)
     ·
      rw [if_pos c49] at H
      have c49b0 : (t320.toList == ([49, 48, 46, 48, 46, 48, 46, 52, 47, 51, 48] : List UInt8)) = true := beq_iff_eq.mpr c49
      have c49b1 : (t320.toList != ([49, 48, 46, 48, 46, 48, 46, 52, 47, 51, 48] : List UInt8)) = false := bne_eq_false_iff_eq.mpr c49
      clear c49
      replace H := Option.bind_eq_some_iff.mp H
      obtain ⟨⟨t356, t357, t358, t359⟩, A500, H⟩ := H
      replace H : (if ((t326 == t356 && (t327 == t357 && (t328 == t358))) && (t329 == t359)) = true then ((ddilaw03_four.f 176160768 9).bind fun bt360 => (if ((t330 == bt360.1 && (t331 == bt360.2.1 && (t332 == bt360.2.2.1))) && (t333 == bt360.2.2.2)) = true then (if 1 < (t337.length : Int) then ((ddilaw03_four.f 167772162 31).bind fun bt365 => (if ((((rd_T26 t337 1).f0.f0) == bt365.1 && (((rd_T26 t337 1).f0.f1) == bt365.2.1 && (((rd_T26 t337 1).f0.f2) == bt365.2.2.1))) && (((rd_T26 t337 1).f1) == bt365.2.2.2)) = true then (if t344.toList = ([50, 46, 49, 48, 46, 105, 110, 45, 97, 100, 100, 114, 46, 97, 114, 112, 97, 46] : List UInt8) then (some (t350 == 4)) else (none)) else (none))) else (none)) else (none))) else (none)) = some r := H
      have A50 := Aside0.mk A500
      clear A500
      by_cases c51 : ((t326 == t356 && (t327 == t357 && (t328 == t358))) && (t329 == t359)) = true
      ·
       rw [if_pos c51] at H
       have c51b0 : ((t326 == t356 && (t327 == t357 && (t328 == t358))) && (t329 == t359)) = true := c51
       clear c51
       replace H := Option.bind_eq_some_iff.mp H
       obtain ⟨⟨t360, t361, t362, t363⟩, A520, H⟩ := H
       replace H : (if ((t330 == t360 && (t331 == t361 && (t332 == t362))) && (t333 == t363)) = true then (if 1 < (t337.length : Int) then ((ddilaw03_four.f 167772162 31).bind fun bt365 => (if ((((rd_T26 t337 1).f0.f0) == bt365.1 && (((rd_T26 t337 1).f0.f1) == bt365.2.1 && (((rd_T26 t337 1).f0.f2) == bt365.2.2.1))) && (((rd_T26 t337 1).f1) == bt365.2.2.2)) = true then (if t344.toList = ([50, 46, 49, 48, 46, 105, 110, 45, 97, 100, 100, 114, 46, 97, 114, 112, 97, 46] : List UInt8) then (some (t350 == 4)) else (none)) else (none))) else (none)) else (none)) = some r := H
       have A52 := Aside0.mk A520
       clear A520
       by_cases c53 : ((t330 == t360 && (t331 == t361 && (t332 == t362))) && (t333 == t363)) = true
       ·
        rw [if_pos c53] at H
        have c53b0 : ((t330 == t360 && (t331 == t361 && (t332 == t362))) && (t333 == t363)) = true := c53
        clear c53
        by_cases c54 : 1 < (t337.length : Int)
        ·
         rw [if_pos c54] at H
         have c54b0 := decide_eq_true c54
         have c54b1 : decide (1 < t337.length) = true := decide_eq_true (by omega)
         clear c54
         replace H := Option.bind_eq_some_iff.mp H
         obtain ⟨⟨t365, t366, t367, t368⟩, A550, H⟩ := H
         replace H : (if ((((rd_T26 t337 1).f0.f0) == t365 && (((rd_T26 t337 1).f0.f1) == t366 && (((rd_T26 t337 1).f0.f2) == t367))) && (((rd_T26 t337 1).f1) == t368)) = true then (if t344.toList = ([50, 46, 49, 48, 46, 105, 110, 45, 97, 100, 100, 114, 46, 97, 114, 112, 97, 46] : List UInt8) then (some (t350 == 4)) else (none)) else (none)) = some r := H
         have A55 := Aside0.mk A550
         clear A550
         by_cases c56 : ((((rd_T26 t337 1).f0.f0) == t365 && (((rd_T26 t337 1).f0.f1) == t366 && (((rd_T26 t337 1).f0.f2) == t367))) && (((rd_T26 t337 1).f1) == t368)) = true
         ·
          rw [if_pos c56] at H
          have c56b0 : ((((rd_T26 t337 1).f0.f0) == t365 && (((rd_T26 t337 1).f0.f1) == t366 && (((rd_T26 t337 1).f0.f2) == t367))) && (((rd_T26 t337 1).f1) == t368)) = true := c56
          clear c56
          by_cases c57 : t344.toList = ([50, 46, 49, 48, 46, 105, 110, 45, 97, 100, 100, 114, 46, 97, 114, 112, 97, 46] : List UInt8)
          ·
           rw [if_pos c57] at H
           have c57b0 : (t344.toList == ([50, 46, 49, 48, 46, 105, 110, 45, 97, 100, 100, 114, 46, 97, 114, 112, 97, 46] : List UInt8)) = true := beq_iff_eq.mpr c57
           have c57b1 : (t344.toList != ([50, 46, 49, 48, 46, 105, 110, 45, 97, 100, 100, 114, 46, 97, 114, 112, 97, 46] : List UInt8)) = false := bne_eq_false_iff_eq.mpr c57
           clear c57
           obtain rfl := Option.some.inj H
           try go_wp2_with (first | ((with_reducible refine gate_dst (N := 36) rfl ?_); refine Ext.wpList_buildC ?hgd 33 _ ?ho ?hb ?_; (case hgd => rfl); (case ho => rfl); (case hb => ((try go_simp); exact hbl36 _ _ _ _ _ _))))
           replace HO_10 := Aside0.mk (Kd.R_drew HO_10.out)
           replace BK309 := Aside0.mk (blk_drew BK309.out)
           replace BK315 := Aside0.mk (blk_drew BK315.out)
           replace BK335 := Aside0.mk (blk_drew BK335.out)
           replace BK336 := Aside0.mk (blk_drew BK336.out)
           replace HB := Aside0.mk (below_drew1 HB.out)
           have p364 : 0 ≤ (1 : Int) := (by omega)
           have q364 : 1 < (t337.length : Int) := of_decide_eq_true (by first | (with_reducible assumption) | assumption)
           (try (obtain ⟨gs_, cp_, hgs_, -⟩ := Kd.R_form HO_10.out (by omega); obtain ⟨oa_, hoa_⟩ : ∃ a_ : Option Addr, (some ⟨gs_, 0, none⟩ : Option Addr) = a_ := ⟨_, rfl⟩; rw [hoa_] at hgs_; clear hoa_; subst hgs_))
           obtain ⟨ad364, e364, hx364_0, hx364_1, hx364_2, hx364_3⟩ := at_T26 (Kd.R_reads' HO_10.out).2.2 1 p364 q364
           cases e364
           (try simp only [show (1 : Int).toNat = 1 from rfl, Nat.reduceMul, Nat.reduceEqDiff, Go.Addr.add, ↓reduceIte] at hx364_0)
           (try simp only [show (1 : Int).toNat = 1 from rfl, Nat.reduceMul, Nat.reduceEqDiff, Go.Addr.add, ↓reduceIte] at hx364_1)
           (try simp only [show (1 : Int).toNat = 1 from rfl, Nat.reduceMul, Nat.reduceEqDiff, Go.Addr.add, ↓reduceIte] at hx364_2)
           (try simp only [show (1 : Int).toNat = 1 from rfl, Nat.reduceMul, Nat.reduceEqDiff, Go.Addr.add, ↓reduceIte] at hx364_3)
           have qi364 : (1 < t337.length) = True := eq_true (by omega)
           (try rw [show ((1 : Int)).toNat = 1 from rfl] at hx364_0)
           (try rw [show 1 * 4 = 4 from rfl] at hx364_0)
           (try rw [show ((1 : Int)).toNat = 1 from rfl] at hx364_1)
           (try rw [show 1 * 4 = 4 from rfl] at hx364_1)
           (try rw [show ((1 : Int)).toNat = 1 from rfl] at hx364_2)
           (try rw [show 1 * 4 = 4 from rfl] at hx364_2)
           (try rw [show ((1 : Int)).toNat = 1 from rfl] at hx364_3)
           (try rw [show 1 * 4 = 4 from rfl] at hx364_3)
           replace p364 := eq_true p364
           replace q364 := eq_true q364
           refine start_ (n := 33) (S := fun w' => w'.cell? ⟨gb309, 0, none⟩ = some (.bool t304) ∧ w'.cell? ⟨gb309, 1, none⟩ = some (.int .u64 t305) ∧ w'.cell? ⟨gb309, 2, none⟩ = some (.int .u64 t306) ∧ w'.cell? ⟨gb309, 3, none⟩ = some (.int .i64 t307) ∧ w'.cell? ⟨gb335, 0, none⟩ = some (.bool t326) ∧ w'.cell? ⟨gb335, 1, none⟩ = some (.int .u64 t327) ∧ w'.cell? ⟨gb335, 2, none⟩ = some (.int .u64 t328) ∧ w'.cell? ⟨gb335, 3, none⟩ = some (.int .i64 t329) ∧ w'.cell? ⟨gb336, 0, none⟩ = some (.bool t330) ∧ w'.cell? ⟨gb336, 1, none⟩ = some (.int .u64 t331) ∧ w'.cell? ⟨gb336, 2, none⟩ = some (.int .u64 t332) ∧ w'.cell? ⟨gb336, 3, none⟩ = some (.int .i64 t333) ∧ w'.cell? ⟨ad364.block, ad364.off + 4, none⟩ = some (.bool ((rd_T26 t337 1).f0.f0)) ∧ w'.cell? ⟨ad364.block, ad364.off + 4 + 1, none⟩ = some (.int .u64 ((rd_T26 t337 1).f0.f1)) ∧ w'.cell? ⟨ad364.block, ad364.off + 4 + 2, none⟩ = some (.int .u64 ((rd_T26 t337 1).f0.f2)) ∧ w'.cell? ⟨ad364.block, ad364.off + 4 + 3, none⟩ = some (.int .i64 ((rd_T26 t337 1).f1))) (ds := []) (tk 33 0) (by kernel_rfl) rfl rfl ⟨(blk_cell BK309.out 0).trans rfl, (blk_cell BK309.out 1).trans rfl, (blk_cell BK309.out 2).trans rfl, (blk_cell BK309.out 3).trans rfl, (blk_cell BK335.out 0).trans rfl, (blk_cell BK335.out 1).trans rfl, (blk_cell BK335.out 2).trans rfl, (blk_cell BK335.out 3).trans rfl, (blk_cell BK336.out 0).trans rfl, (blk_cell BK336.out 1).trans rfl, (blk_cell BK336.out 2).trans rfl, (blk_cell BK336.out 3).trans rfl, hx364_0, hx364_1, hx364_2, hx364_3⟩ (fun hHeld => ?_); refine with_tabW ddilaw03_awake.tab10 ddilaw03_awake.bits10 (fun HT_ HW_ => ?_)
           generalize wc.drew = w58 at HO_10 BK309 BK315 BK335 BK336 HB hx364_0 hx364_1 hx364_2 hx364_3 hHeld ⊢
           refine takeA (i := 0) (some 75) HT_ HW_ (tk 33 1) hHeld ?_
           refine one_ (i := 1) (N := some 76) (tk 33 2) rfl rfl (one_of HT_.out (by kernel_rfl)) (by decide) (fun K hK => ?_)
           refine goesR Tryz.func42 #[.int .u64 167772160, .int .i64 8] ?_
           with_reducible refine (ddilaw03_four.calls 167772160 8 t352 t353 t354 t355 _ A47.out).mono ?_
           rintro e w59 ⟨rfl, hb⟩
           have hHe_ := pH hb hHeld
           refine ⟨_, rfl, ?_⟩
           replace HO_10 := Aside0.mk (Kd.R_below (by (with_reducible repeat (first | apply Kd.R_alloc | apply Kd.R_drewN | apply Kd.R_drew)); exact HO_10.out) hb)
           replace BK309 := (pB BK309 hb)
           replace BK315 := (pB BK315 hb)
           replace BK335 := (pB BK335 hb)
           replace BK336 := (pB BK336 hb)
           replace HB := (pS HB hb)
           (try clear hb)
           (try clear hk)
           refine hK.out _ _ ⟨(blk_cell BK309.out 0).trans rfl, (blk_cell BK309.out 1).trans rfl, (blk_cell BK309.out 2).trans rfl, (blk_cell BK309.out 3).trans rfl, (blk_cell BK335.out 0).trans rfl, (blk_cell BK335.out 1).trans rfl, (blk_cell BK335.out 2).trans rfl, (blk_cell BK335.out 3).trans rfl, (blk_cell BK336.out 0).trans rfl, (blk_cell BK336.out 1).trans rfl, (blk_cell BK336.out 2).trans rfl, (blk_cell BK336.out 3).trans rfl, hHe_.2.2.2.2.2.2.2.2.2.2.2.2.1, hHe_.2.2.2.2.2.2.2.2.2.2.2.2.2.1, hHe_.2.2.2.2.2.2.2.2.2.2.2.2.2.2.1, hHe_.2.2.2.2.2.2.2.2.2.2.2.2.2.2.2⟩ (fun hHeld => ?_)
           clear hK K
           refine normA (N := some 76) ?_
           refine pureA (i := 2) (some 77) HT_ (tk 33 3) ?_
           refine pureA (i := 3) (some 78) HT_ (tk 33 4) ?_
           refine pureA (i := 4) (some 79) HT_ (tk 33 5) ?_
           refine pureA (i := 5) (some 80) HT_ (tk 33 6) ?_
           refine pureA (i := 6) (some 81) HT_ (tk 33 7) ?_
           refine pureA (i := 7) (some 82) HT_ (tk 33 8) ?_
           refine takeA (i := 8) (some 83) HT_ HW_ (tk 33 9) hHeld ?_
           refine one_ (i := 9) (N := some 84) (tk 33 10) rfl rfl (one_of HT_.out (by kernel_rfl)) (by decide) (fun K hK => ?_)
           refine goesR Tryz.func42 #[.int .u64 167772160, .int .i64 9] ?_
           with_reducible refine (ddilaw03_four.calls 167772160 9 t356 t357 t358 t359 _ A50.out).mono ?_
           rintro e w60 ⟨rfl, hb⟩
           have hHe_ := pH hb hHeld
           refine ⟨_, rfl, ?_⟩
           replace HO_10 := Aside0.mk (Kd.R_below (by (with_reducible repeat (first | apply Kd.R_alloc | apply Kd.R_drewN | apply Kd.R_drew)); exact HO_10.out) hb)
           replace BK309 := (pB BK309 hb)
           replace BK315 := (pB BK315 hb)
           replace BK335 := (pB BK335 hb)
           replace BK336 := (pB BK336 hb)
           replace HB := (pS HB hb)
           (try clear hb)
           (try clear hk)
           refine hK.out _ _ ⟨(blk_cell BK309.out 0).trans rfl, (blk_cell BK309.out 1).trans rfl, (blk_cell BK309.out 2).trans rfl, (blk_cell BK309.out 3).trans rfl, (blk_cell BK335.out 0).trans rfl, (blk_cell BK335.out 1).trans rfl, (blk_cell BK335.out 2).trans rfl, (blk_cell BK335.out 3).trans rfl, (blk_cell BK336.out 0).trans rfl, (blk_cell BK336.out 1).trans rfl, (blk_cell BK336.out 2).trans rfl, (blk_cell BK336.out 3).trans rfl, hHe_.2.2.2.2.2.2.2.2.2.2.2.2.1, hHe_.2.2.2.2.2.2.2.2.2.2.2.2.2.1, hHe_.2.2.2.2.2.2.2.2.2.2.2.2.2.2.1, hHe_.2.2.2.2.2.2.2.2.2.2.2.2.2.2.2⟩ (fun hHeld => ?_)
           clear hK K
           refine normA (N := some 84) ?_
           refine pureA (i := 10) (some 85) HT_ (tk 33 11) ?_
           refine pureA (i := 11) (some 86) HT_ (tk 33 12) ?_
           refine pureA (i := 12) (some 87) HT_ (tk 33 13) ?_
           refine takeA (i := 13) (some 88) HT_ HW_ (tk 33 14) hHeld ?_
           refine one_ (i := 14) (N := some 89) (tk 33 15) rfl rfl (one_of HT_.out (by kernel_rfl)) (by decide) (fun K hK => ?_)
           refine goesR Tryz.func42 #[.int .u64 176160768, .int .i64 9] ?_
           with_reducible refine (ddilaw03_four.calls 176160768 9 t360 t361 t362 t363 _ A52.out).mono ?_
           rintro e w61 ⟨rfl, hb⟩
           have hHe_ := pH hb hHeld
           refine ⟨_, rfl, ?_⟩
           replace HO_10 := Aside0.mk (Kd.R_below (by (with_reducible repeat (first | apply Kd.R_alloc | apply Kd.R_drewN | apply Kd.R_drew)); exact HO_10.out) hb)
           replace BK309 := (pB BK309 hb)
           replace BK315 := (pB BK315 hb)
           replace BK335 := (pB BK335 hb)
           replace BK336 := (pB BK336 hb)
           replace HB := (pS HB hb)
           (try clear hb)
           (try clear hk)
           obtain ⟨Ao62, co62, eo62⟩ := Kd.R_slice HO_10.out
           (first | subst eo62 | (injection eo62 with f1_ f2_ f3_; have f4_ := f1_.symm; have f5_ := f3_.symm; clear f1_ f2_ f3_; subst f4_; subst f5_))
           refine hK.out _ _ ⟨(blk_cell BK309.out 0).trans rfl, (blk_cell BK309.out 1).trans rfl, (blk_cell BK309.out 2).trans rfl, (blk_cell BK309.out 3).trans rfl, (blk_cell BK335.out 0).trans rfl, (blk_cell BK335.out 1).trans rfl, (blk_cell BK335.out 2).trans rfl, (blk_cell BK335.out 3).trans rfl, (blk_cell BK336.out 0).trans rfl, (blk_cell BK336.out 1).trans rfl, (blk_cell BK336.out 2).trans rfl, (blk_cell BK336.out 3).trans rfl, hHe_.2.2.2.2.2.2.2.2.2.2.2.2.1, hHe_.2.2.2.2.2.2.2.2.2.2.2.2.2.1, hHe_.2.2.2.2.2.2.2.2.2.2.2.2.2.2.1, hHe_.2.2.2.2.2.2.2.2.2.2.2.2.2.2.2⟩ (fun hHeld => ?_)
           clear hK K
           refine normA (N := some 89) ?_
           refine pureA (i := 15) (some 90) HT_ (tk 33 16) ?_
           refine pureA (i := 16) (some 91) HT_ (tk 33 17) ?_
           refine pureA (i := 17) (some 92) HT_ (tk 33 18) ?_
           refine pureA (i := 18) (some 93) HT_ (tk 33 19) ?_
           refine pureA (i := 19) (some 94) HT_ (tk 33 20) ?_
           refine takeA (i := 20) (some 95) HT_ HW_ (tk 33 21) hHeld ?_
           refine one_ (i := 21) (N := some 96) (tk 33 22) rfl rfl (one_of HT_.out (by kernel_rfl)) (by decide) (fun K hK => ?_)
           refine goesR Tryz.func42 #[.int .u64 167772162, .int .i64 31] ?_
           with_reducible refine (ddilaw03_four.calls 167772162 31 t365 t366 t367 t368 _ A55.out).mono ?_
           rintro e w63 ⟨rfl, hb⟩
           have hHe_ := pH hb hHeld
           refine ⟨_, rfl, ?_⟩
           replace HO_10 := Aside0.mk (Kd.R_below (by (with_reducible repeat (first | apply Kd.R_alloc | apply Kd.R_drewN | apply Kd.R_drew)); exact HO_10.out) hb)
           replace BK309 := (pB BK309 hb)
           replace BK315 := (pB BK315 hb)
           replace BK335 := (pB BK335 hb)
           replace BK336 := (pB BK336 hb)
           replace HB := (pS HB hb)
           (try clear hb)
           (try clear hk)
           refine hK.out _ _ ⟨(blk_cell BK309.out 0).trans rfl, (blk_cell BK309.out 1).trans rfl, (blk_cell BK309.out 2).trans rfl, (blk_cell BK309.out 3).trans rfl, (blk_cell BK335.out 0).trans rfl, (blk_cell BK335.out 1).trans rfl, (blk_cell BK335.out 2).trans rfl, (blk_cell BK335.out 3).trans rfl, (blk_cell BK336.out 0).trans rfl, (blk_cell BK336.out 1).trans rfl, (blk_cell BK336.out 2).trans rfl, (blk_cell BK336.out 3).trans rfl, hHe_.2.2.2.2.2.2.2.2.2.2.2.2.1, hHe_.2.2.2.2.2.2.2.2.2.2.2.2.2.1, hHe_.2.2.2.2.2.2.2.2.2.2.2.2.2.2.1, hHe_.2.2.2.2.2.2.2.2.2.2.2.2.2.2.2⟩ (fun hHeld => ?_)
           clear hK K
           refine normA (N := some 96) ?_
           refine pureA (i := 22) (some 97) HT_ (tk 33 23) ?_
           refine pureA (i := 23) (some 98) HT_ (tk 33 24) ?_
           refine pureA (i := 24) (some 99) HT_ (tk 33 25) ?_
           refine pureA (i := 25) (some 100) HT_ (tk 33 26) ?_
           refine pureA (i := 26) (some 101) HT_ (tk 33 27) ?_
           refine pureA (i := 27) (some 102) HT_ (tk 33 28) ?_
           refine pureA (i := 28) (some 103) HT_ (tk 33 29) ?_
           refine pureA (i := 29) (some 104) HT_ (tk 33 30) ?_
           refine pureA (i := 30) (some 105) HT_ (tk 33 31) ?_
           refine pureA (i := 31) (some 106) HT_ (tk 33 32) ?_
           refine pureA (i := 32) (some 0) HT_ (tk 33 33) ?_
           refine done_ (done_of HT_.out (by kernel_rfl)) ?_
           try go_wp2_with (first | ((with_reducible refine gate_dst (N := 36) rfl ?_); refine Ext.wpList_buildC ?hgd 33 _ ?ho ?hb ?_; (case hgd => rfl); (case ho => rfl); (case hb => ((try go_simp); exact hbl36 _ _ _ _ _ _))))
           go_ret
           exact pR (pE HB)
          ·
           rw [if_neg c57] at H
           have c57b0 : (t344.toList == ([50, 46, 49, 48, 46, 105, 110, 45, 97, 100, 100, 114, 46, 97, 114, 112, 97, 46] : List UInt8)) = false := beq_eq_false_iff_ne.mpr c57
           have c57b1 : (t344.toList != ([50, 46, 49, 48, 46, 105, 110, 45, 97, 100, 100, 114, 46, 97, 114, 112, 97, 46] : List UInt8)) = true := bne_iff_ne.mpr c57
           exact absurd H (by simp)
         ·
          rw [if_neg c56] at H
          have c56b0 : ((((rd_T26 t337 1).f0.f0) == t365 && (((rd_T26 t337 1).f0.f1) == t366 && (((rd_T26 t337 1).f0.f2) == t367))) && (((rd_T26 t337 1).f1) == t368)) = false := by simpa using c56
          clear c56
          exact absurd H (by simp)
        ·
         rw [if_neg c54] at H
         exact absurd H (by simp)
       ·
        rw [if_neg c53] at H
        have c53b0 : ((t330 == t360 && (t331 == t361 && (t332 == t362))) && (t333 == t363)) = false := by simpa using c53
        clear c53
        exact absurd H (by simp)
      ·
       rw [if_neg c51] at H
       have c51b0 : ((t326 == t356 && (t327 == t357 && (t328 == t358))) && (t329 == t359)) = false := by simpa using c51
       clear c51
       exact absurd H (by simp)
     ·
      rw [if_neg c49] at H
      have c49b0 : (t320.toList == ([49, 48, 46, 48, 46, 48, 46, 52, 47, 51, 48] : List UInt8)) = false := beq_eq_false_iff_ne.mpr c49
      have c49b1 : (t320.toList != ([49, 48, 46, 48, 46, 48, 46, 52, 47, 51, 48] : List UInt8)) = true := bne_iff_ne.mpr c49
      exact absurd H (by simp)
    ·
     rw [if_neg c48] at H
     have c48b0 : ((t304 == t352 && (t305 == t353 && (t306 == t354))) && (t307 == t355)) = false := by simpa using c48
     clear c48
     exact absurd H (by simp)
end Go.Proofs.YteflcmmandlknaaGreatDoor.PA
