/- The Go functions in Lean, with the proofs that the code comes to these answers: printed by this session's program (wip/px) out of the seat's translation. Conditions: each theorem's own. -/
import Derived.Test.YteflcmmandlknaaDoorPAx0
import Derived.Test.YteflcmmandlknaaDoorPAx2
import Derived.Test.YteflcmmandlknaaDoorPAx5
import Derived.Test.YteflcmmandlknaaDoorPAx8
import Derived.Test.YteflcmmandlknaaDoorPAx10
import Derived.Test.YteflcmmandlknaaDoorPAx11
import Derived.Test.YteflcmmandlknaaDoorPAx12
namespace Go.Proofs.YteflcmmandlknaaDoor.PA
open Go.RowKit Go.Proofs.YteflcmmandlknaaDoorW.PrintWords Go.Proofs.YteflcmmandlknaaDoorW.PrintLast Go.Proofs.YteflcmmandlknaaDoorW.PrintMore
attribute [local go_sem] max2_int min2_int max_two min_two max_three min_three max_four min_four   -- for this text's walks alone
attribute [local go_sem ↓] Ext.isSome_setCell
open Press
set_option linter.unusedVariables false
set_option linter.unusedSimpArgs false

attribute [local go_sem high] eqA26
/-! ### ddilaw03_awake: function 11 -/
def ddilaw03_awake.j0 : Nat → ByteArray → List (S26) → ByteArray → Int → Bool → Bool → Int → Int → Int → Bool → Int → Int → Int → Bool → Int → Int → Int → Option (Bool)
 | 0, _, _, _, _, _, _, _, _, _, _, _, _, _, _, _, _, _ => none
 | k + 1, x5, x10, x11, x13, x74, x285000, x285001, x285002, x285003, x311000, x311001, x311002, x311003, x312000, x312001, x312002, x312003 => if x74 = true then (none) else ((ddilaw03_four.f 167772160 8).bind fun bt327 => (if ((x285000 == bt327.1 && (x285001 == bt327.2.1 && (x285002 == bt327.2.2.1))) && (x285003 == bt327.2.2.2)) = true then (if x5.toList = ([49, 48, 46, 48, 46, 48, 46, 52, 47, 51, 48] : List UInt8) then ((ddilaw03_four.f 167772160 9).bind fun bt331 => (if ((x311000 == bt331.1 && (x311001 == bt331.2.1 && (x311002 == bt331.2.2.1))) && (x311003 == bt331.2.2.2)) = true then ((ddilaw03_four.f 176160768 9).bind fun bt335 => (if ((x312000 == bt335.1 && (x312001 == bt335.2.1 && (x312002 == bt335.2.2.1))) && (x312003 == bt335.2.2.2)) = true then (if 1 < (x10.length : Int) then ((ddilaw03_four.f 167772162 31).bind fun bt340 => (if ((((rd_T26 x10 1).f0.f0) == bt340.1 && (((rd_T26 x10 1).f0.f1) == bt340.2.1 && (((rd_T26 x10 1).f0.f2) == bt340.2.2.1))) && (((rd_T26 x10 1).f1) == bt340.2.2.2)) = true then (if x11.toList = ([50, 46, 49, 48, 46, 105, 110, 45, 97, 100, 100, 114, 46, 97, 114, 112, 97, 46] : List UInt8) then (some (x13 == 4)) else (none)) else (none))) else (none)) else (none))) else (none))) else (none)) else (none)))
def ddilaw03_awake.f (k : Nat)  : Option (Bool) := (prefix_Parse.f k (⟨#[49, 48, 46, 48, 46, 48, 46, 48, 47, 56]⟩ : ByteArray)).bind fun bt279 => ((prefix_Parse.f k (⟨#[49, 48, 46, 48, 46, 48, 46, 49, 47, 56]⟩ : ByteArray)).bind fun bt285 => ((ddilaw03_four.f 167772164 30).bind fun bt291 => ((prefix_Print.f k bt291.1 bt291.2.1 bt291.2.2.1 bt291.2.2.2).bind fun bt295 => ((ddilaw03_four.f 167772160 8).bind fun bt297 => ((prefix_Halves.f k bt297.1 bt297.2.1 bt297.2.2.1 bt297.2.2.2).bind fun bt301 => ((prefix_Cover.f k false 0 167772161 false 0 167772164).bind fun t312 => ((ddilaw03_four.f 167903232 16).bind fun bt315 => ((prefix_Zone.f k bt315.1 bt315.2.1 bt315.2.2.1 bt315.2.2.2).bind fun bt319 => ((ddilaw03_four.f 167772164 30).bind fun bt321 => ((prefix_Size.f bt321.1 bt321.2.1 bt321.2.2.1 bt321.2.2.2).bind fun bt325 => (if bt279.2.2.2.2 = 0 then (if bt285.2.2.2.2 = 3 then (if bt295.2 = 0 then (if bt301.2.2.2.2.2.2.2.2 = true then (if bt319.2 = true then (if bt325.2 = true then (ddilaw03_awake.j0 k bt295.1 t312 bt319.1 bt325.1 ((t312.length : Int) != 3) bt279.1 bt279.2.1 bt279.2.2.1 bt279.2.2.2.1 bt301.1 bt301.2.1 bt301.2.2.1 bt301.2.2.2.1 bt301.2.2.2.2.1 bt301.2.2.2.2.2.1 bt301.2.2.2.2.2.2.1 bt301.2.2.2.2.2.2.2.1) else (ddilaw03_awake.j0 k bt295.1 t312 bt319.1 bt325.1 true bt279.1 bt279.2.1 bt279.2.2.1 bt279.2.2.2.1 bt301.1 bt301.2.1 bt301.2.2.1 bt301.2.2.2.1 bt301.2.2.2.2.1 bt301.2.2.2.2.2.1 bt301.2.2.2.2.2.2.1 bt301.2.2.2.2.2.2.2.1)) else (ddilaw03_awake.j0 k bt295.1 t312 bt319.1 bt325.1 true bt279.1 bt279.2.1 bt279.2.2.1 bt279.2.2.2.1 bt301.1 bt301.2.1 bt301.2.2.1 bt301.2.2.2.1 bt301.2.2.2.2.1 bt301.2.2.2.2.2.1 bt301.2.2.2.2.2.2.1 bt301.2.2.2.2.2.2.2.1)) else (ddilaw03_awake.j0 k bt295.1 t312 bt319.1 bt325.1 true bt279.1 bt279.2.1 bt279.2.2.1 bt279.2.2.2.1 bt301.1 bt301.2.1 bt301.2.2.1 bt301.2.2.2.1 bt301.2.2.2.2.1 bt301.2.2.2.2.2.1 bt301.2.2.2.2.2.2.1 bt301.2.2.2.2.2.2.2.1)) else (ddilaw03_awake.j0 k bt295.1 t312 bt319.1 bt325.1 true bt279.1 bt279.2.1 bt279.2.2.1 bt279.2.2.2.1 bt301.1 bt301.2.1 bt301.2.2.1 bt301.2.2.2.1 bt301.2.2.2.2.1 bt301.2.2.2.2.2.1 bt301.2.2.2.2.2.2.1 bt301.2.2.2.2.2.2.2.1)) else (ddilaw03_awake.j0 k bt295.1 t312 bt319.1 bt325.1 true bt279.1 bt279.2.1 bt279.2.2.1 bt279.2.2.2.1 bt301.1 bt301.2.1 bt301.2.2.1 bt301.2.2.2.1 bt301.2.2.2.2.1 bt301.2.2.2.2.2.1 bt301.2.2.2.2.2.2.1 bt301.2.2.2.2.2.2.2.1)) else (ddilaw03_awake.j0 k bt295.1 t312 bt319.1 bt325.1 true bt279.1 bt279.2.1 bt279.2.2.1 bt279.2.2.2.1 bt301.1 bt301.2.1 bt301.2.2.1 bt301.2.2.2.1 bt301.2.2.2.2.1 bt301.2.2.2.2.2.1 bt301.2.2.2.2.2.2.1 bt301.2.2.2.2.2.2.2.1))))))))))))
theorem ddilaw03_awake.mono_l : ∀ k, (∀ y0 y1 y2 y3 y4 y5 y6 y7 y8 y9 y10 y11 y12 y13 y14 y15 y16, LeO (ddilaw03_awake.j0 k y0 y1 y2 y3 y4 y5 y6 y7 y8 y9 y10 y11 y12 y13 y14 y15 y16) (ddilaw03_awake.j0 (k + 1) y0 y1 y2 y3 y4 y5 y6 y7 y8 y9 y10 y11 y12 y13 y14 y15 y16))
 | 0 => fun _ _ _ _ _ _ _ _ _ _ _ _ _ _ _ _ _ r h => by simp [ddilaw03_awake.j0] at h
 | k + 1 => by
  have ih0 := ddilaw03_awake.mono_l k
  ·
   intro y0 y1 y2 y3 y4 y5 y6 y7 y8 y9 y10 y11 y12 y13 y14 y15 y16
   unfold ddilaw03_awake.j0
   repeat' first
   | (with_reducible exact ih0 _ _ _ _ _ _ _ _ _ _ _ _ _ _ _ _ _)
   | (with_reducible exact prefix_Cover.mono _ _ _ _ _ _ _)
   | (with_reducible exact prefix_Halves.mono _ _ _ _ _)
   | (with_reducible exact prefix_Parse.mono _ _)
   | (with_reducible exact prefix_Print.mono _ _ _ _ _)
   | (with_reducible exact prefix_Zone.mono _ _ _ _ _)
   | (with_reducible exact LeO.refl _)
   | (with_reducible exact LeO.none _)
   | (with_reducible refine LeO.ite ?_ ?_)
   | (with_reducible refine LeO.bind ?_ (fun _ => ?_))
   | exact ih0 _ _ _ _ _ _ _ _ _ _ _ _ _ _ _ _ _
   | exact prefix_Cover.mono _ _ _ _ _ _ _
   | exact prefix_Halves.mono _ _ _ _ _
   | exact prefix_Parse.mono _ _
   | exact prefix_Print.mono _ _ _ _ _
   | exact prefix_Zone.mono _ _ _ _ _
   | exact LeO.none _
   | refine LeO.ite ?_ ?_
   | refine LeO.bind ?_ (fun _ => ?_)
theorem ddilaw03_awake.mono : ∀ k, LeO (ddilaw03_awake.f k ) (ddilaw03_awake.f (k + 1) ) := by
 intro  k
 have ih0 := ddilaw03_awake.mono_l k
 unfold ddilaw03_awake.f
 repeat' first
  | (with_reducible exact ih0 _ _ _ _ _ _ _ _ _ _ _ _ _ _ _ _ _)
  | (with_reducible exact prefix_Cover.mono _ _ _ _ _ _ _)
  | (with_reducible exact prefix_Halves.mono _ _ _ _ _)
  | (with_reducible exact prefix_Parse.mono _ _)
  | (with_reducible exact prefix_Print.mono _ _ _ _ _)
  | (with_reducible exact prefix_Zone.mono _ _ _ _ _)
  | (with_reducible exact LeO.refl _)
  | (with_reducible exact LeO.none _)
  | (with_reducible refine LeO.ite ?_ ?_)
  | (with_reducible refine LeO.bind ?_ (fun _ => ?_))
  | exact ih0 _ _ _ _ _ _ _ _ _ _ _ _ _ _ _ _ _
  | exact prefix_Cover.mono _ _ _ _ _ _ _
  | exact prefix_Halves.mono _ _ _ _ _
  | exact prefix_Parse.mono _ _
  | exact prefix_Print.mono _ _ _ _ _
  | exact prefix_Zone.mono _ _ _ _ _
  | exact LeO.none _
  | refine LeO.ite ?_ ?_
  | refine LeO.bind ?_ (fun _ => ?_)
def ddilaw03_awake.T10 : Bool × List (List Nat × List Nat) := (true, [([], []), ([], []), ([0, 1], [0, 1]), ([2, 1], [2]), ([3], [3]), ([4, 3], [3, 4]), ([3, 5], [3, 5]), ([6, 3], [6]), ([7], [7]), ([7, 7], [7]), ([8, 9, 7], [7, 8, 9]), ([7, 10], [7, 10]), ([11, 9], [11]), ([12], [12]), ([12, 12], [12]), ([13, 14, 12], [12, 13, 14]), ([12, 15], [12, 15]), ([16, 14], [16]), ([17], [17]), ([18, 17], [17, 18]), ([19, 17], [17, 19]), ([17, 17], [17]), ([20, 21, 17], [17, 20, 21]), ([17, 22], [17, 22]), ([23, 21], [23]), ([24], [24]), ([25, 24], [24, 25]), ([24, 26], [24, 26]), ([27, 24], [27]), ([28], [28]), ([29, 28], [28, 29]), ([28, 30], [28, 30]), ([31, 28, 0, 1, 2, 3, 4, 5, 6, 7, 8, 9, 10, 11, 12, 13, 14, 15, 16, 17, 18, 19, 20, 21, 22, 23, 24, 25, 26, 27, 28, 29, 30, 31], [31])])
def ddilaw03_awake.B10 : List Nat := [0, 0, 3, 7, 15, 31, 63, 127, 255, 255, 1023, 2047, 4095, 8191, 8191, 32767, 65535, 131071, 262143, 524287, 1048575, 262143, 4194303, 8388607, 16777215, 33554431, 67108863, 134217727, 268435455, 536870911, 1073741823, 2147483647, 4294967295]
theorem ddilaw03_awake.tab10 : rtab .any (opsOf Tryd.f11 10) = ddilaw03_awake.T10 := by kernel_rfl
theorem ddilaw03_awake.bits10 : waitsOk ddilaw03_awake.T10.2 ddilaw03_awake.B10 = true := by kernel_rfl
set_option maxHeartbeats 40000000 in
set_option maxRecDepth 100000 in
theorem ddilaw03_awake.calls (k : Nat)  (r : Bool) (w : World) (hLD : Laid w) (h : ddilaw03_awake.f k  = some r) :
 Calls Tryd.prog 11 #[] w fun e w' => e = .returned (.bool r) ∧ Below w.heap.size w w' := by
 have hbl36 : ∀ (x1_ : Bool) (x2_ : Int) (x3_ : Int) (x4_ : Bool) (x5_ : Int) (x6_ : Int), Tryd.prog.built 36 [(0, (.agg #[(.bool x1_), (.int .u64 x2_), (.int .u64 x3_)])), (1, (.agg #[(.bool x4_), (.int .u64 x5_), (.int .u64 x6_)]))] = some #[(.bool x1_), (.int .u64 x2_), (.int .u64 x3_), (.bool x4_), (.int .u64 x5_), (.int .u64 x6_)] := by intros; kernel_rfl
 have hu26 := Tryd.underlying26
 have hu24 := Tryd.underlying24
 have hu36 := Tryd.underlying36
 have HLD := Aside0.mk hLD
 clear hLD
 have HB := Aside0.mk (Below.refl w.heap.size w)
 have H : ((prefix_Parse.f k (⟨#[49, 48, 46, 48, 46, 48, 46, 48, 47, 56]⟩ : ByteArray)).bind fun bt279 => ((prefix_Parse.f k (⟨#[49, 48, 46, 48, 46, 48, 46, 49, 47, 56]⟩ : ByteArray)).bind fun bt285 => ((ddilaw03_four.f 167772164 30).bind fun bt291 => ((prefix_Print.f k bt291.1 bt291.2.1 bt291.2.2.1 bt291.2.2.2).bind fun bt295 => ((ddilaw03_four.f 167772160 8).bind fun bt297 => ((prefix_Halves.f k bt297.1 bt297.2.1 bt297.2.2.1 bt297.2.2.2).bind fun bt301 => ((prefix_Cover.f k false 0 167772161 false 0 167772164).bind fun t312 => ((ddilaw03_four.f 167903232 16).bind fun bt315 => ((prefix_Zone.f k bt315.1 bt315.2.1 bt315.2.2.1 bt315.2.2.2).bind fun bt319 => ((ddilaw03_four.f 167772164 30).bind fun bt321 => ((prefix_Size.f bt321.1 bt321.2.1 bt321.2.2.1 bt321.2.2.2).bind fun bt325 => (if bt279.2.2.2.2 = 0 then (if bt285.2.2.2.2 = 3 then (if bt295.2 = 0 then (if bt301.2.2.2.2.2.2.2.2 = true then (if bt319.2 = true then (if bt325.2 = true then (ddilaw03_awake.j0 k bt295.1 t312 bt319.1 bt325.1 ((t312.length : Int) != 3) bt279.1 bt279.2.1 bt279.2.2.1 bt279.2.2.2.1 bt301.1 bt301.2.1 bt301.2.2.1 bt301.2.2.2.1 bt301.2.2.2.2.1 bt301.2.2.2.2.2.1 bt301.2.2.2.2.2.2.1 bt301.2.2.2.2.2.2.2.1) else (ddilaw03_awake.j0 k bt295.1 t312 bt319.1 bt325.1 true bt279.1 bt279.2.1 bt279.2.2.1 bt279.2.2.2.1 bt301.1 bt301.2.1 bt301.2.2.1 bt301.2.2.2.1 bt301.2.2.2.2.1 bt301.2.2.2.2.2.1 bt301.2.2.2.2.2.2.1 bt301.2.2.2.2.2.2.2.1)) else (ddilaw03_awake.j0 k bt295.1 t312 bt319.1 bt325.1 true bt279.1 bt279.2.1 bt279.2.2.1 bt279.2.2.2.1 bt301.1 bt301.2.1 bt301.2.2.1 bt301.2.2.2.1 bt301.2.2.2.2.1 bt301.2.2.2.2.2.1 bt301.2.2.2.2.2.2.1 bt301.2.2.2.2.2.2.2.1)) else (ddilaw03_awake.j0 k bt295.1 t312 bt319.1 bt325.1 true bt279.1 bt279.2.1 bt279.2.2.1 bt279.2.2.2.1 bt301.1 bt301.2.1 bt301.2.2.1 bt301.2.2.2.1 bt301.2.2.2.2.1 bt301.2.2.2.2.2.1 bt301.2.2.2.2.2.2.1 bt301.2.2.2.2.2.2.2.1)) else (ddilaw03_awake.j0 k bt295.1 t312 bt319.1 bt325.1 true bt279.1 bt279.2.1 bt279.2.2.1 bt279.2.2.2.1 bt301.1 bt301.2.1 bt301.2.2.1 bt301.2.2.2.1 bt301.2.2.2.2.1 bt301.2.2.2.2.2.1 bt301.2.2.2.2.2.2.1 bt301.2.2.2.2.2.2.2.1)) else (ddilaw03_awake.j0 k bt295.1 t312 bt319.1 bt325.1 true bt279.1 bt279.2.1 bt279.2.2.1 bt279.2.2.2.1 bt301.1 bt301.2.1 bt301.2.2.1 bt301.2.2.2.1 bt301.2.2.2.2.1 bt301.2.2.2.2.2.1 bt301.2.2.2.2.2.2.1 bt301.2.2.2.2.2.2.2.1)) else (ddilaw03_awake.j0 k bt295.1 t312 bt319.1 bt325.1 true bt279.1 bt279.2.1 bt279.2.2.1 bt279.2.2.2.1 bt301.1 bt301.2.1 bt301.2.2.1 bt301.2.2.2.1 bt301.2.2.2.2.1 bt301.2.2.2.2.2.1 bt301.2.2.2.2.2.2.1 bt301.2.2.2.2.2.2.2.1))))))))))))) = some r := h
 clear h
 replace H := Option.bind_eq_some_iff.mp H
 obtain ⟨⟨t279, t280, t281, t282, t283⟩, A10, H⟩ := H
 replace H : ((prefix_Parse.f k (⟨#[49, 48, 46, 48, 46, 48, 46, 49, 47, 56]⟩ : ByteArray)).bind fun bt285 => ((ddilaw03_four.f 167772164 30).bind fun bt291 => ((prefix_Print.f k bt291.1 bt291.2.1 bt291.2.2.1 bt291.2.2.2).bind fun bt295 => ((ddilaw03_four.f 167772160 8).bind fun bt297 => ((prefix_Halves.f k bt297.1 bt297.2.1 bt297.2.2.1 bt297.2.2.2).bind fun bt301 => ((prefix_Cover.f k false 0 167772161 false 0 167772164).bind fun t312 => ((ddilaw03_four.f 167903232 16).bind fun bt315 => ((prefix_Zone.f k bt315.1 bt315.2.1 bt315.2.2.1 bt315.2.2.2).bind fun bt319 => ((ddilaw03_four.f 167772164 30).bind fun bt321 => ((prefix_Size.f bt321.1 bt321.2.1 bt321.2.2.1 bt321.2.2.2).bind fun bt325 => (if t283 = 0 then (if bt285.2.2.2.2 = 3 then (if bt295.2 = 0 then (if bt301.2.2.2.2.2.2.2.2 = true then (if bt319.2 = true then (if bt325.2 = true then (ddilaw03_awake.j0 k bt295.1 t312 bt319.1 bt325.1 ((t312.length : Int) != 3) t279 t280 t281 t282 bt301.1 bt301.2.1 bt301.2.2.1 bt301.2.2.2.1 bt301.2.2.2.2.1 bt301.2.2.2.2.2.1 bt301.2.2.2.2.2.2.1 bt301.2.2.2.2.2.2.2.1) else (ddilaw03_awake.j0 k bt295.1 t312 bt319.1 bt325.1 true t279 t280 t281 t282 bt301.1 bt301.2.1 bt301.2.2.1 bt301.2.2.2.1 bt301.2.2.2.2.1 bt301.2.2.2.2.2.1 bt301.2.2.2.2.2.2.1 bt301.2.2.2.2.2.2.2.1)) else (ddilaw03_awake.j0 k bt295.1 t312 bt319.1 bt325.1 true t279 t280 t281 t282 bt301.1 bt301.2.1 bt301.2.2.1 bt301.2.2.2.1 bt301.2.2.2.2.1 bt301.2.2.2.2.2.1 bt301.2.2.2.2.2.2.1 bt301.2.2.2.2.2.2.2.1)) else (ddilaw03_awake.j0 k bt295.1 t312 bt319.1 bt325.1 true t279 t280 t281 t282 bt301.1 bt301.2.1 bt301.2.2.1 bt301.2.2.2.1 bt301.2.2.2.2.1 bt301.2.2.2.2.2.1 bt301.2.2.2.2.2.2.1 bt301.2.2.2.2.2.2.2.1)) else (ddilaw03_awake.j0 k bt295.1 t312 bt319.1 bt325.1 true t279 t280 t281 t282 bt301.1 bt301.2.1 bt301.2.2.1 bt301.2.2.2.1 bt301.2.2.2.2.1 bt301.2.2.2.2.2.1 bt301.2.2.2.2.2.2.1 bt301.2.2.2.2.2.2.2.1)) else (ddilaw03_awake.j0 k bt295.1 t312 bt319.1 bt325.1 true t279 t280 t281 t282 bt301.1 bt301.2.1 bt301.2.2.1 bt301.2.2.2.1 bt301.2.2.2.2.1 bt301.2.2.2.2.2.1 bt301.2.2.2.2.2.2.1 bt301.2.2.2.2.2.2.2.1)) else (ddilaw03_awake.j0 k bt295.1 t312 bt319.1 bt325.1 true t279 t280 t281 t282 bt301.1 bt301.2.1 bt301.2.2.1 bt301.2.2.2.1 bt301.2.2.2.2.1 bt301.2.2.2.2.2.1 bt301.2.2.2.2.2.2.1 bt301.2.2.2.2.2.2.2.1)))))))))))) = some r := H
 have A1 := Aside0.mk A10
 clear A10
 replace H := Option.bind_eq_some_iff.mp H
 obtain ⟨⟨t285, t286, t287, t288, t289⟩, A20, H⟩ := H
 replace H : ((ddilaw03_four.f 167772164 30).bind fun bt291 => ((prefix_Print.f k bt291.1 bt291.2.1 bt291.2.2.1 bt291.2.2.2).bind fun bt295 => ((ddilaw03_four.f 167772160 8).bind fun bt297 => ((prefix_Halves.f k bt297.1 bt297.2.1 bt297.2.2.1 bt297.2.2.2).bind fun bt301 => ((prefix_Cover.f k false 0 167772161 false 0 167772164).bind fun t312 => ((ddilaw03_four.f 167903232 16).bind fun bt315 => ((prefix_Zone.f k bt315.1 bt315.2.1 bt315.2.2.1 bt315.2.2.2).bind fun bt319 => ((ddilaw03_four.f 167772164 30).bind fun bt321 => ((prefix_Size.f bt321.1 bt321.2.1 bt321.2.2.1 bt321.2.2.2).bind fun bt325 => (if t283 = 0 then (if t289 = 3 then (if bt295.2 = 0 then (if bt301.2.2.2.2.2.2.2.2 = true then (if bt319.2 = true then (if bt325.2 = true then (ddilaw03_awake.j0 k bt295.1 t312 bt319.1 bt325.1 ((t312.length : Int) != 3) t279 t280 t281 t282 bt301.1 bt301.2.1 bt301.2.2.1 bt301.2.2.2.1 bt301.2.2.2.2.1 bt301.2.2.2.2.2.1 bt301.2.2.2.2.2.2.1 bt301.2.2.2.2.2.2.2.1) else (ddilaw03_awake.j0 k bt295.1 t312 bt319.1 bt325.1 true t279 t280 t281 t282 bt301.1 bt301.2.1 bt301.2.2.1 bt301.2.2.2.1 bt301.2.2.2.2.1 bt301.2.2.2.2.2.1 bt301.2.2.2.2.2.2.1 bt301.2.2.2.2.2.2.2.1)) else (ddilaw03_awake.j0 k bt295.1 t312 bt319.1 bt325.1 true t279 t280 t281 t282 bt301.1 bt301.2.1 bt301.2.2.1 bt301.2.2.2.1 bt301.2.2.2.2.1 bt301.2.2.2.2.2.1 bt301.2.2.2.2.2.2.1 bt301.2.2.2.2.2.2.2.1)) else (ddilaw03_awake.j0 k bt295.1 t312 bt319.1 bt325.1 true t279 t280 t281 t282 bt301.1 bt301.2.1 bt301.2.2.1 bt301.2.2.2.1 bt301.2.2.2.2.1 bt301.2.2.2.2.2.1 bt301.2.2.2.2.2.2.1 bt301.2.2.2.2.2.2.2.1)) else (ddilaw03_awake.j0 k bt295.1 t312 bt319.1 bt325.1 true t279 t280 t281 t282 bt301.1 bt301.2.1 bt301.2.2.1 bt301.2.2.2.1 bt301.2.2.2.2.1 bt301.2.2.2.2.2.1 bt301.2.2.2.2.2.2.1 bt301.2.2.2.2.2.2.2.1)) else (ddilaw03_awake.j0 k bt295.1 t312 bt319.1 bt325.1 true t279 t280 t281 t282 bt301.1 bt301.2.1 bt301.2.2.1 bt301.2.2.2.1 bt301.2.2.2.2.1 bt301.2.2.2.2.2.1 bt301.2.2.2.2.2.2.1 bt301.2.2.2.2.2.2.2.1)) else (ddilaw03_awake.j0 k bt295.1 t312 bt319.1 bt325.1 true t279 t280 t281 t282 bt301.1 bt301.2.1 bt301.2.2.1 bt301.2.2.2.1 bt301.2.2.2.2.1 bt301.2.2.2.2.2.1 bt301.2.2.2.2.2.2.1 bt301.2.2.2.2.2.2.2.1))))))))))) = some r := H
 have A2 := Aside0.mk A20
 clear A20
 replace H := Option.bind_eq_some_iff.mp H
 obtain ⟨⟨t291, t292, t293, t294⟩, A30, H⟩ := H
 replace H : ((prefix_Print.f k t291 t292 t293 t294).bind fun bt295 => ((ddilaw03_four.f 167772160 8).bind fun bt297 => ((prefix_Halves.f k bt297.1 bt297.2.1 bt297.2.2.1 bt297.2.2.2).bind fun bt301 => ((prefix_Cover.f k false 0 167772161 false 0 167772164).bind fun t312 => ((ddilaw03_four.f 167903232 16).bind fun bt315 => ((prefix_Zone.f k bt315.1 bt315.2.1 bt315.2.2.1 bt315.2.2.2).bind fun bt319 => ((ddilaw03_four.f 167772164 30).bind fun bt321 => ((prefix_Size.f bt321.1 bt321.2.1 bt321.2.2.1 bt321.2.2.2).bind fun bt325 => (if t283 = 0 then (if t289 = 3 then (if bt295.2 = 0 then (if bt301.2.2.2.2.2.2.2.2 = true then (if bt319.2 = true then (if bt325.2 = true then (ddilaw03_awake.j0 k bt295.1 t312 bt319.1 bt325.1 ((t312.length : Int) != 3) t279 t280 t281 t282 bt301.1 bt301.2.1 bt301.2.2.1 bt301.2.2.2.1 bt301.2.2.2.2.1 bt301.2.2.2.2.2.1 bt301.2.2.2.2.2.2.1 bt301.2.2.2.2.2.2.2.1) else (ddilaw03_awake.j0 k bt295.1 t312 bt319.1 bt325.1 true t279 t280 t281 t282 bt301.1 bt301.2.1 bt301.2.2.1 bt301.2.2.2.1 bt301.2.2.2.2.1 bt301.2.2.2.2.2.1 bt301.2.2.2.2.2.2.1 bt301.2.2.2.2.2.2.2.1)) else (ddilaw03_awake.j0 k bt295.1 t312 bt319.1 bt325.1 true t279 t280 t281 t282 bt301.1 bt301.2.1 bt301.2.2.1 bt301.2.2.2.1 bt301.2.2.2.2.1 bt301.2.2.2.2.2.1 bt301.2.2.2.2.2.2.1 bt301.2.2.2.2.2.2.2.1)) else (ddilaw03_awake.j0 k bt295.1 t312 bt319.1 bt325.1 true t279 t280 t281 t282 bt301.1 bt301.2.1 bt301.2.2.1 bt301.2.2.2.1 bt301.2.2.2.2.1 bt301.2.2.2.2.2.1 bt301.2.2.2.2.2.2.1 bt301.2.2.2.2.2.2.2.1)) else (ddilaw03_awake.j0 k bt295.1 t312 bt319.1 bt325.1 true t279 t280 t281 t282 bt301.1 bt301.2.1 bt301.2.2.1 bt301.2.2.2.1 bt301.2.2.2.2.1 bt301.2.2.2.2.2.1 bt301.2.2.2.2.2.2.1 bt301.2.2.2.2.2.2.2.1)) else (ddilaw03_awake.j0 k bt295.1 t312 bt319.1 bt325.1 true t279 t280 t281 t282 bt301.1 bt301.2.1 bt301.2.2.1 bt301.2.2.2.1 bt301.2.2.2.2.1 bt301.2.2.2.2.2.1 bt301.2.2.2.2.2.2.1 bt301.2.2.2.2.2.2.2.1)) else (ddilaw03_awake.j0 k bt295.1 t312 bt319.1 bt325.1 true t279 t280 t281 t282 bt301.1 bt301.2.1 bt301.2.2.1 bt301.2.2.2.1 bt301.2.2.2.2.1 bt301.2.2.2.2.2.1 bt301.2.2.2.2.2.2.1 bt301.2.2.2.2.2.2.2.1)))))))))) = some r := H
 have A3 := Aside0.mk A30
 clear A30
 replace H := Option.bind_eq_some_iff.mp H
 obtain ⟨⟨t295, t296⟩, A40, H⟩ := H
 replace H : ((ddilaw03_four.f 167772160 8).bind fun bt297 => ((prefix_Halves.f k bt297.1 bt297.2.1 bt297.2.2.1 bt297.2.2.2).bind fun bt301 => ((prefix_Cover.f k false 0 167772161 false 0 167772164).bind fun t312 => ((ddilaw03_four.f 167903232 16).bind fun bt315 => ((prefix_Zone.f k bt315.1 bt315.2.1 bt315.2.2.1 bt315.2.2.2).bind fun bt319 => ((ddilaw03_four.f 167772164 30).bind fun bt321 => ((prefix_Size.f bt321.1 bt321.2.1 bt321.2.2.1 bt321.2.2.2).bind fun bt325 => (if t283 = 0 then (if t289 = 3 then (if t296 = 0 then (if bt301.2.2.2.2.2.2.2.2 = true then (if bt319.2 = true then (if bt325.2 = true then (ddilaw03_awake.j0 k t295 t312 bt319.1 bt325.1 ((t312.length : Int) != 3) t279 t280 t281 t282 bt301.1 bt301.2.1 bt301.2.2.1 bt301.2.2.2.1 bt301.2.2.2.2.1 bt301.2.2.2.2.2.1 bt301.2.2.2.2.2.2.1 bt301.2.2.2.2.2.2.2.1) else (ddilaw03_awake.j0 k t295 t312 bt319.1 bt325.1 true t279 t280 t281 t282 bt301.1 bt301.2.1 bt301.2.2.1 bt301.2.2.2.1 bt301.2.2.2.2.1 bt301.2.2.2.2.2.1 bt301.2.2.2.2.2.2.1 bt301.2.2.2.2.2.2.2.1)) else (ddilaw03_awake.j0 k t295 t312 bt319.1 bt325.1 true t279 t280 t281 t282 bt301.1 bt301.2.1 bt301.2.2.1 bt301.2.2.2.1 bt301.2.2.2.2.1 bt301.2.2.2.2.2.1 bt301.2.2.2.2.2.2.1 bt301.2.2.2.2.2.2.2.1)) else (ddilaw03_awake.j0 k t295 t312 bt319.1 bt325.1 true t279 t280 t281 t282 bt301.1 bt301.2.1 bt301.2.2.1 bt301.2.2.2.1 bt301.2.2.2.2.1 bt301.2.2.2.2.2.1 bt301.2.2.2.2.2.2.1 bt301.2.2.2.2.2.2.2.1)) else (ddilaw03_awake.j0 k t295 t312 bt319.1 bt325.1 true t279 t280 t281 t282 bt301.1 bt301.2.1 bt301.2.2.1 bt301.2.2.2.1 bt301.2.2.2.2.1 bt301.2.2.2.2.2.1 bt301.2.2.2.2.2.2.1 bt301.2.2.2.2.2.2.2.1)) else (ddilaw03_awake.j0 k t295 t312 bt319.1 bt325.1 true t279 t280 t281 t282 bt301.1 bt301.2.1 bt301.2.2.1 bt301.2.2.2.1 bt301.2.2.2.2.1 bt301.2.2.2.2.2.1 bt301.2.2.2.2.2.2.1 bt301.2.2.2.2.2.2.2.1)) else (ddilaw03_awake.j0 k t295 t312 bt319.1 bt325.1 true t279 t280 t281 t282 bt301.1 bt301.2.1 bt301.2.2.1 bt301.2.2.2.1 bt301.2.2.2.2.1 bt301.2.2.2.2.2.1 bt301.2.2.2.2.2.2.1 bt301.2.2.2.2.2.2.2.1))))))))) = some r := H
 have A4 := Aside0.mk A40
 clear A40
 replace H := Option.bind_eq_some_iff.mp H
 obtain ⟨⟨t297, t298, t299, t300⟩, A50, H⟩ := H
 replace H : ((prefix_Halves.f k t297 t298 t299 t300).bind fun bt301 => ((prefix_Cover.f k false 0 167772161 false 0 167772164).bind fun t312 => ((ddilaw03_four.f 167903232 16).bind fun bt315 => ((prefix_Zone.f k bt315.1 bt315.2.1 bt315.2.2.1 bt315.2.2.2).bind fun bt319 => ((ddilaw03_four.f 167772164 30).bind fun bt321 => ((prefix_Size.f bt321.1 bt321.2.1 bt321.2.2.1 bt321.2.2.2).bind fun bt325 => (if t283 = 0 then (if t289 = 3 then (if t296 = 0 then (if bt301.2.2.2.2.2.2.2.2 = true then (if bt319.2 = true then (if bt325.2 = true then (ddilaw03_awake.j0 k t295 t312 bt319.1 bt325.1 ((t312.length : Int) != 3) t279 t280 t281 t282 bt301.1 bt301.2.1 bt301.2.2.1 bt301.2.2.2.1 bt301.2.2.2.2.1 bt301.2.2.2.2.2.1 bt301.2.2.2.2.2.2.1 bt301.2.2.2.2.2.2.2.1) else (ddilaw03_awake.j0 k t295 t312 bt319.1 bt325.1 true t279 t280 t281 t282 bt301.1 bt301.2.1 bt301.2.2.1 bt301.2.2.2.1 bt301.2.2.2.2.1 bt301.2.2.2.2.2.1 bt301.2.2.2.2.2.2.1 bt301.2.2.2.2.2.2.2.1)) else (ddilaw03_awake.j0 k t295 t312 bt319.1 bt325.1 true t279 t280 t281 t282 bt301.1 bt301.2.1 bt301.2.2.1 bt301.2.2.2.1 bt301.2.2.2.2.1 bt301.2.2.2.2.2.1 bt301.2.2.2.2.2.2.1 bt301.2.2.2.2.2.2.2.1)) else (ddilaw03_awake.j0 k t295 t312 bt319.1 bt325.1 true t279 t280 t281 t282 bt301.1 bt301.2.1 bt301.2.2.1 bt301.2.2.2.1 bt301.2.2.2.2.1 bt301.2.2.2.2.2.1 bt301.2.2.2.2.2.2.1 bt301.2.2.2.2.2.2.2.1)) else (ddilaw03_awake.j0 k t295 t312 bt319.1 bt325.1 true t279 t280 t281 t282 bt301.1 bt301.2.1 bt301.2.2.1 bt301.2.2.2.1 bt301.2.2.2.2.1 bt301.2.2.2.2.2.1 bt301.2.2.2.2.2.2.1 bt301.2.2.2.2.2.2.2.1)) else (ddilaw03_awake.j0 k t295 t312 bt319.1 bt325.1 true t279 t280 t281 t282 bt301.1 bt301.2.1 bt301.2.2.1 bt301.2.2.2.1 bt301.2.2.2.2.1 bt301.2.2.2.2.2.1 bt301.2.2.2.2.2.2.1 bt301.2.2.2.2.2.2.2.1)) else (ddilaw03_awake.j0 k t295 t312 bt319.1 bt325.1 true t279 t280 t281 t282 bt301.1 bt301.2.1 bt301.2.2.1 bt301.2.2.2.1 bt301.2.2.2.2.1 bt301.2.2.2.2.2.1 bt301.2.2.2.2.2.2.1 bt301.2.2.2.2.2.2.2.1)))))))) = some r := H
 have A5 := Aside0.mk A50
 clear A50
 replace H := Option.bind_eq_some_iff.mp H
 obtain ⟨⟨t301, t302, t303, t304, t305, t306, t307, t308, t309⟩, A60, H⟩ := H
 replace H : ((prefix_Cover.f k false 0 167772161 false 0 167772164).bind fun t312 => ((ddilaw03_four.f 167903232 16).bind fun bt315 => ((prefix_Zone.f k bt315.1 bt315.2.1 bt315.2.2.1 bt315.2.2.2).bind fun bt319 => ((ddilaw03_four.f 167772164 30).bind fun bt321 => ((prefix_Size.f bt321.1 bt321.2.1 bt321.2.2.1 bt321.2.2.2).bind fun bt325 => (if t283 = 0 then (if t289 = 3 then (if t296 = 0 then (if t309 = true then (if bt319.2 = true then (if bt325.2 = true then (ddilaw03_awake.j0 k t295 t312 bt319.1 bt325.1 ((t312.length : Int) != 3) t279 t280 t281 t282 t301 t302 t303 t304 t305 t306 t307 t308) else (ddilaw03_awake.j0 k t295 t312 bt319.1 bt325.1 true t279 t280 t281 t282 t301 t302 t303 t304 t305 t306 t307 t308)) else (ddilaw03_awake.j0 k t295 t312 bt319.1 bt325.1 true t279 t280 t281 t282 t301 t302 t303 t304 t305 t306 t307 t308)) else (ddilaw03_awake.j0 k t295 t312 bt319.1 bt325.1 true t279 t280 t281 t282 t301 t302 t303 t304 t305 t306 t307 t308)) else (ddilaw03_awake.j0 k t295 t312 bt319.1 bt325.1 true t279 t280 t281 t282 t301 t302 t303 t304 t305 t306 t307 t308)) else (ddilaw03_awake.j0 k t295 t312 bt319.1 bt325.1 true t279 t280 t281 t282 t301 t302 t303 t304 t305 t306 t307 t308)) else (ddilaw03_awake.j0 k t295 t312 bt319.1 bt325.1 true t279 t280 t281 t282 t301 t302 t303 t304 t305 t306 t307 t308))))))) = some r := H
 have A6 := Aside0.mk A60
 clear A60
 replace H := Option.bind_eq_some_iff.mp H
 obtain ⟨t312, A70, H⟩ := H
 replace H : ((ddilaw03_four.f 167903232 16).bind fun bt315 => ((prefix_Zone.f k bt315.1 bt315.2.1 bt315.2.2.1 bt315.2.2.2).bind fun bt319 => ((ddilaw03_four.f 167772164 30).bind fun bt321 => ((prefix_Size.f bt321.1 bt321.2.1 bt321.2.2.1 bt321.2.2.2).bind fun bt325 => (if t283 = 0 then (if t289 = 3 then (if t296 = 0 then (if t309 = true then (if bt319.2 = true then (if bt325.2 = true then (ddilaw03_awake.j0 k t295 t312 bt319.1 bt325.1 ((t312.length : Int) != 3) t279 t280 t281 t282 t301 t302 t303 t304 t305 t306 t307 t308) else (ddilaw03_awake.j0 k t295 t312 bt319.1 bt325.1 true t279 t280 t281 t282 t301 t302 t303 t304 t305 t306 t307 t308)) else (ddilaw03_awake.j0 k t295 t312 bt319.1 bt325.1 true t279 t280 t281 t282 t301 t302 t303 t304 t305 t306 t307 t308)) else (ddilaw03_awake.j0 k t295 t312 bt319.1 bt325.1 true t279 t280 t281 t282 t301 t302 t303 t304 t305 t306 t307 t308)) else (ddilaw03_awake.j0 k t295 t312 bt319.1 bt325.1 true t279 t280 t281 t282 t301 t302 t303 t304 t305 t306 t307 t308)) else (ddilaw03_awake.j0 k t295 t312 bt319.1 bt325.1 true t279 t280 t281 t282 t301 t302 t303 t304 t305 t306 t307 t308)) else (ddilaw03_awake.j0 k t295 t312 bt319.1 bt325.1 true t279 t280 t281 t282 t301 t302 t303 t304 t305 t306 t307 t308)))))) = some r := H
 have A7 := Aside0.mk A70
 clear A70
 replace H := Option.bind_eq_some_iff.mp H
 obtain ⟨⟨t315, t316, t317, t318⟩, A80, H⟩ := H
 replace H : ((prefix_Zone.f k t315 t316 t317 t318).bind fun bt319 => ((ddilaw03_four.f 167772164 30).bind fun bt321 => ((prefix_Size.f bt321.1 bt321.2.1 bt321.2.2.1 bt321.2.2.2).bind fun bt325 => (if t283 = 0 then (if t289 = 3 then (if t296 = 0 then (if t309 = true then (if bt319.2 = true then (if bt325.2 = true then (ddilaw03_awake.j0 k t295 t312 bt319.1 bt325.1 ((t312.length : Int) != 3) t279 t280 t281 t282 t301 t302 t303 t304 t305 t306 t307 t308) else (ddilaw03_awake.j0 k t295 t312 bt319.1 bt325.1 true t279 t280 t281 t282 t301 t302 t303 t304 t305 t306 t307 t308)) else (ddilaw03_awake.j0 k t295 t312 bt319.1 bt325.1 true t279 t280 t281 t282 t301 t302 t303 t304 t305 t306 t307 t308)) else (ddilaw03_awake.j0 k t295 t312 bt319.1 bt325.1 true t279 t280 t281 t282 t301 t302 t303 t304 t305 t306 t307 t308)) else (ddilaw03_awake.j0 k t295 t312 bt319.1 bt325.1 true t279 t280 t281 t282 t301 t302 t303 t304 t305 t306 t307 t308)) else (ddilaw03_awake.j0 k t295 t312 bt319.1 bt325.1 true t279 t280 t281 t282 t301 t302 t303 t304 t305 t306 t307 t308)) else (ddilaw03_awake.j0 k t295 t312 bt319.1 bt325.1 true t279 t280 t281 t282 t301 t302 t303 t304 t305 t306 t307 t308))))) = some r := H
 have A8 := Aside0.mk A80
 clear A80
 replace H := Option.bind_eq_some_iff.mp H
 obtain ⟨⟨t319, t320⟩, A90, H⟩ := H
 replace H : ((ddilaw03_four.f 167772164 30).bind fun bt321 => ((prefix_Size.f bt321.1 bt321.2.1 bt321.2.2.1 bt321.2.2.2).bind fun bt325 => (if t283 = 0 then (if t289 = 3 then (if t296 = 0 then (if t309 = true then (if t320 = true then (if bt325.2 = true then (ddilaw03_awake.j0 k t295 t312 t319 bt325.1 ((t312.length : Int) != 3) t279 t280 t281 t282 t301 t302 t303 t304 t305 t306 t307 t308) else (ddilaw03_awake.j0 k t295 t312 t319 bt325.1 true t279 t280 t281 t282 t301 t302 t303 t304 t305 t306 t307 t308)) else (ddilaw03_awake.j0 k t295 t312 t319 bt325.1 true t279 t280 t281 t282 t301 t302 t303 t304 t305 t306 t307 t308)) else (ddilaw03_awake.j0 k t295 t312 t319 bt325.1 true t279 t280 t281 t282 t301 t302 t303 t304 t305 t306 t307 t308)) else (ddilaw03_awake.j0 k t295 t312 t319 bt325.1 true t279 t280 t281 t282 t301 t302 t303 t304 t305 t306 t307 t308)) else (ddilaw03_awake.j0 k t295 t312 t319 bt325.1 true t279 t280 t281 t282 t301 t302 t303 t304 t305 t306 t307 t308)) else (ddilaw03_awake.j0 k t295 t312 t319 bt325.1 true t279 t280 t281 t282 t301 t302 t303 t304 t305 t306 t307 t308)))) = some r := H
 have A9 := Aside0.mk A90
 clear A90
 replace H := Option.bind_eq_some_iff.mp H
 obtain ⟨⟨t321, t322, t323, t324⟩, A100, H⟩ := H
 replace H : ((prefix_Size.f t321 t322 t323 t324).bind fun bt325 => (if t283 = 0 then (if t289 = 3 then (if t296 = 0 then (if t309 = true then (if t320 = true then (if bt325.2 = true then (ddilaw03_awake.j0 k t295 t312 t319 bt325.1 ((t312.length : Int) != 3) t279 t280 t281 t282 t301 t302 t303 t304 t305 t306 t307 t308) else (ddilaw03_awake.j0 k t295 t312 t319 bt325.1 true t279 t280 t281 t282 t301 t302 t303 t304 t305 t306 t307 t308)) else (ddilaw03_awake.j0 k t295 t312 t319 bt325.1 true t279 t280 t281 t282 t301 t302 t303 t304 t305 t306 t307 t308)) else (ddilaw03_awake.j0 k t295 t312 t319 bt325.1 true t279 t280 t281 t282 t301 t302 t303 t304 t305 t306 t307 t308)) else (ddilaw03_awake.j0 k t295 t312 t319 bt325.1 true t279 t280 t281 t282 t301 t302 t303 t304 t305 t306 t307 t308)) else (ddilaw03_awake.j0 k t295 t312 t319 bt325.1 true t279 t280 t281 t282 t301 t302 t303 t304 t305 t306 t307 t308)) else (ddilaw03_awake.j0 k t295 t312 t319 bt325.1 true t279 t280 t281 t282 t301 t302 t303 t304 t305 t306 t307 t308))) = some r := H
 have A10 := Aside0.mk A100
 clear A100
 replace H := Option.bind_eq_some_iff.mp H
 obtain ⟨⟨t325, t326⟩, A110, H⟩ := H
 replace H : (if t283 = 0 then (if t289 = 3 then (if t296 = 0 then (if t309 = true then (if t320 = true then (if t326 = true then (ddilaw03_awake.j0 k t295 t312 t319 t325 ((t312.length : Int) != 3) t279 t280 t281 t282 t301 t302 t303 t304 t305 t306 t307 t308) else (ddilaw03_awake.j0 k t295 t312 t319 t325 true t279 t280 t281 t282 t301 t302 t303 t304 t305 t306 t307 t308)) else (ddilaw03_awake.j0 k t295 t312 t319 t325 true t279 t280 t281 t282 t301 t302 t303 t304 t305 t306 t307 t308)) else (ddilaw03_awake.j0 k t295 t312 t319 t325 true t279 t280 t281 t282 t301 t302 t303 t304 t305 t306 t307 t308)) else (ddilaw03_awake.j0 k t295 t312 t319 t325 true t279 t280 t281 t282 t301 t302 t303 t304 t305 t306 t307 t308)) else (ddilaw03_awake.j0 k t295 t312 t319 t325 true t279 t280 t281 t282 t301 t302 t303 t304 t305 t306 t307 t308)) else (ddilaw03_awake.j0 k t295 t312 t319 t325 true t279 t280 t281 t282 t301 t302 t303 t304 t305 t306 t307 t308)) = some r := H
 have A11 := Aside0.mk A110
 clear A110
 have HC12 := Aside0.mk H
 clear H
 go_enter Tryd.func11, Tryd.ntmps11
 go_upto_region 8 with (first | ((with_reducible refine gate_callee (f := 12) rfl ?_); refine goesA (some 16) Tryd.func12 #[.string (⟨#[49, 48, 46, 48, 46, 48, 46, 48, 47, 56]⟩ : ByteArray)] ?_; (with_reducible refine (prefix_Parse.calls k (⟨#[49, 48, 46, 48, 46, 48, 46, 48, 47, 56]⟩ : ByteArray) t279 t280 t281 t282 t283 _ ?side1 A1.out).mono ?_); (case side1 => exact Laid.below HLD.out (pE HB)); rintro e w13 ⟨rfl, hb⟩; refine ⟨_, rfl, ?_⟩; replace HB := (pS HB hb); (try clear hb); (try clear hk)) | ((with_reducible refine gate_dst (N := 1) rfl ?_); (try (refine gate_guard (by rfl) ?_; dsimp only)); refine boxA (N := 1) (cs := #[.bool false, .int .u64 0, .int .u64 0, .int .i64 0]) (t := 26) ?_; intro gb284 hg w14 hbox hb; have BK284 := Aside0.mk (hbox); have GW284 := (pZ HB hg); have GE284 := (pZ HB hg); replace HB := (pS HB hb); clear hb hbox hg; obtain ⟨hcz15_0, hcz15_1, hcz15_2, hcz15_3, hfz15_0, hfz15_1, hfz15_2, hfz15_3⟩ := pC4 BK284) | ((with_reducible refine gate_callee (f := 12) rfl ?_); refine goesA (some 20) Tryd.func12 #[.string (⟨#[49, 48, 46, 48, 46, 48, 46, 49, 47, 56]⟩ : ByteArray)] ?_; (with_reducible refine (prefix_Parse.calls k (⟨#[49, 48, 46, 48, 46, 48, 46, 49, 47, 56]⟩ : ByteArray) t285 t286 t287 t288 t289 _ ?side1 A2.out).mono ?_); (case side1 => exact Laid.below HLD.out (pE HB)); rintro e w16 ⟨rfl, hb⟩; refine ⟨_, rfl, ?_⟩; replace BK284 := (pD hb (pP (pP (pP (pP (pM BK284)))))); replace HB := (pS HB hb); (try clear hb); (try clear hk)) | ((with_reducible refine gate_dst (N := 3) rfl ?_); (try (refine gate_guard (by rfl) ?_; dsimp only)); refine boxA (N := 3) (cs := #[.bool false, .int .u64 0, .int .u64 0, .int .i64 0]) (t := 26) ?_; intro gb290 hg w17 hbox hb; have BK290 := Aside0.mk (hbox); have GW290 := (pZ HB hg); have GE290 := (pZ HB hg); have NB284_290 := (pL BK284 hg); have NB290_284 := (pG BK284 hg); replace BK284 := (pB BK284 hb); replace HB := (pS HB hb); clear hb hbox hg; have hnb18 := NB290_284.out; have hnc18 := NB284_290.out; obtain ⟨hcz19_0, hcz19_1, hcz19_2, hcz19_3, hfz19_0, hfz19_1, hfz19_2, hfz19_3⟩ := pC4 BK290) | ((with_reducible refine gate_callee (f := 31) rfl ?_); refine goesA (some 24) Tryd.func31 #[.int .u64 167772164, .int .i64 30] ?_; (with_reducible refine (ddilaw03_four.calls 167772164 30 t291 t292 t293 t294 _ A3.out).mono ?_); rintro e w20 ⟨rfl, hb⟩; refine ⟨_, rfl, ?_⟩; replace BK284 := (pD hb (pK NB284_290 (pK NB284_290 (pK NB284_290 (pK NB284_290 (pM BK284)))))); replace BK290 := (pD hb (pP (pP (pP (pP (pM BK290)))))); replace HB := (pS HB hb); (try clear hb); (try clear hk)) | ((with_reducible refine gate_callee (f := 8) rfl ?_); refine goesA (some 25) Tryd.func8 #[.agg #[.bool t291, .int .u64 t292, .int .u64 t293, .int .i64 t294]] ?_; (with_reducible refine (prefix_Print.calls k t291 t292 t293 t294 t295 t296 _ ?side1 A4.out).mono ?_); (case side1 => exact Laid.below HLD.out (pE HB)); rintro e w21 ⟨rfl, hb⟩; refine ⟨_, rfl, ?_⟩; replace BK284 := (pB BK284 hb); replace BK290 := (pB BK290 hb); replace HB := (pS HB hb); (try clear hb); (try clear hk)) | ((with_reducible refine gate_callee (f := 31) rfl ?_); refine goesA (some 29) Tryd.func31 #[.int .u64 167772160, .int .i64 8] ?_; (with_reducible refine (ddilaw03_four.calls 167772160 8 t297 t298 t299 t300 _ A5.out).mono ?_); rintro e w22 ⟨rfl, hb⟩; refine ⟨_, rfl, ?_⟩; replace BK284 := (pB BK284 hb); replace BK290 := (pB BK290 hb); replace HB := (pS HB hb); (try clear hb); (try clear hk)) | ((with_reducible refine gate_callee (f := 22) rfl ?_); refine goesA (some 30) Tryd.func22 #[.agg #[.bool t297, .int .u64 t298, .int .u64 t299, .int .i64 t300]] ?_; (with_reducible refine (prefix_Halves.calls k t297 t298 t299 t300 t301 t302 t303 t304 t305 t306 t307 t308 t309 _ A6.out).mono ?_); rintro e w23 ⟨rfl, hb⟩; refine ⟨_, rfl, ?_⟩; replace BK284 := (pB BK284 hb); replace BK290 := (pB BK290 hb); replace HB := (pS HB hb); (try clear hb); (try clear hk)) | ((with_reducible refine gate_dst (N := 7) rfl ?_); (try (refine gate_guard (by rfl) ?_; dsimp only)); refine boxA (N := 7) (cs := #[.bool false, .int .u64 0, .int .u64 0, .int .i64 0]) (t := 26) ?_; intro gb310 hg w24 hbox hb; have BK310 := Aside0.mk (hbox); have GW310 := (pZ HB hg); have GE310 := (pZ HB hg); have NB284_310 := (pL BK284 hg); have NB310_284 := (pG BK284 hg); have NB290_310 := (pL BK290 hg); have NB310_290 := (pG BK290 hg); replace BK284 := (pB BK284 hb); replace BK290 := (pB BK290 hb); replace HB := (pS HB hb); clear hb hbox hg) | ((with_reducible refine gate_dst (N := 8) rfl ?_); (try (refine gate_guard (by rfl) ?_; dsimp only)); refine boxA (N := 8) (cs := #[.bool false, .int .u64 0, .int .u64 0, .int .i64 0]) (t := 26) ?_; intro gb311 hg w25 hbox hb; have BK311 := Aside0.mk (hbox); have GW311 := (pZ HB hg); have GE311 := (pZ HB hg); have NB284_311 := (pL BK284 hg); have NB311_284 := (pG BK284 hg); have NB290_311 := (pL BK290 hg); have NB311_290 := (pG BK290 hg); have NB310_311 := (pL BK310 hg); have NB311_310 := (pG BK310 hg); replace BK284 := (pB BK284 hb); replace BK290 := (pB BK290 hb); replace BK310 := (pB BK310 hb); replace HB := (pS HB hb); clear hb hbox hg; have hnb26 := NB310_284.out; have hnc26 := NB284_310.out; have hnb27 := NB310_290.out; have hnc27 := NB290_310.out; have hnb28 := NB310_311.out; have hnc28 := NB311_310.out; obtain ⟨hcz29_0, hcz29_1, hcz29_2, hcz29_3, hfz29_0, hfz29_1, hfz29_2, hfz29_3⟩ := pC4 BK310; have hnb30 := NB311_284.out; have hnc30 := NB284_311.out; have hnb31 := NB311_290.out; have hnc31 := NB290_311.out; obtain ⟨hcz32_0, hcz32_1, hcz32_2, hcz32_3, hfz32_0, hfz32_1, hfz32_2, hfz32_3⟩ := pC4 BK311) | ((with_reducible refine gate_store (t := 26) (p := 8) rfl ?_); refine store_event (t := 26) (p := 8) (v := ?vo_w33) (w1 := ((((((((w25.setCell ⟨gb310, 0, none⟩ (.bool t301)).setCell ⟨gb310, 1, none⟩ (.int .u64 t302)).setCell ⟨gb310, 2, none⟩ (.int .u64 t303)).setCell ⟨gb310, 3, none⟩ (.int .i64 t304)).setCell ⟨gb311, 0, none⟩ (.bool t305)).setCell ⟨gb311, 1, none⟩ (.int .u64 t306)).setCell ⟨gb311, 2, none⟩ (.int .u64 t307)).setCell ⟨gb311, 3, none⟩ (.int .i64 t308))) ?hg ?ho ?hn ?hr ?_; (case ho => rfl); (case hg => rfl); (case hn => rfl); (case hr => first | (exact Ext.run_store_chain 26 _ _ rfl _ _ _ _ rfl rfl (pK NB311_310 (pK NB311_310 (pK NB311_310 (pK NB311_310 (pM BK311))))) (by kernel_rfl) rfl rfl rfl) | (go_simp; done) | (go_simp; rfl)); intro w33 hw; have n0_ : Aside0 (w33.heap[gb284]? = some (.cells #[.bool t279, .int .u64 t280, .int .u64 t281, .int .i64 t282] 26 (0, 0))) := (pW hw (pK NB284_311 (pK NB284_311 (pK NB284_311 (pK NB284_311 (pK NB284_310 (pK NB284_310 (pK NB284_310 (pK NB284_310 (pM BK284)))))))))); have n1_ : Aside0 (w33.heap[gb290]? = some (.cells #[.bool t285, .int .u64 t286, .int .u64 t287, .int .i64 t288] 26 (0, 0))) := (pW hw (pK NB290_311 (pK NB290_311 (pK NB290_311 (pK NB290_311 (pK NB290_310 (pK NB290_310 (pK NB290_310 (pK NB290_310 (pM BK290)))))))))); have n2_ : Aside0 (w33.heap[gb310]? = some (.cells #[.bool t301, .int .u64 t302, .int .u64 t303, .int .i64 t304] 26 (0, 0))) := (pW hw (pK NB310_311 (pK NB310_311 (pK NB310_311 (pK NB310_311 (pP (pP (pP (pP (pM BK310)))))))))); have n3_ : Aside0 (w33.heap[gb311]? = some (.cells #[.bool t305, .int .u64 t306, .int .u64 t307, .int .i64 t308] 26 (0, 0))) := (pW hw (pP (pP (pP (pP (pK NB311_310 (pK NB311_310 (pK NB311_310 (pK NB311_310 (pM BK311)))))))))); have n4_ : Aside0 (Below w.heap.size w w33) := ⟨(by rw [hw]; exact (by repeat (first | (with_reducible first | exact HB.out | apply below_alloc | apply pw_below_drewN | apply below_drew1 | refine below_set ?_ GE284.out | refine below_set ?_ GE290.out | refine below_set ?_ GE310.out | refine below_set ?_ GE311.out) | exact HB.out)))⟩; clear hw; clear BK284; clear BK290; clear BK310; clear BK311; clear HB; have BK284 := n0_; have BK290 := n1_; have BK310 := n2_; have BK311 := n3_; have HB := n4_; clear n0_ n1_ n2_ n3_ n4_) | ((with_reducible refine gate_callee (f := 25) rfl ?_); refine goesA (some 37) Tryd.func25 #[.agg #[.bool false, .int .u64 0, .int .u64 167772161, .bool false, .int .u64 0, .int .u64 167772164]] ?_; (with_reducible refine (prefix_Cover.calls k false 0 167772161 false 0 167772164 t312 _ ?side1 A7.out).mono ?_); (case side1 => exact Laid.below HLD.out (pE HB)); rintro e w34 ⟨v313, rfl, ho0, hb⟩; refine ⟨_, rfl, ?_⟩; have HO314 := Aside0.mk (Kd.R_lower (Kd.R_newB (Kd.R_newB (Kd.R_newB (Kd.R_newB ho0 (g := gb284) (o := .cells #[.bool t279, .int .u64 t280, .int .u64 t281, .int .i64 t282] 26 (0, 0)) (pM BK284)) (g := gb290) (o := .cells #[.bool t285, .int .u64 t286, .int .u64 t287, .int .i64 t288] 26 (0, 0)) (pM BK290)) (g := gb310) (o := .cells #[.bool t301, .int .u64 t302, .int .u64 t303, .int .i64 t304] 26 (0, 0)) (pM BK310)) (g := gb311) (o := .cells #[.bool t305, .int .u64 t306, .int .u64 t307, .int .i64 t308] 26 (0, 0)) (pM BK311)) (below_size (by repeat (first | (with_reducible first | exact HB.out | apply below_alloc | apply pw_below_drewN | apply below_drew1 | refine below_set ?_ GE284.out | refine below_set ?_ GE290.out | refine below_set ?_ GE310.out | refine below_set ?_ GE311.out) | exact HB.out)))); replace BK284 := (pB BK284 hb); replace BK290 := (pB BK290 hb); replace BK310 := (pB BK310 hb); replace BK311 := (pB BK311 hb); replace HB := (pS HB hb); (try clear hb); (try clear hk); (try clear ho0)) | ((with_reducible refine gate_callee (f := 31) rfl ?_); refine goesA (some 39) Tryd.func31 #[.int .u64 167903232, .int .i64 16] ?_; (with_reducible refine (ddilaw03_four.calls 167903232 16 t315 t316 t317 t318 _ A8.out).mono ?_); rintro e w35 ⟨rfl, hb⟩; refine ⟨_, rfl, ?_⟩; replace HO314 := Aside0.mk (Kd.R_below (by (with_reducible repeat (first | apply Kd.R_alloc | apply Kd.R_drewN | apply Kd.R_drew)); exact HO314.out) hb); replace BK284 := (pB BK284 hb); replace BK290 := (pB BK290 hb); replace BK310 := (pB BK310 hb); replace BK311 := (pB BK311 hb); replace HB := (pS HB hb); (try clear hb); (try clear hk)) | ((with_reducible refine gate_callee (f := 16) rfl ?_); refine goesA (some 40) Tryd.func16 #[.agg #[.bool t315, .int .u64 t316, .int .u64 t317, .int .i64 t318]] ?_; (with_reducible refine (prefix_Zone.calls k t315 t316 t317 t318 t319 t320 _ ?side1 A9.out).mono ?_); (case side1 => exact Laid.below HLD.out (pE HB)); rintro e w36 ⟨rfl, hb⟩; refine ⟨_, rfl, ?_⟩; replace HO314 := Aside0.mk (Kd.R_below (by (with_reducible repeat (first | apply Kd.R_alloc | apply Kd.R_drewN | apply Kd.R_drew)); exact HO314.out) hb); replace BK284 := (pB BK284 hb); replace BK290 := (pB BK290 hb); replace BK310 := (pB BK310 hb); replace BK311 := (pB BK311 hb); replace HB := (pS HB hb); (try clear hb); (try clear hk)) | ((with_reducible refine gate_callee (f := 31) rfl ?_); refine goesA (some 44) Tryd.func31 #[.int .u64 167772164, .int .i64 30] ?_; (with_reducible refine (ddilaw03_four.calls 167772164 30 t321 t322 t323 t324 _ A10.out).mono ?_); rintro e w37 ⟨rfl, hb⟩; refine ⟨_, rfl, ?_⟩; replace HO314 := Aside0.mk (Kd.R_below (by (with_reducible repeat (first | apply Kd.R_alloc | apply Kd.R_drewN | apply Kd.R_drew)); exact HO314.out) hb); replace BK284 := (pB BK284 hb); replace BK290 := (pB BK290 hb); replace BK310 := (pB BK310 hb); replace BK311 := (pB BK311 hb); replace HB := (pS HB hb); (try clear hb); (try clear hk)) | ((with_reducible refine gate_callee (f := 23) rfl ?_); refine goesA (some 45) Tryd.func23 #[.agg #[.bool t321, .int .u64 t322, .int .u64 t323, .int .i64 t324]] ?_; (with_reducible refine (prefix_Size.calls t321 t322 t323 t324 t325 t326 _ A11.out).mono ?_); rintro e w38 ⟨rfl, hb⟩; refine ⟨_, rfl, ?_⟩; replace HO314 := Aside0.mk (Kd.R_below (by (with_reducible repeat (first | apply Kd.R_alloc | apply Kd.R_drewN | apply Kd.R_drew)); exact HO314.out) hb); replace BK284 := (pB BK284 hb); replace BK290 := (pB BK290 hb); replace BK310 := (pB BK310 hb); replace BK311 := (pB BK311 hb); replace HB := (pS HB hb); (try clear hb); (try clear hk)))
 (try simp only [Act.put, List.setIfInBounds_toArray, List.set_cons_zero, List.set_cons_succ])
 go_cut [74] (fun v74 wc => ∃ (kq : Nat) (x74_11 : Bool), v74 = .bool x74_11 ∧ Aside0 (ddilaw03_awake.j0 kq t295 t312 t319 t325 x74_11 t279 t280 t281 t282 t301 t302 t303 t304 t305 t306 t307 t308 = some r) ∧ Aside0 (kq ≤ k) ∧ Aside0 (Kd.R k26 26 wc w.heap.size (fun k_ => k_ ≠ gb284 ∧ k_ ≠ gb290 ∧ k_ ≠ gb310 ∧ k_ ≠ gb311) v313 t312) ∧ Aside0 (wc.heap[gb284]? = some (.cells #[.bool t279, .int .u64 t280, .int .u64 t281, .int .i64 t282] 26 (0, 0))) ∧ Aside0 (wc.heap[gb290]? = some (.cells #[.bool t285, .int .u64 t286, .int .u64 t287, .int .i64 t288] 26 (0, 0))) ∧ Aside0 (wc.heap[gb310]? = some (.cells #[.bool t301, .int .u64 t302, .int .u64 t303, .int .i64 t304] 26 (0, 0))) ∧ Aside0 (wc.heap[gb311]? = some (.cells #[.bool t305, .int .u64 t306, .int .u64 t307, .int .i64 t308] 26 (0, 0))) ∧ Aside0 (Below w.heap.size w wc))
 case first =>
  have H := HC12.out
  clear HC12
  by_cases c39 : t283 = 0
  ·
   rw [if_pos c39] at H
   have c39b0 : (t283 == 0) = true := beq_iff_eq.mpr c39
   have c39b1 : (t283 != 0) = false := bne_eq_false_iff_eq.mpr c39
   clear c39
   (first | rw [c39b0] | (simp only [i64_w, i32_w]; rw [c39b0]) | skip)
   by_cases c40 : t289 = 3
   ·
    rw [if_pos c40] at H
    have c40b0 : (t289 == 3) = true := beq_iff_eq.mpr c40
    have c40b1 : (t289 != 3) = false := bne_eq_false_iff_eq.mpr c40
    clear c40
    by_cases c41 : t296 = 0
    ·
     rw [if_pos c41] at H
     have c41b0 : (t296 == 0) = true := beq_iff_eq.mpr c41
     have c41b1 : (t296 != 0) = false := bne_eq_false_iff_eq.mpr c41
     clear c41
     by_cases c42 : t309 = true
     ·
      subst c42
      rw [if_pos rfl] at H
      by_cases c43 : t320 = true
      ·
       subst c43
       rw [if_pos rfl] at H
       by_cases c44 : t326 = true
       ·
        subst c44
        rw [if_pos rfl] at H
        have H' := Aside0.mk H
        clear H
        obtain ⟨Ao45, co45, eo45⟩ := Kd.R_slice HO314.out
        subst eo45
        go_wp2_with (first | ((with_reducible refine gate_dst (N := 36) rfl ?_); refine Ext.wpList_buildC ?hgd 36 _ ?ho ?hb ?_; (case hgd => rfl); (case ho => rfl); (case hb => ((try go_simp); exact hbl36 _ _ _ _ _ _))))
        refine Met.intro ?_
        go_step
        (repeat apply Exists.intro)
        refine ⟨?rel, ?heq_⟩
        case heq_ => first | rfl | (rw [c39b0]) | (simp only [c39b0])
        case rel => exact ⟨_, (((t312.length : Int) != 3)), pT, H', ⟨by first | omega | exact Nat.le_refl _⟩, ⟨by (with_reducible repeat (first | apply Kd.R_alloc | apply Kd.R_drewN | apply Kd.R_drew)); exact Kd.R_mono HO314.out (fun _ hk => ⟨hk.1.1.1.2, ⟨hk.1.1.2, ⟨hk.1.2, hk.2⟩⟩⟩)⟩, ⟨pM BK284⟩, ⟨pM BK290⟩, ⟨pM BK310⟩, ⟨pM BK311⟩, ⟨pE HB⟩⟩
       ·
        replace c44 := Bool.eq_false_iff.mpr c44
        subst c44
        rw [if_neg (show ¬ (false = true) by decide)] at H
        have H' := Aside0.mk H
        clear H
        go_wp2_with (first | ((with_reducible refine gate_dst (N := 36) rfl ?_); refine Ext.wpList_buildC ?hgd 36 _ ?ho ?hb ?_; (case hgd => rfl); (case ho => rfl); (case hb => ((try go_simp); exact hbl36 _ _ _ _ _ _))))
        refine Met.intro ?_
        go_step
        (repeat apply Exists.intro)
        refine ⟨?rel, ?heq_⟩
        case heq_ => first | rfl | (rw [c39b0]) | (simp only [c39b0])
        case rel => exact ⟨_, (true), pT, H', ⟨by first | omega | exact Nat.le_refl _⟩, ⟨by (with_reducible repeat (first | apply Kd.R_alloc | apply Kd.R_drewN | apply Kd.R_drew)); exact Kd.R_mono HO314.out (fun _ hk => ⟨hk.1.1.1.2, ⟨hk.1.1.2, ⟨hk.1.2, hk.2⟩⟩⟩)⟩, ⟨pM BK284⟩, ⟨pM BK290⟩, ⟨pM BK310⟩, ⟨pM BK311⟩, ⟨pE HB⟩⟩
      ·
       replace c43 := Bool.eq_false_iff.mpr c43
       subst c43
       rw [if_neg (show ¬ (false = true) by decide)] at H
       have H' := Aside0.mk H
       clear H
       go_wp2_with (first | ((with_reducible refine gate_dst (N := 36) rfl ?_); refine Ext.wpList_buildC ?hgd 36 _ ?ho ?hb ?_; (case hgd => rfl); (case ho => rfl); (case hb => ((try go_simp); exact hbl36 _ _ _ _ _ _))))
       refine Met.intro ?_
       go_step
       (repeat apply Exists.intro)
       refine ⟨?rel, ?heq_⟩
       case heq_ => first | rfl | (rw [c39b0]) | (simp only [c39b0])
       case rel => exact ⟨_, (true), pT, H', ⟨by first | omega | exact Nat.le_refl _⟩, ⟨by (with_reducible repeat (first | apply Kd.R_alloc | apply Kd.R_drewN | apply Kd.R_drew)); exact Kd.R_mono HO314.out (fun _ hk => ⟨hk.1.1.1.2, ⟨hk.1.1.2, ⟨hk.1.2, hk.2⟩⟩⟩)⟩, ⟨pM BK284⟩, ⟨pM BK290⟩, ⟨pM BK310⟩, ⟨pM BK311⟩, ⟨pE HB⟩⟩
     ·
      replace c42 := Bool.eq_false_iff.mpr c42
      subst c42
      rw [if_neg (show ¬ (false = true) by decide)] at H
      have H' := Aside0.mk H
      clear H
      go_wp2_with (first | ((with_reducible refine gate_dst (N := 36) rfl ?_); refine Ext.wpList_buildC ?hgd 36 _ ?ho ?hb ?_; (case hgd => rfl); (case ho => rfl); (case hb => ((try go_simp); exact hbl36 _ _ _ _ _ _))))
      refine Met.intro ?_
      go_step
      (repeat apply Exists.intro)
      refine ⟨?rel, ?heq_⟩
      case heq_ => first | rfl | (rw [c39b0]) | (simp only [c39b0])
      case rel => exact ⟨_, (true), pT, H', ⟨by first | omega | exact Nat.le_refl _⟩, ⟨by (with_reducible repeat (first | apply Kd.R_alloc | apply Kd.R_drewN | apply Kd.R_drew)); exact Kd.R_mono HO314.out (fun _ hk => ⟨hk.1.1.1.2, ⟨hk.1.1.2, ⟨hk.1.2, hk.2⟩⟩⟩)⟩, ⟨pM BK284⟩, ⟨pM BK290⟩, ⟨pM BK310⟩, ⟨pM BK311⟩, ⟨pE HB⟩⟩
    ·
     rw [if_neg c41] at H
     have c41b0 : (t296 == 0) = false := beq_eq_false_iff_ne.mpr c41
     have c41b1 : (t296 != 0) = true := bne_iff_ne.mpr c41
     have H' := Aside0.mk H
     clear H
     go_wp2_with (first | ((with_reducible refine gate_dst (N := 36) rfl ?_); refine Ext.wpList_buildC ?hgd 36 _ ?ho ?hb ?_; (case hgd => rfl); (case ho => rfl); (case hb => ((try go_simp); exact hbl36 _ _ _ _ _ _))))
     refine Met.intro ?_
     go_step
     (repeat apply Exists.intro)
     refine ⟨?rel, ?heq_⟩
     case heq_ => first | rfl | (rw [c39b0]) | (simp only [c39b0])
     case rel => exact ⟨_, (true), pT, H', ⟨by first | omega | exact Nat.le_refl _⟩, ⟨by (with_reducible repeat (first | apply Kd.R_alloc | apply Kd.R_drewN | apply Kd.R_drew)); exact Kd.R_mono HO314.out (fun _ hk => ⟨hk.1.1.1.2, ⟨hk.1.1.2, ⟨hk.1.2, hk.2⟩⟩⟩)⟩, ⟨pM BK284⟩, ⟨pM BK290⟩, ⟨pM BK310⟩, ⟨pM BK311⟩, ⟨pE HB⟩⟩
   ·
    rw [if_neg c40] at H
    have c40b0 : (t289 == 3) = false := beq_eq_false_iff_ne.mpr c40
    have c40b1 : (t289 != 3) = true := bne_iff_ne.mpr c40
    have H' := Aside0.mk H
    clear H
    go_wp2_with (first | ((with_reducible refine gate_dst (N := 36) rfl ?_); refine Ext.wpList_buildC ?hgd 36 _ ?ho ?hb ?_; (case hgd => rfl); (case ho => rfl); (case hb => ((try go_simp); exact hbl36 _ _ _ _ _ _))))
    refine Met.intro ?_
    go_step
    (repeat apply Exists.intro)
    refine ⟨?rel, ?heq_⟩
    case heq_ => first | rfl | (rw [c39b0]) | (simp only [c39b0])
    case rel => exact ⟨_, (true), pT, H', ⟨by first | omega | exact Nat.le_refl _⟩, ⟨by (with_reducible repeat (first | apply Kd.R_alloc | apply Kd.R_drewN | apply Kd.R_drew)); exact Kd.R_mono HO314.out (fun _ hk => ⟨hk.1.1.1.2, ⟨hk.1.1.2, ⟨hk.1.2, hk.2⟩⟩⟩)⟩, ⟨pM BK284⟩, ⟨pM BK290⟩, ⟨pM BK310⟩, ⟨pM BK311⟩, ⟨pE HB⟩⟩
  ·
   rw [if_neg c39] at H
   have c39b0 : (t283 == 0) = false := beq_eq_false_iff_ne.mpr c39
   have c39b1 : (t283 != 0) = true := bne_iff_ne.mpr c39
   (first | rw [c39b0] | (simp only [i64_w, i32_w]; rw [c39b0]) | skip)
   have H' := Aside0.mk H
   clear H
   go_wp2_with (first | ((with_reducible refine gate_dst (N := 36) rfl ?_); refine Ext.wpList_buildC ?hgd 36 _ ?ho ?hb ?_; (case hgd => rfl); (case ho => rfl); (case hb => ((try go_simp); exact hbl36 _ _ _ _ _ _))))
   refine Met.intro ?_
   go_step
   (repeat apply Exists.intro)
   refine ⟨?rel, ?heq_⟩
   case heq_ => first | rfl | (rw [c39b0]) | (simp only [c39b0])
   case rel => exact ⟨_, (true), pT, H', ⟨by first | omega | exact Nat.le_refl _⟩, ⟨by (with_reducible repeat (first | apply Kd.R_alloc | apply Kd.R_drewN | apply Kd.R_drew)); exact Kd.R_mono HO314.out (fun _ hk => ⟨hk.1.1.1.2, ⟨hk.1.1.2, ⟨hk.1.2, hk.2⟩⟩⟩)⟩, ⟨pM BK284⟩, ⟨pM BK290⟩, ⟨pM BK310⟩, ⟨pM BK311⟩, ⟨pE HB⟩⟩
 case rest =>
  clear HC12
  try clear c1
  try clear c2
  try clear p2
  try clear c3
  try clear c4
  try clear c8
  try clear c11
  try clear c12
  try clear c16
  try clear c18
  try clear c22
  try clear c23
  try clear c25
  try clear c26
  try clear c27
  try clear c28
  try clear c30
  try clear c31
  try clear c39
  try clear c39b0
  try clear c39b1
  try clear c40
  try clear c40b0
  try clear c40b1
  try clear c41
  try clear c41b0
  try clear c41b1
  try clear c42
  try clear c43
  try clear c44
  try clear hcz15_0 hcz15_1 hcz15_2 hcz15_3
  try clear hcz19_0 hcz19_1 hcz19_2 hcz19_3
  try clear hcz29_0 hcz29_1 hcz29_2 hcz29_3
  try clear hcz32_0 hcz32_1 hcz32_2 hcz32_3
  try clear hfz15_0 hfz15_1 hfz15_2 hfz15_3
  try clear hfz19_0 hfz19_1 hfz19_2 hfz19_3
  try clear hfz29_0 hfz29_1 hfz29_2 hfz29_3
  try clear hfz32_0 hfz32_1 hfz32_2 hfz32_3
  obtain ⟨kq, x74_11, rfl, HA, HJ11, HO_10, BK284, BK290, BK310, BK311, HB⟩ := hcut
  cases kq with
  | zero => exact absurd HA.out (by simp [ddilaw03_awake.j0])
  | succ kj11 =>
   have H := HA.out
   clear HA
   simp only [ddilaw03_awake.j0] at H
   by_cases c46 : x74_11 = true
   ·
    subst c46
    rw [if_pos rfl] at H
    exact absurd H (by simp)
   ·
    replace c46 := Bool.eq_false_iff.mpr c46
    subst c46
    rw [if_neg (show ¬ (false = true) by decide)] at H
    replace H := Option.bind_eq_some_iff.mp H
    obtain ⟨⟨t327, t328, t329, t330⟩, A470, H⟩ := H
    replace H : (if ((t279 == t327 && (t280 == t328 && (t281 == t329))) && (t282 == t330)) = true then (if t295.toList = ([49, 48, 46, 48, 46, 48, 46, 52, 47, 51, 48] : List UInt8) then ((ddilaw03_four.f 167772160 9).bind fun bt331 => (if ((t301 == bt331.1 && (t302 == bt331.2.1 && (t303 == bt331.2.2.1))) && (t304 == bt331.2.2.2)) = true then ((ddilaw03_four.f 176160768 9).bind fun bt335 => (if ((t305 == bt335.1 && (t306 == bt335.2.1 && (t307 == bt335.2.2.1))) && (t308 == bt335.2.2.2)) = true then (if 1 < (t312.length : Int) then ((ddilaw03_four.f 167772162 31).bind fun bt340 => (if ((((rd_T26 t312 1).f0.f0) == bt340.1 && (((rd_T26 t312 1).f0.f1) == bt340.2.1 && (((rd_T26 t312 1).f0.f2) == bt340.2.2.1))) && (((rd_T26 t312 1).f1) == bt340.2.2.2)) = true then (if t319.toList = ([50, 46, 49, 48, 46, 105, 110, 45, 97, 100, 100, 114, 46, 97, 114, 112, 97, 46] : List UInt8) then (some (t325 == 4)) else (none)) else (none))) else (none)) else (none))) else (none))) else (none)) else (none)) = some r := H
    have A47 := Aside0.mk A470
    clear A470
    by_cases c48 : ((t279 == t327 && (t280 == t328 && (t281 == t329))) && (t282 == t330)) = true
    ·
     rw [if_pos c48] at H
     have c48b0 : ((t279 == t327 && (t280 == t328 && (t281 == t329))) && (t282 == t330)) = true := c48
     clear c48
     by_cases c49 : t295.toList = ([49, 48, 46, 48, 46, 48, 46, 52, 47, 51, 48] : List UInt8)
     ·
      rw [if_pos c49] at H
      have c49b0 : (t295.toList == ([49, 48, 46, 48, 46, 48, 46, 52, 47, 51, 48] : List UInt8)) = true := beq_iff_eq.mpr c49
      have c49b1 : (t295.toList != ([49, 48, 46, 48, 46, 48, 46, 52, 47, 51, 48] : List UInt8)) = false := bne_eq_false_iff_eq.mpr c49
      clear c49
      replace H := Option.bind_eq_some_iff.mp H
      obtain ⟨⟨t331, t332, t333, t334⟩, A500, H⟩ := H
      replace H : (if ((t301 == t331 && (t302 == t332 && (t303 == t333))) && (t304 == t334)) = true then ((ddilaw03_four.f 176160768 9).bind fun bt335 => (if ((t305 == bt335.1 && (t306 == bt335.2.1 && (t307 == bt335.2.2.1))) && (t308 == bt335.2.2.2)) = true then (if 1 < (t312.length : Int) then ((ddilaw03_four.f 167772162 31).bind fun bt340 => (if ((((rd_T26 t312 1).f0.f0) == bt340.1 && (((rd_T26 t312 1).f0.f1) == bt340.2.1 && (((rd_T26 t312 1).f0.f2) == bt340.2.2.1))) && (((rd_T26 t312 1).f1) == bt340.2.2.2)) = true then (if t319.toList = ([50, 46, 49, 48, 46, 105, 110, 45, 97, 100, 100, 114, 46, 97, 114, 112, 97, 46] : List UInt8) then (some (t325 == 4)) else (none)) else (none))) else (none)) else (none))) else (none)) = some r := H
      have A50 := Aside0.mk A500
      clear A500
      by_cases c51 : ((t301 == t331 && (t302 == t332 && (t303 == t333))) && (t304 == t334)) = true
      ·
       rw [if_pos c51] at H
       have c51b0 : ((t301 == t331 && (t302 == t332 && (t303 == t333))) && (t304 == t334)) = true := c51
       clear c51
       replace H := Option.bind_eq_some_iff.mp H
       obtain ⟨⟨t335, t336, t337, t338⟩, A520, H⟩ := H
       replace H : (if ((t305 == t335 && (t306 == t336 && (t307 == t337))) && (t308 == t338)) = true then (if 1 < (t312.length : Int) then ((ddilaw03_four.f 167772162 31).bind fun bt340 => (if ((((rd_T26 t312 1).f0.f0) == bt340.1 && (((rd_T26 t312 1).f0.f1) == bt340.2.1 && (((rd_T26 t312 1).f0.f2) == bt340.2.2.1))) && (((rd_T26 t312 1).f1) == bt340.2.2.2)) = true then (if t319.toList = ([50, 46, 49, 48, 46, 105, 110, 45, 97, 100, 100, 114, 46, 97, 114, 112, 97, 46] : List UInt8) then (some (t325 == 4)) else (none)) else (none))) else (none)) else (none)) = some r := H
       have A52 := Aside0.mk A520
       clear A520
       by_cases c53 : ((t305 == t335 && (t306 == t336 && (t307 == t337))) && (t308 == t338)) = true
       ·
        rw [if_pos c53] at H
        have c53b0 : ((t305 == t335 && (t306 == t336 && (t307 == t337))) && (t308 == t338)) = true := c53
        clear c53
        by_cases c54 : 1 < (t312.length : Int)
        ·
         rw [if_pos c54] at H
         have c54b0 : decide (1 < (t312.length : Int)) = true := decide_eq_true c54
         have c54b1 : decide (1 < t312.length) = true := decide_eq_true (by omega)
         clear c54
         replace H := Option.bind_eq_some_iff.mp H
         obtain ⟨⟨t340, t341, t342, t343⟩, A550, H⟩ := H
         replace H : (if ((((rd_T26 t312 1).f0.f0) == t340 && (((rd_T26 t312 1).f0.f1) == t341 && (((rd_T26 t312 1).f0.f2) == t342))) && (((rd_T26 t312 1).f1) == t343)) = true then (if t319.toList = ([50, 46, 49, 48, 46, 105, 110, 45, 97, 100, 100, 114, 46, 97, 114, 112, 97, 46] : List UInt8) then (some (t325 == 4)) else (none)) else (none)) = some r := H
         have A55 := Aside0.mk A550
         clear A550
         by_cases c56 : ((((rd_T26 t312 1).f0.f0) == t340 && (((rd_T26 t312 1).f0.f1) == t341 && (((rd_T26 t312 1).f0.f2) == t342))) && (((rd_T26 t312 1).f1) == t343)) = true
         ·
          rw [if_pos c56] at H
          have c56b0 : ((((rd_T26 t312 1).f0.f0) == t340 && (((rd_T26 t312 1).f0.f1) == t341 && (((rd_T26 t312 1).f0.f2) == t342))) && (((rd_T26 t312 1).f1) == t343)) = true := c56
          clear c56
          by_cases c57 : t319.toList = ([50, 46, 49, 48, 46, 105, 110, 45, 97, 100, 100, 114, 46, 97, 114, 112, 97, 46] : List UInt8)
          ·
           rw [if_pos c57] at H
           have c57b0 : (t319.toList == ([50, 46, 49, 48, 46, 105, 110, 45, 97, 100, 100, 114, 46, 97, 114, 112, 97, 46] : List UInt8)) = true := beq_iff_eq.mpr c57
           have c57b1 : (t319.toList != ([50, 46, 49, 48, 46, 105, 110, 45, 97, 100, 100, 114, 46, 97, 114, 112, 97, 46] : List UInt8)) = false := bne_eq_false_iff_eq.mpr c57
           clear c57
           obtain rfl := Option.some.inj H
           try go_wp2_with (first | ((with_reducible refine gate_dst (N := 36) rfl ?_); refine Ext.wpList_buildC ?hgd 36 _ ?ho ?hb ?_; (case hgd => rfl); (case ho => rfl); (case hb => ((try go_simp); exact hbl36 _ _ _ _ _ _))))
           replace HO_10 := Aside0.mk (Kd.R_drew HO_10.out)
           replace BK284 := Aside0.mk (blk_drew BK284.out)
           replace BK290 := Aside0.mk (blk_drew BK290.out)
           replace BK310 := Aside0.mk (blk_drew BK310.out)
           replace BK311 := Aside0.mk (blk_drew BK311.out)
           replace HB := Aside0.mk (below_drew1 HB.out)
           have p339 : 0 ≤ (1 : Int) := (by omega)
           have q339 : 1 < (t312.length : Int) := of_decide_eq_true (by first | (with_reducible assumption) | assumption)
           (try (obtain ⟨gs_, cp_, hgs_, -⟩ := Kd.R_form HO_10.out (by omega); obtain ⟨oa_, hoa_⟩ : ∃ a_ : Option Addr, (some ⟨gs_, 0, none⟩ : Option Addr) = a_ := ⟨_, rfl⟩; rw [hoa_] at hgs_; clear hoa_; subst hgs_))
           obtain ⟨ad339, e339, hx339_0, hx339_1, hx339_2, hx339_3⟩ := at_T26 (Kd.R_reads' HO_10.out).2.2 1 p339 q339
           cases e339
           (try simp only [show (1 : Int).toNat = 1 from rfl, Nat.reduceMul, Nat.reduceEqDiff, Go.Addr.add, ↓reduceIte] at hx339_0)
           (try simp only [show (1 : Int).toNat = 1 from rfl, Nat.reduceMul, Nat.reduceEqDiff, Go.Addr.add, ↓reduceIte] at hx339_1)
           (try simp only [show (1 : Int).toNat = 1 from rfl, Nat.reduceMul, Nat.reduceEqDiff, Go.Addr.add, ↓reduceIte] at hx339_2)
           (try simp only [show (1 : Int).toNat = 1 from rfl, Nat.reduceMul, Nat.reduceEqDiff, Go.Addr.add, ↓reduceIte] at hx339_3)
           have qi339 : (1 < t312.length) = True := eq_true (by omega)
           (try rw [show ((1 : Int)).toNat = 1 from rfl] at hx339_0)
           (try rw [show 1 * 4 = 4 from rfl] at hx339_0)
           (try rw [show ((1 : Int)).toNat = 1 from rfl] at hx339_1)
           (try rw [show 1 * 4 = 4 from rfl] at hx339_1)
           (try rw [show ((1 : Int)).toNat = 1 from rfl] at hx339_2)
           (try rw [show 1 * 4 = 4 from rfl] at hx339_2)
           (try rw [show ((1 : Int)).toNat = 1 from rfl] at hx339_3)
           (try rw [show 1 * 4 = 4 from rfl] at hx339_3)
           replace p339 := eq_true p339
           replace q339 := eq_true q339
           refine start_ (n := 33) (S := fun w' => w'.cell? ⟨gb284, 0, none⟩ = some (.bool t279) ∧ w'.cell? ⟨gb284, 1, none⟩ = some (.int .u64 t280) ∧ w'.cell? ⟨gb284, 2, none⟩ = some (.int .u64 t281) ∧ w'.cell? ⟨gb284, 3, none⟩ = some (.int .i64 t282) ∧ w'.cell? ⟨gb310, 0, none⟩ = some (.bool t301) ∧ w'.cell? ⟨gb310, 1, none⟩ = some (.int .u64 t302) ∧ w'.cell? ⟨gb310, 2, none⟩ = some (.int .u64 t303) ∧ w'.cell? ⟨gb310, 3, none⟩ = some (.int .i64 t304) ∧ w'.cell? ⟨gb311, 0, none⟩ = some (.bool t305) ∧ w'.cell? ⟨gb311, 1, none⟩ = some (.int .u64 t306) ∧ w'.cell? ⟨gb311, 2, none⟩ = some (.int .u64 t307) ∧ w'.cell? ⟨gb311, 3, none⟩ = some (.int .i64 t308) ∧ w'.cell? ⟨ad339.block, ad339.off + 4, none⟩ = some (.bool ((rd_T26 t312 1).f0.f0)) ∧ w'.cell? ⟨ad339.block, ad339.off + 4 + 1, none⟩ = some (.int .u64 ((rd_T26 t312 1).f0.f1)) ∧ w'.cell? ⟨ad339.block, ad339.off + 4 + 2, none⟩ = some (.int .u64 ((rd_T26 t312 1).f0.f2)) ∧ w'.cell? ⟨ad339.block, ad339.off + 4 + 3, none⟩ = some (.int .i64 ((rd_T26 t312 1).f1))) (ds := []) (tk 33 0) (by kernel_rfl) rfl rfl ⟨(blk_cell BK284.out 0).trans rfl, (blk_cell BK284.out 1).trans rfl, (blk_cell BK284.out 2).trans rfl, (blk_cell BK284.out 3).trans rfl, (blk_cell BK310.out 0).trans rfl, (blk_cell BK310.out 1).trans rfl, (blk_cell BK310.out 2).trans rfl, (blk_cell BK310.out 3).trans rfl, (blk_cell BK311.out 0).trans rfl, (blk_cell BK311.out 1).trans rfl, (blk_cell BK311.out 2).trans rfl, (blk_cell BK311.out 3).trans rfl, hx339_0, hx339_1, hx339_2, hx339_3⟩ (fun hHeld => ?_); refine with_tabW ddilaw03_awake.tab10 ddilaw03_awake.bits10 (fun HT_ HW_ => ?_)
           generalize wc.drew = w58 at HO_10 BK284 BK290 BK310 BK311 HB hx339_0 hx339_1 hx339_2 hx339_3 hHeld ⊢
           refine takeA (i := 0) (some 75) HT_ HW_ (tk 33 1) hHeld ?_
           refine one_ (i := 1) (N := some 76) (tk 33 2) rfl rfl (one_of HT_.out (by kernel_rfl)) (by decide) (fun K hK => ?_)
           refine goesR Tryd.func31 #[.int .u64 167772160, .int .i64 8] ?_
           with_reducible refine (ddilaw03_four.calls 167772160 8 t327 t328 t329 t330 _ A47.out).mono ?_
           rintro e w59 ⟨rfl, hb⟩
           have hHe_ := pH hb hHeld
           refine ⟨_, rfl, ?_⟩
           replace HO_10 := Aside0.mk (Kd.R_below (by (with_reducible repeat (first | apply Kd.R_alloc | apply Kd.R_drewN | apply Kd.R_drew)); exact HO_10.out) hb)
           replace BK284 := (pB BK284 hb)
           replace BK290 := (pB BK290 hb)
           replace BK310 := (pB BK310 hb)
           replace BK311 := (pB BK311 hb)
           replace HB := (pS HB hb)
           (try clear hb)
           (try clear hk)
           refine hK.out _ _ ⟨(blk_cell BK284.out 0).trans rfl, (blk_cell BK284.out 1).trans rfl, (blk_cell BK284.out 2).trans rfl, (blk_cell BK284.out 3).trans rfl, (blk_cell BK310.out 0).trans rfl, (blk_cell BK310.out 1).trans rfl, (blk_cell BK310.out 2).trans rfl, (blk_cell BK310.out 3).trans rfl, (blk_cell BK311.out 0).trans rfl, (blk_cell BK311.out 1).trans rfl, (blk_cell BK311.out 2).trans rfl, (blk_cell BK311.out 3).trans rfl, hHe_.2.2.2.2.2.2.2.2.2.2.2.2.1, hHe_.2.2.2.2.2.2.2.2.2.2.2.2.2.1, hHe_.2.2.2.2.2.2.2.2.2.2.2.2.2.2.1, hHe_.2.2.2.2.2.2.2.2.2.2.2.2.2.2.2⟩ (fun hHeld => ?_)
           clear hK K
           refine normA (N := some 76) ?_
           refine pureA (i := 2) (some 77) HT_ (tk 33 3) ?_
           refine pureA (i := 3) (some 78) HT_ (tk 33 4) ?_
           refine pureA (i := 4) (some 79) HT_ (tk 33 5) ?_
           refine pureA (i := 5) (some 80) HT_ (tk 33 6) ?_
           refine pureA (i := 6) (some 81) HT_ (tk 33 7) ?_
           refine pureA (i := 7) (some 82) HT_ (tk 33 8) ?_
           refine takeA (i := 8) (some 83) HT_ HW_ (tk 33 9) hHeld ?_
           refine one_ (i := 9) (N := some 84) (tk 33 10) rfl rfl (one_of HT_.out (by kernel_rfl)) (by decide) (fun K hK => ?_)
           refine goesR Tryd.func31 #[.int .u64 167772160, .int .i64 9] ?_
           with_reducible refine (ddilaw03_four.calls 167772160 9 t331 t332 t333 t334 _ A50.out).mono ?_
           rintro e w60 ⟨rfl, hb⟩
           have hHe_ := pH hb hHeld
           refine ⟨_, rfl, ?_⟩
           replace HO_10 := Aside0.mk (Kd.R_below (by (with_reducible repeat (first | apply Kd.R_alloc | apply Kd.R_drewN | apply Kd.R_drew)); exact HO_10.out) hb)
           replace BK284 := (pB BK284 hb)
           replace BK290 := (pB BK290 hb)
           replace BK310 := (pB BK310 hb)
           replace BK311 := (pB BK311 hb)
           replace HB := (pS HB hb)
           (try clear hb)
           (try clear hk)
           refine hK.out _ _ ⟨(blk_cell BK284.out 0).trans rfl, (blk_cell BK284.out 1).trans rfl, (blk_cell BK284.out 2).trans rfl, (blk_cell BK284.out 3).trans rfl, (blk_cell BK310.out 0).trans rfl, (blk_cell BK310.out 1).trans rfl, (blk_cell BK310.out 2).trans rfl, (blk_cell BK310.out 3).trans rfl, (blk_cell BK311.out 0).trans rfl, (blk_cell BK311.out 1).trans rfl, (blk_cell BK311.out 2).trans rfl, (blk_cell BK311.out 3).trans rfl, hHe_.2.2.2.2.2.2.2.2.2.2.2.2.1, hHe_.2.2.2.2.2.2.2.2.2.2.2.2.2.1, hHe_.2.2.2.2.2.2.2.2.2.2.2.2.2.2.1, hHe_.2.2.2.2.2.2.2.2.2.2.2.2.2.2.2⟩ (fun hHeld => ?_)
           clear hK K
           refine normA (N := some 84) ?_
           refine pureA (i := 10) (some 85) HT_ (tk 33 11) ?_
           refine pureA (i := 11) (some 86) HT_ (tk 33 12) ?_
           refine pureA (i := 12) (some 87) HT_ (tk 33 13) ?_
           refine takeA (i := 13) (some 88) HT_ HW_ (tk 33 14) hHeld ?_
           refine one_ (i := 14) (N := some 89) (tk 33 15) rfl rfl (one_of HT_.out (by kernel_rfl)) (by decide) (fun K hK => ?_)
           refine goesR Tryd.func31 #[.int .u64 176160768, .int .i64 9] ?_
           with_reducible refine (ddilaw03_four.calls 176160768 9 t335 t336 t337 t338 _ A52.out).mono ?_
           rintro e w61 ⟨rfl, hb⟩
           have hHe_ := pH hb hHeld
           refine ⟨_, rfl, ?_⟩
           replace HO_10 := Aside0.mk (Kd.R_below (by (with_reducible repeat (first | apply Kd.R_alloc | apply Kd.R_drewN | apply Kd.R_drew)); exact HO_10.out) hb)
           replace BK284 := (pB BK284 hb)
           replace BK290 := (pB BK290 hb)
           replace BK310 := (pB BK310 hb)
           replace BK311 := (pB BK311 hb)
           replace HB := (pS HB hb)
           (try clear hb)
           (try clear hk)
           obtain ⟨Ao62, co62, eo62⟩ := Kd.R_slice HO_10.out
           (first | subst eo62 | (injection eo62 with f1_ f2_ f3_; have f4_ := f1_.symm; have f5_ := f3_.symm; clear f1_ f2_ f3_; subst f4_; subst f5_))
           refine hK.out _ _ ⟨(blk_cell BK284.out 0).trans rfl, (blk_cell BK284.out 1).trans rfl, (blk_cell BK284.out 2).trans rfl, (blk_cell BK284.out 3).trans rfl, (blk_cell BK310.out 0).trans rfl, (blk_cell BK310.out 1).trans rfl, (blk_cell BK310.out 2).trans rfl, (blk_cell BK310.out 3).trans rfl, (blk_cell BK311.out 0).trans rfl, (blk_cell BK311.out 1).trans rfl, (blk_cell BK311.out 2).trans rfl, (blk_cell BK311.out 3).trans rfl, hHe_.2.2.2.2.2.2.2.2.2.2.2.2.1, hHe_.2.2.2.2.2.2.2.2.2.2.2.2.2.1, hHe_.2.2.2.2.2.2.2.2.2.2.2.2.2.2.1, hHe_.2.2.2.2.2.2.2.2.2.2.2.2.2.2.2⟩ (fun hHeld => ?_)
           clear hK K
           refine normA (N := some 89) ?_
           refine pureA (i := 15) (some 90) HT_ (tk 33 16) ?_
           refine pureA (i := 16) (some 91) HT_ (tk 33 17) ?_
           refine pureA (i := 17) (some 92) HT_ (tk 33 18) ?_
           refine pureA (i := 18) (some 93) HT_ (tk 33 19) ?_
           refine pureA (i := 19) (some 94) HT_ (tk 33 20) ?_
           refine takeA (i := 20) (some 95) HT_ HW_ (tk 33 21) hHeld ?_
           refine one_ (i := 21) (N := some 96) (tk 33 22) rfl rfl (one_of HT_.out (by kernel_rfl)) (by decide) (fun K hK => ?_)
           refine goesR Tryd.func31 #[.int .u64 167772162, .int .i64 31] ?_
           with_reducible refine (ddilaw03_four.calls 167772162 31 t340 t341 t342 t343 _ A55.out).mono ?_
           rintro e w63 ⟨rfl, hb⟩
           have hHe_ := pH hb hHeld
           refine ⟨_, rfl, ?_⟩
           replace HO_10 := Aside0.mk (Kd.R_below (by (with_reducible repeat (first | apply Kd.R_alloc | apply Kd.R_drewN | apply Kd.R_drew)); exact HO_10.out) hb)
           replace BK284 := (pB BK284 hb)
           replace BK290 := (pB BK290 hb)
           replace BK310 := (pB BK310 hb)
           replace BK311 := (pB BK311 hb)
           replace HB := (pS HB hb)
           (try clear hb)
           (try clear hk)
           refine hK.out _ _ ⟨(blk_cell BK284.out 0).trans rfl, (blk_cell BK284.out 1).trans rfl, (blk_cell BK284.out 2).trans rfl, (blk_cell BK284.out 3).trans rfl, (blk_cell BK310.out 0).trans rfl, (blk_cell BK310.out 1).trans rfl, (blk_cell BK310.out 2).trans rfl, (blk_cell BK310.out 3).trans rfl, (blk_cell BK311.out 0).trans rfl, (blk_cell BK311.out 1).trans rfl, (blk_cell BK311.out 2).trans rfl, (blk_cell BK311.out 3).trans rfl, hHe_.2.2.2.2.2.2.2.2.2.2.2.2.1, hHe_.2.2.2.2.2.2.2.2.2.2.2.2.2.1, hHe_.2.2.2.2.2.2.2.2.2.2.2.2.2.2.1, hHe_.2.2.2.2.2.2.2.2.2.2.2.2.2.2.2⟩ (fun hHeld => ?_)
           clear hK K
           refine normA (N := some 96) ?_
           refine pureA (i := 22) (some 97) HT_ (tk 33 23) ?_
           refine pureA (i := 23) (some 98) HT_ (tk 33 24) ?_
           refine pureA (i := 24) (some 99) HT_ (tk 33 25) ?_
           refine pureA (i := 25) (some 100) HT_ (tk 33 26) ?_
           refine pureA (i := 26) (some 101) HT_ (tk 33 27) ?_
           refine pureA (i := 27) (some 102) HT_ (tk 33 28) ?_
           refine pureA (i := 28) (some 103) HT_ (tk 33 29) ?_
           refine pureA (i := 29) (some 104) HT_ (tk 33 30) ?_
           refine pureA (i := 30) (some 105) HT_ (tk 33 31) ?_
           refine pureA (i := 31) (some 106) HT_ (tk 33 32) ?_
           refine pureA (i := 32) (some 0) HT_ (tk 33 33) ?_
           refine done_ (done_of HT_.out (by kernel_rfl)) ?_
           try go_wp2_with (first | ((with_reducible refine gate_dst (N := 36) rfl ?_); refine Ext.wpList_buildC ?hgd 36 _ ?ho ?hb ?_; (case hgd => rfl); (case ho => rfl); (case hb => ((try go_simp); exact hbl36 _ _ _ _ _ _))))
           go_ret
           exact pR (pE HB)
          ·
           rw [if_neg c57] at H
           have c57b0 : (t319.toList == ([50, 46, 49, 48, 46, 105, 110, 45, 97, 100, 100, 114, 46, 97, 114, 112, 97, 46] : List UInt8)) = false := beq_eq_false_iff_ne.mpr c57
           have c57b1 : (t319.toList != ([50, 46, 49, 48, 46, 105, 110, 45, 97, 100, 100, 114, 46, 97, 114, 112, 97, 46] : List UInt8)) = true := bne_iff_ne.mpr c57
           exact absurd H (by simp)
         ·
          rw [if_neg c56] at H
          have c56b0 : ((((rd_T26 t312 1).f0.f0) == t340 && (((rd_T26 t312 1).f0.f1) == t341 && (((rd_T26 t312 1).f0.f2) == t342))) && (((rd_T26 t312 1).f1) == t343)) = false := by simpa using c56
          clear c56
          exact absurd H (by simp)
        ·
         rw [if_neg c54] at H
         exact absurd H (by simp)
       ·
        rw [if_neg c53] at H
        have c53b0 : ((t305 == t335 && (t306 == t336 && (t307 == t337))) && (t308 == t338)) = false := by simpa using c53
        clear c53
        exact absurd H (by simp)
      ·
       rw [if_neg c51] at H
       have c51b0 : ((t301 == t331 && (t302 == t332 && (t303 == t333))) && (t304 == t334)) = false := by simpa using c51
       clear c51
       exact absurd H (by simp)
     ·
      rw [if_neg c49] at H
      have c49b0 : (t295.toList == ([49, 48, 46, 48, 46, 48, 46, 52, 47, 51, 48] : List UInt8)) = false := beq_eq_false_iff_ne.mpr c49
      have c49b1 : (t295.toList != ([49, 48, 46, 48, 46, 48, 46, 52, 47, 51, 48] : List UInt8)) = true := bne_iff_ne.mpr c49
      exact absurd H (by simp)
    ·
     rw [if_neg c48] at H
     have c48b0 : ((t279 == t327 && (t280 == t328 && (t281 == t329))) && (t282 == t330)) = false := by simpa using c48
     clear c48
     exact absurd H (by simp)

end Go.Proofs.YteflcmmandlknaaDoor.PA
