/- The Go functions in Lean, with the proofs that the code comes to these answers: printed by this session's program (wip/px) out of the seat's translation. Conditions: each theorem's own. -/
import Derived.Test.YteflcmmandlknaaDoorPAx0
import Derived.Test.YteflcmmandlknaaDoorPAx2
import Derived.Test.YteflcmmandlknaaDoorPAx3
import Derived.Test.YteflcmmandlknaaDoorPAx5
import Derived.Test.YteflcmmandlknaaDoorPAx11
import Derived.Test.YteflcmmandlknaaDoorPAx12
import Derived.Test.YteflcmmandlknaaDoorPAx13
import Derived.Test.YteflcmmandlknaaDoorPAx15
namespace Go.Proofs.YteflcmmandlknaaDoor.PA
open Go.RowKit Go.Proofs.YteflcmmandlknaaDoorW.PrintWords Go.Proofs.YteflcmmandlknaaDoorW.PrintLast Go.Proofs.YteflcmmandlknaaDoorW.PrintMore
attribute [local go_sem] max2_int min2_int max_two min_two max_three min_three max_four min_four   -- for this text's walks alone
attribute [local go_sem ↓] Ext.isSome_setCell
open Press
set_option linter.unusedVariables false
set_option linter.unusedSimpArgs false

attribute [local go_sem high] eqA26
/-! ### ddilaw03_PrefixWhole: function 7 -/
mutual
def ddilaw03_PrefixWhole.l0 : Nat → List (S26) → Int → Int → Bool → Int → Int → Bool → Int → Int → Bool → Int → Int → Option (Bool)
 | 0, _, _, _, _, _, _, _, _, _, _, _, _ => none
 | k + 1, x5, x6, x7, x482000, x482001, x482002, x482003, x482004, x482005, x483000, x483001, x483002 => if x7 < (x5.length : Int) then (if 0 ≤ x7 then ((prefix_Contains.f ((rd_T26 x5 x7).f0.f0) ((rd_T26 x5 x7).f0.f1) ((rd_T26 x5 x7).f0.f2) ((rd_T26 x5 x7).f1) x483000 x483001 x483002).bind fun t487 => (if t487 = true then (ddilaw03_PrefixWhole.j1 k x5 (wrap64 (x6 + 1)) x7 x482000 x482001 x482002 x482003 x482004 x482005 x483000 x483001 x483002) else (ddilaw03_PrefixWhole.j1 k x5 x6 x7 x482000 x482001 x482002 x482003 x482004 x482005 x483000 x483001 x483002))) else (none)) else ((addr_Valid.f x482000 x482001 x482002).bind fun t515 => (if t515 = true then ((addr_Valid.f x482003 x482004 x482005).bind fun t516 => (if t516 = true then ((addr_Valid.f x483000 x483001 x483002).bind fun t517 => (if t517 = true then (if (x482000 == x483000) = true then (if (x482003 == x483000) = true then ((addr_Compare.f k x482000 x482001 x482002 x483000 x483001 x483002).bind fun t518 => (if t518 ≤ 0 then ((addr_Compare.f k x483000 x483001 x483002 x482003 x482004 x482005).bind fun t519 => (ddilaw03_PrefixWhole.j2 k x6 (decide (t519 ≤ 0)))) else (ddilaw03_PrefixWhole.j2 k x6 false))) else (ddilaw03_PrefixWhole.j2 k x6 false)) else (ddilaw03_PrefixWhole.j2 k x6 false)) else (ddilaw03_PrefixWhole.j2 k x6 false))) else (ddilaw03_PrefixWhole.j2 k x6 false))) else (ddilaw03_PrefixWhole.j2 k x6 false)))
def ddilaw03_PrefixWhole.j1 : Nat → List (S26) → Int → Int → Bool → Int → Int → Bool → Int → Int → Bool → Int → Int → Option (Bool)
 | 0, _, _, _, _, _, _, _, _, _, _, _, _ => none
 | k + 1, x5, x6, x7, x482000, x482001, x482002, x482003, x482004, x482005, x483000, x483001, x483002 => if x7 = 0 then (ddilaw03_PrefixWhole.l0 k x5 x6 (wrap64 (x7 + 1)) x482000 x482001 x482002 x482003 x482004 x482005 x483000 x483001 x483002) else (if 0 ≤ x7 then (if x7 < (x5.length : Int) then ((prefix_Of.f ((rd_T26 x5 x7).f0.f0) ((rd_T26 x5 x7).f0.f1) ((rd_T26 x5 x7).f0.f2) (wrap64 (((rd_T26 x5 x7).f1) - 1))).bind fun bt490 => ((prefix_Halves.f k bt490.1 bt490.2.1 bt490.2.2.1 bt490.2.2.2.1).bind fun bt496 => (if 0 ≤ (wrap64 (x7 - 1)) then (if (wrap64 (x7 - 1)) < (x5.length : Int) then ((prefix_Compare.f k ((rd_T26 x5 (wrap64 (x7 - 1))).f0.f0) ((rd_T26 x5 (wrap64 (x7 - 1))).f0.f1) ((rd_T26 x5 (wrap64 (x7 - 1))).f0.f2) ((rd_T26 x5 (wrap64 (x7 - 1))).f1) ((rd_T26 x5 x7).f0.f0) ((rd_T26 x5 x7).f0.f1) ((rd_T26 x5 x7).f0.f2) ((rd_T26 x5 x7).f1)).bind fun t509 => (if t509 ≥ 0 then (none) else ((prefix_Overlap.f ((rd_T26 x5 (wrap64 (x7 - 1))).f0.f0) ((rd_T26 x5 (wrap64 (x7 - 1))).f0.f1) ((rd_T26 x5 (wrap64 (x7 - 1))).f0.f2) ((rd_T26 x5 (wrap64 (x7 - 1))).f1) ((rd_T26 x5 x7).f0.f0) ((rd_T26 x5 x7).f0.f1) ((rd_T26 x5 x7).f0.f2) ((rd_T26 x5 x7).f1)).bind fun t512 => (if t512 = true then (none) else (if bt496.2.2.2.2.2.2.2.2 = true then (if ((bt496.1 == ((rd_T26 x5 (wrap64 (x7 - 1))).f0.f0) && (bt496.2.1 == ((rd_T26 x5 (wrap64 (x7 - 1))).f0.f1) && (bt496.2.2.1 == ((rd_T26 x5 (wrap64 (x7 - 1))).f0.f2)))) && (bt496.2.2.2.1 == ((rd_T26 x5 (wrap64 (x7 - 1))).f1))) = true then (if ((bt496.2.2.2.2.1 == ((rd_T26 x5 x7).f0.f0) && (bt496.2.2.2.2.2.1 == ((rd_T26 x5 x7).f0.f1) && (bt496.2.2.2.2.2.2.1 == ((rd_T26 x5 x7).f0.f2)))) && (bt496.2.2.2.2.2.2.2.1 == ((rd_T26 x5 x7).f1))) = true then (none) else (ddilaw03_PrefixWhole.l0 k x5 x6 (wrap64 (x7 + 1)) x482000 x482001 x482002 x482003 x482004 x482005 x483000 x483001 x483002)) else (ddilaw03_PrefixWhole.l0 k x5 x6 (wrap64 (x7 + 1)) x482000 x482001 x482002 x482003 x482004 x482005 x483000 x483001 x483002)) else (ddilaw03_PrefixWhole.l0 k x5 x6 (wrap64 (x7 + 1)) x482000 x482001 x482002 x482003 x482004 x482005 x483000 x483001 x483002)))))) else (none)) else (none)))) else (none)) else (none))
def ddilaw03_PrefixWhole.j2 : Nat → Int → Bool → Option (Bool)
 | 0, _, _ => none
 | k + 1, x6, x13 => if x13 = true then (if x6 = 1 then ((ddilaw03_awake.f k).bind fun t520 => (some t520)) else (none)) else (if x6 = 0 then ((ddilaw03_awake.f k).bind fun t521 => (some t521)) else (none))
end
def ddilaw03_PrefixWhole.f (k : Nat) (a0_0 : Bool) (a0_1 : Int) (a0_2 : Int) (a0_3 : Bool) (a0_4 : Int) (a0_5 : Int) (a1_0 : Bool) (a1_1 : Int) (a1_2 : Int) : Option (Bool) := (prefix_Cover.f k a0_0 a0_1 a0_2 a0_3 a0_4 a0_5).bind fun t483 => (ddilaw03_PrefixWhole.l0 k t483 0 0 a0_0 a0_1 a0_2 a0_3 a0_4 a0_5 a1_0 a1_1 a1_2)
theorem ddilaw03_PrefixWhole.mono_l : ∀ k, (∀ y0 y1 y2 y3 y4 y5 y6 y7 y8 y9 y10 y11, LeO (ddilaw03_PrefixWhole.l0 k y0 y1 y2 y3 y4 y5 y6 y7 y8 y9 y10 y11) (ddilaw03_PrefixWhole.l0 (k + 1) y0 y1 y2 y3 y4 y5 y6 y7 y8 y9 y10 y11)) ∧ (∀ y0 y1 y2 y3 y4 y5 y6 y7 y8 y9 y10 y11, LeO (ddilaw03_PrefixWhole.j1 k y0 y1 y2 y3 y4 y5 y6 y7 y8 y9 y10 y11) (ddilaw03_PrefixWhole.j1 (k + 1) y0 y1 y2 y3 y4 y5 y6 y7 y8 y9 y10 y11)) ∧ (∀ y0 y1, LeO (ddilaw03_PrefixWhole.j2 k y0 y1) (ddilaw03_PrefixWhole.j2 (k + 1) y0 y1))
 | 0 => ⟨fun _ _ _ _ _ _ _ _ _ _ _ _ r h => by simp [ddilaw03_PrefixWhole.l0] at h, fun _ _ _ _ _ _ _ _ _ _ _ _ r h => by simp [ddilaw03_PrefixWhole.j1] at h, fun _ _ r h => by simp [ddilaw03_PrefixWhole.j2] at h⟩
 | k + 1 => by
  obtain ⟨ih0, ih1, ih2⟩ := ddilaw03_PrefixWhole.mono_l k
  refine ⟨?_, ?_, ?_⟩
  ·
   intro y0 y1 y2 y3 y4 y5 y6 y7 y8 y9 y10 y11
   unfold ddilaw03_PrefixWhole.l0
   repeat' first
   | (with_reducible exact ih0 _ _ _ _ _ _ _ _ _ _ _ _)
   | (with_reducible exact ih1 _ _ _ _ _ _ _ _ _ _ _ _)
   | (with_reducible exact ih2 _ _)
   | (with_reducible exact addr_Compare.mono _ _ _ _ _ _ _)
   | (with_reducible exact ddilaw03_awake.mono _)
   | (with_reducible exact prefix_Compare.mono _ _ _ _ _ _ _ _ _)
   | (with_reducible exact prefix_Cover.mono _ _ _ _ _ _ _)
   | (with_reducible exact prefix_Halves.mono _ _ _ _ _)
   | (with_reducible exact LeO.refl _)
   | (with_reducible exact LeO.none _)
   | (with_reducible refine LeO.ite ?_ ?_)
   | (with_reducible refine LeO.bind ?_ (fun _ => ?_))
   | exact ih0 _ _ _ _ _ _ _ _ _ _ _ _
   | exact ih1 _ _ _ _ _ _ _ _ _ _ _ _
   | exact ih2 _ _
   | exact addr_Compare.mono _ _ _ _ _ _ _
   | exact ddilaw03_awake.mono _
   | exact prefix_Compare.mono _ _ _ _ _ _ _ _ _
   | exact prefix_Cover.mono _ _ _ _ _ _ _
   | exact prefix_Halves.mono _ _ _ _ _
   | exact LeO.none _
   | refine LeO.ite ?_ ?_
   | refine LeO.bind ?_ (fun _ => ?_)
  ·
   intro y0 y1 y2 y3 y4 y5 y6 y7 y8 y9 y10 y11
   unfold ddilaw03_PrefixWhole.j1
   repeat' first
   | (with_reducible exact ih0 _ _ _ _ _ _ _ _ _ _ _ _)
   | (with_reducible exact ih1 _ _ _ _ _ _ _ _ _ _ _ _)
   | (with_reducible exact ih2 _ _)
   | (with_reducible exact addr_Compare.mono _ _ _ _ _ _ _)
   | (with_reducible exact ddilaw03_awake.mono _)
   | (with_reducible exact prefix_Compare.mono _ _ _ _ _ _ _ _ _)
   | (with_reducible exact prefix_Cover.mono _ _ _ _ _ _ _)
   | (with_reducible exact prefix_Halves.mono _ _ _ _ _)
   | (with_reducible exact LeO.refl _)
   | (with_reducible exact LeO.none _)
   | (with_reducible refine LeO.ite ?_ ?_)
   | (with_reducible refine LeO.bind ?_ (fun _ => ?_))
   | exact ih0 _ _ _ _ _ _ _ _ _ _ _ _
   | exact ih1 _ _ _ _ _ _ _ _ _ _ _ _
   | exact ih2 _ _
   | exact addr_Compare.mono _ _ _ _ _ _ _
   | exact ddilaw03_awake.mono _
   | exact prefix_Compare.mono _ _ _ _ _ _ _ _ _
   | exact prefix_Cover.mono _ _ _ _ _ _ _
   | exact prefix_Halves.mono _ _ _ _ _
   | exact LeO.none _
   | refine LeO.ite ?_ ?_
   | refine LeO.bind ?_ (fun _ => ?_)
  ·
   intro y0 y1
   unfold ddilaw03_PrefixWhole.j2
   repeat' first
   | (with_reducible exact ih0 _ _ _ _ _ _ _ _ _ _ _ _)
   | (with_reducible exact ih1 _ _ _ _ _ _ _ _ _ _ _ _)
   | (with_reducible exact ih2 _ _)
   | (with_reducible exact addr_Compare.mono _ _ _ _ _ _ _)
   | (with_reducible exact ddilaw03_awake.mono _)
   | (with_reducible exact prefix_Compare.mono _ _ _ _ _ _ _ _ _)
   | (with_reducible exact prefix_Cover.mono _ _ _ _ _ _ _)
   | (with_reducible exact prefix_Halves.mono _ _ _ _ _)
   | (with_reducible exact LeO.refl _)
   | (with_reducible exact LeO.none _)
   | (with_reducible refine LeO.ite ?_ ?_)
   | (with_reducible refine LeO.bind ?_ (fun _ => ?_))
   | exact ih0 _ _ _ _ _ _ _ _ _ _ _ _
   | exact ih1 _ _ _ _ _ _ _ _ _ _ _ _
   | exact ih2 _ _
   | exact addr_Compare.mono _ _ _ _ _ _ _
   | exact ddilaw03_awake.mono _
   | exact prefix_Compare.mono _ _ _ _ _ _ _ _ _
   | exact prefix_Cover.mono _ _ _ _ _ _ _
   | exact prefix_Halves.mono _ _ _ _ _
   | exact LeO.none _
   | refine LeO.ite ?_ ?_
   | refine LeO.bind ?_ (fun _ => ?_)
theorem ddilaw03_PrefixWhole.mono : ∀ a0 a1 a2 a3 a4 a5 a6 a7 a8 k, LeO (ddilaw03_PrefixWhole.f k a0 a1 a2 a3 a4 a5 a6 a7 a8) (ddilaw03_PrefixWhole.f (k + 1) a0 a1 a2 a3 a4 a5 a6 a7 a8) := by
 intro a0 a1 a2 a3 a4 a5 a6 a7 a8 k
 obtain ⟨ih0, ih1, ih2⟩ := ddilaw03_PrefixWhole.mono_l k
 unfold ddilaw03_PrefixWhole.f
 repeat' first
  | (with_reducible exact ih0 _ _ _ _ _ _ _ _ _ _ _ _)
  | (with_reducible exact ih1 _ _ _ _ _ _ _ _ _ _ _ _)
  | (with_reducible exact ih2 _ _)
  | (with_reducible exact addr_Compare.mono _ _ _ _ _ _ _)
  | (with_reducible exact ddilaw03_awake.mono _)
  | (with_reducible exact prefix_Compare.mono _ _ _ _ _ _ _ _ _)
  | (with_reducible exact prefix_Cover.mono _ _ _ _ _ _ _)
  | (with_reducible exact prefix_Halves.mono _ _ _ _ _)
  | (with_reducible exact LeO.refl _)
  | (with_reducible exact LeO.none _)
  | (with_reducible refine LeO.ite ?_ ?_)
  | (with_reducible refine LeO.bind ?_ (fun _ => ?_))
  | exact ih0 _ _ _ _ _ _ _ _ _ _ _ _
  | exact ih1 _ _ _ _ _ _ _ _ _ _ _ _
  | exact ih2 _ _
  | exact addr_Compare.mono _ _ _ _ _ _ _
  | exact ddilaw03_awake.mono _
  | exact prefix_Compare.mono _ _ _ _ _ _ _ _ _
  | exact prefix_Cover.mono _ _ _ _ _ _ _
  | exact prefix_Halves.mono _ _ _ _ _
  | exact LeO.none _
  | refine LeO.ite ?_ ?_
  | refine LeO.bind ?_ (fun _ => ?_)
def ddilaw03_PrefixWhole.T9 : Bool × List (List Nat × List Nat) := (true, [([], []), ([], []), ([0, 1], [0, 1]), ([2], [2]), ([3], [3]), ([], []), ([], []), ([5, 6], [5, 6]), ([7], [7]), ([8], [8]), ([9], [9]), ([4, 10], [4, 10]), ([11], [11]), ([12], [12]), ([12], [12]), ([], []), ([15, 13, 11, 0, 1, 2, 3, 4, 5, 6, 7, 8, 9, 10, 11, 12, 13, 15], [13, 15]), ([14, 16, 0, 1, 2, 3, 4, 5, 6, 7, 8, 9, 10, 11, 12, 13, 14, 15, 16], [14])])
def ddilaw03_PrefixWhole.B9 : List Nat := [0, 0, 3, 7, 15, 0, 0, 96, 224, 480, 992, 2047, 4095, 8191, 8191, 0, 49151, 131071]
theorem ddilaw03_PrefixWhole.tab9 : rtab .any (opsOf Tryd.f7 9) = ddilaw03_PrefixWhole.T9 := by kernel_rfl
theorem ddilaw03_PrefixWhole.bits9 : waitsOk ddilaw03_PrefixWhole.T9.2 ddilaw03_PrefixWhole.B9 = true := by kernel_rfl
def ddilaw03_PrefixWhole.T11 : Bool × List (List Nat × List Nat) := (true, [([], []), ([], []), ([1], [1]), ([0, 2], [0, 2]), ([3], [3]), ([], []), ([], []), ([5, 6], [5, 6]), ([7], [7]), ([4, 8], [4, 8]), ([9], [9]), ([10, 9], [10]), ([11], [11]), ([11], [11]), ([13, 11], [11, 13]), ([12, 14, 11], [11, 12, 14]), ([15, 11], [11, 15]), ([11], [11]), ([11], [11]), ([17, 18, 11], [11, 17, 18]), ([19, 11], [11, 19]), ([16, 20, 11, 11], [11, 16, 20]), ([11, 21], [11, 21]), ([22, 21], [22]), ([23], [23]), ([24, 23, 23], [23, 24]), ([25], [25]), ([25], [25]), ([25], [25]), ([28, 25], [25, 28]), ([27, 29, 25], [25, 27, 29]), ([30, 25], [25, 30]), ([26, 31, 25], [25, 26, 31]), ([25, 32, 23], [23, 25, 32]), ([33, 25, 23], [23, 33]), ([34], [34]), ([34], [34]), ([34], [34]), ([36, 37, 34], [34, 36, 37]), ([38, 34], [34, 38]), ([35, 39, 34], [34, 35, 39]), ([34, 40, 23], [23, 34, 40]), ([23, 41], [23, 41])])
def ddilaw03_PrefixWhole.B11 : List Nat := [0, 0, 2, 7, 15, 0, 0, 96, 224, 511, 1023, 2047, 4095, 4095, 12287, 32767, 65535, 4095, 4095, 397311, 921599, 2097151, 4194303, 8388607, 16777215, 33554431, 67108863, 67108863, 67108863, 335544319, 1006632959, 2080374783, 4294967295, 8589934591, 17179869183, 34359738367, 34359738367, 34359738367, 240518168575, 515396075519, 1099511627775, 2199023255551, 4398046511103]
theorem ddilaw03_PrefixWhole.tab11 : rtab .any (opsOf Tryd.f7 11) = ddilaw03_PrefixWhole.T11 := by kernel_rfl
theorem ddilaw03_PrefixWhole.bits11 : waitsOk ddilaw03_PrefixWhole.T11.2 ddilaw03_PrefixWhole.B11 = true := by kernel_rfl
set_option maxHeartbeats 40000000 in
set_option maxRecDepth 100000 in
theorem ddilaw03_PrefixWhole.calls (k : Nat) (a0_0 : Bool) (a0_1 : Int) (a0_2 : Int) (a0_3 : Bool) (a0_4 : Int) (a0_5 : Int) (a1_0 : Bool) (a1_1 : Int) (a1_2 : Int) (r : Bool) (w : World) (hLD : Laid w) (h : ddilaw03_PrefixWhole.f k a0_0 a0_1 a0_2 a0_3 a0_4 a0_5 a1_0 a1_1 a1_2 = some r) :
 Calls Tryd.prog 7 #[.agg #[.bool a0_0, .int .u64 a0_1, .int .u64 a0_2, .bool a0_3, .int .u64 a0_4, .int .u64 a0_5], .agg #[.bool a1_0, .int .u64 a1_1, .int .u64 a1_2]] w fun e w' => e = .returned (.bool r) ∧ Below w.heap.size w w' := by
 have hu36 := Tryd.underlying36
 have hu24 := Tryd.underlying24
 have hu26 := Tryd.underlying26
 have HLD := Aside0.mk hLD
 clear hLD
 have HB := Aside0.mk (Below.refl w.heap.size w)
 have H : ((prefix_Cover.f k a0_0 a0_1 a0_2 a0_3 a0_4 a0_5).bind fun t483 => (ddilaw03_PrefixWhole.l0 k t483 0 0 a0_0 a0_1 a0_2 a0_3 a0_4 a0_5 a1_0 a1_1 a1_2)) = some r := h
 clear h
 replace H := Option.bind_eq_some_iff.mp H
 obtain ⟨t483, A30, H⟩ := H
 replace H : (ddilaw03_PrefixWhole.l0 k t483 0 0 a0_0 a0_1 a0_2 a0_3 a0_4 a0_5 a1_0 a1_1 a1_2) = some r := H
 have A3 := Aside0.mk A30
 clear A30
 have H' := Aside0.mk H
 clear H
 go_enter Tryd.func7, Tryd.ntmps7
 go_wp2_with (first | ((with_reducible refine gate_ (.load 36 (.tmp 2)) rfl ?_); refine wpList_load_row (by rfl) 36 (.tmp 2) (by rfl) _ (by rfl) 36 _ (0, 0) _ (by first | exact BK481.out | exact BK482.out | exact BK495.out | exact BK505.out | exact BK506.out | exact pQ BK481 | exact pQ BK482 | exact pQ BK495 | exact pQ BK505 | exact pQ BK506) hu36 (by rfl) (by kernel_rfl) ?_) | ((with_reducible refine gate_dst (N := 2) rfl ?_); refine boxA (N := 2) (cs := #[.bool a0_0, .int .u64 a0_1, .int .u64 a0_2, .bool a0_3, .int .u64 a0_4, .int .u64 a0_5]) (t := 36) ?_; intro gb481 hg w4 hbox hb; have BK481 := Aside0.mk (hbox); have GW481 := (pZ HB hg); have GE481 := (pZ HB hg); replace HB := (pS HB hb); clear hb hbox hg) | ((with_reducible refine gate_dst (N := 3) rfl ?_); refine boxA (N := 3) (cs := #[.bool a1_0, .int .u64 a1_1, .int .u64 a1_2]) (t := 24) ?_; intro gb482 hg w5 hbox hb; have BK482 := Aside0.mk (hbox); have GW482 := (pZ HB hg); have GE482 := (pZ HB hg); have NB481_482 := (pL BK481 hg); have NB482_481 := (pG BK481 hg); replace BK481 := (pB BK481 hb); replace HB := (pS HB hb); clear hb hbox hg; have hnb6 := NB481_482.out; have hnc6 := NB482_481.out; obtain ⟨hcz7_0, hcz7_1, hcz7_2, hcz7_3, hcz7_4, hcz7_5, hfz7_0, hfz7_1, hfz7_2, hfz7_3, hfz7_4, hfz7_5⟩ := pC6 BK481) | ((with_reducible refine gate_callee (f := 25) rfl ?_); refine goesA (some 15) Tryd.func25 #[.agg #[.bool a0_0, .int .u64 a0_1, .int .u64 a0_2, .bool a0_3, .int .u64 a0_4, .int .u64 a0_5]] ?_; (with_reducible refine (prefix_Cover.calls k a0_0 a0_1 a0_2 a0_3 a0_4 a0_5 t483 _ ?side1 A3.out).mono ?_); (case side1 => exact Laid.below HLD.out (pE HB)); rintro e w8 ⟨v484, rfl, ho0, hb⟩; refine ⟨_, rfl, ?_⟩; have HO485 := Aside0.mk (Kd.R_lower ho0 (below_size (by repeat (first | (with_reducible first | exact HB.out | apply below_alloc | apply pw_below_drewN | apply below_drew1 | refine below_set ?_ GE481.out | refine below_set ?_ GE482.out) | exact HB.out)))); replace BK481 := (pB BK481 hb); replace BK482 := (pB BK482 hb); replace HB := (pS HB hb); (try clear hb); (try clear hk); (try clear ho0)))
 go_loopg [6, 7] k (fun kq v6 v7 w' => ∃ (x6_1 : Int) (x7_1 : Int), v6 = .int .i64 x6_1 ∧ v7 = .int .i64 x7_1 ∧ Aside0 (ddilaw03_PrefixWhole.l0 kq t483 x6_1 x7_1 a0_0 a0_1 a0_2 a0_3 a0_4 a0_5 a1_0 a1_1 a1_2 = some r) ∧ Aside0 (kq ≤ k) ∧ Aside0 (Kd.R k26 26 w' w.heap.size (fun _ => True) v484 t483) ∧ Aside0 (w'.heap[gb481]? = some (.cells #[.bool a0_0, .int .u64 a0_1, .int .u64 a0_2, .bool a0_3, .int .u64 a0_4, .int .u64 a0_5] 36 (0, 0))) ∧ Aside0 (w'.heap[gb482]? = some (.cells #[.bool a1_0, .int .u64 a1_1, .int .u64 a1_2] 24 (0, 0))) ∧ Aside0 (Below w.heap.size w w'))
 case atStart => exact ⟨(0), (0), pT, pT, H', ⟨Nat.le_refl _⟩, ⟨by (with_reducible repeat (first | apply Kd.R_alloc | apply Kd.R_drewN | apply Kd.R_drew)); exact HO485.out⟩, ⟨pM BK481⟩, ⟨pM BK482⟩, ⟨pE HB⟩⟩
 case round =>
  clear H'
  try clear c2
  try clear p2
  try clear c6
  try clear c7
  try clear hcz7_0 hcz7_1 hcz7_2 hcz7_3 hcz7_4 hcz7_5
  try clear hfz7_0 hfz7_1 hfz7_2 hfz7_3 hfz7_4 hfz7_5
  obtain ⟨x6_1, x7_1, rfl, rfl, HA, HK1, HO_5, BK481, BK482, HB⟩ := hrel
  cases gk with
  | zero => exact absurd HA.out (by simp [ddilaw03_PrefixWhole.l0])
  | succ k1 =>
   have H := HA.out
   clear HA
   simp only [ddilaw03_PrefixWhole.l0] at H
   by_cases c9 : x7_1 < (t483.length : Int)
   ·
    rw [if_pos c9] at H
    have c9b0 : decide (x7_1 < (t483.length : Int)) = true := decide_eq_true c9
    clear c9
    by_cases c10 : 0 ≤ x7_1
    ·
     rw [if_pos c10] at H
     have c10b0 : decide (0 ≤ x7_1) = true := decide_eq_true c10
     clear c10
     replace H := Option.bind_eq_some_iff.mp H
     obtain ⟨t487, A110, H⟩ := H
     replace H : (if t487 = true then (ddilaw03_PrefixWhole.j1 k1 t483 (wrap64 (x6_1 + 1)) x7_1 a0_0 a0_1 a0_2 a0_3 a0_4 a0_5 a1_0 a1_1 a1_2) else (ddilaw03_PrefixWhole.j1 k1 t483 x6_1 x7_1 a0_0 a0_1 a0_2 a0_3 a0_4 a0_5 a1_0 a1_1 a1_2)) = some r := H
     have A11 := Aside0.mk A110
     clear A110
     have HC12 := Aside0.mk H
     clear H
     obtain ⟨Ao13, co13, eo13⟩ := Kd.R_slice HO_5.out
     subst eo13
     try go_wp2_with (first | ((with_reducible refine gate_ (.load 36 (.tmp 2)) rfl ?_); refine wpList_load_row (by rfl) 36 (.tmp 2) (by rfl) _ (by rfl) 36 _ (0, 0) _ (by first | exact BK481.out | exact BK482.out | exact BK495.out | exact BK505.out | exact BK506.out | exact pQ BK481 | exact pQ BK482 | exact pQ BK495 | exact pQ BK505 | exact pQ BK506) hu36 (by rfl) (by kernel_rfl) ?_))
     replace HO_5 := Aside0.mk (Kd.R_drew HO_5.out)
     replace BK481 := Aside0.mk (blk_drew BK481.out)
     replace BK482 := Aside0.mk (blk_drew BK482.out)
     replace HB := Aside0.mk (below_drew1 HB.out)
     have p486 : 0 ≤ (x7_1 : Int) := of_decide_eq_true (by first | (with_reducible assumption) | assumption)
     have q486 : x7_1 < (t483.length : Int) := of_decide_eq_true (by first | (with_reducible assumption) | assumption)
     obtain ⟨ad486, e486, hx486_0, hx486_1, hx486_2, hx486_3⟩ := at_T26 (Kd.R_reads' HO_5.out).2.2 x7_1 p486 q486
     cases e486
     replace p486 := eq_true p486
     replace q486 := eq_true q486
     refine start_ (n := 6) (S := fun w' => w'.cell? ⟨gb482, 0, none⟩ = some (.bool a1_0) ∧ w'.cell? ⟨gb482, 1, none⟩ = some (.int .u64 a1_1) ∧ w'.cell? ⟨gb482, 2, none⟩ = some (.int .u64 a1_2) ∧ w'.cell? (ad486.add ((x7_1).toNat * 4)) = some (.bool ((rd_T26 t483 x7_1).f0.f0)) ∧ w'.cell? ⟨(ad486.add ((x7_1).toNat * 4)).block, (ad486.add ((x7_1).toNat * 4)).off + 1, none⟩ = some (.int .u64 ((rd_T26 t483 x7_1).f0.f1)) ∧ w'.cell? ⟨(ad486.add ((x7_1).toNat * 4)).block, (ad486.add ((x7_1).toNat * 4)).off + 2, none⟩ = some (.int .u64 ((rd_T26 t483 x7_1).f0.f2)) ∧ w'.cell? ⟨(ad486.add ((x7_1).toNat * 4)).block, (ad486.add ((x7_1).toNat * 4)).off + 3, none⟩ = some (.int .i64 ((rd_T26 t483 x7_1).f1))) (ds := []) (tk 6 0) (by kernel_rfl) rfl rfl ⟨(blk_cell BK482.out 0).trans rfl, (blk_cell BK482.out 1).trans rfl, (blk_cell BK482.out 2).trans rfl, hx486_0, hx486_1, hx486_2, hx486_3⟩ (fun hHeld => ?_)
     generalize wr.drew = w14 at HO_5 BK481 BK482 HB hx486_0 hx486_1 hx486_2 hx486_3 hHeld ⊢
     refine pure_ (i := 0) (N := some 22) (v := ?_) (a' := ?_) (tk 6 1) rfl rfl (by kernel_rfl) (fun _ _ _ h => h) (Or.inl ⟨by rfl, ?_⟩) ?_ ?_
     rotate_left
     ·
      intro w'
      go_simp
      with_reducible rfl
     rotate_left
     ·
      simp only [Act.put, List.setIfInBounds_toArray, List.set_cons_zero, List.set_cons_succ, i64_w, i32_w]
      rfl
     refine pure_ (i := 1) (N := some 23) (v := ?_) (a' := ?_) (tk 6 2) rfl rfl (by kernel_rfl) (fun _ _ _ h => h) (Or.inl ⟨by rfl, ?_⟩) ?_ ?_
     rotate_left
     ·
      intro w'
      go_simp
      with_reducible rfl
     rotate_left
     ·
      simp only [Act.put, List.setIfInBounds_toArray, List.set_cons_zero, List.set_cons_succ, i64_w, i32_w]
      rfl
     refine pure_ (i := 2) (N := some 24) (v := ?_) (a' := ?_) (tk 6 3) rfl rfl (by kernel_rfl) (fun _ _ _ h => h) (Or.inl ⟨by rfl, ?_⟩) ?_ ?_
     rotate_left
     ·
      intro w'
      go_simp
      with_reducible rfl
     rotate_left
     ·
      simp only [Act.put, List.setIfInBounds_toArray, List.set_cons_zero, List.set_cons_succ, i64_w, i32_w]
      rfl
     refine take_ (i := 3) (N := some 25) (v := ?_) (a' := ?_) (tk 6 4) rfl rfl (by kernel_rfl) (fun _ _ _ h => h) (Or.inl ⟨by rfl, ?_⟩) hHeld ?_ ?_
     rotate_left
     ·
      rintro w' ⟨s0, s1, s2, s3, s4, s5, s6⟩
      go_simp
      with_reducible rfl
     rotate_left
     ·
      simp only [Act.put, List.setIfInBounds_toArray, List.set_cons_zero, List.set_cons_succ, i64_w, i32_w]
      rfl
     refine take_ (i := 4) (N := some 26) (v := ?_) (a' := ?_) (tk 6 5) rfl rfl (by kernel_rfl) (fun _ _ _ h => h) (Or.inl ⟨by rfl, ?_⟩) hHeld ?_ ?_
     rotate_left
     ·
      rintro w' ⟨s0, s1, s2, s3, s4, s5, s6⟩
      go_simp
      with_reducible rfl
     rotate_left
     ·
      simp only [Act.put, List.setIfInBounds_toArray, List.set_cons_zero, List.set_cons_succ, i64_w, i32_w]
      rfl
     refine one_ (i := 5) (N := some 27) (tk 6 6) rfl rfl (by kernel_rfl) (by decide) (fun K hK => ?_)
     refine goesR Tryd.func10 #[.agg #[.bool ((rd_T26 t483 x7_1).f0.f0), .int .u64 ((rd_T26 t483 x7_1).f0.f1), .int .u64 ((rd_T26 t483 x7_1).f0.f2), .int .i64 ((rd_T26 t483 x7_1).f1)], .agg #[.bool a1_0, .int .u64 a1_1, .int .u64 a1_2]] ?_
     with_reducible refine (prefix_Contains.calls ((rd_T26 t483 x7_1).f0.f0) ((rd_T26 t483 x7_1).f0.f1) ((rd_T26 t483 x7_1).f0.f2) ((rd_T26 t483 x7_1).f1) a1_0 a1_1 a1_2 t487 _ A11.out).mono ?_
     rintro e w15 ⟨rfl, hb⟩
     have hHe_ := pH hb hHeld
     refine ⟨_, rfl, ?_⟩
     replace HO_5 := Aside0.mk (Kd.R_below (by (with_reducible repeat (first | apply Kd.R_alloc | apply Kd.R_drewN | apply Kd.R_drew)); exact HO_5.out) hb)
     replace BK481 := (pB BK481 hb)
     replace BK482 := (pB BK482 hb)
     replace HB := (pS HB hb)
     (try clear hb)
     (try clear hk)
     refine hK.out _ _ ⟨(blk_cell BK482.out 0).trans rfl, (blk_cell BK482.out 1).trans rfl, (blk_cell BK482.out 2).trans rfl, hHe_.2.2.2.1, hHe_.2.2.2.2.1, hHe_.2.2.2.2.2.1, hHe_.2.2.2.2.2.2⟩ (fun hHeld => ?_)
     clear hK K
     refine normA (N := some 27) ?_
     refine done_ (by kernel_rfl) ?_
     go_upto_if 27 with (fail)
     go_cut [6] (fun v6 wc => ∃ (kq : Nat) (x6_11 : Int), v6 = .int .i64 x6_11 ∧ Aside0 (ddilaw03_PrefixWhole.j1 kq t483 x6_11 x7_1 a0_0 a0_1 a0_2 a0_3 a0_4 a0_5 a1_0 a1_1 a1_2 = some r) ∧ Aside0 (kq ≤ k1) ∧ Aside0 (Kd.R k26 26 wc w.heap.size (fun _ => True) (.slice (some ad486) t483.length co13) t483) ∧ Aside0 (wc.heap[gb481]? = some (.cells #[.bool a0_0, .int .u64 a0_1, .int .u64 a0_2, .bool a0_3, .int .u64 a0_4, .int .u64 a0_5] 36 (0, 0))) ∧ Aside0 (wc.heap[gb482]? = some (.cells #[.bool a1_0, .int .u64 a1_1, .int .u64 a1_2] 24 (0, 0))) ∧ Aside0 (Below w.heap.size w wc))
     case first =>
      have H := HC12.out
      clear HC12
      by_cases c16 : t487 = true
      ·
       subst c16
       rw [if_pos rfl] at H
       have H' := Aside0.mk H
       clear H
       go_wp2_with (first | ((with_reducible refine gate_ (.load 36 (.tmp 2)) rfl ?_); refine wpList_load_row (by rfl) 36 (.tmp 2) (by rfl) _ (by rfl) 36 _ (0, 0) _ (by first | exact BK481.out | exact BK482.out | exact BK495.out | exact BK505.out | exact BK506.out | exact pQ BK481 | exact pQ BK482 | exact pQ BK495 | exact pQ BK505 | exact pQ BK506) hu36 (by rfl) (by kernel_rfl) ?_))
       go_meet
       case rel => exact ⟨_, (wrap64 (x6_1 + 1)), pT, H', ⟨by have := HK1.out; first | omega | exact Nat.le_refl _⟩, ⟨by (with_reducible repeat (first | apply Kd.R_alloc | apply Kd.R_drewN | apply Kd.R_drew)); exact HO_5.out⟩, ⟨pM BK481⟩, ⟨pM BK482⟩, ⟨pE HB⟩⟩
      ·
       replace c16 := Bool.eq_false_iff.mpr c16
       subst c16
       rw [if_neg (show ¬ (false = true) by decide)] at H
       have H' := Aside0.mk H
       clear H
       go_wp2_with (first | ((with_reducible refine gate_ (.load 36 (.tmp 2)) rfl ?_); refine wpList_load_row (by rfl) 36 (.tmp 2) (by rfl) _ (by rfl) 36 _ (0, 0) _ (by first | exact BK481.out | exact BK482.out | exact BK495.out | exact BK505.out | exact BK506.out | exact pQ BK481 | exact pQ BK482 | exact pQ BK495 | exact pQ BK505 | exact pQ BK506) hu36 (by rfl) (by kernel_rfl) ?_))
       go_meet
       case rel => exact ⟨_, (x6_1), pT, H', ⟨by have := HK1.out; first | omega | exact Nat.le_refl _⟩, ⟨by (with_reducible repeat (first | apply Kd.R_alloc | apply Kd.R_drewN | apply Kd.R_drew)); exact HO_5.out⟩, ⟨pM BK481⟩, ⟨pM BK482⟩, ⟨pE HB⟩⟩
     case rest =>
      clear HC12
      try clear c1
      try clear c2
      try clear p2
      try clear p4
      try clear q4
      try clear hx4
      try clear c6
      try clear p6
      try clear c7
      try clear c9
      try clear c9b0
      try clear c10
      try clear c10b0
      try clear c16
      try clear hcz7_0 hcz7_1 hcz7_2 hcz7_3 hcz7_4 hcz7_5
      try clear hfz7_0 hfz7_1 hfz7_2 hfz7_3 hfz7_4 hfz7_5
      try clear hx486_0
      try clear hx486_1
      try clear hx486_2
      try clear hx486_3
      try clear p2
      try clear p486
      try clear q486
      obtain ⟨kq, x6_11, rfl, HA, HJ11, HO_5, BK481, BK482, HB⟩ := hcut
      cases kq with
      | zero => exact absurd HA.out (by simp [ddilaw03_PrefixWhole.j1])
      | succ kj11 =>
       have H := HA.out
       clear HA
       simp only [ddilaw03_PrefixWhole.j1] at H
       by_cases c17 : x7_1 = 0
       ·
        rw [if_pos c17] at H
        have c17b0 : (x7_1 == 0) = true := beq_iff_eq.mpr c17
        have c17b1 : (x7_1 != 0) = false := bne_eq_false_iff_eq.mpr c17
        clear c17
        have H' := Aside0.mk H
        clear H
        go_wp2_with (first | ((with_reducible refine gate_ (.load 36 (.tmp 2)) rfl ?_); refine wpList_load_row (by rfl) 36 (.tmp 2) (by rfl) _ (by rfl) 36 _ (0, 0) _ (by first | exact BK481.out | exact BK482.out | exact BK495.out | exact BK505.out | exact BK506.out | exact pQ BK481 | exact pQ BK482 | exact pQ BK495 | exact pQ BK505 | exact pQ BK506) hu36 (by rfl) (by kernel_rfl) ?_))
        go_roundg kj11
        case measure => have := HK1.out; have := HJ11.out; omega
        case rel => exact ⟨(x6_11), (wrap64 (x7_1 + 1)), pT, pT, H', ⟨by have := HK1.out; have := HJ11.out; omega⟩, ⟨by (with_reducible repeat (first | apply Kd.R_alloc | apply Kd.R_drewN | apply Kd.R_drew)); exact HO_5.out⟩, ⟨pM BK481⟩, ⟨pM BK482⟩, ⟨pE HB⟩⟩
       ·
        rw [if_neg c17] at H
        have c17b0 : (x7_1 == 0) = false := beq_eq_false_iff_ne.mpr c17
        have c17b1 : (x7_1 != 0) = true := bne_iff_ne.mpr c17
        by_cases c18 : 0 ≤ x7_1
        ·
         rw [if_pos c18] at H
         have c18b0 : decide (0 ≤ x7_1) = true := decide_eq_true c18
         clear c18
         by_cases c19 : x7_1 < (t483.length : Int)
         ·
          rw [if_pos c19] at H
          have c19b0 : decide (x7_1 < (t483.length : Int)) = true := decide_eq_true c19
          clear c19
          replace H := Option.bind_eq_some_iff.mp H
          obtain ⟨⟨t490, t491, t492, t493, t494⟩, A200, H⟩ := H
          replace H : ((prefix_Halves.f kj11 t490 t491 t492 t493).bind fun bt496 => (if 0 ≤ (wrap64 (x7_1 - 1)) then (if (wrap64 (x7_1 - 1)) < (t483.length : Int) then ((prefix_Compare.f kj11 ((rd_T26 t483 (wrap64 (x7_1 - 1))).f0.f0) ((rd_T26 t483 (wrap64 (x7_1 - 1))).f0.f1) ((rd_T26 t483 (wrap64 (x7_1 - 1))).f0.f2) ((rd_T26 t483 (wrap64 (x7_1 - 1))).f1) ((rd_T26 t483 x7_1).f0.f0) ((rd_T26 t483 x7_1).f0.f1) ((rd_T26 t483 x7_1).f0.f2) ((rd_T26 t483 x7_1).f1)).bind fun t509 => (if t509 ≥ 0 then (none) else ((prefix_Overlap.f ((rd_T26 t483 (wrap64 (x7_1 - 1))).f0.f0) ((rd_T26 t483 (wrap64 (x7_1 - 1))).f0.f1) ((rd_T26 t483 (wrap64 (x7_1 - 1))).f0.f2) ((rd_T26 t483 (wrap64 (x7_1 - 1))).f1) ((rd_T26 t483 x7_1).f0.f0) ((rd_T26 t483 x7_1).f0.f1) ((rd_T26 t483 x7_1).f0.f2) ((rd_T26 t483 x7_1).f1)).bind fun t512 => (if t512 = true then (none) else (if bt496.2.2.2.2.2.2.2.2 = true then (if ((bt496.1 == ((rd_T26 t483 (wrap64 (x7_1 - 1))).f0.f0) && (bt496.2.1 == ((rd_T26 t483 (wrap64 (x7_1 - 1))).f0.f1) && (bt496.2.2.1 == ((rd_T26 t483 (wrap64 (x7_1 - 1))).f0.f2)))) && (bt496.2.2.2.1 == ((rd_T26 t483 (wrap64 (x7_1 - 1))).f1))) = true then (if ((bt496.2.2.2.2.1 == ((rd_T26 t483 x7_1).f0.f0) && (bt496.2.2.2.2.2.1 == ((rd_T26 t483 x7_1).f0.f1) && (bt496.2.2.2.2.2.2.1 == ((rd_T26 t483 x7_1).f0.f2)))) && (bt496.2.2.2.2.2.2.2.1 == ((rd_T26 t483 x7_1).f1))) = true then (none) else (ddilaw03_PrefixWhole.l0 kj11 t483 x6_11 (wrap64 (x7_1 + 1)) a0_0 a0_1 a0_2 a0_3 a0_4 a0_5 a1_0 a1_1 a1_2)) else (ddilaw03_PrefixWhole.l0 kj11 t483 x6_11 (wrap64 (x7_1 + 1)) a0_0 a0_1 a0_2 a0_3 a0_4 a0_5 a1_0 a1_1 a1_2)) else (ddilaw03_PrefixWhole.l0 kj11 t483 x6_11 (wrap64 (x7_1 + 1)) a0_0 a0_1 a0_2 a0_3 a0_4 a0_5 a1_0 a1_1 a1_2)))))) else (none)) else (none))) = some r := H
          have A20 := Aside0.mk A200
          clear A200
          replace H := Option.bind_eq_some_iff.mp H
          obtain ⟨⟨t496, t497, t498, t499, t500, t501, t502, t503, t504⟩, A210, H⟩ := H
          replace H : (if 0 ≤ (wrap64 (x7_1 - 1)) then (if (wrap64 (x7_1 - 1)) < (t483.length : Int) then ((prefix_Compare.f kj11 ((rd_T26 t483 (wrap64 (x7_1 - 1))).f0.f0) ((rd_T26 t483 (wrap64 (x7_1 - 1))).f0.f1) ((rd_T26 t483 (wrap64 (x7_1 - 1))).f0.f2) ((rd_T26 t483 (wrap64 (x7_1 - 1))).f1) ((rd_T26 t483 x7_1).f0.f0) ((rd_T26 t483 x7_1).f0.f1) ((rd_T26 t483 x7_1).f0.f2) ((rd_T26 t483 x7_1).f1)).bind fun t509 => (if t509 ≥ 0 then (none) else ((prefix_Overlap.f ((rd_T26 t483 (wrap64 (x7_1 - 1))).f0.f0) ((rd_T26 t483 (wrap64 (x7_1 - 1))).f0.f1) ((rd_T26 t483 (wrap64 (x7_1 - 1))).f0.f2) ((rd_T26 t483 (wrap64 (x7_1 - 1))).f1) ((rd_T26 t483 x7_1).f0.f0) ((rd_T26 t483 x7_1).f0.f1) ((rd_T26 t483 x7_1).f0.f2) ((rd_T26 t483 x7_1).f1)).bind fun t512 => (if t512 = true then (none) else (if t504 = true then (if ((t496 == ((rd_T26 t483 (wrap64 (x7_1 - 1))).f0.f0) && (t497 == ((rd_T26 t483 (wrap64 (x7_1 - 1))).f0.f1) && (t498 == ((rd_T26 t483 (wrap64 (x7_1 - 1))).f0.f2)))) && (t499 == ((rd_T26 t483 (wrap64 (x7_1 - 1))).f1))) = true then (if ((t500 == ((rd_T26 t483 x7_1).f0.f0) && (t501 == ((rd_T26 t483 x7_1).f0.f1) && (t502 == ((rd_T26 t483 x7_1).f0.f2)))) && (t503 == ((rd_T26 t483 x7_1).f1))) = true then (none) else (ddilaw03_PrefixWhole.l0 kj11 t483 x6_11 (wrap64 (x7_1 + 1)) a0_0 a0_1 a0_2 a0_3 a0_4 a0_5 a1_0 a1_1 a1_2)) else (ddilaw03_PrefixWhole.l0 kj11 t483 x6_11 (wrap64 (x7_1 + 1)) a0_0 a0_1 a0_2 a0_3 a0_4 a0_5 a1_0 a1_1 a1_2)) else (ddilaw03_PrefixWhole.l0 kj11 t483 x6_11 (wrap64 (x7_1 + 1)) a0_0 a0_1 a0_2 a0_3 a0_4 a0_5 a1_0 a1_1 a1_2)))))) else (none)) else (none)) = some r := H
          have A21 := Aside0.mk A210
          clear A210
          obtain ⟨ji22, hji22⟩ : ∃ j_ : Int, (wrap64 (x7_1 - 1)) = j_ := ⟨_, rfl⟩
          replace H : (if 0 ≤ (ji22) then (if (ji22) < (t483.length : Int) then ((prefix_Compare.f kj11 ((rd_T26 t483 (ji22)).f0.f0) ((rd_T26 t483 (ji22)).f0.f1) ((rd_T26 t483 (ji22)).f0.f2) ((rd_T26 t483 (ji22)).f1) ((rd_T26 t483 x7_1).f0.f0) ((rd_T26 t483 x7_1).f0.f1) ((rd_T26 t483 x7_1).f0.f2) ((rd_T26 t483 x7_1).f1)).bind fun t509 => (if t509 ≥ 0 then (none) else ((prefix_Overlap.f ((rd_T26 t483 (ji22)).f0.f0) ((rd_T26 t483 (ji22)).f0.f1) ((rd_T26 t483 (ji22)).f0.f2) ((rd_T26 t483 (ji22)).f1) ((rd_T26 t483 x7_1).f0.f0) ((rd_T26 t483 x7_1).f0.f1) ((rd_T26 t483 x7_1).f0.f2) ((rd_T26 t483 x7_1).f1)).bind fun t512 => (if t512 = true then (none) else (if t504 = true then (if ((t496 == ((rd_T26 t483 (ji22)).f0.f0) && (t497 == ((rd_T26 t483 (ji22)).f0.f1) && (t498 == ((rd_T26 t483 (ji22)).f0.f2)))) && (t499 == ((rd_T26 t483 (ji22)).f1))) = true then (if ((t500 == ((rd_T26 t483 x7_1).f0.f0) && (t501 == ((rd_T26 t483 x7_1).f0.f1) && (t502 == ((rd_T26 t483 x7_1).f0.f2)))) && (t503 == ((rd_T26 t483 x7_1).f1))) = true then (none) else (ddilaw03_PrefixWhole.l0 kj11 t483 x6_11 (wrap64 (x7_1 + 1)) a0_0 a0_1 a0_2 a0_3 a0_4 a0_5 a1_0 a1_1 a1_2)) else (ddilaw03_PrefixWhole.l0 kj11 t483 x6_11 (wrap64 (x7_1 + 1)) a0_0 a0_1 a0_2 a0_3 a0_4 a0_5 a1_0 a1_1 a1_2)) else (ddilaw03_PrefixWhole.l0 kj11 t483 x6_11 (wrap64 (x7_1 + 1)) a0_0 a0_1 a0_2 a0_3 a0_4 a0_5 a1_0 a1_1 a1_2)))))) else (none)) else (none)) = some r := by first | (rw [hji22] at H; exact H) | (simp only [hji22] at H ⊢; exact H)
          (try rw [hji22] at A20)
          (try rw [hji22] at A21)
          have hji22w : (IntKind.i64.wrap (x7_1 - 1)) = ji22 := (i64_w _).trans hji22
          by_cases c23 : 0 ≤ (ji22)
          ·
           rw [if_pos c23] at H
           have c23b0 : decide (0 ≤ (ji22)) = true := decide_eq_true c23
           clear c23
           by_cases c24 : (ji22) < (t483.length : Int)
           ·
            rw [if_pos c24] at H
            have c24b0 : decide ((ji22) < (t483.length : Int)) = true := decide_eq_true c24
            clear c24
            replace H := Option.bind_eq_some_iff.mp H
            obtain ⟨t509, A250, H⟩ := H
            replace H : (if t509 ≥ 0 then (none) else ((prefix_Overlap.f ((rd_T26 t483 (ji22)).f0.f0) ((rd_T26 t483 (ji22)).f0.f1) ((rd_T26 t483 (ji22)).f0.f2) ((rd_T26 t483 (ji22)).f1) ((rd_T26 t483 x7_1).f0.f0) ((rd_T26 t483 x7_1).f0.f1) ((rd_T26 t483 x7_1).f0.f2) ((rd_T26 t483 x7_1).f1)).bind fun t512 => (if t512 = true then (none) else (if t504 = true then (if ((t496 == ((rd_T26 t483 (ji22)).f0.f0) && (t497 == ((rd_T26 t483 (ji22)).f0.f1) && (t498 == ((rd_T26 t483 (ji22)).f0.f2)))) && (t499 == ((rd_T26 t483 (ji22)).f1))) = true then (if ((t500 == ((rd_T26 t483 x7_1).f0.f0) && (t501 == ((rd_T26 t483 x7_1).f0.f1) && (t502 == ((rd_T26 t483 x7_1).f0.f2)))) && (t503 == ((rd_T26 t483 x7_1).f1))) = true then (none) else (ddilaw03_PrefixWhole.l0 kj11 t483 x6_11 (wrap64 (x7_1 + 1)) a0_0 a0_1 a0_2 a0_3 a0_4 a0_5 a1_0 a1_1 a1_2)) else (ddilaw03_PrefixWhole.l0 kj11 t483 x6_11 (wrap64 (x7_1 + 1)) a0_0 a0_1 a0_2 a0_3 a0_4 a0_5 a1_0 a1_1 a1_2)) else (ddilaw03_PrefixWhole.l0 kj11 t483 x6_11 (wrap64 (x7_1 + 1)) a0_0 a0_1 a0_2 a0_3 a0_4 a0_5 a1_0 a1_1 a1_2))))) = some r := H
            have A25 := Aside0.mk A250
            clear A250
            by_cases c26 : t509 ≥ 0
            ·
             rw [if_pos c26] at H
             have c26b0 : decide (0 ≤ t509) = true := decide_eq_true c26
             clear c26
             exact absurd H (by simp)
            ·
             rw [if_neg c26] at H
             have c26b0 : decide (0 ≤ t509) = false := decide_eq_false c26
             clear c26
             replace H := Option.bind_eq_some_iff.mp H
             obtain ⟨t512, A270, H⟩ := H
             replace H : (if t512 = true then (none) else (if t504 = true then (if ((t496 == ((rd_T26 t483 (ji22)).f0.f0) && (t497 == ((rd_T26 t483 (ji22)).f0.f1) && (t498 == ((rd_T26 t483 (ji22)).f0.f2)))) && (t499 == ((rd_T26 t483 (ji22)).f1))) = true then (if ((t500 == ((rd_T26 t483 x7_1).f0.f0) && (t501 == ((rd_T26 t483 x7_1).f0.f1) && (t502 == ((rd_T26 t483 x7_1).f0.f2)))) && (t503 == ((rd_T26 t483 x7_1).f1))) = true then (none) else (ddilaw03_PrefixWhole.l0 kj11 t483 x6_11 (wrap64 (x7_1 + 1)) a0_0 a0_1 a0_2 a0_3 a0_4 a0_5 a1_0 a1_1 a1_2)) else (ddilaw03_PrefixWhole.l0 kj11 t483 x6_11 (wrap64 (x7_1 + 1)) a0_0 a0_1 a0_2 a0_3 a0_4 a0_5 a1_0 a1_1 a1_2)) else (ddilaw03_PrefixWhole.l0 kj11 t483 x6_11 (wrap64 (x7_1 + 1)) a0_0 a0_1 a0_2 a0_3 a0_4 a0_5 a1_0 a1_1 a1_2))) = some r := H
             have A27 := Aside0.mk A270
             clear A270
             by_cases c28 : t512 = true
             ·
              subst c28
              rw [if_pos rfl] at H
              exact absurd H (by simp)
             ·
              replace c28 := Bool.eq_false_iff.mpr c28
              subst c28
              rw [if_neg (show ¬ (false = true) by decide)] at H
              by_cases c29 : t504 = true
              ·
               subst c29
               rw [if_pos rfl] at H
               by_cases c30 : ((t496 == ((rd_T26 t483 (ji22)).f0.f0) && (t497 == ((rd_T26 t483 (ji22)).f0.f1) && (t498 == ((rd_T26 t483 (ji22)).f0.f2)))) && (t499 == ((rd_T26 t483 (ji22)).f1))) = true
               ·
                rw [if_pos c30] at H
                have c30b0 : ((t496 == ((rd_T26 t483 (ji22)).f0.f0) && (t497 == ((rd_T26 t483 (ji22)).f0.f1) && (t498 == ((rd_T26 t483 (ji22)).f0.f2)))) && (t499 == ((rd_T26 t483 (ji22)).f1))) = true := c30
                clear c30
                by_cases c31 : ((t500 == ((rd_T26 t483 x7_1).f0.f0) && (t501 == ((rd_T26 t483 x7_1).f0.f1) && (t502 == ((rd_T26 t483 x7_1).f0.f2)))) && (t503 == ((rd_T26 t483 x7_1).f1))) = true
                ·
                 rw [if_pos c31] at H
                 exact absurd H (by simp)
                ·
                 rw [if_neg c31] at H
                 have c31b0 : ((t500 == ((rd_T26 t483 x7_1).f0.f0) && (t501 == ((rd_T26 t483 x7_1).f0.f1) && (t502 == ((rd_T26 t483 x7_1).f0.f2)))) && (t503 == ((rd_T26 t483 x7_1).f1))) = false := by simpa using c31
                 clear c31
                 have H' := Aside0.mk H
                 clear H
                 try go_wp2_with (first | ((with_reducible refine gate_ (.load 36 (.tmp 2)) rfl ?_); refine wpList_load_row (by rfl) 36 (.tmp 2) (by rfl) _ (by rfl) 36 _ (0, 0) _ (by first | exact BK481.out | exact BK482.out | exact BK495.out | exact BK505.out | exact BK506.out | exact pQ BK481 | exact pQ BK482 | exact pQ BK495 | exact pQ BK505 | exact pQ BK506) hu36 (by rfl) (by kernel_rfl) ?_))
                 replace HO_5 := Aside0.mk (Kd.R_drew HO_5.out)
                 replace BK481 := Aside0.mk (blk_drew BK481.out)
                 replace BK482 := Aside0.mk (blk_drew BK482.out)
                 replace HB := Aside0.mk (below_drew1 HB.out)
                 have p488 : 0 ≤ (x7_1 : Int) := of_decide_eq_true (by first | (with_reducible assumption) | assumption)
                 have q488 : x7_1 < (t483.length : Int) := of_decide_eq_true (by first | (with_reducible assumption) | assumption)
                 obtain ⟨ad488, e488, hx488_0, hx488_1, hx488_2, hx488_3⟩ := at_T26 (Kd.R_reads' HO_5.out).2.2 x7_1 p488 q488
                 obtain rfl : ad486 = ad488 := (by injection e488)
                 replace p488 := eq_true p488
                 replace q488 := eq_true q488
                 have p489 : 0 ≤ (x7_1 : Int) := of_decide_eq_true (by first | (with_reducible assumption) | assumption)
                 have q489 : x7_1 < (t483.length : Int) := of_decide_eq_true (by first | (with_reducible assumption) | assumption)
                 obtain ⟨ad489, e489, hx489_0, hx489_1, hx489_2, hx489_3⟩ := at_T26 (Kd.R_reads' HO_5.out).2.2 x7_1 p489 q489
                 obtain rfl : ad486 = ad489 := (by injection e489)
                 replace p489 := eq_true p489
                 replace q489 := eq_true q489
                 refine start_ (n := 18) (S := fun w' => w'.cell? (ad486.add ((x7_1).toNat * 4)) = some (.bool ((rd_T26 t483 x7_1).f0.f0)) ∧ w'.cell? ⟨(ad486.add ((x7_1).toNat * 4)).block, (ad486.add ((x7_1).toNat * 4)).off + 1, none⟩ = some (.int .u64 ((rd_T26 t483 x7_1).f0.f1)) ∧ w'.cell? ⟨(ad486.add ((x7_1).toNat * 4)).block, (ad486.add ((x7_1).toNat * 4)).off + 2, none⟩ = some (.int .u64 ((rd_T26 t483 x7_1).f0.f2)) ∧ w'.cell? ⟨(ad486.add ((x7_1).toNat * 4)).block, (ad486.add ((x7_1).toNat * 4)).off + 3, none⟩ = some (.int .i64 ((rd_T26 t483 x7_1).f1)) ∧ w'.cell? (ad486.add ((x7_1).toNat * 4)) = some (.bool ((rd_T26 t483 x7_1).f0.f0)) ∧ w'.cell? ⟨(ad486.add ((x7_1).toNat * 4)).block, (ad486.add ((x7_1).toNat * 4)).off + 1, none⟩ = some (.int .u64 ((rd_T26 t483 x7_1).f0.f1)) ∧ w'.cell? ⟨(ad486.add ((x7_1).toNat * 4)).block, (ad486.add ((x7_1).toNat * 4)).off + 2, none⟩ = some (.int .u64 ((rd_T26 t483 x7_1).f0.f2)) ∧ w'.cell? ⟨(ad486.add ((x7_1).toNat * 4)).block, (ad486.add ((x7_1).toNat * 4)).off + 3, none⟩ = some (.int .i64 ((rd_T26 t483 x7_1).f1))) (ds := []) (tk 18 0) (by kernel_rfl) rfl rfl ⟨hx488_0, hx488_1, hx488_2, hx488_3, hx489_0, hx489_1, hx489_2, hx489_3⟩ (fun hHeld => ?_); refine with_tabW ddilaw03_PrefixWhole.tab9 ddilaw03_PrefixWhole.bits9 (fun HT_ HW_ => ?_)
                 generalize wc.drew = w32 at HO_5 BK481 BK482 HB hx488_0 hx488_1 hx488_2 hx488_3 hx489_0 hx489_1 hx489_2 hx489_3 hHeld ⊢
                 refine pureA (i := 0) (some 33) HT_ (tk 18 1) ?_
                 refine pureA (i := 1) (some 34) HT_ (tk 18 2) ?_
                 refine pureA (i := 2) (some 35) HT_ (tk 18 3) ?_
                 refine pureA (i := 3) (some 36) HT_ (tk 18 4) ?_
                 refine pureA (i := 5) (some 38) HT_ (tr [4, 1, 1, 12]) ?_
                 refine pureA (i := 6) (some 39) HT_ (tr [4, 1, 2, 11]) ?_
                 refine pureA (i := 7) (some 40) HT_ (tr [4, 1, 3, 10]) ?_
                 refine pureA (i := 8) (some 41) HT_ (tr [4, 1, 4, 9]) ?_
                 refine takeA (i := 4) (some 37) HT_ HW_ (tk 18 9) hHeld ?_
                 refine takeA (i := 9) (some 42) HT_ HW_ (tk 18 10) hHeld ?_
                 refine pureA (i := 10) (some 43) HT_ (tk 18 11) ?_
                 refine join_ (σ := Nat) 2 (tk 18 16) (fun s_ => [(44, .tuple #[.agg #[.bool t490, .int .u64 t491, .int .u64 t492, .int .i64 t493], .bool t494]), (8, .pointer (some ⟨s_, 0, none⟩)), (32, .tuple #[.agg #[.bool t490, .int .u64 t491, .int .u64 t492, .int .i64 t493], .bool t494]), (45, .agg #[.bool t490, .int .u64 t491, .int .u64 t492, .int .i64 t493]), (46, .bool t494)]) (fun s_ w' => (w'.cell? (ad486.add ((x7_1).toNat * 4)) = some (.bool ((rd_T26 t483 x7_1).f0.f0)) ∧ w'.cell? ⟨(ad486.add ((x7_1).toNat * 4)).block, (ad486.add ((x7_1).toNat * 4)).off + 1, none⟩ = some (.int .u64 ((rd_T26 t483 x7_1).f0.f1)) ∧ w'.cell? ⟨(ad486.add ((x7_1).toNat * 4)).block, (ad486.add ((x7_1).toNat * 4)).off + 2, none⟩ = some (.int .u64 ((rd_T26 t483 x7_1).f0.f2)) ∧ w'.cell? ⟨(ad486.add ((x7_1).toNat * 4)).block, (ad486.add ((x7_1).toNat * 4)).off + 3, none⟩ = some (.int .i64 ((rd_T26 t483 x7_1).f1)) ∧ w'.cell? (ad486.add ((x7_1).toNat * 4)) = some (.bool ((rd_T26 t483 x7_1).f0.f0)) ∧ w'.cell? ⟨(ad486.add ((x7_1).toNat * 4)).block, (ad486.add ((x7_1).toNat * 4)).off + 1, none⟩ = some (.int .u64 ((rd_T26 t483 x7_1).f0.f1)) ∧ w'.cell? ⟨(ad486.add ((x7_1).toNat * 4)).block, (ad486.add ((x7_1).toNat * 4)).off + 2, none⟩ = some (.int .u64 ((rd_T26 t483 x7_1).f0.f2)) ∧ w'.cell? ⟨(ad486.add ((x7_1).toNat * 4)).block, (ad486.add ((x7_1).toNat * 4)).off + 3, none⟩ = some (.int .i64 ((rd_T26 t483 x7_1).f1))) ∧ (Kd.R k26 26 w' w.heap.size (fun k_ => k_ ≠ s_) (.slice (some ad486) t483.length co13) t483) ∧ (w'.heap[gb481]? = some (.cells #[.bool a0_0, .int .u64 a0_1, .int .u64 a0_2, .bool a0_3, .int .u64 a0_4, .int .u64 a0_5] 36 (0, 0))) ∧ (w'.heap[gb482]? = some (.cells #[.bool a1_0, .int .u64 a1_1, .int .u64 a1_2] 24 (0, 0))) ∧ (w'.heap[s_]? = some (.cells #[.bool false, .int .u64 0, .int .u64 0, .int .i64 0] 26 (0, 0))) ∧ (w.heap.size ≤ s_) ∧ (w.heap.size ≤ s_) ∧ (gb481 ≠ s_) ∧ (s_ ≠ gb481) ∧ (gb482 ≠ s_) ∧ (s_ ≠ gb482) ∧ (Below w.heap.size w w')) ?_ ?_
                 rotate_left
                 ·
                  intro hCont
                  refine two_ (i := 11) (j := 15) (Ni := some 44) (Nj := some 8) (tk 18 12) (tr [11, 4, 1, 2]) rfl rfl rfl rfl (two_of HT_.out (by kernel_rfl)) (by decide) (by decide) (fun K hK => ?_) (fun K hK => ?_)
                  ·
                   skip
                   refine goesR Tryd.func14 #[.agg #[.bool ((rd_T26 t483 x7_1).f0.f0), .int .u64 ((rd_T26 t483 x7_1).f0.f1), .int .u64 ((rd_T26 t483 x7_1).f0.f2)], .int .i64 (wrap64 (((rd_T26 t483 x7_1).f1) - 1))] ?_
                   with_reducible refine (prefix_Of.calls ((rd_T26 t483 x7_1).f0.f0) ((rd_T26 t483 x7_1).f0.f1) ((rd_T26 t483 x7_1).f0.f2) (wrap64 (((rd_T26 t483 x7_1).f1) - 1)) t490 t491 t492 t493 t494 _ A20.out).mono ?_
                   rintro e w33 ⟨rfl, hb⟩
                   have hHe_ := pH hb hHeld
                   refine ⟨_, rfl, ?_⟩
                   replace HO_5 := Aside0.mk (Kd.R_below (by (with_reducible repeat (first | apply Kd.R_alloc | apply Kd.R_drewN | apply Kd.R_drew)); exact HO_5.out) hb)
                   replace BK481 := (pB BK481 hb)
                   replace BK482 := (pB BK482 hb)
                   replace HB := (pS HB hb)
                   (try clear hb)
                   (try clear hk)
                   refine hK.out _ _ ⟨hHe_.1, hHe_.2.1, hHe_.2.2.1, hHe_.2.2.2.1, hHe_.2.2.2.2.1, hHe_.2.2.2.2.2.1, hHe_.2.2.2.2.2.2.1, hHe_.2.2.2.2.2.2.2⟩ (fun hHeld => ?_)
                   clear hK K
                   refine normA (N := some 44) ?_
                   refine pureA (i := 12) (some 32) HT_ (tk 18 13) ?_
                   refine pureA (i := 13) (some 45) HT_ (tk 18 14) ?_
                   refine pureA (i := 14) (some 46) HT_ (tk 18 15) ?_
                   refine one_ (i := 15) (N := some 8) (tk 18 16) rfl rfl (one_of HT_.out (by kernel_rfl)) (by decide) (fun K hK => ?_)
                   refine box_step ?hg (N := 8) ?hd (cs := #[.bool false, .int .u64 0, .int .u64 0, .int .i64 0]) (t := 26) ?hr ?_; (case hd => rfl); (case hg => rfl); (case hr => first | (go_simp; done) | (go_simp; rfl))
                   intro gb495 hg w34 hbox hb
                   have hHe_ := pH hb hHeld
                   have BK495 := Aside0.mk (hbox)
                   have GW495 := (pZ HB hg)
                   have GE495 := (pZ HB hg)
                   have NB481_495 := (pL BK481 hg)
                   have NB495_481 := (pG BK481 hg)
                   have NB482_495 := (pL BK482 hg)
                   have NB495_482 := (pG BK482 hg)
                   replace HO_5 := Aside0.mk (Kd.R_below (Kd.R_elderB (by (with_reducible repeat (first | apply Kd.R_alloc | apply Kd.R_drewN | apply Kd.R_drew)); exact HO_5.out) gb495 (Nat.le_of_eq hg.symm)) hb)
                   replace BK481 := (pB BK481 hb)
                   replace BK482 := (pB BK482 hb)
                   replace HB := (pS HB hb)
                   clear hb hbox hg
                   refine hK.out _ _ ⟨hHe_.1, hHe_.2.1, hHe_.2.2.1, hHe_.2.2.2.1, hHe_.2.2.2.2.1, hHe_.2.2.2.2.2.1, hHe_.2.2.2.2.2.2.1, hHe_.2.2.2.2.2.2.2⟩ (fun hHeld => ?_)
                   clear hK K
                   refine normA (N := some 8) ?_
                   exact norm_ (by simp only [putAll, Act.put, List.setIfInBounds_toArray, List.set_cons_zero, List.set_cons_succ]) (hCont (gb495) _ ⟨hHeld, (by (with_reducible repeat (first | apply Kd.R_alloc | apply Kd.R_drewN | apply Kd.R_drew)); exact Kd.R_mono HO_5.out (fun _ hk => hk.2)), (pM BK481), (pM BK482), (pM BK495), GW495.out, GE495.out, NB481_495.out, NB495_481.out, NB482_495.out, NB495_482.out, (by repeat (first | (with_reducible first | exact HB.out | apply below_alloc | apply pw_below_drewN | apply below_drew1 | refine below_set ?_ GE481.out | refine below_set ?_ GE482.out | refine below_set ?_ GE495.out) | exact HB.out))⟩)
                  ·
                   skip
                   refine box_step ?hg (N := 8) ?hd (cs := #[.bool false, .int .u64 0, .int .u64 0, .int .i64 0]) (t := 26) ?hr ?_; (case hd => rfl); (case hg => rfl); (case hr => first | (go_simp; done) | (go_simp; rfl))
                   intro gb495 hg w33 hbox hb
                   have hHe_ := pH hb hHeld
                   have BK495 := Aside0.mk (hbox)
                   have GW495 := (pZ HB hg)
                   have GE495 := (pZ HB hg)
                   have NB481_495 := (pL BK481 hg)
                   have NB495_481 := (pG BK481 hg)
                   have NB482_495 := (pL BK482 hg)
                   have NB495_482 := (pG BK482 hg)
                   replace HO_5 := Aside0.mk (Kd.R_below (Kd.R_elderB (by (with_reducible repeat (first | apply Kd.R_alloc | apply Kd.R_drewN | apply Kd.R_drew)); exact HO_5.out) gb495 (Nat.le_of_eq hg.symm)) hb)
                   replace BK481 := (pB BK481 hb)
                   replace BK482 := (pB BK482 hb)
                   replace HB := (pS HB hb)
                   clear hb hbox hg
                   refine hK.out _ _ ⟨hHe_.1, hHe_.2.1, hHe_.2.2.1, hHe_.2.2.2.1, hHe_.2.2.2.2.1, hHe_.2.2.2.2.2.1, hHe_.2.2.2.2.2.2.1, hHe_.2.2.2.2.2.2.2⟩ (fun hHeld => ?_)
                   clear hK K
                   refine normA (N := some 8) ?_
                   refine one_ (i := 11) (N := some 44) (tr [12, 3, 1, 2]) rfl rfl (one_of HT_.out (by kernel_rfl)) (by decide) (fun K hK => ?_)
                   refine goesR Tryd.func14 #[.agg #[.bool ((rd_T26 t483 x7_1).f0.f0), .int .u64 ((rd_T26 t483 x7_1).f0.f1), .int .u64 ((rd_T26 t483 x7_1).f0.f2)], .int .i64 (wrap64 (((rd_T26 t483 x7_1).f1) - 1))] ?_
                   with_reducible refine (prefix_Of.calls ((rd_T26 t483 x7_1).f0.f0) ((rd_T26 t483 x7_1).f0.f1) ((rd_T26 t483 x7_1).f0.f2) (wrap64 (((rd_T26 t483 x7_1).f1) - 1)) t490 t491 t492 t493 t494 _ A20.out).mono ?_
                   rintro e w34 ⟨rfl, hb⟩
                   have hHe_ := pH hb hHeld
                   refine ⟨_, rfl, ?_⟩
                   replace HO_5 := Aside0.mk (Kd.R_below (by (with_reducible repeat (first | apply Kd.R_alloc | apply Kd.R_drewN | apply Kd.R_drew)); exact HO_5.out) hb)
                   replace BK481 := (pB BK481 hb)
                   replace BK482 := (pB BK482 hb)
                   replace BK495 := (pB BK495 hb)
                   replace HB := (pS HB hb)
                   (try clear hb)
                   (try clear hk)
                   refine hK.out _ _ ⟨hHe_.1, hHe_.2.1, hHe_.2.2.1, hHe_.2.2.2.1, hHe_.2.2.2.2.1, hHe_.2.2.2.2.2.1, hHe_.2.2.2.2.2.2.1, hHe_.2.2.2.2.2.2.2⟩ (fun hHeld => ?_)
                   clear hK K
                   refine normA (N := some 44) ?_
                   refine pureA (i := 12) (some 32) HT_ (tr [13, 2, 1, 2]) ?_
                   refine pureA (i := 13) (some 45) HT_ (tr [14, 1, 1, 2]) ?_
                   refine pureA (i := 14) (some 46) HT_ (tk 18 16) ?_
                   exact norm_ (by simp only [putAll, Act.put, List.setIfInBounds_toArray, List.set_cons_zero, List.set_cons_succ]) (hCont (gb495) _ ⟨hHeld, (by (with_reducible repeat (first | apply Kd.R_alloc | apply Kd.R_drewN | apply Kd.R_drew)); exact Kd.R_mono HO_5.out (fun _ hk => hk.2)), (pM BK481), (pM BK482), (pM BK495), GW495.out, GE495.out, NB481_495.out, NB495_481.out, NB482_495.out, NB495_482.out, (by repeat (first | (with_reducible first | exact HB.out | apply below_alloc | apply pw_below_drewN | apply below_drew1 | refine below_set ?_ GE481.out | refine below_set ?_ GE482.out | refine below_set ?_ GE495.out) | exact HB.out))⟩)
                 rintro gb495 w35 ⟨hS_, h0_, h1_, h2_, h3_, h4_, h5_, h6_, h7_, h8_, h9_, h10_⟩
                 have BK495 : Aside0 (w35.heap[gb495]? = some (.cells #[.bool false, .int .u64 0, .int .u64 0, .int .i64 0] 26 (0, 0))) := ⟨h3_⟩
                 have GW495 : Aside0 (w.heap.size ≤ gb495) := ⟨h4_⟩
                 have GE495 : Aside0 (w.heap.size ≤ gb495) := ⟨h5_⟩
                 have NB481_495 : Aside0 (gb481 ≠ gb495) := ⟨h6_⟩
                 have NB495_481 : Aside0 (gb495 ≠ gb481) := ⟨h7_⟩
                 have NB482_495 : Aside0 (gb482 ≠ gb495) := ⟨h8_⟩
                 have NB495_482 : Aside0 (gb495 ≠ gb482) := ⟨h9_⟩
                 replace HO_5 : Aside0 (Kd.R k26 26 w35 w.heap.size (fun k_ => k_ ≠ gb495) (.slice (some ad486) t483.length co13) t483) := ⟨h0_⟩
                 replace BK481 : Aside0 (w35.heap[gb481]? = some (.cells #[.bool a0_0, .int .u64 a0_1, .int .u64 a0_2, .bool a0_3, .int .u64 a0_4, .int .u64 a0_5] 36 (0, 0))) := ⟨h1_⟩
                 replace BK482 : Aside0 (w35.heap[gb482]? = some (.cells #[.bool a1_0, .int .u64 a1_1, .int .u64 a1_2] 24 (0, 0))) := ⟨h2_⟩
                 replace HB : Aside0 (Below w.heap.size w w35) := ⟨h10_⟩
                 clear h0_ h1_ h2_ h3_ h4_ h5_ h6_ h7_ h8_ h9_ h10_
                 have hHeld : w35.cell? (ad486.add ((x7_1).toNat * 4)) = some (.bool ((rd_T26 t483 x7_1).f0.f0)) ∧ w35.cell? ⟨(ad486.add ((x7_1).toNat * 4)).block, (ad486.add ((x7_1).toNat * 4)).off + 1, none⟩ = some (.int .u64 ((rd_T26 t483 x7_1).f0.f1)) ∧ w35.cell? ⟨(ad486.add ((x7_1).toNat * 4)).block, (ad486.add ((x7_1).toNat * 4)).off + 2, none⟩ = some (.int .u64 ((rd_T26 t483 x7_1).f0.f2)) ∧ w35.cell? ⟨(ad486.add ((x7_1).toNat * 4)).block, (ad486.add ((x7_1).toNat * 4)).off + 3, none⟩ = some (.int .i64 ((rd_T26 t483 x7_1).f1)) ∧ w35.cell? (ad486.add ((x7_1).toNat * 4)) = some (.bool ((rd_T26 t483 x7_1).f0.f0)) ∧ w35.cell? ⟨(ad486.add ((x7_1).toNat * 4)).block, (ad486.add ((x7_1).toNat * 4)).off + 1, none⟩ = some (.int .u64 ((rd_T26 t483 x7_1).f0.f1)) ∧ w35.cell? ⟨(ad486.add ((x7_1).toNat * 4)).block, (ad486.add ((x7_1).toNat * 4)).off + 2, none⟩ = some (.int .u64 ((rd_T26 t483 x7_1).f0.f2)) ∧ w35.cell? ⟨(ad486.add ((x7_1).toNat * 4)).block, (ad486.add ((x7_1).toNat * 4)).off + 3, none⟩ = some (.int .i64 ((rd_T26 t483 x7_1).f1)) := hS_
                 refine norm_ (a' := ?_) ?_ ?_
                 rotate_left
                 ·
                  simp only [putAll, Act.put, List.setIfInBounds_toArray, List.set_cons_zero, List.set_cons_succ]
                  rfl
                 refine one_ (i := 16) (N := none) (tk 18 17) rfl rfl (one_of HT_.out (by kernel_rfl)) (by decide) (fun K hK => ?_)
                 have hs36 : w35.cell? ⟨gb495, 0, none⟩ = some (.bool false) := (blk_cell BK495.out 0).trans rfl
                 have hfs36 := blk_frozen BK495.out 0
                 have hns36_0 := NB481_495.out
                 have hns36_1 := NB482_495.out
                 have hms36_0 := NB495_481.out
                 have hms36_1 := NB495_482.out
                 have hs37 : w35.cell? ⟨gb495, 1, none⟩ = some (.int .u64 0) := (blk_cell BK495.out 1).trans rfl
                 have hfs37 := blk_frozen BK495.out 1
                 have hns37_0 := NB481_495.out
                 have hns37_1 := NB482_495.out
                 have hms37_0 := NB495_481.out
                 have hms37_1 := NB495_482.out
                 have hs38 : w35.cell? ⟨gb495, 2, none⟩ = some (.int .u64 0) := (blk_cell BK495.out 2).trans rfl
                 have hfs38 := blk_frozen BK495.out 2
                 have hns38_0 := NB481_495.out
                 have hns38_1 := NB482_495.out
                 have hms38_0 := NB495_481.out
                 have hms38_1 := NB495_482.out
                 have hs39 : w35.cell? ⟨gb495, 3, none⟩ = some (.int .i64 0) := (blk_cell BK495.out 3).trans rfl
                 have hfs39 := blk_frozen BK495.out 3
                 have hns39_0 := NB481_495.out
                 have hns39_1 := NB482_495.out
                 have hms39_0 := NB495_481.out
                 have hms39_1 := NB495_482.out
                 refine skip_ (w1 := ?_) (by rfl) rfl ?_ ?_
                 rotate_left
                 ·
                  go_simp
                  rfl
                 refine hK.out _ _ ⟨((cell_far (p := ⟨gb495, _, none⟩) (pO (Kd.own_blk (Kd.R_away HO_5.out (fun _ hk => hk)))) _).trans (((cell_far (p := ⟨gb495, _, none⟩) (pO (Kd.own_blk (Kd.R_away HO_5.out (fun _ hk => hk)))) _).trans (((cell_far (p := ⟨gb495, _, none⟩) (pO (Kd.own_blk (Kd.R_away HO_5.out (fun _ hk => hk)))) _).trans (((cell_far (p := ⟨gb495, _, none⟩) (pO (Kd.own_blk (Kd.R_away HO_5.out (fun _ hk => hk)))) _).trans (hHeld.1)))))))), ((cell_far (p := ⟨gb495, _, none⟩) (pO (Kd.own_blk (Kd.R_away HO_5.out (fun _ hk => hk)))) _).trans (((cell_far (p := ⟨gb495, _, none⟩) (pO (Kd.own_blk (Kd.R_away HO_5.out (fun _ hk => hk)))) _).trans (((cell_far (p := ⟨gb495, _, none⟩) (pO (Kd.own_blk (Kd.R_away HO_5.out (fun _ hk => hk)))) _).trans (((cell_far (p := ⟨gb495, _, none⟩) (pO (Kd.own_blk (Kd.R_away HO_5.out (fun _ hk => hk)))) _).trans (hHeld.2.1)))))))), ((cell_far (p := ⟨gb495, _, none⟩) (pO (Kd.own_blk (Kd.R_away HO_5.out (fun _ hk => hk)))) _).trans (((cell_far (p := ⟨gb495, _, none⟩) (pO (Kd.own_blk (Kd.R_away HO_5.out (fun _ hk => hk)))) _).trans (((cell_far (p := ⟨gb495, _, none⟩) (pO (Kd.own_blk (Kd.R_away HO_5.out (fun _ hk => hk)))) _).trans (((cell_far (p := ⟨gb495, _, none⟩) (pO (Kd.own_blk (Kd.R_away HO_5.out (fun _ hk => hk)))) _).trans (hHeld.2.2.1)))))))), ((cell_far (p := ⟨gb495, _, none⟩) (pO (Kd.own_blk (Kd.R_away HO_5.out (fun _ hk => hk)))) _).trans (((cell_far (p := ⟨gb495, _, none⟩) (pO (Kd.own_blk (Kd.R_away HO_5.out (fun _ hk => hk)))) _).trans (((cell_far (p := ⟨gb495, _, none⟩) (pO (Kd.own_blk (Kd.R_away HO_5.out (fun _ hk => hk)))) _).trans (((cell_far (p := ⟨gb495, _, none⟩) (pO (Kd.own_blk (Kd.R_away HO_5.out (fun _ hk => hk)))) _).trans (hHeld.2.2.2.1)))))))), ((cell_far (p := ⟨gb495, _, none⟩) (pO (Kd.own_blk (Kd.R_away HO_5.out (fun _ hk => hk)))) _).trans (((cell_far (p := ⟨gb495, _, none⟩) (pO (Kd.own_blk (Kd.R_away HO_5.out (fun _ hk => hk)))) _).trans (((cell_far (p := ⟨gb495, _, none⟩) (pO (Kd.own_blk (Kd.R_away HO_5.out (fun _ hk => hk)))) _).trans (((cell_far (p := ⟨gb495, _, none⟩) (pO (Kd.own_blk (Kd.R_away HO_5.out (fun _ hk => hk)))) _).trans (hHeld.2.2.2.2.1)))))))), ((cell_far (p := ⟨gb495, _, none⟩) (pO (Kd.own_blk (Kd.R_away HO_5.out (fun _ hk => hk)))) _).trans (((cell_far (p := ⟨gb495, _, none⟩) (pO (Kd.own_blk (Kd.R_away HO_5.out (fun _ hk => hk)))) _).trans (((cell_far (p := ⟨gb495, _, none⟩) (pO (Kd.own_blk (Kd.R_away HO_5.out (fun _ hk => hk)))) _).trans (((cell_far (p := ⟨gb495, _, none⟩) (pO (Kd.own_blk (Kd.R_away HO_5.out (fun _ hk => hk)))) _).trans (hHeld.2.2.2.2.2.1)))))))), ((cell_far (p := ⟨gb495, _, none⟩) (pO (Kd.own_blk (Kd.R_away HO_5.out (fun _ hk => hk)))) _).trans (((cell_far (p := ⟨gb495, _, none⟩) (pO (Kd.own_blk (Kd.R_away HO_5.out (fun _ hk => hk)))) _).trans (((cell_far (p := ⟨gb495, _, none⟩) (pO (Kd.own_blk (Kd.R_away HO_5.out (fun _ hk => hk)))) _).trans (((cell_far (p := ⟨gb495, _, none⟩) (pO (Kd.own_blk (Kd.R_away HO_5.out (fun _ hk => hk)))) _).trans (hHeld.2.2.2.2.2.2.1)))))))), ((cell_far (p := ⟨gb495, _, none⟩) (pO (Kd.own_blk (Kd.R_away HO_5.out (fun _ hk => hk)))) _).trans (((cell_far (p := ⟨gb495, _, none⟩) (pO (Kd.own_blk (Kd.R_away HO_5.out (fun _ hk => hk)))) _).trans (((cell_far (p := ⟨gb495, _, none⟩) (pO (Kd.own_blk (Kd.R_away HO_5.out (fun _ hk => hk)))) _).trans (((cell_far (p := ⟨gb495, _, none⟩) (pO (Kd.own_blk (Kd.R_away HO_5.out (fun _ hk => hk)))) _).trans (hHeld.2.2.2.2.2.2.2))))))))⟩ (fun hHeld => ?_)
                 clear hK K
                 refine pureA (i := 17) (some 9) HT_ (tk 18 18) ?_
                 refine done_ (done_of HT_.out (by kernel_rfl)) ?_
                 have hnb40 := NB495_481.out
                 have hnc40 := NB481_495.out
                 have hnb41 := NB495_482.out
                 have hnc41 := NB482_495.out
                 obtain ⟨hcz42_0, hcz42_1, hcz42_2, hcz42_3, hfz42_0, hfz42_1, hfz42_2, hfz42_3⟩ := pC4 BK495
                 try go_wp2_with (first | ((with_reducible refine gate_ (.load 36 (.tmp 2)) rfl ?_); refine wpList_load_row (by rfl) 36 (.tmp 2) (by rfl) _ (by rfl) 36 _ (0, 0) _ (by first | exact BK481.out | exact BK482.out | exact BK495.out | exact BK505.out | exact BK506.out | exact pQ BK481 | exact pQ BK482 | exact pQ BK495 | exact pQ BK505 | exact pQ BK506) hu36 (by rfl) (by kernel_rfl) ?_) | ((with_reducible refine gate_callee (f := 22) rfl ?_); refine goesA (some 49) Tryd.func22 #[.agg #[.bool t490, .int .u64 t491, .int .u64 t492, .int .i64 t493]] ?_; (with_reducible refine (prefix_Halves.calls kj11 t490 t491 t492 t493 t496 t497 t498 t499 t500 t501 t502 t503 true _ A21.out).mono ?_); rintro e w43 ⟨rfl, hb⟩; refine ⟨_, rfl, ?_⟩; replace HO_5 := Aside0.mk (Kd.R_below (by (with_reducible repeat (first | apply Kd.R_alloc | apply Kd.R_drewN | apply Kd.R_drew)); exact (Kd.R_mono (Kd.R_far (p := ⟨gb495, 3, none⟩) (Kd.R_far (p := ⟨gb495, 2, none⟩) (Kd.R_far (p := ⟨gb495, 1, none⟩) (Kd.R_far (p := ⟨gb495, 0, none⟩) (Kd.R_mono HO_5.out (fun k_ hk => (⟨hk, hk⟩ : _ ∧ k_ ≠ gb495))) (fun _ hk => hk.2) (.bool t490)) (fun _ hk => hk.2) (.int .u64 t491)) (fun _ hk => hk.2) (.int .u64 t492)) (fun _ hk => hk.2) (.int .i64 t493)) (fun _ h_ => h_.1))) hb); replace BK481 := (pD hb (pK NB481_495 (pK NB481_495 (pK NB481_495 (pK NB481_495 (pM BK481)))))); replace BK482 := (pD hb (pK NB482_495 (pK NB482_495 (pK NB482_495 (pK NB482_495 (pM BK482)))))); replace BK495 := (pD hb (pP (pP (pP (pP (pM BK495)))))); replace HB := (pS HB hb); (try clear hb); (try clear hk)) | ((with_reducible refine gate_dst (N := 10) rfl ?_); refine boxA (N := 10) (cs := #[.bool false, .int .u64 0, .int .u64 0, .int .i64 0]) (t := 26) ?_; intro gb505 hg w44 hbox hb; have BK505 := Aside0.mk (hbox); have GW505 := (pZ HB hg); have GE505 := (pZ HB hg); have NB481_505 := (pL BK481 hg); have NB505_481 := (pG BK481 hg); have NB482_505 := (pL BK482 hg); have NB505_482 := (pG BK482 hg); have NB495_505 := (pL BK495 hg); have NB505_495 := (pG BK495 hg); replace HO_5 := Aside0.mk (Kd.R_below (Kd.R_elderB (by (with_reducible repeat (first | apply Kd.R_alloc | apply Kd.R_drewN | apply Kd.R_drew)); exact HO_5.out) gb505 (Nat.le_of_eq hg.symm)) hb); replace BK481 := (pB BK481 hb); replace BK482 := (pB BK482 hb); replace BK495 := (pB BK495 hb); replace HB := (pS HB hb); clear hb hbox hg) | ((with_reducible refine gate_dst (N := 11) rfl ?_); refine boxA (N := 11) (cs := #[.bool false, .int .u64 0, .int .u64 0, .int .i64 0]) (t := 26) ?_; intro gb506 hg w45 hbox hb; have BK506 := Aside0.mk (hbox); have GW506 := (pZ HB hg); have GE506 := (pZ HB hg); have NB481_506 := (pL BK481 hg); have NB506_481 := (pG BK481 hg); have NB482_506 := (pL BK482 hg); have NB506_482 := (pG BK482 hg); have NB495_506 := (pL BK495 hg); have NB506_495 := (pG BK495 hg); have NB505_506 := (pL BK505 hg); have NB506_505 := (pG BK505 hg); replace HO_5 := Aside0.mk (Kd.R_below (Kd.R_elderB (by (with_reducible repeat (first | apply Kd.R_alloc | apply Kd.R_drewN | apply Kd.R_drew)); exact HO_5.out) gb506 (Nat.le_of_eq hg.symm)) hb); replace BK481 := (pB BK481 hb); replace BK482 := (pB BK482 hb); replace BK495 := (pB BK495 hb); replace BK505 := (pB BK505 hb); replace HB := (pS HB hb); clear hb hbox hg; have hnb46 := NB505_481.out; have hnc46 := NB481_505.out; have hnb47 := NB505_482.out; have hnc47 := NB482_505.out; have hnb48 := NB505_495.out; have hnc48 := NB495_505.out; have hnb49 := NB505_506.out; have hnc49 := NB506_505.out; obtain ⟨hcz50_0, hcz50_1, hcz50_2, hcz50_3, hfz50_0, hfz50_1, hfz50_2, hfz50_3⟩ := pC4 BK505; have hnb51 := NB506_481.out; have hnc51 := NB481_506.out; have hnb52 := NB506_482.out; have hnc52 := NB482_506.out; have hnb53 := NB506_495.out; have hnc53 := NB495_506.out; obtain ⟨hcz54_0, hcz54_1, hcz54_2, hcz54_3, hfz54_0, hfz54_1, hfz54_2, hfz54_3⟩ := pC4 BK506) | ((with_reducible refine gate_store (t := 26) (p := 11) rfl ?_); refine store_event (t := 26) (p := 11) (v := ?vo_w55) (w1 := ((((((((w45.setCell ⟨gb505, 0, none⟩ (.bool t496)).setCell ⟨gb505, 1, none⟩ (.int .u64 t497)).setCell ⟨gb505, 2, none⟩ (.int .u64 t498)).setCell ⟨gb505, 3, none⟩ (.int .i64 t499)).setCell ⟨gb506, 0, none⟩ (.bool t500)).setCell ⟨gb506, 1, none⟩ (.int .u64 t501)).setCell ⟨gb506, 2, none⟩ (.int .u64 t502)).setCell ⟨gb506, 3, none⟩ (.int .i64 t503))) ?hg ?ho ?hn ?hr ?_; (case ho => rfl); (case hg => rfl); (case hn => rfl); (case hr => first | (exact Ext.run_store_chain 26 _ _ rfl _ _ _ _ rfl rfl (pK NB506_505 (pK NB506_505 (pK NB506_505 (pK NB506_505 (pM BK506))))) (by kernel_rfl) rfl rfl rfl) | (go_simp; done) | (go_simp; rfl)); intro w55 hw; replace HO_5 : Aside0 (Kd.R k26 26 w55 w.heap.size (fun k_ => k_ ≠ gb495 ∧ k_ ≠ gb505 ∧ k_ ≠ gb506) (.slice (some ad486) t483.length co13) t483) := ⟨(by rw [hw]; exact (by (with_reducible repeat (first | apply Kd.R_alloc | apply Kd.R_drewN | apply Kd.R_drew)); exact Kd.R_mono (Kd.R_far (p := ⟨gb506, 3, none⟩) (Kd.R_far (p := ⟨gb506, 2, none⟩) (Kd.R_far (p := ⟨gb506, 1, none⟩) (Kd.R_far (p := ⟨gb506, 0, none⟩) (Kd.R_far (p := ⟨gb505, 3, none⟩) (Kd.R_far (p := ⟨gb505, 2, none⟩) (Kd.R_far (p := ⟨gb505, 1, none⟩) (Kd.R_far (p := ⟨gb505, 0, none⟩) (Kd.R_mono (Kd.R_mono HO_5.out (fun k_ hk => (⟨hk, hk.1.2⟩ : _ ∧ k_ ≠ gb505))) (fun k_ hk => (⟨hk, hk.1.2⟩ : _ ∧ k_ ≠ gb506))) (fun _ hk => hk.1.2) (.bool t496)) (fun _ hk => hk.1.2) (.int .u64 t497)) (fun _ hk => hk.1.2) (.int .u64 t498)) (fun _ hk => hk.1.2) (.int .i64 t499)) (fun _ hk => hk.2) (.bool t500)) (fun _ hk => hk.2) (.int .u64 t501)) (fun _ hk => hk.2) (.int .u64 t502)) (fun _ hk => hk.2) (.int .i64 t503)) (fun _ hk => ⟨hk.1.1.1.1, ⟨hk.1.1.1.2, hk.1.1.2⟩⟩)))⟩; replace BK481 : Aside0 (w55.heap[gb481]? = some (.cells #[.bool a0_0, .int .u64 a0_1, .int .u64 a0_2, .bool a0_3, .int .u64 a0_4, .int .u64 a0_5] 36 (0, 0))) := (pW hw (pK NB481_506 (pK NB481_506 (pK NB481_506 (pK NB481_506 (pK NB481_505 (pK NB481_505 (pK NB481_505 (pK NB481_505 (pM BK481)))))))))); replace BK482 : Aside0 (w55.heap[gb482]? = some (.cells #[.bool a1_0, .int .u64 a1_1, .int .u64 a1_2] 24 (0, 0))) := (pW hw (pK NB482_506 (pK NB482_506 (pK NB482_506 (pK NB482_506 (pK NB482_505 (pK NB482_505 (pK NB482_505 (pK NB482_505 (pM BK482)))))))))); replace BK495 : Aside0 (w55.heap[gb495]? = some (.cells #[.bool t490, .int .u64 t491, .int .u64 t492, .int .i64 t493] 26 (0, 0))) := (pW hw (pK NB495_506 (pK NB495_506 (pK NB495_506 (pK NB495_506 (pK NB495_505 (pK NB495_505 (pK NB495_505 (pK NB495_505 (pM BK495)))))))))); replace BK505 : Aside0 (w55.heap[gb505]? = some (.cells #[.bool t496, .int .u64 t497, .int .u64 t498, .int .i64 t499] 26 (0, 0))) := (pW hw (pK NB505_506 (pK NB505_506 (pK NB505_506 (pK NB505_506 (pP (pP (pP (pP (pM BK505)))))))))); replace BK506 : Aside0 (w55.heap[gb506]? = some (.cells #[.bool t500, .int .u64 t501, .int .u64 t502, .int .i64 t503] 26 (0, 0))) := (pW hw (pP (pP (pP (pP (pK NB506_505 (pK NB506_505 (pK NB506_505 (pK NB506_505 (pM BK506)))))))))); replace HB : Aside0 (Below w.heap.size w w55) := ⟨(by rw [hw]; exact (by repeat (first | (with_reducible first | exact HB.out | apply below_alloc | apply pw_below_drewN | apply below_drew1 | refine below_set ?_ GE481.out | refine below_set ?_ GE482.out | refine below_set ?_ GE495.out | refine below_set ?_ GE505.out | refine below_set ?_ GE506.out) | exact HB.out)))⟩; clear hw))
                 replace HO_5 := Aside0.mk (Kd.R_drew HO_5.out)
                 replace BK481 := Aside0.mk (blk_drew BK481.out)
                 replace BK482 := Aside0.mk (blk_drew BK482.out)
                 replace BK495 := Aside0.mk (blk_drew BK495.out)
                 replace BK505 := Aside0.mk (blk_drew BK505.out)
                 replace BK506 := Aside0.mk (blk_drew BK506.out)
                 replace HB := Aside0.mk (below_drew1 HB.out)
                 have p507 : 0 ≤ ((ji22) : Int) := of_decide_eq_true (by first | (with_reducible assumption) | assumption)
                 have q507 : (ji22) < (t483.length : Int) := of_decide_eq_true (by first | (with_reducible assumption) | assumption)
                 obtain ⟨ad507, e507, hx507_0, hx507_1, hx507_2, hx507_3⟩ := at_T26 (Kd.R_reads' HO_5.out).2.2 (ji22) p507 q507
                 obtain rfl : ad486 = ad507 := (by injection e507)
                 replace p507 := eq_true p507
                 replace q507 := eq_true q507
                 have p508 : 0 ≤ (x7_1 : Int) := of_decide_eq_true (by first | (with_reducible assumption) | assumption)
                 have q508 : x7_1 < (t483.length : Int) := of_decide_eq_true (by first | (with_reducible assumption) | assumption)
                 obtain ⟨ad508, e508, hx508_0, hx508_1, hx508_2, hx508_3⟩ := at_T26 (Kd.R_reads' HO_5.out).2.2 x7_1 p508 q508
                 obtain rfl : ad486 = ad508 := (by injection e508)
                 replace p508 := eq_true p508
                 replace q508 := eq_true q508
                 have p510 : 0 ≤ ((ji22) : Int) := of_decide_eq_true (by first | (with_reducible assumption) | assumption)
                 have q510 : (ji22) < (t483.length : Int) := of_decide_eq_true (by first | (with_reducible assumption) | assumption)
                 obtain ⟨ad510, e510, hx510_0, hx510_1, hx510_2, hx510_3⟩ := at_T26 (Kd.R_reads' HO_5.out).2.2 (ji22) p510 q510
                 obtain rfl : ad486 = ad510 := (by injection e510)
                 replace p510 := eq_true p510
                 replace q510 := eq_true q510
                 have p511 : 0 ≤ (x7_1 : Int) := of_decide_eq_true (by first | (with_reducible assumption) | assumption)
                 have q511 : x7_1 < (t483.length : Int) := of_decide_eq_true (by first | (with_reducible assumption) | assumption)
                 obtain ⟨ad511, e511, hx511_0, hx511_1, hx511_2, hx511_3⟩ := at_T26 (Kd.R_reads' HO_5.out).2.2 x7_1 p511 q511
                 obtain rfl : ad486 = ad511 := (by injection e511)
                 replace p511 := eq_true p511
                 replace q511 := eq_true q511
                 have p513 : 0 ≤ ((ji22) : Int) := of_decide_eq_true (by first | (with_reducible assumption) | assumption)
                 have q513 : (ji22) < (t483.length : Int) := of_decide_eq_true (by first | (with_reducible assumption) | assumption)
                 obtain ⟨ad513, e513, hx513_0, hx513_1, hx513_2, hx513_3⟩ := at_T26 (Kd.R_reads' HO_5.out).2.2 (ji22) p513 q513
                 obtain rfl : ad486 = ad513 := (by injection e513)
                 replace p513 := eq_true p513
                 replace q513 := eq_true q513
                 have p514 : 0 ≤ (x7_1 : Int) := of_decide_eq_true (by first | (with_reducible assumption) | assumption)
                 have q514 : x7_1 < (t483.length : Int) := of_decide_eq_true (by first | (with_reducible assumption) | assumption)
                 obtain ⟨ad514, e514, hx514_0, hx514_1, hx514_2, hx514_3⟩ := at_T26 (Kd.R_reads' HO_5.out).2.2 x7_1 p514 q514
                 obtain rfl : ad486 = ad514 := (by injection e514)
                 replace p514 := eq_true p514
                 replace q514 := eq_true q514
                 refine start_ (n := 43) (S := fun w' => w'.cell? ⟨gb505, 0, none⟩ = some (.bool t496) ∧ w'.cell? ⟨gb505, 1, none⟩ = some (.int .u64 t497) ∧ w'.cell? ⟨gb505, 2, none⟩ = some (.int .u64 t498) ∧ w'.cell? ⟨gb505, 3, none⟩ = some (.int .i64 t499) ∧ w'.cell? ⟨gb506, 0, none⟩ = some (.bool t500) ∧ w'.cell? ⟨gb506, 1, none⟩ = some (.int .u64 t501) ∧ w'.cell? ⟨gb506, 2, none⟩ = some (.int .u64 t502) ∧ w'.cell? ⟨gb506, 3, none⟩ = some (.int .i64 t503) ∧ w'.cell? (ad486.add (((ji22)).toNat * 4)) = some (.bool ((rd_T26 t483 (ji22)).f0.f0)) ∧ w'.cell? ⟨(ad486.add (((ji22)).toNat * 4)).block, (ad486.add (((ji22)).toNat * 4)).off + 1, none⟩ = some (.int .u64 ((rd_T26 t483 (ji22)).f0.f1)) ∧ w'.cell? ⟨(ad486.add (((ji22)).toNat * 4)).block, (ad486.add (((ji22)).toNat * 4)).off + 2, none⟩ = some (.int .u64 ((rd_T26 t483 (ji22)).f0.f2)) ∧ w'.cell? ⟨(ad486.add (((ji22)).toNat * 4)).block, (ad486.add (((ji22)).toNat * 4)).off + 3, none⟩ = some (.int .i64 ((rd_T26 t483 (ji22)).f1)) ∧ w'.cell? (ad486.add ((x7_1).toNat * 4)) = some (.bool ((rd_T26 t483 x7_1).f0.f0)) ∧ w'.cell? ⟨(ad486.add ((x7_1).toNat * 4)).block, (ad486.add ((x7_1).toNat * 4)).off + 1, none⟩ = some (.int .u64 ((rd_T26 t483 x7_1).f0.f1)) ∧ w'.cell? ⟨(ad486.add ((x7_1).toNat * 4)).block, (ad486.add ((x7_1).toNat * 4)).off + 2, none⟩ = some (.int .u64 ((rd_T26 t483 x7_1).f0.f2)) ∧ w'.cell? ⟨(ad486.add ((x7_1).toNat * 4)).block, (ad486.add ((x7_1).toNat * 4)).off + 3, none⟩ = some (.int .i64 ((rd_T26 t483 x7_1).f1)) ∧ w'.cell? (ad486.add (((ji22)).toNat * 4)) = some (.bool ((rd_T26 t483 (ji22)).f0.f0)) ∧ w'.cell? ⟨(ad486.add (((ji22)).toNat * 4)).block, (ad486.add (((ji22)).toNat * 4)).off + 1, none⟩ = some (.int .u64 ((rd_T26 t483 (ji22)).f0.f1)) ∧ w'.cell? ⟨(ad486.add (((ji22)).toNat * 4)).block, (ad486.add (((ji22)).toNat * 4)).off + 2, none⟩ = some (.int .u64 ((rd_T26 t483 (ji22)).f0.f2)) ∧ w'.cell? ⟨(ad486.add (((ji22)).toNat * 4)).block, (ad486.add (((ji22)).toNat * 4)).off + 3, none⟩ = some (.int .i64 ((rd_T26 t483 (ji22)).f1)) ∧ w'.cell? (ad486.add ((x7_1).toNat * 4)) = some (.bool ((rd_T26 t483 x7_1).f0.f0)) ∧ w'.cell? ⟨(ad486.add ((x7_1).toNat * 4)).block, (ad486.add ((x7_1).toNat * 4)).off + 1, none⟩ = some (.int .u64 ((rd_T26 t483 x7_1).f0.f1)) ∧ w'.cell? ⟨(ad486.add ((x7_1).toNat * 4)).block, (ad486.add ((x7_1).toNat * 4)).off + 2, none⟩ = some (.int .u64 ((rd_T26 t483 x7_1).f0.f2)) ∧ w'.cell? ⟨(ad486.add ((x7_1).toNat * 4)).block, (ad486.add ((x7_1).toNat * 4)).off + 3, none⟩ = some (.int .i64 ((rd_T26 t483 x7_1).f1)) ∧ w'.cell? (ad486.add (((ji22)).toNat * 4)) = some (.bool ((rd_T26 t483 (ji22)).f0.f0)) ∧ w'.cell? ⟨(ad486.add (((ji22)).toNat * 4)).block, (ad486.add (((ji22)).toNat * 4)).off + 1, none⟩ = some (.int .u64 ((rd_T26 t483 (ji22)).f0.f1)) ∧ w'.cell? ⟨(ad486.add (((ji22)).toNat * 4)).block, (ad486.add (((ji22)).toNat * 4)).off + 2, none⟩ = some (.int .u64 ((rd_T26 t483 (ji22)).f0.f2)) ∧ w'.cell? ⟨(ad486.add (((ji22)).toNat * 4)).block, (ad486.add (((ji22)).toNat * 4)).off + 3, none⟩ = some (.int .i64 ((rd_T26 t483 (ji22)).f1)) ∧ w'.cell? (ad486.add ((x7_1).toNat * 4)) = some (.bool ((rd_T26 t483 x7_1).f0.f0)) ∧ w'.cell? ⟨(ad486.add ((x7_1).toNat * 4)).block, (ad486.add ((x7_1).toNat * 4)).off + 1, none⟩ = some (.int .u64 ((rd_T26 t483 x7_1).f0.f1)) ∧ w'.cell? ⟨(ad486.add ((x7_1).toNat * 4)).block, (ad486.add ((x7_1).toNat * 4)).off + 2, none⟩ = some (.int .u64 ((rd_T26 t483 x7_1).f0.f2)) ∧ w'.cell? ⟨(ad486.add ((x7_1).toNat * 4)).block, (ad486.add ((x7_1).toNat * 4)).off + 3, none⟩ = some (.int .i64 ((rd_T26 t483 x7_1).f1))) (ds := []) (tk 43 0) (by kernel_rfl) rfl rfl ⟨(blk_cell BK505.out 0).trans rfl, (blk_cell BK505.out 1).trans rfl, (blk_cell BK505.out 2).trans rfl, (blk_cell BK505.out 3).trans rfl, (blk_cell BK506.out 0).trans rfl, (blk_cell BK506.out 1).trans rfl, (blk_cell BK506.out 2).trans rfl, (blk_cell BK506.out 3).trans rfl, hx507_0, hx507_1, hx507_2, hx507_3, hx508_0, hx508_1, hx508_2, hx508_3, hx510_0, hx510_1, hx510_2, hx510_3, hx511_0, hx511_1, hx511_2, hx511_3, hx513_0, hx513_1, hx513_2, hx513_3, hx514_0, hx514_1, hx514_2, hx514_3⟩ (fun hHeld => ?_); refine with_tabW ddilaw03_PrefixWhole.tab11 ddilaw03_PrefixWhole.bits11 (fun HT_ HW_ => ?_)
                 generalize w55.drew = w56 at HO_5 BK481 BK482 BK495 BK505 BK506 HB hx507_0 hx507_1 hx507_2 hx507_3 hx508_0 hx508_1 hx508_2 hx508_3 hx510_0 hx510_1 hx510_2 hx510_3 hx511_0 hx511_1 hx511_2 hx511_3 hx513_0 hx513_1 hx513_2 hx513_3 hx514_0 hx514_1 hx514_2 hx514_3 hHeld ⊢
                 refine pureA (i := 0) (some 53) HT_ (tk 43 1) ?_
                 refine pureA (i := 1) (some 54) HT_ (tk 43 2) ?_
                 refine pureA (i := 2) (some 55) HT_ (tk 43 3) ?_
                 refine pureA (i := 3) (some 56) HT_ (tk 43 4) ?_
                 refine pureA (i := 5) (some 58) HT_ (tr [4, 1, 1, 37]) ?_
                 refine pureA (i := 6) (some 59) HT_ (tr [4, 1, 2, 36]) ?_
                 refine pureA (i := 7) (some 60) HT_ (tr [4, 1, 3, 35]) ?_
                 refine takeA (i := 4) (some 57) HT_ HW_ (tk 43 8) hHeld ?_
                 refine takeA (i := 8) (some 61) HT_ HW_ (tk 43 9) hHeld ?_
                 refine one_ (i := 9) (N := some 62) (tk 43 10) rfl rfl (one_of HT_.out (by kernel_rfl)) (by decide) (fun K hK => ?_)
                 refine goes_ Tryd.func21 (by kernel_rfl) rfl #[.agg #[.bool ((rd_T26 t483 (ji22)).f0.f0), .int .u64 ((rd_T26 t483 (ji22)).f0.f1), .int .u64 ((rd_T26 t483 (ji22)).f0.f2), .int .i64 ((rd_T26 t483 (ji22)).f1)], .agg #[.bool ((rd_T26 t483 x7_1).f0.f0), .int .u64 ((rd_T26 t483 x7_1).f0.f1), .int .u64 ((rd_T26 t483 x7_1).f0.f2), .int .i64 ((rd_T26 t483 x7_1).f1)]] (by rfl) rfl rfl (by (try simp only [List.map_toArray, List.map_cons, List.map_nil]); first | done | (simp only [hji22]; rfl) | rfl | (simp only [List.length_drop, List.length_take]; rfl)) ?_
                 with_reducible refine (prefix_Compare.calls kj11 ((rd_T26 t483 (ji22)).f0.f0) ((rd_T26 t483 (ji22)).f0.f1) ((rd_T26 t483 (ji22)).f0.f2) ((rd_T26 t483 (ji22)).f1) ((rd_T26 t483 x7_1).f0.f0) ((rd_T26 t483 x7_1).f0.f1) ((rd_T26 t483 x7_1).f0.f2) ((rd_T26 t483 x7_1).f1) t509 _ A25.out).mono ?_
                 rintro e w57 ⟨rfl, hb⟩
                 have hHe_ := pH hb hHeld
                 refine ⟨_, rfl, ?_⟩
                 replace HO_5 := Aside0.mk (Kd.R_below (by (with_reducible repeat (first | apply Kd.R_alloc | apply Kd.R_drewN | apply Kd.R_drew)); exact HO_5.out) hb)
                 replace BK481 := (pB BK481 hb)
                 replace BK482 := (pB BK482 hb)
                 replace BK495 := (pB BK495 hb)
                 replace BK505 := (pB BK505 hb)
                 replace BK506 := (pB BK506 hb)
                 replace HB := (pS HB hb)
                 (try clear hb)
                 (try clear hk)
                 refine hK.out _ _ ⟨(blk_cell BK505.out 0).trans rfl, (blk_cell BK505.out 1).trans rfl, (blk_cell BK505.out 2).trans rfl, (blk_cell BK505.out 3).trans rfl, (blk_cell BK506.out 0).trans rfl, (blk_cell BK506.out 1).trans rfl, (blk_cell BK506.out 2).trans rfl, (blk_cell BK506.out 3).trans rfl, hHe_.2.2.2.2.2.2.2.2.1, hHe_.2.2.2.2.2.2.2.2.2.1, hHe_.2.2.2.2.2.2.2.2.2.2.1, hHe_.2.2.2.2.2.2.2.2.2.2.2.1, hHe_.2.2.2.2.2.2.2.2.2.2.2.2.1, hHe_.2.2.2.2.2.2.2.2.2.2.2.2.2.1, hHe_.2.2.2.2.2.2.2.2.2.2.2.2.2.2.1, hHe_.2.2.2.2.2.2.2.2.2.2.2.2.2.2.2.1, hHe_.2.2.2.2.2.2.2.2.2.2.2.2.2.2.2.2.1, hHe_.2.2.2.2.2.2.2.2.2.2.2.2.2.2.2.2.2.1, hHe_.2.2.2.2.2.2.2.2.2.2.2.2.2.2.2.2.2.2.1, hHe_.2.2.2.2.2.2.2.2.2.2.2.2.2.2.2.2.2.2.2.1, hHe_.2.2.2.2.2.2.2.2.2.2.2.2.2.2.2.2.2.2.2.2.1, hHe_.2.2.2.2.2.2.2.2.2.2.2.2.2.2.2.2.2.2.2.2.2.1, hHe_.2.2.2.2.2.2.2.2.2.2.2.2.2.2.2.2.2.2.2.2.2.2.1, hHe_.2.2.2.2.2.2.2.2.2.2.2.2.2.2.2.2.2.2.2.2.2.2.2.1, hHe_.2.2.2.2.2.2.2.2.2.2.2.2.2.2.2.2.2.2.2.2.2.2.2.2.1, hHe_.2.2.2.2.2.2.2.2.2.2.2.2.2.2.2.2.2.2.2.2.2.2.2.2.2.1, hHe_.2.2.2.2.2.2.2.2.2.2.2.2.2.2.2.2.2.2.2.2.2.2.2.2.2.2.1, hHe_.2.2.2.2.2.2.2.2.2.2.2.2.2.2.2.2.2.2.2.2.2.2.2.2.2.2.2.1, hHe_.2.2.2.2.2.2.2.2.2.2.2.2.2.2.2.2.2.2.2.2.2.2.2.2.2.2.2.2.1, hHe_.2.2.2.2.2.2.2.2.2.2.2.2.2.2.2.2.2.2.2.2.2.2.2.2.2.2.2.2.2.1, hHe_.2.2.2.2.2.2.2.2.2.2.2.2.2.2.2.2.2.2.2.2.2.2.2.2.2.2.2.2.2.2.1, hHe_.2.2.2.2.2.2.2.2.2.2.2.2.2.2.2.2.2.2.2.2.2.2.2.2.2.2.2.2.2.2.2⟩ (fun hHeld => ?_)
                 clear hK K
                 refine normA (N := some 62) ?_
                 refine pureA (i := 10) (some 63) HT_ (tk 43 11) ?_
                 refine pureA (i := 11) (some 64) HT_ (tk 43 12) ?_
                 refine pureA (i := 12) (some 65) HT_ (tk 43 13) ?_
                 refine pureA (i := 13) (some 66) HT_ (tk 43 14) ?_
                 refine pureA (i := 14) (some 67) HT_ (tk 43 15) ?_
                 refine pureA (i := 15) (some 68) HT_ (tk 43 16) ?_
                 refine pureA (i := 17) (some 70) HT_ (tr [16, 1, 1, 25]) ?_
                 refine pureA (i := 18) (some 71) HT_ (tr [16, 1, 2, 24]) ?_
                 refine pureA (i := 19) (some 72) HT_ (tr [16, 1, 3, 23]) ?_
                 refine takeA (i := 16) (some 69) HT_ HW_ (tk 43 20) hHeld ?_
                 refine takeA (i := 20) (some 73) HT_ HW_ (tk 43 21) hHeld ?_
                 refine one_ (i := 21) (N := some 74) (tk 43 22) rfl rfl (one_of HT_.out (by kernel_rfl)) (by decide) (fun K hK => ?_)
                 refine goes_ Tryd.func19 (by kernel_rfl) rfl #[.agg #[.bool ((rd_T26 t483 (ji22)).f0.f0), .int .u64 ((rd_T26 t483 (ji22)).f0.f1), .int .u64 ((rd_T26 t483 (ji22)).f0.f2), .int .i64 ((rd_T26 t483 (ji22)).f1)], .agg #[.bool ((rd_T26 t483 x7_1).f0.f0), .int .u64 ((rd_T26 t483 x7_1).f0.f1), .int .u64 ((rd_T26 t483 x7_1).f0.f2), .int .i64 ((rd_T26 t483 x7_1).f1)]] (by rfl) rfl rfl (by (try simp only [List.map_toArray, List.map_cons, List.map_nil]); first | done | (simp only [hji22]; rfl) | rfl | (simp only [List.length_drop, List.length_take]; rfl)) ?_
                 with_reducible refine (prefix_Overlap.calls ((rd_T26 t483 (ji22)).f0.f0) ((rd_T26 t483 (ji22)).f0.f1) ((rd_T26 t483 (ji22)).f0.f2) ((rd_T26 t483 (ji22)).f1) ((rd_T26 t483 x7_1).f0.f0) ((rd_T26 t483 x7_1).f0.f1) ((rd_T26 t483 x7_1).f0.f2) ((rd_T26 t483 x7_1).f1) false _ A27.out).mono ?_
                 rintro e w58 ⟨rfl, hb⟩
                 have hHe_ := pH hb hHeld
                 refine ⟨_, rfl, ?_⟩
                 replace HO_5 := Aside0.mk (Kd.R_below (by (with_reducible repeat (first | apply Kd.R_alloc | apply Kd.R_drewN | apply Kd.R_drew)); exact HO_5.out) hb)
                 replace BK481 := (pB BK481 hb)
                 replace BK482 := (pB BK482 hb)
                 replace BK495 := (pB BK495 hb)
                 replace BK505 := (pB BK505 hb)
                 replace BK506 := (pB BK506 hb)
                 replace HB := (pS HB hb)
                 (try clear hb)
                 (try clear hk)
                 refine hK.out _ _ ⟨(blk_cell BK505.out 0).trans rfl, (blk_cell BK505.out 1).trans rfl, (blk_cell BK505.out 2).trans rfl, (blk_cell BK505.out 3).trans rfl, (blk_cell BK506.out 0).trans rfl, (blk_cell BK506.out 1).trans rfl, (blk_cell BK506.out 2).trans rfl, (blk_cell BK506.out 3).trans rfl, hHe_.2.2.2.2.2.2.2.2.1, hHe_.2.2.2.2.2.2.2.2.2.1, hHe_.2.2.2.2.2.2.2.2.2.2.1, hHe_.2.2.2.2.2.2.2.2.2.2.2.1, hHe_.2.2.2.2.2.2.2.2.2.2.2.2.1, hHe_.2.2.2.2.2.2.2.2.2.2.2.2.2.1, hHe_.2.2.2.2.2.2.2.2.2.2.2.2.2.2.1, hHe_.2.2.2.2.2.2.2.2.2.2.2.2.2.2.2.1, hHe_.2.2.2.2.2.2.2.2.2.2.2.2.2.2.2.2.1, hHe_.2.2.2.2.2.2.2.2.2.2.2.2.2.2.2.2.2.1, hHe_.2.2.2.2.2.2.2.2.2.2.2.2.2.2.2.2.2.2.1, hHe_.2.2.2.2.2.2.2.2.2.2.2.2.2.2.2.2.2.2.2.1, hHe_.2.2.2.2.2.2.2.2.2.2.2.2.2.2.2.2.2.2.2.2.1, hHe_.2.2.2.2.2.2.2.2.2.2.2.2.2.2.2.2.2.2.2.2.2.1, hHe_.2.2.2.2.2.2.2.2.2.2.2.2.2.2.2.2.2.2.2.2.2.2.1, hHe_.2.2.2.2.2.2.2.2.2.2.2.2.2.2.2.2.2.2.2.2.2.2.2.1, hHe_.2.2.2.2.2.2.2.2.2.2.2.2.2.2.2.2.2.2.2.2.2.2.2.2.1, hHe_.2.2.2.2.2.2.2.2.2.2.2.2.2.2.2.2.2.2.2.2.2.2.2.2.2.1, hHe_.2.2.2.2.2.2.2.2.2.2.2.2.2.2.2.2.2.2.2.2.2.2.2.2.2.2.1, hHe_.2.2.2.2.2.2.2.2.2.2.2.2.2.2.2.2.2.2.2.2.2.2.2.2.2.2.2.1, hHe_.2.2.2.2.2.2.2.2.2.2.2.2.2.2.2.2.2.2.2.2.2.2.2.2.2.2.2.2.1, hHe_.2.2.2.2.2.2.2.2.2.2.2.2.2.2.2.2.2.2.2.2.2.2.2.2.2.2.2.2.2.1, hHe_.2.2.2.2.2.2.2.2.2.2.2.2.2.2.2.2.2.2.2.2.2.2.2.2.2.2.2.2.2.2.1, hHe_.2.2.2.2.2.2.2.2.2.2.2.2.2.2.2.2.2.2.2.2.2.2.2.2.2.2.2.2.2.2.2⟩ (fun hHeld => ?_)
                 clear hK K
                 refine normA (N := some 74) ?_
                 refine pureA (i := 22) (some 75) HT_ (tk 43 23) ?_
                 refine pureA (i := 23) (some 76) HT_ (tk 43 24) ?_
                 refine pureA (i := 24) (some 77) HT_ (tk 43 25) ?_
                 refine pureA (i := 25) (some 78) HT_ (tk 43 26) ?_
                 refine pureA (i := 27) (some 80) HT_ (tr [26, 1, 1, 15]) ?_
                 refine pureA (i := 28) (some 81) HT_ (tr [26, 1, 2, 14]) ?_
                 refine pureA (i := 29) (some 82) HT_ (tr [26, 1, 3, 13]) ?_
                 refine pureA (i := 30) (some 83) HT_ (tr [26, 1, 4, 12]) ?_
                 refine takeA (i := 26) (some 79) HT_ HW_ (tk 43 31) hHeld ?_
                 refine takeA (i := 31) (some 84) HT_ HW_ (tk 43 32) hHeld ?_
                 refine pureA (i := 32) (some 85) HT_ (tk 43 33) ?_
                 refine pureA (i := 33) (some 86) HT_ (tk 43 34) ?_
                 refine pureA (i := 34) (some 87) HT_ (tk 43 35) ?_
                 refine pureA (i := 36) (some 89) HT_ (tr [35, 1, 1, 6]) ?_
                 refine pureA (i := 37) (some 90) HT_ (tr [35, 1, 2, 5]) ?_
                 refine pureA (i := 38) (some 91) HT_ (tr [35, 1, 3, 4]) ?_
                 refine takeA (i := 35) (some 88) HT_ HW_ (tk 43 39) hHeld ?_
                 refine takeA (i := 39) (some 92) HT_ HW_ (tk 43 40) hHeld ?_
                 refine pureA (i := 40) (some 93) HT_ (tk 43 41) ?_
                 refine pureA (i := 41) (some 94) HT_ (tk 43 42) ?_
                 refine pureA (i := 42) (some 95) HT_ (tk 43 43) ?_
                 refine done_ (done_of HT_.out (by kernel_rfl)) ?_
                 try go_wp2_with (first | ((with_reducible refine gate_ (.load 36 (.tmp 2)) rfl ?_); refine wpList_load_row (by rfl) 36 (.tmp 2) (by rfl) _ (by rfl) 36 _ (0, 0) _ (by first | exact BK481.out | exact BK482.out | exact BK495.out | exact BK505.out | exact BK506.out | exact pQ BK481 | exact pQ BK482 | exact pQ BK495 | exact pQ BK505 | exact pQ BK506) hu36 (by rfl) (by kernel_rfl) ?_))
                 go_roundg kj11
                 case measure => have := HK1.out; have := HJ11.out; omega
                 case rel => exact ⟨(x6_11), (wrap64 (x7_1 + 1)), pT, pT, (by first | exact H' | (simp only [hji22]; exact H') | (simp only [hji22] at H' ⊢; exact H')), ⟨by have := HK1.out; have := HJ11.out; omega⟩, ⟨by (with_reducible repeat (first | apply Kd.R_alloc | apply Kd.R_drewN | apply Kd.R_drew)); exact Kd.R_mono HO_5.out (fun _ hk => trivial)⟩, ⟨pM BK481⟩, ⟨pM BK482⟩, ⟨pE HB⟩⟩
               ·
                rw [if_neg c30] at H
                have c30b0 : ((t496 == ((rd_T26 t483 (ji22)).f0.f0) && (t497 == ((rd_T26 t483 (ji22)).f0.f1) && (t498 == ((rd_T26 t483 (ji22)).f0.f2)))) && (t499 == ((rd_T26 t483 (ji22)).f1))) = false := by simpa using c30
                clear c30
                have H' := Aside0.mk H
                clear H
                try go_wp2_with (first | ((with_reducible refine gate_ (.load 36 (.tmp 2)) rfl ?_); refine wpList_load_row (by rfl) 36 (.tmp 2) (by rfl) _ (by rfl) 36 _ (0, 0) _ (by first | exact BK481.out | exact BK482.out | exact BK495.out | exact BK505.out | exact BK506.out | exact pQ BK481 | exact pQ BK482 | exact pQ BK495 | exact pQ BK505 | exact pQ BK506) hu36 (by rfl) (by kernel_rfl) ?_))
                replace HO_5 := Aside0.mk (Kd.R_drew HO_5.out)
                replace BK481 := Aside0.mk (blk_drew BK481.out)
                replace BK482 := Aside0.mk (blk_drew BK482.out)
                replace HB := Aside0.mk (below_drew1 HB.out)
                have p488 : 0 ≤ (x7_1 : Int) := of_decide_eq_true (by first | (with_reducible assumption) | assumption)
                have q488 : x7_1 < (t483.length : Int) := of_decide_eq_true (by first | (with_reducible assumption) | assumption)
                obtain ⟨ad488, e488, hx488_0, hx488_1, hx488_2, hx488_3⟩ := at_T26 (Kd.R_reads' HO_5.out).2.2 x7_1 p488 q488
                obtain rfl : ad486 = ad488 := (by injection e488)
                replace p488 := eq_true p488
                replace q488 := eq_true q488
                have p489 : 0 ≤ (x7_1 : Int) := of_decide_eq_true (by first | (with_reducible assumption) | assumption)
                have q489 : x7_1 < (t483.length : Int) := of_decide_eq_true (by first | (with_reducible assumption) | assumption)
                obtain ⟨ad489, e489, hx489_0, hx489_1, hx489_2, hx489_3⟩ := at_T26 (Kd.R_reads' HO_5.out).2.2 x7_1 p489 q489
                obtain rfl : ad486 = ad489 := (by injection e489)
                replace p489 := eq_true p489
                replace q489 := eq_true q489
                refine start_ (n := 18) (S := fun w' => w'.cell? (ad486.add ((x7_1).toNat * 4)) = some (.bool ((rd_T26 t483 x7_1).f0.f0)) ∧ w'.cell? ⟨(ad486.add ((x7_1).toNat * 4)).block, (ad486.add ((x7_1).toNat * 4)).off + 1, none⟩ = some (.int .u64 ((rd_T26 t483 x7_1).f0.f1)) ∧ w'.cell? ⟨(ad486.add ((x7_1).toNat * 4)).block, (ad486.add ((x7_1).toNat * 4)).off + 2, none⟩ = some (.int .u64 ((rd_T26 t483 x7_1).f0.f2)) ∧ w'.cell? ⟨(ad486.add ((x7_1).toNat * 4)).block, (ad486.add ((x7_1).toNat * 4)).off + 3, none⟩ = some (.int .i64 ((rd_T26 t483 x7_1).f1)) ∧ w'.cell? (ad486.add ((x7_1).toNat * 4)) = some (.bool ((rd_T26 t483 x7_1).f0.f0)) ∧ w'.cell? ⟨(ad486.add ((x7_1).toNat * 4)).block, (ad486.add ((x7_1).toNat * 4)).off + 1, none⟩ = some (.int .u64 ((rd_T26 t483 x7_1).f0.f1)) ∧ w'.cell? ⟨(ad486.add ((x7_1).toNat * 4)).block, (ad486.add ((x7_1).toNat * 4)).off + 2, none⟩ = some (.int .u64 ((rd_T26 t483 x7_1).f0.f2)) ∧ w'.cell? ⟨(ad486.add ((x7_1).toNat * 4)).block, (ad486.add ((x7_1).toNat * 4)).off + 3, none⟩ = some (.int .i64 ((rd_T26 t483 x7_1).f1))) (ds := []) (tk 18 0) (by kernel_rfl) rfl rfl ⟨hx488_0, hx488_1, hx488_2, hx488_3, hx489_0, hx489_1, hx489_2, hx489_3⟩ (fun hHeld => ?_); refine with_tabW ddilaw03_PrefixWhole.tab9 ddilaw03_PrefixWhole.bits9 (fun HT_ HW_ => ?_)
                generalize wc.drew = w59 at HO_5 BK481 BK482 HB hx488_0 hx488_1 hx488_2 hx488_3 hx489_0 hx489_1 hx489_2 hx489_3 hHeld ⊢
                refine pureA (i := 0) (some 33) HT_ (tk 18 1) ?_
                refine pureA (i := 1) (some 34) HT_ (tk 18 2) ?_
                refine pureA (i := 2) (some 35) HT_ (tk 18 3) ?_
                refine pureA (i := 3) (some 36) HT_ (tk 18 4) ?_
                refine pureA (i := 5) (some 38) HT_ (tr [4, 1, 1, 12]) ?_
                refine pureA (i := 6) (some 39) HT_ (tr [4, 1, 2, 11]) ?_
                refine pureA (i := 7) (some 40) HT_ (tr [4, 1, 3, 10]) ?_
                refine pureA (i := 8) (some 41) HT_ (tr [4, 1, 4, 9]) ?_
                refine takeA (i := 4) (some 37) HT_ HW_ (tk 18 9) hHeld ?_
                refine takeA (i := 9) (some 42) HT_ HW_ (tk 18 10) hHeld ?_
                refine pureA (i := 10) (some 43) HT_ (tk 18 11) ?_
                refine join_ (σ := Nat) 2 (tk 18 16) (fun s_ => [(44, .tuple #[.agg #[.bool t490, .int .u64 t491, .int .u64 t492, .int .i64 t493], .bool t494]), (8, .pointer (some ⟨s_, 0, none⟩)), (32, .tuple #[.agg #[.bool t490, .int .u64 t491, .int .u64 t492, .int .i64 t493], .bool t494]), (45, .agg #[.bool t490, .int .u64 t491, .int .u64 t492, .int .i64 t493]), (46, .bool t494)]) (fun s_ w' => (w'.cell? (ad486.add ((x7_1).toNat * 4)) = some (.bool ((rd_T26 t483 x7_1).f0.f0)) ∧ w'.cell? ⟨(ad486.add ((x7_1).toNat * 4)).block, (ad486.add ((x7_1).toNat * 4)).off + 1, none⟩ = some (.int .u64 ((rd_T26 t483 x7_1).f0.f1)) ∧ w'.cell? ⟨(ad486.add ((x7_1).toNat * 4)).block, (ad486.add ((x7_1).toNat * 4)).off + 2, none⟩ = some (.int .u64 ((rd_T26 t483 x7_1).f0.f2)) ∧ w'.cell? ⟨(ad486.add ((x7_1).toNat * 4)).block, (ad486.add ((x7_1).toNat * 4)).off + 3, none⟩ = some (.int .i64 ((rd_T26 t483 x7_1).f1)) ∧ w'.cell? (ad486.add ((x7_1).toNat * 4)) = some (.bool ((rd_T26 t483 x7_1).f0.f0)) ∧ w'.cell? ⟨(ad486.add ((x7_1).toNat * 4)).block, (ad486.add ((x7_1).toNat * 4)).off + 1, none⟩ = some (.int .u64 ((rd_T26 t483 x7_1).f0.f1)) ∧ w'.cell? ⟨(ad486.add ((x7_1).toNat * 4)).block, (ad486.add ((x7_1).toNat * 4)).off + 2, none⟩ = some (.int .u64 ((rd_T26 t483 x7_1).f0.f2)) ∧ w'.cell? ⟨(ad486.add ((x7_1).toNat * 4)).block, (ad486.add ((x7_1).toNat * 4)).off + 3, none⟩ = some (.int .i64 ((rd_T26 t483 x7_1).f1))) ∧ (Kd.R k26 26 w' w.heap.size (fun k_ => k_ ≠ s_) (.slice (some ad486) t483.length co13) t483) ∧ (w'.heap[gb481]? = some (.cells #[.bool a0_0, .int .u64 a0_1, .int .u64 a0_2, .bool a0_3, .int .u64 a0_4, .int .u64 a0_5] 36 (0, 0))) ∧ (w'.heap[gb482]? = some (.cells #[.bool a1_0, .int .u64 a1_1, .int .u64 a1_2] 24 (0, 0))) ∧ (w'.heap[s_]? = some (.cells #[.bool false, .int .u64 0, .int .u64 0, .int .i64 0] 26 (0, 0))) ∧ (w.heap.size ≤ s_) ∧ (w.heap.size ≤ s_) ∧ (gb481 ≠ s_) ∧ (s_ ≠ gb481) ∧ (gb482 ≠ s_) ∧ (s_ ≠ gb482) ∧ (Below w.heap.size w w')) ?_ ?_
                rotate_left
                ·
                 intro hCont
                 refine two_ (i := 11) (j := 15) (Ni := some 44) (Nj := some 8) (tk 18 12) (tr [11, 4, 1, 2]) rfl rfl rfl rfl (two_of HT_.out (by kernel_rfl)) (by decide) (by decide) (fun K hK => ?_) (fun K hK => ?_)
                 ·
                  skip
                  refine goesR Tryd.func14 #[.agg #[.bool ((rd_T26 t483 x7_1).f0.f0), .int .u64 ((rd_T26 t483 x7_1).f0.f1), .int .u64 ((rd_T26 t483 x7_1).f0.f2)], .int .i64 (wrap64 (((rd_T26 t483 x7_1).f1) - 1))] ?_
                  with_reducible refine (prefix_Of.calls ((rd_T26 t483 x7_1).f0.f0) ((rd_T26 t483 x7_1).f0.f1) ((rd_T26 t483 x7_1).f0.f2) (wrap64 (((rd_T26 t483 x7_1).f1) - 1)) t490 t491 t492 t493 t494 _ A20.out).mono ?_
                  rintro e w60 ⟨rfl, hb⟩
                  have hHe_ := pH hb hHeld
                  refine ⟨_, rfl, ?_⟩
                  replace HO_5 := Aside0.mk (Kd.R_below (by (with_reducible repeat (first | apply Kd.R_alloc | apply Kd.R_drewN | apply Kd.R_drew)); exact HO_5.out) hb)
                  replace BK481 := (pB BK481 hb)
                  replace BK482 := (pB BK482 hb)
                  replace HB := (pS HB hb)
                  (try clear hb)
                  (try clear hk)
                  refine hK.out _ _ ⟨hHe_.1, hHe_.2.1, hHe_.2.2.1, hHe_.2.2.2.1, hHe_.2.2.2.2.1, hHe_.2.2.2.2.2.1, hHe_.2.2.2.2.2.2.1, hHe_.2.2.2.2.2.2.2⟩ (fun hHeld => ?_)
                  clear hK K
                  refine normA (N := some 44) ?_
                  refine pureA (i := 12) (some 32) HT_ (tk 18 13) ?_
                  refine pureA (i := 13) (some 45) HT_ (tk 18 14) ?_
                  refine pureA (i := 14) (some 46) HT_ (tk 18 15) ?_
                  refine one_ (i := 15) (N := some 8) (tk 18 16) rfl rfl (one_of HT_.out (by kernel_rfl)) (by decide) (fun K hK => ?_)
                  refine box_step ?hg (N := 8) ?hd (cs := #[.bool false, .int .u64 0, .int .u64 0, .int .i64 0]) (t := 26) ?hr ?_; (case hd => rfl); (case hg => rfl); (case hr => first | (go_simp; done) | (go_simp; rfl))
                  intro gb495 hg w61 hbox hb
                  have hHe_ := pH hb hHeld
                  have BK495 := Aside0.mk (hbox)
                  have GW495 := (pZ HB hg)
                  have GE495 := (pZ HB hg)
                  have NB481_495 := (pL BK481 hg)
                  have NB495_481 := (pG BK481 hg)
                  have NB482_495 := (pL BK482 hg)
                  have NB495_482 := (pG BK482 hg)
                  replace HO_5 := Aside0.mk (Kd.R_below (Kd.R_elderB (by (with_reducible repeat (first | apply Kd.R_alloc | apply Kd.R_drewN | apply Kd.R_drew)); exact HO_5.out) gb495 (Nat.le_of_eq hg.symm)) hb)
                  replace BK481 := (pB BK481 hb)
                  replace BK482 := (pB BK482 hb)
                  replace HB := (pS HB hb)
                  clear hb hbox hg
                  refine hK.out _ _ ⟨hHe_.1, hHe_.2.1, hHe_.2.2.1, hHe_.2.2.2.1, hHe_.2.2.2.2.1, hHe_.2.2.2.2.2.1, hHe_.2.2.2.2.2.2.1, hHe_.2.2.2.2.2.2.2⟩ (fun hHeld => ?_)
                  clear hK K
                  refine normA (N := some 8) ?_
                  exact norm_ (by simp only [putAll, Act.put, List.setIfInBounds_toArray, List.set_cons_zero, List.set_cons_succ]) (hCont (gb495) _ ⟨hHeld, (by (with_reducible repeat (first | apply Kd.R_alloc | apply Kd.R_drewN | apply Kd.R_drew)); exact Kd.R_mono HO_5.out (fun _ hk => hk.2)), (pM BK481), (pM BK482), (pM BK495), GW495.out, GE495.out, NB481_495.out, NB495_481.out, NB482_495.out, NB495_482.out, (by repeat (first | (with_reducible first | exact HB.out | apply below_alloc | apply pw_below_drewN | apply below_drew1 | refine below_set ?_ GE481.out | refine below_set ?_ GE482.out | refine below_set ?_ GE495.out) | exact HB.out))⟩)
                 ·
                  skip
                  refine box_step ?hg (N := 8) ?hd (cs := #[.bool false, .int .u64 0, .int .u64 0, .int .i64 0]) (t := 26) ?hr ?_; (case hd => rfl); (case hg => rfl); (case hr => first | (go_simp; done) | (go_simp; rfl))
                  intro gb495 hg w60 hbox hb
                  have hHe_ := pH hb hHeld
                  have BK495 := Aside0.mk (hbox)
                  have GW495 := (pZ HB hg)
                  have GE495 := (pZ HB hg)
                  have NB481_495 := (pL BK481 hg)
                  have NB495_481 := (pG BK481 hg)
                  have NB482_495 := (pL BK482 hg)
                  have NB495_482 := (pG BK482 hg)
                  replace HO_5 := Aside0.mk (Kd.R_below (Kd.R_elderB (by (with_reducible repeat (first | apply Kd.R_alloc | apply Kd.R_drewN | apply Kd.R_drew)); exact HO_5.out) gb495 (Nat.le_of_eq hg.symm)) hb)
                  replace BK481 := (pB BK481 hb)
                  replace BK482 := (pB BK482 hb)
                  replace HB := (pS HB hb)
                  clear hb hbox hg
                  refine hK.out _ _ ⟨hHe_.1, hHe_.2.1, hHe_.2.2.1, hHe_.2.2.2.1, hHe_.2.2.2.2.1, hHe_.2.2.2.2.2.1, hHe_.2.2.2.2.2.2.1, hHe_.2.2.2.2.2.2.2⟩ (fun hHeld => ?_)
                  clear hK K
                  refine normA (N := some 8) ?_
                  refine one_ (i := 11) (N := some 44) (tr [12, 3, 1, 2]) rfl rfl (one_of HT_.out (by kernel_rfl)) (by decide) (fun K hK => ?_)
                  refine goesR Tryd.func14 #[.agg #[.bool ((rd_T26 t483 x7_1).f0.f0), .int .u64 ((rd_T26 t483 x7_1).f0.f1), .int .u64 ((rd_T26 t483 x7_1).f0.f2)], .int .i64 (wrap64 (((rd_T26 t483 x7_1).f1) - 1))] ?_
                  with_reducible refine (prefix_Of.calls ((rd_T26 t483 x7_1).f0.f0) ((rd_T26 t483 x7_1).f0.f1) ((rd_T26 t483 x7_1).f0.f2) (wrap64 (((rd_T26 t483 x7_1).f1) - 1)) t490 t491 t492 t493 t494 _ A20.out).mono ?_
                  rintro e w61 ⟨rfl, hb⟩
                  have hHe_ := pH hb hHeld
                  refine ⟨_, rfl, ?_⟩
                  replace HO_5 := Aside0.mk (Kd.R_below (by (with_reducible repeat (first | apply Kd.R_alloc | apply Kd.R_drewN | apply Kd.R_drew)); exact HO_5.out) hb)
                  replace BK481 := (pB BK481 hb)
                  replace BK482 := (pB BK482 hb)
                  replace BK495 := (pB BK495 hb)
                  replace HB := (pS HB hb)
                  (try clear hb)
                  (try clear hk)
                  refine hK.out _ _ ⟨hHe_.1, hHe_.2.1, hHe_.2.2.1, hHe_.2.2.2.1, hHe_.2.2.2.2.1, hHe_.2.2.2.2.2.1, hHe_.2.2.2.2.2.2.1, hHe_.2.2.2.2.2.2.2⟩ (fun hHeld => ?_)
                  clear hK K
                  refine normA (N := some 44) ?_
                  refine pureA (i := 12) (some 32) HT_ (tr [13, 2, 1, 2]) ?_
                  refine pureA (i := 13) (some 45) HT_ (tr [14, 1, 1, 2]) ?_
                  refine pureA (i := 14) (some 46) HT_ (tk 18 16) ?_
                  exact norm_ (by simp only [putAll, Act.put, List.setIfInBounds_toArray, List.set_cons_zero, List.set_cons_succ]) (hCont (gb495) _ ⟨hHeld, (by (with_reducible repeat (first | apply Kd.R_alloc | apply Kd.R_drewN | apply Kd.R_drew)); exact Kd.R_mono HO_5.out (fun _ hk => hk.2)), (pM BK481), (pM BK482), (pM BK495), GW495.out, GE495.out, NB481_495.out, NB495_481.out, NB482_495.out, NB495_482.out, (by repeat (first | (with_reducible first | exact HB.out | apply below_alloc | apply pw_below_drewN | apply below_drew1 | refine below_set ?_ GE481.out | refine below_set ?_ GE482.out | refine below_set ?_ GE495.out) | exact HB.out))⟩)
                rintro gb495 w62 ⟨hS_, h0_, h1_, h2_, h3_, h4_, h5_, h6_, h7_, h8_, h9_, h10_⟩
                have BK495 : Aside0 (w62.heap[gb495]? = some (.cells #[.bool false, .int .u64 0, .int .u64 0, .int .i64 0] 26 (0, 0))) := ⟨h3_⟩
                have GW495 : Aside0 (w.heap.size ≤ gb495) := ⟨h4_⟩
                have GE495 : Aside0 (w.heap.size ≤ gb495) := ⟨h5_⟩
                have NB481_495 : Aside0 (gb481 ≠ gb495) := ⟨h6_⟩
                have NB495_481 : Aside0 (gb495 ≠ gb481) := ⟨h7_⟩
                have NB482_495 : Aside0 (gb482 ≠ gb495) := ⟨h8_⟩
                have NB495_482 : Aside0 (gb495 ≠ gb482) := ⟨h9_⟩
                replace HO_5 : Aside0 (Kd.R k26 26 w62 w.heap.size (fun k_ => k_ ≠ gb495) (.slice (some ad486) t483.length co13) t483) := ⟨h0_⟩
                replace BK481 : Aside0 (w62.heap[gb481]? = some (.cells #[.bool a0_0, .int .u64 a0_1, .int .u64 a0_2, .bool a0_3, .int .u64 a0_4, .int .u64 a0_5] 36 (0, 0))) := ⟨h1_⟩
                replace BK482 : Aside0 (w62.heap[gb482]? = some (.cells #[.bool a1_0, .int .u64 a1_1, .int .u64 a1_2] 24 (0, 0))) := ⟨h2_⟩
                replace HB : Aside0 (Below w.heap.size w w62) := ⟨h10_⟩
                clear h0_ h1_ h2_ h3_ h4_ h5_ h6_ h7_ h8_ h9_ h10_
                have hHeld : w62.cell? (ad486.add ((x7_1).toNat * 4)) = some (.bool ((rd_T26 t483 x7_1).f0.f0)) ∧ w62.cell? ⟨(ad486.add ((x7_1).toNat * 4)).block, (ad486.add ((x7_1).toNat * 4)).off + 1, none⟩ = some (.int .u64 ((rd_T26 t483 x7_1).f0.f1)) ∧ w62.cell? ⟨(ad486.add ((x7_1).toNat * 4)).block, (ad486.add ((x7_1).toNat * 4)).off + 2, none⟩ = some (.int .u64 ((rd_T26 t483 x7_1).f0.f2)) ∧ w62.cell? ⟨(ad486.add ((x7_1).toNat * 4)).block, (ad486.add ((x7_1).toNat * 4)).off + 3, none⟩ = some (.int .i64 ((rd_T26 t483 x7_1).f1)) ∧ w62.cell? (ad486.add ((x7_1).toNat * 4)) = some (.bool ((rd_T26 t483 x7_1).f0.f0)) ∧ w62.cell? ⟨(ad486.add ((x7_1).toNat * 4)).block, (ad486.add ((x7_1).toNat * 4)).off + 1, none⟩ = some (.int .u64 ((rd_T26 t483 x7_1).f0.f1)) ∧ w62.cell? ⟨(ad486.add ((x7_1).toNat * 4)).block, (ad486.add ((x7_1).toNat * 4)).off + 2, none⟩ = some (.int .u64 ((rd_T26 t483 x7_1).f0.f2)) ∧ w62.cell? ⟨(ad486.add ((x7_1).toNat * 4)).block, (ad486.add ((x7_1).toNat * 4)).off + 3, none⟩ = some (.int .i64 ((rd_T26 t483 x7_1).f1)) := hS_
                refine norm_ (a' := ?_) ?_ ?_
                rotate_left
                ·
                 simp only [putAll, Act.put, List.setIfInBounds_toArray, List.set_cons_zero, List.set_cons_succ]
                 rfl
                refine one_ (i := 16) (N := none) (tk 18 17) rfl rfl (one_of HT_.out (by kernel_rfl)) (by decide) (fun K hK => ?_)
                have hs63 : w62.cell? ⟨gb495, 0, none⟩ = some (.bool false) := (blk_cell BK495.out 0).trans rfl
                have hfs63 := blk_frozen BK495.out 0
                have hns63_0 := NB481_495.out
                have hns63_1 := NB482_495.out
                have hms63_0 := NB495_481.out
                have hms63_1 := NB495_482.out
                have hs64 : w62.cell? ⟨gb495, 1, none⟩ = some (.int .u64 0) := (blk_cell BK495.out 1).trans rfl
                have hfs64 := blk_frozen BK495.out 1
                have hns64_0 := NB481_495.out
                have hns64_1 := NB482_495.out
                have hms64_0 := NB495_481.out
                have hms64_1 := NB495_482.out
                have hs65 : w62.cell? ⟨gb495, 2, none⟩ = some (.int .u64 0) := (blk_cell BK495.out 2).trans rfl
                have hfs65 := blk_frozen BK495.out 2
                have hns65_0 := NB481_495.out
                have hns65_1 := NB482_495.out
                have hms65_0 := NB495_481.out
                have hms65_1 := NB495_482.out
                have hs66 : w62.cell? ⟨gb495, 3, none⟩ = some (.int .i64 0) := (blk_cell BK495.out 3).trans rfl
                have hfs66 := blk_frozen BK495.out 3
                have hns66_0 := NB481_495.out
                have hns66_1 := NB482_495.out
                have hms66_0 := NB495_481.out
                have hms66_1 := NB495_482.out
                refine skip_ (w1 := ?_) (by rfl) rfl ?_ ?_
                rotate_left
                ·
                 go_simp
                 rfl
                refine hK.out _ _ ⟨((cell_far (p := ⟨gb495, _, none⟩) (pO (Kd.own_blk (Kd.R_away HO_5.out (fun _ hk => hk)))) _).trans (((cell_far (p := ⟨gb495, _, none⟩) (pO (Kd.own_blk (Kd.R_away HO_5.out (fun _ hk => hk)))) _).trans (((cell_far (p := ⟨gb495, _, none⟩) (pO (Kd.own_blk (Kd.R_away HO_5.out (fun _ hk => hk)))) _).trans (((cell_far (p := ⟨gb495, _, none⟩) (pO (Kd.own_blk (Kd.R_away HO_5.out (fun _ hk => hk)))) _).trans (hHeld.1)))))))), ((cell_far (p := ⟨gb495, _, none⟩) (pO (Kd.own_blk (Kd.R_away HO_5.out (fun _ hk => hk)))) _).trans (((cell_far (p := ⟨gb495, _, none⟩) (pO (Kd.own_blk (Kd.R_away HO_5.out (fun _ hk => hk)))) _).trans (((cell_far (p := ⟨gb495, _, none⟩) (pO (Kd.own_blk (Kd.R_away HO_5.out (fun _ hk => hk)))) _).trans (((cell_far (p := ⟨gb495, _, none⟩) (pO (Kd.own_blk (Kd.R_away HO_5.out (fun _ hk => hk)))) _).trans (hHeld.2.1)))))))), ((cell_far (p := ⟨gb495, _, none⟩) (pO (Kd.own_blk (Kd.R_away HO_5.out (fun _ hk => hk)))) _).trans (((cell_far (p := ⟨gb495, _, none⟩) (pO (Kd.own_blk (Kd.R_away HO_5.out (fun _ hk => hk)))) _).trans (((cell_far (p := ⟨gb495, _, none⟩) (pO (Kd.own_blk (Kd.R_away HO_5.out (fun _ hk => hk)))) _).trans (((cell_far (p := ⟨gb495, _, none⟩) (pO (Kd.own_blk (Kd.R_away HO_5.out (fun _ hk => hk)))) _).trans (hHeld.2.2.1)))))))), ((cell_far (p := ⟨gb495, _, none⟩) (pO (Kd.own_blk (Kd.R_away HO_5.out (fun _ hk => hk)))) _).trans (((cell_far (p := ⟨gb495, _, none⟩) (pO (Kd.own_blk (Kd.R_away HO_5.out (fun _ hk => hk)))) _).trans (((cell_far (p := ⟨gb495, _, none⟩) (pO (Kd.own_blk (Kd.R_away HO_5.out (fun _ hk => hk)))) _).trans (((cell_far (p := ⟨gb495, _, none⟩) (pO (Kd.own_blk (Kd.R_away HO_5.out (fun _ hk => hk)))) _).trans (hHeld.2.2.2.1)))))))), ((cell_far (p := ⟨gb495, _, none⟩) (pO (Kd.own_blk (Kd.R_away HO_5.out (fun _ hk => hk)))) _).trans (((cell_far (p := ⟨gb495, _, none⟩) (pO (Kd.own_blk (Kd.R_away HO_5.out (fun _ hk => hk)))) _).trans (((cell_far (p := ⟨gb495, _, none⟩) (pO (Kd.own_blk (Kd.R_away HO_5.out (fun _ hk => hk)))) _).trans (((cell_far (p := ⟨gb495, _, none⟩) (pO (Kd.own_blk (Kd.R_away HO_5.out (fun _ hk => hk)))) _).trans (hHeld.2.2.2.2.1)))))))), ((cell_far (p := ⟨gb495, _, none⟩) (pO (Kd.own_blk (Kd.R_away HO_5.out (fun _ hk => hk)))) _).trans (((cell_far (p := ⟨gb495, _, none⟩) (pO (Kd.own_blk (Kd.R_away HO_5.out (fun _ hk => hk)))) _).trans (((cell_far (p := ⟨gb495, _, none⟩) (pO (Kd.own_blk (Kd.R_away HO_5.out (fun _ hk => hk)))) _).trans (((cell_far (p := ⟨gb495, _, none⟩) (pO (Kd.own_blk (Kd.R_away HO_5.out (fun _ hk => hk)))) _).trans (hHeld.2.2.2.2.2.1)))))))), ((cell_far (p := ⟨gb495, _, none⟩) (pO (Kd.own_blk (Kd.R_away HO_5.out (fun _ hk => hk)))) _).trans (((cell_far (p := ⟨gb495, _, none⟩) (pO (Kd.own_blk (Kd.R_away HO_5.out (fun _ hk => hk)))) _).trans (((cell_far (p := ⟨gb495, _, none⟩) (pO (Kd.own_blk (Kd.R_away HO_5.out (fun _ hk => hk)))) _).trans (((cell_far (p := ⟨gb495, _, none⟩) (pO (Kd.own_blk (Kd.R_away HO_5.out (fun _ hk => hk)))) _).trans (hHeld.2.2.2.2.2.2.1)))))))), ((cell_far (p := ⟨gb495, _, none⟩) (pO (Kd.own_blk (Kd.R_away HO_5.out (fun _ hk => hk)))) _).trans (((cell_far (p := ⟨gb495, _, none⟩) (pO (Kd.own_blk (Kd.R_away HO_5.out (fun _ hk => hk)))) _).trans (((cell_far (p := ⟨gb495, _, none⟩) (pO (Kd.own_blk (Kd.R_away HO_5.out (fun _ hk => hk)))) _).trans (((cell_far (p := ⟨gb495, _, none⟩) (pO (Kd.own_blk (Kd.R_away HO_5.out (fun _ hk => hk)))) _).trans (hHeld.2.2.2.2.2.2.2))))))))⟩ (fun hHeld => ?_)
                clear hK K
                refine pureA (i := 17) (some 9) HT_ (tk 18 18) ?_
                refine done_ (done_of HT_.out (by kernel_rfl)) ?_
                have hnb67 := NB495_481.out
                have hnc67 := NB481_495.out
                have hnb68 := NB495_482.out
                have hnc68 := NB482_495.out
                obtain ⟨hcz69_0, hcz69_1, hcz69_2, hcz69_3, hfz69_0, hfz69_1, hfz69_2, hfz69_3⟩ := pC4 BK495
                try go_wp2_with (first | ((with_reducible refine gate_ (.load 36 (.tmp 2)) rfl ?_); refine wpList_load_row (by rfl) 36 (.tmp 2) (by rfl) _ (by rfl) 36 _ (0, 0) _ (by first | exact BK481.out | exact BK482.out | exact BK495.out | exact BK505.out | exact BK506.out | exact pQ BK481 | exact pQ BK482 | exact pQ BK495 | exact pQ BK505 | exact pQ BK506) hu36 (by rfl) (by kernel_rfl) ?_) | ((with_reducible refine gate_callee (f := 22) rfl ?_); refine goesA (some 49) Tryd.func22 #[.agg #[.bool t490, .int .u64 t491, .int .u64 t492, .int .i64 t493]] ?_; (with_reducible refine (prefix_Halves.calls kj11 t490 t491 t492 t493 t496 t497 t498 t499 t500 t501 t502 t503 true _ A21.out).mono ?_); rintro e w70 ⟨rfl, hb⟩; refine ⟨_, rfl, ?_⟩; replace HO_5 := Aside0.mk (Kd.R_below (by (with_reducible repeat (first | apply Kd.R_alloc | apply Kd.R_drewN | apply Kd.R_drew)); exact (Kd.R_mono (Kd.R_far (p := ⟨gb495, 3, none⟩) (Kd.R_far (p := ⟨gb495, 2, none⟩) (Kd.R_far (p := ⟨gb495, 1, none⟩) (Kd.R_far (p := ⟨gb495, 0, none⟩) (Kd.R_mono HO_5.out (fun k_ hk => (⟨hk, hk⟩ : _ ∧ k_ ≠ gb495))) (fun _ hk => hk.2) (.bool t490)) (fun _ hk => hk.2) (.int .u64 t491)) (fun _ hk => hk.2) (.int .u64 t492)) (fun _ hk => hk.2) (.int .i64 t493)) (fun _ h_ => h_.1))) hb); replace BK481 := (pD hb (pK NB481_495 (pK NB481_495 (pK NB481_495 (pK NB481_495 (pM BK481)))))); replace BK482 := (pD hb (pK NB482_495 (pK NB482_495 (pK NB482_495 (pK NB482_495 (pM BK482)))))); replace BK495 := (pD hb (pP (pP (pP (pP (pM BK495)))))); replace HB := (pS HB hb); (try clear hb); (try clear hk)) | ((with_reducible refine gate_dst (N := 10) rfl ?_); refine boxA (N := 10) (cs := #[.bool false, .int .u64 0, .int .u64 0, .int .i64 0]) (t := 26) ?_; intro gb505 hg w71 hbox hb; have BK505 := Aside0.mk (hbox); have GW505 := (pZ HB hg); have GE505 := (pZ HB hg); have NB481_505 := (pL BK481 hg); have NB505_481 := (pG BK481 hg); have NB482_505 := (pL BK482 hg); have NB505_482 := (pG BK482 hg); have NB495_505 := (pL BK495 hg); have NB505_495 := (pG BK495 hg); replace HO_5 := Aside0.mk (Kd.R_below (Kd.R_elderB (by (with_reducible repeat (first | apply Kd.R_alloc | apply Kd.R_drewN | apply Kd.R_drew)); exact HO_5.out) gb505 (Nat.le_of_eq hg.symm)) hb); replace BK481 := (pB BK481 hb); replace BK482 := (pB BK482 hb); replace BK495 := (pB BK495 hb); replace HB := (pS HB hb); clear hb hbox hg) | ((with_reducible refine gate_dst (N := 11) rfl ?_); refine boxA (N := 11) (cs := #[.bool false, .int .u64 0, .int .u64 0, .int .i64 0]) (t := 26) ?_; intro gb506 hg w72 hbox hb; have BK506 := Aside0.mk (hbox); have GW506 := (pZ HB hg); have GE506 := (pZ HB hg); have NB481_506 := (pL BK481 hg); have NB506_481 := (pG BK481 hg); have NB482_506 := (pL BK482 hg); have NB506_482 := (pG BK482 hg); have NB495_506 := (pL BK495 hg); have NB506_495 := (pG BK495 hg); have NB505_506 := (pL BK505 hg); have NB506_505 := (pG BK505 hg); replace HO_5 := Aside0.mk (Kd.R_below (Kd.R_elderB (by (with_reducible repeat (first | apply Kd.R_alloc | apply Kd.R_drewN | apply Kd.R_drew)); exact HO_5.out) gb506 (Nat.le_of_eq hg.symm)) hb); replace BK481 := (pB BK481 hb); replace BK482 := (pB BK482 hb); replace BK495 := (pB BK495 hb); replace BK505 := (pB BK505 hb); replace HB := (pS HB hb); clear hb hbox hg; have hnb73 := NB505_481.out; have hnc73 := NB481_505.out; have hnb74 := NB505_482.out; have hnc74 := NB482_505.out; have hnb75 := NB505_495.out; have hnc75 := NB495_505.out; have hnb76 := NB505_506.out; have hnc76 := NB506_505.out; obtain ⟨hcz77_0, hcz77_1, hcz77_2, hcz77_3, hfz77_0, hfz77_1, hfz77_2, hfz77_3⟩ := pC4 BK505; have hnb78 := NB506_481.out; have hnc78 := NB481_506.out; have hnb79 := NB506_482.out; have hnc79 := NB482_506.out; have hnb80 := NB506_495.out; have hnc80 := NB495_506.out; obtain ⟨hcz81_0, hcz81_1, hcz81_2, hcz81_3, hfz81_0, hfz81_1, hfz81_2, hfz81_3⟩ := pC4 BK506) | ((with_reducible refine gate_store (t := 26) (p := 11) rfl ?_); refine store_event (t := 26) (p := 11) (v := ?vo_w82) (w1 := ((((((((w72.setCell ⟨gb505, 0, none⟩ (.bool t496)).setCell ⟨gb505, 1, none⟩ (.int .u64 t497)).setCell ⟨gb505, 2, none⟩ (.int .u64 t498)).setCell ⟨gb505, 3, none⟩ (.int .i64 t499)).setCell ⟨gb506, 0, none⟩ (.bool t500)).setCell ⟨gb506, 1, none⟩ (.int .u64 t501)).setCell ⟨gb506, 2, none⟩ (.int .u64 t502)).setCell ⟨gb506, 3, none⟩ (.int .i64 t503))) ?hg ?ho ?hn ?hr ?_; (case ho => rfl); (case hg => rfl); (case hn => rfl); (case hr => first | (exact Ext.run_store_chain 26 _ _ rfl _ _ _ _ rfl rfl (pK NB506_505 (pK NB506_505 (pK NB506_505 (pK NB506_505 (pM BK506))))) (by kernel_rfl) rfl rfl rfl) | (go_simp; done) | (go_simp; rfl)); intro w82 hw; replace HO_5 : Aside0 (Kd.R k26 26 w82 w.heap.size (fun k_ => k_ ≠ gb495 ∧ k_ ≠ gb505 ∧ k_ ≠ gb506) (.slice (some ad486) t483.length co13) t483) := ⟨(by rw [hw]; exact (by (with_reducible repeat (first | apply Kd.R_alloc | apply Kd.R_drewN | apply Kd.R_drew)); exact Kd.R_mono (Kd.R_far (p := ⟨gb506, 3, none⟩) (Kd.R_far (p := ⟨gb506, 2, none⟩) (Kd.R_far (p := ⟨gb506, 1, none⟩) (Kd.R_far (p := ⟨gb506, 0, none⟩) (Kd.R_far (p := ⟨gb505, 3, none⟩) (Kd.R_far (p := ⟨gb505, 2, none⟩) (Kd.R_far (p := ⟨gb505, 1, none⟩) (Kd.R_far (p := ⟨gb505, 0, none⟩) (Kd.R_mono (Kd.R_mono HO_5.out (fun k_ hk => (⟨hk, hk.1.2⟩ : _ ∧ k_ ≠ gb505))) (fun k_ hk => (⟨hk, hk.1.2⟩ : _ ∧ k_ ≠ gb506))) (fun _ hk => hk.1.2) (.bool t496)) (fun _ hk => hk.1.2) (.int .u64 t497)) (fun _ hk => hk.1.2) (.int .u64 t498)) (fun _ hk => hk.1.2) (.int .i64 t499)) (fun _ hk => hk.2) (.bool t500)) (fun _ hk => hk.2) (.int .u64 t501)) (fun _ hk => hk.2) (.int .u64 t502)) (fun _ hk => hk.2) (.int .i64 t503)) (fun _ hk => ⟨hk.1.1.1.1, ⟨hk.1.1.1.2, hk.1.1.2⟩⟩)))⟩; replace BK481 : Aside0 (w82.heap[gb481]? = some (.cells #[.bool a0_0, .int .u64 a0_1, .int .u64 a0_2, .bool a0_3, .int .u64 a0_4, .int .u64 a0_5] 36 (0, 0))) := (pW hw (pK NB481_506 (pK NB481_506 (pK NB481_506 (pK NB481_506 (pK NB481_505 (pK NB481_505 (pK NB481_505 (pK NB481_505 (pM BK481)))))))))); replace BK482 : Aside0 (w82.heap[gb482]? = some (.cells #[.bool a1_0, .int .u64 a1_1, .int .u64 a1_2] 24 (0, 0))) := (pW hw (pK NB482_506 (pK NB482_506 (pK NB482_506 (pK NB482_506 (pK NB482_505 (pK NB482_505 (pK NB482_505 (pK NB482_505 (pM BK482)))))))))); replace BK495 : Aside0 (w82.heap[gb495]? = some (.cells #[.bool t490, .int .u64 t491, .int .u64 t492, .int .i64 t493] 26 (0, 0))) := (pW hw (pK NB495_506 (pK NB495_506 (pK NB495_506 (pK NB495_506 (pK NB495_505 (pK NB495_505 (pK NB495_505 (pK NB495_505 (pM BK495)))))))))); replace BK505 : Aside0 (w82.heap[gb505]? = some (.cells #[.bool t496, .int .u64 t497, .int .u64 t498, .int .i64 t499] 26 (0, 0))) := (pW hw (pK NB505_506 (pK NB505_506 (pK NB505_506 (pK NB505_506 (pP (pP (pP (pP (pM BK505)))))))))); replace BK506 : Aside0 (w82.heap[gb506]? = some (.cells #[.bool t500, .int .u64 t501, .int .u64 t502, .int .i64 t503] 26 (0, 0))) := (pW hw (pP (pP (pP (pP (pK NB506_505 (pK NB506_505 (pK NB506_505 (pK NB506_505 (pM BK506)))))))))); replace HB : Aside0 (Below w.heap.size w w82) := ⟨(by rw [hw]; exact (by repeat (first | (with_reducible first | exact HB.out | apply below_alloc | apply pw_below_drewN | apply below_drew1 | refine below_set ?_ GE481.out | refine below_set ?_ GE482.out | refine below_set ?_ GE495.out | refine below_set ?_ GE505.out | refine below_set ?_ GE506.out) | exact HB.out)))⟩; clear hw))
                replace HO_5 := Aside0.mk (Kd.R_drew HO_5.out)
                replace BK481 := Aside0.mk (blk_drew BK481.out)
                replace BK482 := Aside0.mk (blk_drew BK482.out)
                replace BK495 := Aside0.mk (blk_drew BK495.out)
                replace BK505 := Aside0.mk (blk_drew BK505.out)
                replace BK506 := Aside0.mk (blk_drew BK506.out)
                replace HB := Aside0.mk (below_drew1 HB.out)
                have p507 : 0 ≤ ((ji22) : Int) := of_decide_eq_true (by first | (with_reducible assumption) | assumption)
                have q507 : (ji22) < (t483.length : Int) := of_decide_eq_true (by first | (with_reducible assumption) | assumption)
                obtain ⟨ad507, e507, hx507_0, hx507_1, hx507_2, hx507_3⟩ := at_T26 (Kd.R_reads' HO_5.out).2.2 (ji22) p507 q507
                obtain rfl : ad486 = ad507 := (by injection e507)
                replace p507 := eq_true p507
                replace q507 := eq_true q507
                have p508 : 0 ≤ (x7_1 : Int) := of_decide_eq_true (by first | (with_reducible assumption) | assumption)
                have q508 : x7_1 < (t483.length : Int) := of_decide_eq_true (by first | (with_reducible assumption) | assumption)
                obtain ⟨ad508, e508, hx508_0, hx508_1, hx508_2, hx508_3⟩ := at_T26 (Kd.R_reads' HO_5.out).2.2 x7_1 p508 q508
                obtain rfl : ad486 = ad508 := (by injection e508)
                replace p508 := eq_true p508
                replace q508 := eq_true q508
                have p510 : 0 ≤ ((ji22) : Int) := of_decide_eq_true (by first | (with_reducible assumption) | assumption)
                have q510 : (ji22) < (t483.length : Int) := of_decide_eq_true (by first | (with_reducible assumption) | assumption)
                obtain ⟨ad510, e510, hx510_0, hx510_1, hx510_2, hx510_3⟩ := at_T26 (Kd.R_reads' HO_5.out).2.2 (ji22) p510 q510
                obtain rfl : ad486 = ad510 := (by injection e510)
                replace p510 := eq_true p510
                replace q510 := eq_true q510
                have p511 : 0 ≤ (x7_1 : Int) := of_decide_eq_true (by first | (with_reducible assumption) | assumption)
                have q511 : x7_1 < (t483.length : Int) := of_decide_eq_true (by first | (with_reducible assumption) | assumption)
                obtain ⟨ad511, e511, hx511_0, hx511_1, hx511_2, hx511_3⟩ := at_T26 (Kd.R_reads' HO_5.out).2.2 x7_1 p511 q511
                obtain rfl : ad486 = ad511 := (by injection e511)
                replace p511 := eq_true p511
                replace q511 := eq_true q511
                have p513 : 0 ≤ ((ji22) : Int) := of_decide_eq_true (by first | (with_reducible assumption) | assumption)
                have q513 : (ji22) < (t483.length : Int) := of_decide_eq_true (by first | (with_reducible assumption) | assumption)
                obtain ⟨ad513, e513, hx513_0, hx513_1, hx513_2, hx513_3⟩ := at_T26 (Kd.R_reads' HO_5.out).2.2 (ji22) p513 q513
                obtain rfl : ad486 = ad513 := (by injection e513)
                replace p513 := eq_true p513
                replace q513 := eq_true q513
                refine start_ (n := 43) (S := fun w' => w'.cell? ⟨gb505, 0, none⟩ = some (.bool t496) ∧ w'.cell? ⟨gb505, 1, none⟩ = some (.int .u64 t497) ∧ w'.cell? ⟨gb505, 2, none⟩ = some (.int .u64 t498) ∧ w'.cell? ⟨gb505, 3, none⟩ = some (.int .i64 t499) ∧ w'.cell? (ad486.add (((ji22)).toNat * 4)) = some (.bool ((rd_T26 t483 (ji22)).f0.f0)) ∧ w'.cell? ⟨(ad486.add (((ji22)).toNat * 4)).block, (ad486.add (((ji22)).toNat * 4)).off + 1, none⟩ = some (.int .u64 ((rd_T26 t483 (ji22)).f0.f1)) ∧ w'.cell? ⟨(ad486.add (((ji22)).toNat * 4)).block, (ad486.add (((ji22)).toNat * 4)).off + 2, none⟩ = some (.int .u64 ((rd_T26 t483 (ji22)).f0.f2)) ∧ w'.cell? ⟨(ad486.add (((ji22)).toNat * 4)).block, (ad486.add (((ji22)).toNat * 4)).off + 3, none⟩ = some (.int .i64 ((rd_T26 t483 (ji22)).f1)) ∧ w'.cell? (ad486.add ((x7_1).toNat * 4)) = some (.bool ((rd_T26 t483 x7_1).f0.f0)) ∧ w'.cell? ⟨(ad486.add ((x7_1).toNat * 4)).block, (ad486.add ((x7_1).toNat * 4)).off + 1, none⟩ = some (.int .u64 ((rd_T26 t483 x7_1).f0.f1)) ∧ w'.cell? ⟨(ad486.add ((x7_1).toNat * 4)).block, (ad486.add ((x7_1).toNat * 4)).off + 2, none⟩ = some (.int .u64 ((rd_T26 t483 x7_1).f0.f2)) ∧ w'.cell? ⟨(ad486.add ((x7_1).toNat * 4)).block, (ad486.add ((x7_1).toNat * 4)).off + 3, none⟩ = some (.int .i64 ((rd_T26 t483 x7_1).f1)) ∧ w'.cell? (ad486.add (((ji22)).toNat * 4)) = some (.bool ((rd_T26 t483 (ji22)).f0.f0)) ∧ w'.cell? ⟨(ad486.add (((ji22)).toNat * 4)).block, (ad486.add (((ji22)).toNat * 4)).off + 1, none⟩ = some (.int .u64 ((rd_T26 t483 (ji22)).f0.f1)) ∧ w'.cell? ⟨(ad486.add (((ji22)).toNat * 4)).block, (ad486.add (((ji22)).toNat * 4)).off + 2, none⟩ = some (.int .u64 ((rd_T26 t483 (ji22)).f0.f2)) ∧ w'.cell? ⟨(ad486.add (((ji22)).toNat * 4)).block, (ad486.add (((ji22)).toNat * 4)).off + 3, none⟩ = some (.int .i64 ((rd_T26 t483 (ji22)).f1)) ∧ w'.cell? (ad486.add ((x7_1).toNat * 4)) = some (.bool ((rd_T26 t483 x7_1).f0.f0)) ∧ w'.cell? ⟨(ad486.add ((x7_1).toNat * 4)).block, (ad486.add ((x7_1).toNat * 4)).off + 1, none⟩ = some (.int .u64 ((rd_T26 t483 x7_1).f0.f1)) ∧ w'.cell? ⟨(ad486.add ((x7_1).toNat * 4)).block, (ad486.add ((x7_1).toNat * 4)).off + 2, none⟩ = some (.int .u64 ((rd_T26 t483 x7_1).f0.f2)) ∧ w'.cell? ⟨(ad486.add ((x7_1).toNat * 4)).block, (ad486.add ((x7_1).toNat * 4)).off + 3, none⟩ = some (.int .i64 ((rd_T26 t483 x7_1).f1)) ∧ w'.cell? (ad486.add (((ji22)).toNat * 4)) = some (.bool ((rd_T26 t483 (ji22)).f0.f0)) ∧ w'.cell? ⟨(ad486.add (((ji22)).toNat * 4)).block, (ad486.add (((ji22)).toNat * 4)).off + 1, none⟩ = some (.int .u64 ((rd_T26 t483 (ji22)).f0.f1)) ∧ w'.cell? ⟨(ad486.add (((ji22)).toNat * 4)).block, (ad486.add (((ji22)).toNat * 4)).off + 2, none⟩ = some (.int .u64 ((rd_T26 t483 (ji22)).f0.f2)) ∧ w'.cell? ⟨(ad486.add (((ji22)).toNat * 4)).block, (ad486.add (((ji22)).toNat * 4)).off + 3, none⟩ = some (.int .i64 ((rd_T26 t483 (ji22)).f1))) (ds := []) (tk 43 0) (by kernel_rfl) rfl rfl ⟨(blk_cell BK505.out 0).trans rfl, (blk_cell BK505.out 1).trans rfl, (blk_cell BK505.out 2).trans rfl, (blk_cell BK505.out 3).trans rfl, hx507_0, hx507_1, hx507_2, hx507_3, hx508_0, hx508_1, hx508_2, hx508_3, hx510_0, hx510_1, hx510_2, hx510_3, hx511_0, hx511_1, hx511_2, hx511_3, hx513_0, hx513_1, hx513_2, hx513_3⟩ (fun hHeld => ?_); refine with_tabW ddilaw03_PrefixWhole.tab11 ddilaw03_PrefixWhole.bits11 (fun HT_ HW_ => ?_)
                generalize w82.drew = w83 at HO_5 BK481 BK482 BK495 BK505 BK506 HB hx507_0 hx507_1 hx507_2 hx507_3 hx508_0 hx508_1 hx508_2 hx508_3 hx510_0 hx510_1 hx510_2 hx510_3 hx511_0 hx511_1 hx511_2 hx511_3 hx513_0 hx513_1 hx513_2 hx513_3 hHeld ⊢
                refine pureA (i := 0) (some 53) HT_ (tk 43 1) ?_
                refine pureA (i := 1) (some 54) HT_ (tk 43 2) ?_
                refine pureA (i := 2) (some 55) HT_ (tk 43 3) ?_
                refine pureA (i := 3) (some 56) HT_ (tk 43 4) ?_
                refine pureA (i := 5) (some 58) HT_ (tr [4, 1, 1, 37]) ?_
                refine pureA (i := 6) (some 59) HT_ (tr [4, 1, 2, 36]) ?_
                refine pureA (i := 7) (some 60) HT_ (tr [4, 1, 3, 35]) ?_
                refine takeA (i := 4) (some 57) HT_ HW_ (tk 43 8) hHeld ?_
                refine takeA (i := 8) (some 61) HT_ HW_ (tk 43 9) hHeld ?_
                refine one_ (i := 9) (N := some 62) (tk 43 10) rfl rfl (one_of HT_.out (by kernel_rfl)) (by decide) (fun K hK => ?_)
                refine goes_ Tryd.func21 (by kernel_rfl) rfl #[.agg #[.bool ((rd_T26 t483 (ji22)).f0.f0), .int .u64 ((rd_T26 t483 (ji22)).f0.f1), .int .u64 ((rd_T26 t483 (ji22)).f0.f2), .int .i64 ((rd_T26 t483 (ji22)).f1)], .agg #[.bool ((rd_T26 t483 x7_1).f0.f0), .int .u64 ((rd_T26 t483 x7_1).f0.f1), .int .u64 ((rd_T26 t483 x7_1).f0.f2), .int .i64 ((rd_T26 t483 x7_1).f1)]] (by rfl) rfl rfl (by (try simp only [List.map_toArray, List.map_cons, List.map_nil]); first | done | (simp only [hji22]; rfl) | rfl | (simp only [List.length_drop, List.length_take]; rfl)) ?_
                with_reducible refine (prefix_Compare.calls kj11 ((rd_T26 t483 (ji22)).f0.f0) ((rd_T26 t483 (ji22)).f0.f1) ((rd_T26 t483 (ji22)).f0.f2) ((rd_T26 t483 (ji22)).f1) ((rd_T26 t483 x7_1).f0.f0) ((rd_T26 t483 x7_1).f0.f1) ((rd_T26 t483 x7_1).f0.f2) ((rd_T26 t483 x7_1).f1) t509 _ A25.out).mono ?_
                rintro e w84 ⟨rfl, hb⟩
                have hHe_ := pH hb hHeld
                refine ⟨_, rfl, ?_⟩
                replace HO_5 := Aside0.mk (Kd.R_below (by (with_reducible repeat (first | apply Kd.R_alloc | apply Kd.R_drewN | apply Kd.R_drew)); exact HO_5.out) hb)
                replace BK481 := (pB BK481 hb)
                replace BK482 := (pB BK482 hb)
                replace BK495 := (pB BK495 hb)
                replace BK505 := (pB BK505 hb)
                replace BK506 := (pB BK506 hb)
                replace HB := (pS HB hb)
                (try clear hb)
                (try clear hk)
                refine hK.out _ _ ⟨(blk_cell BK505.out 0).trans rfl, (blk_cell BK505.out 1).trans rfl, (blk_cell BK505.out 2).trans rfl, (blk_cell BK505.out 3).trans rfl, hHe_.2.2.2.2.1, hHe_.2.2.2.2.2.1, hHe_.2.2.2.2.2.2.1, hHe_.2.2.2.2.2.2.2.1, hHe_.2.2.2.2.2.2.2.2.1, hHe_.2.2.2.2.2.2.2.2.2.1, hHe_.2.2.2.2.2.2.2.2.2.2.1, hHe_.2.2.2.2.2.2.2.2.2.2.2.1, hHe_.2.2.2.2.2.2.2.2.2.2.2.2.1, hHe_.2.2.2.2.2.2.2.2.2.2.2.2.2.1, hHe_.2.2.2.2.2.2.2.2.2.2.2.2.2.2.1, hHe_.2.2.2.2.2.2.2.2.2.2.2.2.2.2.2.1, hHe_.2.2.2.2.2.2.2.2.2.2.2.2.2.2.2.2.1, hHe_.2.2.2.2.2.2.2.2.2.2.2.2.2.2.2.2.2.1, hHe_.2.2.2.2.2.2.2.2.2.2.2.2.2.2.2.2.2.2.1, hHe_.2.2.2.2.2.2.2.2.2.2.2.2.2.2.2.2.2.2.2.1, hHe_.2.2.2.2.2.2.2.2.2.2.2.2.2.2.2.2.2.2.2.2.1, hHe_.2.2.2.2.2.2.2.2.2.2.2.2.2.2.2.2.2.2.2.2.2.1, hHe_.2.2.2.2.2.2.2.2.2.2.2.2.2.2.2.2.2.2.2.2.2.2.1, hHe_.2.2.2.2.2.2.2.2.2.2.2.2.2.2.2.2.2.2.2.2.2.2.2⟩ (fun hHeld => ?_)
                clear hK K
                refine normA (N := some 62) ?_
                refine pureA (i := 10) (some 63) HT_ (tk 43 11) ?_
                refine pureA (i := 11) (some 64) HT_ (tk 43 12) ?_
                refine pureA (i := 12) (some 65) HT_ (tk 43 13) ?_
                refine pureA (i := 13) (some 66) HT_ (tk 43 14) ?_
                refine pureA (i := 14) (some 67) HT_ (tk 43 15) ?_
                refine pureA (i := 15) (some 68) HT_ (tk 43 16) ?_
                refine pureA (i := 17) (some 70) HT_ (tr [16, 1, 1, 25]) ?_
                refine pureA (i := 18) (some 71) HT_ (tr [16, 1, 2, 24]) ?_
                refine pureA (i := 19) (some 72) HT_ (tr [16, 1, 3, 23]) ?_
                refine takeA (i := 16) (some 69) HT_ HW_ (tk 43 20) hHeld ?_
                refine takeA (i := 20) (some 73) HT_ HW_ (tk 43 21) hHeld ?_
                refine one_ (i := 21) (N := some 74) (tk 43 22) rfl rfl (one_of HT_.out (by kernel_rfl)) (by decide) (fun K hK => ?_)
                refine goes_ Tryd.func19 (by kernel_rfl) rfl #[.agg #[.bool ((rd_T26 t483 (ji22)).f0.f0), .int .u64 ((rd_T26 t483 (ji22)).f0.f1), .int .u64 ((rd_T26 t483 (ji22)).f0.f2), .int .i64 ((rd_T26 t483 (ji22)).f1)], .agg #[.bool ((rd_T26 t483 x7_1).f0.f0), .int .u64 ((rd_T26 t483 x7_1).f0.f1), .int .u64 ((rd_T26 t483 x7_1).f0.f2), .int .i64 ((rd_T26 t483 x7_1).f1)]] (by rfl) rfl rfl (by (try simp only [List.map_toArray, List.map_cons, List.map_nil]); first | done | (simp only [hji22]; rfl) | rfl | (simp only [List.length_drop, List.length_take]; rfl)) ?_
                with_reducible refine (prefix_Overlap.calls ((rd_T26 t483 (ji22)).f0.f0) ((rd_T26 t483 (ji22)).f0.f1) ((rd_T26 t483 (ji22)).f0.f2) ((rd_T26 t483 (ji22)).f1) ((rd_T26 t483 x7_1).f0.f0) ((rd_T26 t483 x7_1).f0.f1) ((rd_T26 t483 x7_1).f0.f2) ((rd_T26 t483 x7_1).f1) false _ A27.out).mono ?_
                rintro e w85 ⟨rfl, hb⟩
                have hHe_ := pH hb hHeld
                refine ⟨_, rfl, ?_⟩
                replace HO_5 := Aside0.mk (Kd.R_below (by (with_reducible repeat (first | apply Kd.R_alloc | apply Kd.R_drewN | apply Kd.R_drew)); exact HO_5.out) hb)
                replace BK481 := (pB BK481 hb)
                replace BK482 := (pB BK482 hb)
                replace BK495 := (pB BK495 hb)
                replace BK505 := (pB BK505 hb)
                replace BK506 := (pB BK506 hb)
                replace HB := (pS HB hb)
                (try clear hb)
                (try clear hk)
                refine hK.out _ _ ⟨(blk_cell BK505.out 0).trans rfl, (blk_cell BK505.out 1).trans rfl, (blk_cell BK505.out 2).trans rfl, (blk_cell BK505.out 3).trans rfl, hHe_.2.2.2.2.1, hHe_.2.2.2.2.2.1, hHe_.2.2.2.2.2.2.1, hHe_.2.2.2.2.2.2.2.1, hHe_.2.2.2.2.2.2.2.2.1, hHe_.2.2.2.2.2.2.2.2.2.1, hHe_.2.2.2.2.2.2.2.2.2.2.1, hHe_.2.2.2.2.2.2.2.2.2.2.2.1, hHe_.2.2.2.2.2.2.2.2.2.2.2.2.1, hHe_.2.2.2.2.2.2.2.2.2.2.2.2.2.1, hHe_.2.2.2.2.2.2.2.2.2.2.2.2.2.2.1, hHe_.2.2.2.2.2.2.2.2.2.2.2.2.2.2.2.1, hHe_.2.2.2.2.2.2.2.2.2.2.2.2.2.2.2.2.1, hHe_.2.2.2.2.2.2.2.2.2.2.2.2.2.2.2.2.2.1, hHe_.2.2.2.2.2.2.2.2.2.2.2.2.2.2.2.2.2.2.1, hHe_.2.2.2.2.2.2.2.2.2.2.2.2.2.2.2.2.2.2.2.1, hHe_.2.2.2.2.2.2.2.2.2.2.2.2.2.2.2.2.2.2.2.2.1, hHe_.2.2.2.2.2.2.2.2.2.2.2.2.2.2.2.2.2.2.2.2.2.1, hHe_.2.2.2.2.2.2.2.2.2.2.2.2.2.2.2.2.2.2.2.2.2.2.1, hHe_.2.2.2.2.2.2.2.2.2.2.2.2.2.2.2.2.2.2.2.2.2.2.2⟩ (fun hHeld => ?_)
                clear hK K
                refine normA (N := some 74) ?_
                refine pureA (i := 22) (some 75) HT_ (tk 43 23) ?_
                refine pureA (i := 23) (some 76) HT_ (tk 43 24) ?_
                refine pureA (i := 24) (some 77) HT_ (tk 43 25) ?_
                refine pureA (i := 25) (some 78) HT_ (tk 43 26) ?_
                refine pureA (i := 27) (some 80) HT_ (tr [26, 1, 1, 15]) ?_
                refine pureA (i := 28) (some 81) HT_ (tr [26, 1, 2, 14]) ?_
                refine pureA (i := 29) (some 82) HT_ (tr [26, 1, 3, 13]) ?_
                refine pureA (i := 30) (some 83) HT_ (tr [26, 1, 4, 12]) ?_
                refine takeA (i := 26) (some 79) HT_ HW_ (tk 43 31) hHeld ?_
                refine takeA (i := 31) (some 84) HT_ HW_ (tk 43 32) hHeld ?_
                refine pureA (i := 32) (some 85) HT_ (tk 43 33) ?_
                refine pureA (i := 33) (some 86) HT_ (tk 43 34) ?_
                refine pureA (i := 34) (some 87) HT_ (tk 43 35) ?_
                refine pureB (i := 35) (some 88) HT_ (tk 43 36) ?_
                refine pureB (i := 36) (some 89) HT_ (tk 43 37) ?_
                refine pureB (i := 37) (some 90) HT_ (tk 43 38) ?_
                refine pureB (i := 38) (some 91) HT_ (tk 43 39) ?_
                refine pureB (i := 39) (some 92) HT_ (tk 43 40) ?_
                refine pureB (i := 40) (some 93) HT_ (tk 43 41) ?_
                refine pureA (i := 41) (some 94) HT_ (tk 43 42) ?_
                refine pureA (i := 42) (some 95) HT_ (tk 43 43) ?_
                refine done_ (done_of HT_.out (by kernel_rfl)) ?_
                try go_wp2_with (first | ((with_reducible refine gate_ (.load 36 (.tmp 2)) rfl ?_); refine wpList_load_row (by rfl) 36 (.tmp 2) (by rfl) _ (by rfl) 36 _ (0, 0) _ (by first | exact BK481.out | exact BK482.out | exact BK495.out | exact BK505.out | exact BK506.out | exact pQ BK481 | exact pQ BK482 | exact pQ BK495 | exact pQ BK505 | exact pQ BK506) hu36 (by rfl) (by kernel_rfl) ?_))
                go_roundg kj11
                case measure => have := HK1.out; have := HJ11.out; omega
                case rel => exact ⟨(x6_11), (wrap64 (x7_1 + 1)), pT, pT, (by first | exact H' | (simp only [hji22]; exact H') | (simp only [hji22] at H' ⊢; exact H')), ⟨by have := HK1.out; have := HJ11.out; omega⟩, ⟨by (with_reducible repeat (first | apply Kd.R_alloc | apply Kd.R_drewN | apply Kd.R_drew)); exact Kd.R_mono HO_5.out (fun _ hk => trivial)⟩, ⟨pM BK481⟩, ⟨pM BK482⟩, ⟨pE HB⟩⟩
              ·
               replace c29 := Bool.eq_false_iff.mpr c29
               subst c29
               rw [if_neg (show ¬ (false = true) by decide)] at H
               have H' := Aside0.mk H
               clear H
               try go_wp2_with (first | ((with_reducible refine gate_ (.load 36 (.tmp 2)) rfl ?_); refine wpList_load_row (by rfl) 36 (.tmp 2) (by rfl) _ (by rfl) 36 _ (0, 0) _ (by first | exact BK481.out | exact BK482.out | exact BK495.out | exact BK505.out | exact BK506.out | exact pQ BK481 | exact pQ BK482 | exact pQ BK495 | exact pQ BK505 | exact pQ BK506) hu36 (by rfl) (by kernel_rfl) ?_))
               replace HO_5 := Aside0.mk (Kd.R_drew HO_5.out)
               replace BK481 := Aside0.mk (blk_drew BK481.out)
               replace BK482 := Aside0.mk (blk_drew BK482.out)
               replace HB := Aside0.mk (below_drew1 HB.out)
               have p488 : 0 ≤ (x7_1 : Int) := of_decide_eq_true (by first | (with_reducible assumption) | assumption)
               have q488 : x7_1 < (t483.length : Int) := of_decide_eq_true (by first | (with_reducible assumption) | assumption)
               obtain ⟨ad488, e488, hx488_0, hx488_1, hx488_2, hx488_3⟩ := at_T26 (Kd.R_reads' HO_5.out).2.2 x7_1 p488 q488
               obtain rfl : ad486 = ad488 := (by injection e488)
               replace p488 := eq_true p488
               replace q488 := eq_true q488
               have p489 : 0 ≤ (x7_1 : Int) := of_decide_eq_true (by first | (with_reducible assumption) | assumption)
               have q489 : x7_1 < (t483.length : Int) := of_decide_eq_true (by first | (with_reducible assumption) | assumption)
               obtain ⟨ad489, e489, hx489_0, hx489_1, hx489_2, hx489_3⟩ := at_T26 (Kd.R_reads' HO_5.out).2.2 x7_1 p489 q489
               obtain rfl : ad486 = ad489 := (by injection e489)
               replace p489 := eq_true p489
               replace q489 := eq_true q489
               refine start_ (n := 18) (S := fun w' => w'.cell? (ad486.add ((x7_1).toNat * 4)) = some (.bool ((rd_T26 t483 x7_1).f0.f0)) ∧ w'.cell? ⟨(ad486.add ((x7_1).toNat * 4)).block, (ad486.add ((x7_1).toNat * 4)).off + 1, none⟩ = some (.int .u64 ((rd_T26 t483 x7_1).f0.f1)) ∧ w'.cell? ⟨(ad486.add ((x7_1).toNat * 4)).block, (ad486.add ((x7_1).toNat * 4)).off + 2, none⟩ = some (.int .u64 ((rd_T26 t483 x7_1).f0.f2)) ∧ w'.cell? ⟨(ad486.add ((x7_1).toNat * 4)).block, (ad486.add ((x7_1).toNat * 4)).off + 3, none⟩ = some (.int .i64 ((rd_T26 t483 x7_1).f1)) ∧ w'.cell? (ad486.add ((x7_1).toNat * 4)) = some (.bool ((rd_T26 t483 x7_1).f0.f0)) ∧ w'.cell? ⟨(ad486.add ((x7_1).toNat * 4)).block, (ad486.add ((x7_1).toNat * 4)).off + 1, none⟩ = some (.int .u64 ((rd_T26 t483 x7_1).f0.f1)) ∧ w'.cell? ⟨(ad486.add ((x7_1).toNat * 4)).block, (ad486.add ((x7_1).toNat * 4)).off + 2, none⟩ = some (.int .u64 ((rd_T26 t483 x7_1).f0.f2)) ∧ w'.cell? ⟨(ad486.add ((x7_1).toNat * 4)).block, (ad486.add ((x7_1).toNat * 4)).off + 3, none⟩ = some (.int .i64 ((rd_T26 t483 x7_1).f1))) (ds := []) (tk 18 0) (by kernel_rfl) rfl rfl ⟨hx488_0, hx488_1, hx488_2, hx488_3, hx489_0, hx489_1, hx489_2, hx489_3⟩ (fun hHeld => ?_); refine with_tabW ddilaw03_PrefixWhole.tab9 ddilaw03_PrefixWhole.bits9 (fun HT_ HW_ => ?_)
               generalize wc.drew = w86 at HO_5 BK481 BK482 HB hx488_0 hx488_1 hx488_2 hx488_3 hx489_0 hx489_1 hx489_2 hx489_3 hHeld ⊢
               refine pureA (i := 0) (some 33) HT_ (tk 18 1) ?_
               refine pureA (i := 1) (some 34) HT_ (tk 18 2) ?_
               refine pureA (i := 2) (some 35) HT_ (tk 18 3) ?_
               refine pureA (i := 3) (some 36) HT_ (tk 18 4) ?_
               refine pureA (i := 5) (some 38) HT_ (tr [4, 1, 1, 12]) ?_
               refine pureA (i := 6) (some 39) HT_ (tr [4, 1, 2, 11]) ?_
               refine pureA (i := 7) (some 40) HT_ (tr [4, 1, 3, 10]) ?_
               refine pureA (i := 8) (some 41) HT_ (tr [4, 1, 4, 9]) ?_
               refine takeA (i := 4) (some 37) HT_ HW_ (tk 18 9) hHeld ?_
               refine takeA (i := 9) (some 42) HT_ HW_ (tk 18 10) hHeld ?_
               refine pureA (i := 10) (some 43) HT_ (tk 18 11) ?_
               refine join_ (σ := Nat) 2 (tk 18 16) (fun s_ => [(44, .tuple #[.agg #[.bool t490, .int .u64 t491, .int .u64 t492, .int .i64 t493], .bool t494]), (8, .pointer (some ⟨s_, 0, none⟩)), (32, .tuple #[.agg #[.bool t490, .int .u64 t491, .int .u64 t492, .int .i64 t493], .bool t494]), (45, .agg #[.bool t490, .int .u64 t491, .int .u64 t492, .int .i64 t493]), (46, .bool t494)]) (fun s_ w' => (w'.cell? (ad486.add ((x7_1).toNat * 4)) = some (.bool ((rd_T26 t483 x7_1).f0.f0)) ∧ w'.cell? ⟨(ad486.add ((x7_1).toNat * 4)).block, (ad486.add ((x7_1).toNat * 4)).off + 1, none⟩ = some (.int .u64 ((rd_T26 t483 x7_1).f0.f1)) ∧ w'.cell? ⟨(ad486.add ((x7_1).toNat * 4)).block, (ad486.add ((x7_1).toNat * 4)).off + 2, none⟩ = some (.int .u64 ((rd_T26 t483 x7_1).f0.f2)) ∧ w'.cell? ⟨(ad486.add ((x7_1).toNat * 4)).block, (ad486.add ((x7_1).toNat * 4)).off + 3, none⟩ = some (.int .i64 ((rd_T26 t483 x7_1).f1)) ∧ w'.cell? (ad486.add ((x7_1).toNat * 4)) = some (.bool ((rd_T26 t483 x7_1).f0.f0)) ∧ w'.cell? ⟨(ad486.add ((x7_1).toNat * 4)).block, (ad486.add ((x7_1).toNat * 4)).off + 1, none⟩ = some (.int .u64 ((rd_T26 t483 x7_1).f0.f1)) ∧ w'.cell? ⟨(ad486.add ((x7_1).toNat * 4)).block, (ad486.add ((x7_1).toNat * 4)).off + 2, none⟩ = some (.int .u64 ((rd_T26 t483 x7_1).f0.f2)) ∧ w'.cell? ⟨(ad486.add ((x7_1).toNat * 4)).block, (ad486.add ((x7_1).toNat * 4)).off + 3, none⟩ = some (.int .i64 ((rd_T26 t483 x7_1).f1))) ∧ (Kd.R k26 26 w' w.heap.size (fun k_ => k_ ≠ s_) (.slice (some ad486) t483.length co13) t483) ∧ (w'.heap[gb481]? = some (.cells #[.bool a0_0, .int .u64 a0_1, .int .u64 a0_2, .bool a0_3, .int .u64 a0_4, .int .u64 a0_5] 36 (0, 0))) ∧ (w'.heap[gb482]? = some (.cells #[.bool a1_0, .int .u64 a1_1, .int .u64 a1_2] 24 (0, 0))) ∧ (w'.heap[s_]? = some (.cells #[.bool false, .int .u64 0, .int .u64 0, .int .i64 0] 26 (0, 0))) ∧ (w.heap.size ≤ s_) ∧ (w.heap.size ≤ s_) ∧ (gb481 ≠ s_) ∧ (s_ ≠ gb481) ∧ (gb482 ≠ s_) ∧ (s_ ≠ gb482) ∧ (Below w.heap.size w w')) ?_ ?_
               rotate_left
               ·
                intro hCont
                refine two_ (i := 11) (j := 15) (Ni := some 44) (Nj := some 8) (tk 18 12) (tr [11, 4, 1, 2]) rfl rfl rfl rfl (two_of HT_.out (by kernel_rfl)) (by decide) (by decide) (fun K hK => ?_) (fun K hK => ?_)
                ·
                 skip
                 refine goesR Tryd.func14 #[.agg #[.bool ((rd_T26 t483 x7_1).f0.f0), .int .u64 ((rd_T26 t483 x7_1).f0.f1), .int .u64 ((rd_T26 t483 x7_1).f0.f2)], .int .i64 (wrap64 (((rd_T26 t483 x7_1).f1) - 1))] ?_
                 with_reducible refine (prefix_Of.calls ((rd_T26 t483 x7_1).f0.f0) ((rd_T26 t483 x7_1).f0.f1) ((rd_T26 t483 x7_1).f0.f2) (wrap64 (((rd_T26 t483 x7_1).f1) - 1)) t490 t491 t492 t493 t494 _ A20.out).mono ?_
                 rintro e w87 ⟨rfl, hb⟩
                 have hHe_ := pH hb hHeld
                 refine ⟨_, rfl, ?_⟩
                 replace HO_5 := Aside0.mk (Kd.R_below (by (with_reducible repeat (first | apply Kd.R_alloc | apply Kd.R_drewN | apply Kd.R_drew)); exact HO_5.out) hb)
                 replace BK481 := (pB BK481 hb)
                 replace BK482 := (pB BK482 hb)
                 replace HB := (pS HB hb)
                 (try clear hb)
                 (try clear hk)
                 refine hK.out _ _ ⟨hHe_.1, hHe_.2.1, hHe_.2.2.1, hHe_.2.2.2.1, hHe_.2.2.2.2.1, hHe_.2.2.2.2.2.1, hHe_.2.2.2.2.2.2.1, hHe_.2.2.2.2.2.2.2⟩ (fun hHeld => ?_)
                 clear hK K
                 refine normA (N := some 44) ?_
                 refine pureA (i := 12) (some 32) HT_ (tk 18 13) ?_
                 refine pureA (i := 13) (some 45) HT_ (tk 18 14) ?_
                 refine pureA (i := 14) (some 46) HT_ (tk 18 15) ?_
                 refine one_ (i := 15) (N := some 8) (tk 18 16) rfl rfl (one_of HT_.out (by kernel_rfl)) (by decide) (fun K hK => ?_)
                 refine box_step ?hg (N := 8) ?hd (cs := #[.bool false, .int .u64 0, .int .u64 0, .int .i64 0]) (t := 26) ?hr ?_; (case hd => rfl); (case hg => rfl); (case hr => first | (go_simp; done) | (go_simp; rfl))
                 intro gb495 hg w88 hbox hb
                 have hHe_ := pH hb hHeld
                 have BK495 := Aside0.mk (hbox)
                 have GW495 := (pZ HB hg)
                 have GE495 := (pZ HB hg)
                 have NB481_495 := (pL BK481 hg)
                 have NB495_481 := (pG BK481 hg)
                 have NB482_495 := (pL BK482 hg)
                 have NB495_482 := (pG BK482 hg)
                 replace HO_5 := Aside0.mk (Kd.R_below (Kd.R_elderB (by (with_reducible repeat (first | apply Kd.R_alloc | apply Kd.R_drewN | apply Kd.R_drew)); exact HO_5.out) gb495 (Nat.le_of_eq hg.symm)) hb)
                 replace BK481 := (pB BK481 hb)
                 replace BK482 := (pB BK482 hb)
                 replace HB := (pS HB hb)
                 clear hb hbox hg
                 refine hK.out _ _ ⟨hHe_.1, hHe_.2.1, hHe_.2.2.1, hHe_.2.2.2.1, hHe_.2.2.2.2.1, hHe_.2.2.2.2.2.1, hHe_.2.2.2.2.2.2.1, hHe_.2.2.2.2.2.2.2⟩ (fun hHeld => ?_)
                 clear hK K
                 refine normA (N := some 8) ?_
                 exact norm_ (by simp only [putAll, Act.put, List.setIfInBounds_toArray, List.set_cons_zero, List.set_cons_succ]) (hCont (gb495) _ ⟨hHeld, (by (with_reducible repeat (first | apply Kd.R_alloc | apply Kd.R_drewN | apply Kd.R_drew)); exact Kd.R_mono HO_5.out (fun _ hk => hk.2)), (pM BK481), (pM BK482), (pM BK495), GW495.out, GE495.out, NB481_495.out, NB495_481.out, NB482_495.out, NB495_482.out, (by repeat (first | (with_reducible first | exact HB.out | apply below_alloc | apply pw_below_drewN | apply below_drew1 | refine below_set ?_ GE481.out | refine below_set ?_ GE482.out | refine below_set ?_ GE495.out) | exact HB.out))⟩)
                ·
                 skip
                 refine box_step ?hg (N := 8) ?hd (cs := #[.bool false, .int .u64 0, .int .u64 0, .int .i64 0]) (t := 26) ?hr ?_; (case hd => rfl); (case hg => rfl); (case hr => first | (go_simp; done) | (go_simp; rfl))
                 intro gb495 hg w87 hbox hb
                 have hHe_ := pH hb hHeld
                 have BK495 := Aside0.mk (hbox)
                 have GW495 := (pZ HB hg)
                 have GE495 := (pZ HB hg)
                 have NB481_495 := (pL BK481 hg)
                 have NB495_481 := (pG BK481 hg)
                 have NB482_495 := (pL BK482 hg)
                 have NB495_482 := (pG BK482 hg)
                 replace HO_5 := Aside0.mk (Kd.R_below (Kd.R_elderB (by (with_reducible repeat (first | apply Kd.R_alloc | apply Kd.R_drewN | apply Kd.R_drew)); exact HO_5.out) gb495 (Nat.le_of_eq hg.symm)) hb)
                 replace BK481 := (pB BK481 hb)
                 replace BK482 := (pB BK482 hb)
                 replace HB := (pS HB hb)
                 clear hb hbox hg
                 refine hK.out _ _ ⟨hHe_.1, hHe_.2.1, hHe_.2.2.1, hHe_.2.2.2.1, hHe_.2.2.2.2.1, hHe_.2.2.2.2.2.1, hHe_.2.2.2.2.2.2.1, hHe_.2.2.2.2.2.2.2⟩ (fun hHeld => ?_)
                 clear hK K
                 refine normA (N := some 8) ?_
                 refine one_ (i := 11) (N := some 44) (tr [12, 3, 1, 2]) rfl rfl (one_of HT_.out (by kernel_rfl)) (by decide) (fun K hK => ?_)
                 refine goesR Tryd.func14 #[.agg #[.bool ((rd_T26 t483 x7_1).f0.f0), .int .u64 ((rd_T26 t483 x7_1).f0.f1), .int .u64 ((rd_T26 t483 x7_1).f0.f2)], .int .i64 (wrap64 (((rd_T26 t483 x7_1).f1) - 1))] ?_
                 with_reducible refine (prefix_Of.calls ((rd_T26 t483 x7_1).f0.f0) ((rd_T26 t483 x7_1).f0.f1) ((rd_T26 t483 x7_1).f0.f2) (wrap64 (((rd_T26 t483 x7_1).f1) - 1)) t490 t491 t492 t493 t494 _ A20.out).mono ?_
                 rintro e w88 ⟨rfl, hb⟩
                 have hHe_ := pH hb hHeld
                 refine ⟨_, rfl, ?_⟩
                 replace HO_5 := Aside0.mk (Kd.R_below (by (with_reducible repeat (first | apply Kd.R_alloc | apply Kd.R_drewN | apply Kd.R_drew)); exact HO_5.out) hb)
                 replace BK481 := (pB BK481 hb)
                 replace BK482 := (pB BK482 hb)
                 replace BK495 := (pB BK495 hb)
                 replace HB := (pS HB hb)
                 (try clear hb)
                 (try clear hk)
                 refine hK.out _ _ ⟨hHe_.1, hHe_.2.1, hHe_.2.2.1, hHe_.2.2.2.1, hHe_.2.2.2.2.1, hHe_.2.2.2.2.2.1, hHe_.2.2.2.2.2.2.1, hHe_.2.2.2.2.2.2.2⟩ (fun hHeld => ?_)
                 clear hK K
                 refine normA (N := some 44) ?_
                 refine pureA (i := 12) (some 32) HT_ (tr [13, 2, 1, 2]) ?_
                 refine pureA (i := 13) (some 45) HT_ (tr [14, 1, 1, 2]) ?_
                 refine pureA (i := 14) (some 46) HT_ (tk 18 16) ?_
                 exact norm_ (by simp only [putAll, Act.put, List.setIfInBounds_toArray, List.set_cons_zero, List.set_cons_succ]) (hCont (gb495) _ ⟨hHeld, (by (with_reducible repeat (first | apply Kd.R_alloc | apply Kd.R_drewN | apply Kd.R_drew)); exact Kd.R_mono HO_5.out (fun _ hk => hk.2)), (pM BK481), (pM BK482), (pM BK495), GW495.out, GE495.out, NB481_495.out, NB495_481.out, NB482_495.out, NB495_482.out, (by repeat (first | (with_reducible first | exact HB.out | apply below_alloc | apply pw_below_drewN | apply below_drew1 | refine below_set ?_ GE481.out | refine below_set ?_ GE482.out | refine below_set ?_ GE495.out) | exact HB.out))⟩)
               rintro gb495 w89 ⟨hS_, h0_, h1_, h2_, h3_, h4_, h5_, h6_, h7_, h8_, h9_, h10_⟩
               have BK495 : Aside0 (w89.heap[gb495]? = some (.cells #[.bool false, .int .u64 0, .int .u64 0, .int .i64 0] 26 (0, 0))) := ⟨h3_⟩
               have GW495 : Aside0 (w.heap.size ≤ gb495) := ⟨h4_⟩
               have GE495 : Aside0 (w.heap.size ≤ gb495) := ⟨h5_⟩
               have NB481_495 : Aside0 (gb481 ≠ gb495) := ⟨h6_⟩
               have NB495_481 : Aside0 (gb495 ≠ gb481) := ⟨h7_⟩
               have NB482_495 : Aside0 (gb482 ≠ gb495) := ⟨h8_⟩
               have NB495_482 : Aside0 (gb495 ≠ gb482) := ⟨h9_⟩
               replace HO_5 : Aside0 (Kd.R k26 26 w89 w.heap.size (fun k_ => k_ ≠ gb495) (.slice (some ad486) t483.length co13) t483) := ⟨h0_⟩
               replace BK481 : Aside0 (w89.heap[gb481]? = some (.cells #[.bool a0_0, .int .u64 a0_1, .int .u64 a0_2, .bool a0_3, .int .u64 a0_4, .int .u64 a0_5] 36 (0, 0))) := ⟨h1_⟩
               replace BK482 : Aside0 (w89.heap[gb482]? = some (.cells #[.bool a1_0, .int .u64 a1_1, .int .u64 a1_2] 24 (0, 0))) := ⟨h2_⟩
               replace HB : Aside0 (Below w.heap.size w w89) := ⟨h10_⟩
               clear h0_ h1_ h2_ h3_ h4_ h5_ h6_ h7_ h8_ h9_ h10_
               have hHeld : w89.cell? (ad486.add ((x7_1).toNat * 4)) = some (.bool ((rd_T26 t483 x7_1).f0.f0)) ∧ w89.cell? ⟨(ad486.add ((x7_1).toNat * 4)).block, (ad486.add ((x7_1).toNat * 4)).off + 1, none⟩ = some (.int .u64 ((rd_T26 t483 x7_1).f0.f1)) ∧ w89.cell? ⟨(ad486.add ((x7_1).toNat * 4)).block, (ad486.add ((x7_1).toNat * 4)).off + 2, none⟩ = some (.int .u64 ((rd_T26 t483 x7_1).f0.f2)) ∧ w89.cell? ⟨(ad486.add ((x7_1).toNat * 4)).block, (ad486.add ((x7_1).toNat * 4)).off + 3, none⟩ = some (.int .i64 ((rd_T26 t483 x7_1).f1)) ∧ w89.cell? (ad486.add ((x7_1).toNat * 4)) = some (.bool ((rd_T26 t483 x7_1).f0.f0)) ∧ w89.cell? ⟨(ad486.add ((x7_1).toNat * 4)).block, (ad486.add ((x7_1).toNat * 4)).off + 1, none⟩ = some (.int .u64 ((rd_T26 t483 x7_1).f0.f1)) ∧ w89.cell? ⟨(ad486.add ((x7_1).toNat * 4)).block, (ad486.add ((x7_1).toNat * 4)).off + 2, none⟩ = some (.int .u64 ((rd_T26 t483 x7_1).f0.f2)) ∧ w89.cell? ⟨(ad486.add ((x7_1).toNat * 4)).block, (ad486.add ((x7_1).toNat * 4)).off + 3, none⟩ = some (.int .i64 ((rd_T26 t483 x7_1).f1)) := hS_
               refine norm_ (a' := ?_) ?_ ?_
               rotate_left
               ·
                simp only [putAll, Act.put, List.setIfInBounds_toArray, List.set_cons_zero, List.set_cons_succ]
                rfl
               refine one_ (i := 16) (N := none) (tk 18 17) rfl rfl (one_of HT_.out (by kernel_rfl)) (by decide) (fun K hK => ?_)
               have hs90 : w89.cell? ⟨gb495, 0, none⟩ = some (.bool false) := (blk_cell BK495.out 0).trans rfl
               have hfs90 := blk_frozen BK495.out 0
               have hns90_0 := NB481_495.out
               have hns90_1 := NB482_495.out
               have hms90_0 := NB495_481.out
               have hms90_1 := NB495_482.out
               have hs91 : w89.cell? ⟨gb495, 1, none⟩ = some (.int .u64 0) := (blk_cell BK495.out 1).trans rfl
               have hfs91 := blk_frozen BK495.out 1
               have hns91_0 := NB481_495.out
               have hns91_1 := NB482_495.out
               have hms91_0 := NB495_481.out
               have hms91_1 := NB495_482.out
               have hs92 : w89.cell? ⟨gb495, 2, none⟩ = some (.int .u64 0) := (blk_cell BK495.out 2).trans rfl
               have hfs92 := blk_frozen BK495.out 2
               have hns92_0 := NB481_495.out
               have hns92_1 := NB482_495.out
               have hms92_0 := NB495_481.out
               have hms92_1 := NB495_482.out
               have hs93 : w89.cell? ⟨gb495, 3, none⟩ = some (.int .i64 0) := (blk_cell BK495.out 3).trans rfl
               have hfs93 := blk_frozen BK495.out 3
               have hns93_0 := NB481_495.out
               have hns93_1 := NB482_495.out
               have hms93_0 := NB495_481.out
               have hms93_1 := NB495_482.out
               refine skip_ (w1 := ?_) (by rfl) rfl ?_ ?_
               rotate_left
               ·
                go_simp
                rfl
               refine hK.out _ _ ⟨((cell_far (p := ⟨gb495, _, none⟩) (pO (Kd.own_blk (Kd.R_away HO_5.out (fun _ hk => hk)))) _).trans (((cell_far (p := ⟨gb495, _, none⟩) (pO (Kd.own_blk (Kd.R_away HO_5.out (fun _ hk => hk)))) _).trans (((cell_far (p := ⟨gb495, _, none⟩) (pO (Kd.own_blk (Kd.R_away HO_5.out (fun _ hk => hk)))) _).trans (((cell_far (p := ⟨gb495, _, none⟩) (pO (Kd.own_blk (Kd.R_away HO_5.out (fun _ hk => hk)))) _).trans (hHeld.1)))))))), ((cell_far (p := ⟨gb495, _, none⟩) (pO (Kd.own_blk (Kd.R_away HO_5.out (fun _ hk => hk)))) _).trans (((cell_far (p := ⟨gb495, _, none⟩) (pO (Kd.own_blk (Kd.R_away HO_5.out (fun _ hk => hk)))) _).trans (((cell_far (p := ⟨gb495, _, none⟩) (pO (Kd.own_blk (Kd.R_away HO_5.out (fun _ hk => hk)))) _).trans (((cell_far (p := ⟨gb495, _, none⟩) (pO (Kd.own_blk (Kd.R_away HO_5.out (fun _ hk => hk)))) _).trans (hHeld.2.1)))))))), ((cell_far (p := ⟨gb495, _, none⟩) (pO (Kd.own_blk (Kd.R_away HO_5.out (fun _ hk => hk)))) _).trans (((cell_far (p := ⟨gb495, _, none⟩) (pO (Kd.own_blk (Kd.R_away HO_5.out (fun _ hk => hk)))) _).trans (((cell_far (p := ⟨gb495, _, none⟩) (pO (Kd.own_blk (Kd.R_away HO_5.out (fun _ hk => hk)))) _).trans (((cell_far (p := ⟨gb495, _, none⟩) (pO (Kd.own_blk (Kd.R_away HO_5.out (fun _ hk => hk)))) _).trans (hHeld.2.2.1)))))))), ((cell_far (p := ⟨gb495, _, none⟩) (pO (Kd.own_blk (Kd.R_away HO_5.out (fun _ hk => hk)))) _).trans (((cell_far (p := ⟨gb495, _, none⟩) (pO (Kd.own_blk (Kd.R_away HO_5.out (fun _ hk => hk)))) _).trans (((cell_far (p := ⟨gb495, _, none⟩) (pO (Kd.own_blk (Kd.R_away HO_5.out (fun _ hk => hk)))) _).trans (((cell_far (p := ⟨gb495, _, none⟩) (pO (Kd.own_blk (Kd.R_away HO_5.out (fun _ hk => hk)))) _).trans (hHeld.2.2.2.1)))))))), ((cell_far (p := ⟨gb495, _, none⟩) (pO (Kd.own_blk (Kd.R_away HO_5.out (fun _ hk => hk)))) _).trans (((cell_far (p := ⟨gb495, _, none⟩) (pO (Kd.own_blk (Kd.R_away HO_5.out (fun _ hk => hk)))) _).trans (((cell_far (p := ⟨gb495, _, none⟩) (pO (Kd.own_blk (Kd.R_away HO_5.out (fun _ hk => hk)))) _).trans (((cell_far (p := ⟨gb495, _, none⟩) (pO (Kd.own_blk (Kd.R_away HO_5.out (fun _ hk => hk)))) _).trans (hHeld.2.2.2.2.1)))))))), ((cell_far (p := ⟨gb495, _, none⟩) (pO (Kd.own_blk (Kd.R_away HO_5.out (fun _ hk => hk)))) _).trans (((cell_far (p := ⟨gb495, _, none⟩) (pO (Kd.own_blk (Kd.R_away HO_5.out (fun _ hk => hk)))) _).trans (((cell_far (p := ⟨gb495, _, none⟩) (pO (Kd.own_blk (Kd.R_away HO_5.out (fun _ hk => hk)))) _).trans (((cell_far (p := ⟨gb495, _, none⟩) (pO (Kd.own_blk (Kd.R_away HO_5.out (fun _ hk => hk)))) _).trans (hHeld.2.2.2.2.2.1)))))))), ((cell_far (p := ⟨gb495, _, none⟩) (pO (Kd.own_blk (Kd.R_away HO_5.out (fun _ hk => hk)))) _).trans (((cell_far (p := ⟨gb495, _, none⟩) (pO (Kd.own_blk (Kd.R_away HO_5.out (fun _ hk => hk)))) _).trans (((cell_far (p := ⟨gb495, _, none⟩) (pO (Kd.own_blk (Kd.R_away HO_5.out (fun _ hk => hk)))) _).trans (((cell_far (p := ⟨gb495, _, none⟩) (pO (Kd.own_blk (Kd.R_away HO_5.out (fun _ hk => hk)))) _).trans (hHeld.2.2.2.2.2.2.1)))))))), ((cell_far (p := ⟨gb495, _, none⟩) (pO (Kd.own_blk (Kd.R_away HO_5.out (fun _ hk => hk)))) _).trans (((cell_far (p := ⟨gb495, _, none⟩) (pO (Kd.own_blk (Kd.R_away HO_5.out (fun _ hk => hk)))) _).trans (((cell_far (p := ⟨gb495, _, none⟩) (pO (Kd.own_blk (Kd.R_away HO_5.out (fun _ hk => hk)))) _).trans (((cell_far (p := ⟨gb495, _, none⟩) (pO (Kd.own_blk (Kd.R_away HO_5.out (fun _ hk => hk)))) _).trans (hHeld.2.2.2.2.2.2.2))))))))⟩ (fun hHeld => ?_)
               clear hK K
               refine pureA (i := 17) (some 9) HT_ (tk 18 18) ?_
               refine done_ (done_of HT_.out (by kernel_rfl)) ?_
               have hnb94 := NB495_481.out
               have hnc94 := NB481_495.out
               have hnb95 := NB495_482.out
               have hnc95 := NB482_495.out
               obtain ⟨hcz96_0, hcz96_1, hcz96_2, hcz96_3, hfz96_0, hfz96_1, hfz96_2, hfz96_3⟩ := pC4 BK495
               try go_wp2_with (first | ((with_reducible refine gate_ (.load 36 (.tmp 2)) rfl ?_); refine wpList_load_row (by rfl) 36 (.tmp 2) (by rfl) _ (by rfl) 36 _ (0, 0) _ (by first | exact BK481.out | exact BK482.out | exact BK495.out | exact BK505.out | exact BK506.out | exact pQ BK481 | exact pQ BK482 | exact pQ BK495 | exact pQ BK505 | exact pQ BK506) hu36 (by rfl) (by kernel_rfl) ?_) | ((with_reducible refine gate_callee (f := 22) rfl ?_); refine goesA (some 49) Tryd.func22 #[.agg #[.bool t490, .int .u64 t491, .int .u64 t492, .int .i64 t493]] ?_; (with_reducible refine (prefix_Halves.calls kj11 t490 t491 t492 t493 t496 t497 t498 t499 t500 t501 t502 t503 false _ A21.out).mono ?_); rintro e w97 ⟨rfl, hb⟩; refine ⟨_, rfl, ?_⟩; replace HO_5 := Aside0.mk (Kd.R_below (by (with_reducible repeat (first | apply Kd.R_alloc | apply Kd.R_drewN | apply Kd.R_drew)); exact (Kd.R_mono (Kd.R_far (p := ⟨gb495, 3, none⟩) (Kd.R_far (p := ⟨gb495, 2, none⟩) (Kd.R_far (p := ⟨gb495, 1, none⟩) (Kd.R_far (p := ⟨gb495, 0, none⟩) (Kd.R_mono HO_5.out (fun k_ hk => (⟨hk, hk⟩ : _ ∧ k_ ≠ gb495))) (fun _ hk => hk.2) (.bool t490)) (fun _ hk => hk.2) (.int .u64 t491)) (fun _ hk => hk.2) (.int .u64 t492)) (fun _ hk => hk.2) (.int .i64 t493)) (fun _ h_ => h_.1))) hb); replace BK481 := (pD hb (pK NB481_495 (pK NB481_495 (pK NB481_495 (pK NB481_495 (pM BK481)))))); replace BK482 := (pD hb (pK NB482_495 (pK NB482_495 (pK NB482_495 (pK NB482_495 (pM BK482)))))); replace BK495 := (pD hb (pP (pP (pP (pP (pM BK495)))))); replace HB := (pS HB hb); (try clear hb); (try clear hk)) | ((with_reducible refine gate_dst (N := 10) rfl ?_); refine boxA (N := 10) (cs := #[.bool false, .int .u64 0, .int .u64 0, .int .i64 0]) (t := 26) ?_; intro gb505 hg w98 hbox hb; have BK505 := Aside0.mk (hbox); have GW505 := (pZ HB hg); have GE505 := (pZ HB hg); have NB481_505 := (pL BK481 hg); have NB505_481 := (pG BK481 hg); have NB482_505 := (pL BK482 hg); have NB505_482 := (pG BK482 hg); have NB495_505 := (pL BK495 hg); have NB505_495 := (pG BK495 hg); replace HO_5 := Aside0.mk (Kd.R_below (Kd.R_elderB (by (with_reducible repeat (first | apply Kd.R_alloc | apply Kd.R_drewN | apply Kd.R_drew)); exact HO_5.out) gb505 (Nat.le_of_eq hg.symm)) hb); replace BK481 := (pB BK481 hb); replace BK482 := (pB BK482 hb); replace BK495 := (pB BK495 hb); replace HB := (pS HB hb); clear hb hbox hg) | ((with_reducible refine gate_dst (N := 11) rfl ?_); refine boxA (N := 11) (cs := #[.bool false, .int .u64 0, .int .u64 0, .int .i64 0]) (t := 26) ?_; intro gb506 hg w99 hbox hb; have BK506 := Aside0.mk (hbox); have GW506 := (pZ HB hg); have GE506 := (pZ HB hg); have NB481_506 := (pL BK481 hg); have NB506_481 := (pG BK481 hg); have NB482_506 := (pL BK482 hg); have NB506_482 := (pG BK482 hg); have NB495_506 := (pL BK495 hg); have NB506_495 := (pG BK495 hg); have NB505_506 := (pL BK505 hg); have NB506_505 := (pG BK505 hg); replace HO_5 := Aside0.mk (Kd.R_below (Kd.R_elderB (by (with_reducible repeat (first | apply Kd.R_alloc | apply Kd.R_drewN | apply Kd.R_drew)); exact HO_5.out) gb506 (Nat.le_of_eq hg.symm)) hb); replace BK481 := (pB BK481 hb); replace BK482 := (pB BK482 hb); replace BK495 := (pB BK495 hb); replace BK505 := (pB BK505 hb); replace HB := (pS HB hb); clear hb hbox hg; have hnb100 := NB505_481.out; have hnc100 := NB481_505.out; have hnb101 := NB505_482.out; have hnc101 := NB482_505.out; have hnb102 := NB505_495.out; have hnc102 := NB495_505.out; have hnb103 := NB505_506.out; have hnc103 := NB506_505.out; obtain ⟨hcz104_0, hcz104_1, hcz104_2, hcz104_3, hfz104_0, hfz104_1, hfz104_2, hfz104_3⟩ := pC4 BK505; have hnb105 := NB506_481.out; have hnc105 := NB481_506.out; have hnb106 := NB506_482.out; have hnc106 := NB482_506.out; have hnb107 := NB506_495.out; have hnc107 := NB495_506.out; obtain ⟨hcz108_0, hcz108_1, hcz108_2, hcz108_3, hfz108_0, hfz108_1, hfz108_2, hfz108_3⟩ := pC4 BK506) | ((with_reducible refine gate_store (t := 26) (p := 11) rfl ?_); refine store_event (t := 26) (p := 11) (v := ?vo_w109) (w1 := ((((((((w99.setCell ⟨gb505, 0, none⟩ (.bool t496)).setCell ⟨gb505, 1, none⟩ (.int .u64 t497)).setCell ⟨gb505, 2, none⟩ (.int .u64 t498)).setCell ⟨gb505, 3, none⟩ (.int .i64 t499)).setCell ⟨gb506, 0, none⟩ (.bool t500)).setCell ⟨gb506, 1, none⟩ (.int .u64 t501)).setCell ⟨gb506, 2, none⟩ (.int .u64 t502)).setCell ⟨gb506, 3, none⟩ (.int .i64 t503))) ?hg ?ho ?hn ?hr ?_; (case ho => rfl); (case hg => rfl); (case hn => rfl); (case hr => first | (exact Ext.run_store_chain 26 _ _ rfl _ _ _ _ rfl rfl (pK NB506_505 (pK NB506_505 (pK NB506_505 (pK NB506_505 (pM BK506))))) (by kernel_rfl) rfl rfl rfl) | (go_simp; done) | (go_simp; rfl)); intro w109 hw; replace HO_5 : Aside0 (Kd.R k26 26 w109 w.heap.size (fun k_ => k_ ≠ gb495 ∧ k_ ≠ gb505 ∧ k_ ≠ gb506) (.slice (some ad486) t483.length co13) t483) := ⟨(by rw [hw]; exact (by (with_reducible repeat (first | apply Kd.R_alloc | apply Kd.R_drewN | apply Kd.R_drew)); exact Kd.R_mono (Kd.R_far (p := ⟨gb506, 3, none⟩) (Kd.R_far (p := ⟨gb506, 2, none⟩) (Kd.R_far (p := ⟨gb506, 1, none⟩) (Kd.R_far (p := ⟨gb506, 0, none⟩) (Kd.R_far (p := ⟨gb505, 3, none⟩) (Kd.R_far (p := ⟨gb505, 2, none⟩) (Kd.R_far (p := ⟨gb505, 1, none⟩) (Kd.R_far (p := ⟨gb505, 0, none⟩) (Kd.R_mono (Kd.R_mono HO_5.out (fun k_ hk => (⟨hk, hk.1.2⟩ : _ ∧ k_ ≠ gb505))) (fun k_ hk => (⟨hk, hk.1.2⟩ : _ ∧ k_ ≠ gb506))) (fun _ hk => hk.1.2) (.bool t496)) (fun _ hk => hk.1.2) (.int .u64 t497)) (fun _ hk => hk.1.2) (.int .u64 t498)) (fun _ hk => hk.1.2) (.int .i64 t499)) (fun _ hk => hk.2) (.bool t500)) (fun _ hk => hk.2) (.int .u64 t501)) (fun _ hk => hk.2) (.int .u64 t502)) (fun _ hk => hk.2) (.int .i64 t503)) (fun _ hk => ⟨hk.1.1.1.1, ⟨hk.1.1.1.2, hk.1.1.2⟩⟩)))⟩; replace BK481 : Aside0 (w109.heap[gb481]? = some (.cells #[.bool a0_0, .int .u64 a0_1, .int .u64 a0_2, .bool a0_3, .int .u64 a0_4, .int .u64 a0_5] 36 (0, 0))) := (pW hw (pK NB481_506 (pK NB481_506 (pK NB481_506 (pK NB481_506 (pK NB481_505 (pK NB481_505 (pK NB481_505 (pK NB481_505 (pM BK481)))))))))); replace BK482 : Aside0 (w109.heap[gb482]? = some (.cells #[.bool a1_0, .int .u64 a1_1, .int .u64 a1_2] 24 (0, 0))) := (pW hw (pK NB482_506 (pK NB482_506 (pK NB482_506 (pK NB482_506 (pK NB482_505 (pK NB482_505 (pK NB482_505 (pK NB482_505 (pM BK482)))))))))); replace BK495 : Aside0 (w109.heap[gb495]? = some (.cells #[.bool t490, .int .u64 t491, .int .u64 t492, .int .i64 t493] 26 (0, 0))) := (pW hw (pK NB495_506 (pK NB495_506 (pK NB495_506 (pK NB495_506 (pK NB495_505 (pK NB495_505 (pK NB495_505 (pK NB495_505 (pM BK495)))))))))); replace BK505 : Aside0 (w109.heap[gb505]? = some (.cells #[.bool t496, .int .u64 t497, .int .u64 t498, .int .i64 t499] 26 (0, 0))) := (pW hw (pK NB505_506 (pK NB505_506 (pK NB505_506 (pK NB505_506 (pP (pP (pP (pP (pM BK505)))))))))); replace BK506 : Aside0 (w109.heap[gb506]? = some (.cells #[.bool t500, .int .u64 t501, .int .u64 t502, .int .i64 t503] 26 (0, 0))) := (pW hw (pP (pP (pP (pP (pK NB506_505 (pK NB506_505 (pK NB506_505 (pK NB506_505 (pM BK506)))))))))); replace HB : Aside0 (Below w.heap.size w w109) := ⟨(by rw [hw]; exact (by repeat (first | (with_reducible first | exact HB.out | apply below_alloc | apply pw_below_drewN | apply below_drew1 | refine below_set ?_ GE481.out | refine below_set ?_ GE482.out | refine below_set ?_ GE495.out | refine below_set ?_ GE505.out | refine below_set ?_ GE506.out) | exact HB.out)))⟩; clear hw))
               replace HO_5 := Aside0.mk (Kd.R_drew HO_5.out)
               replace BK481 := Aside0.mk (blk_drew BK481.out)
               replace BK482 := Aside0.mk (blk_drew BK482.out)
               replace BK495 := Aside0.mk (blk_drew BK495.out)
               replace BK505 := Aside0.mk (blk_drew BK505.out)
               replace BK506 := Aside0.mk (blk_drew BK506.out)
               replace HB := Aside0.mk (below_drew1 HB.out)
               have p507 : 0 ≤ ((ji22) : Int) := of_decide_eq_true (by first | (with_reducible assumption) | assumption)
               have q507 : (ji22) < (t483.length : Int) := of_decide_eq_true (by first | (with_reducible assumption) | assumption)
               obtain ⟨ad507, e507, hx507_0, hx507_1, hx507_2, hx507_3⟩ := at_T26 (Kd.R_reads' HO_5.out).2.2 (ji22) p507 q507
               obtain rfl : ad486 = ad507 := (by injection e507)
               replace p507 := eq_true p507
               replace q507 := eq_true q507
               have p508 : 0 ≤ (x7_1 : Int) := of_decide_eq_true (by first | (with_reducible assumption) | assumption)
               have q508 : x7_1 < (t483.length : Int) := of_decide_eq_true (by first | (with_reducible assumption) | assumption)
               obtain ⟨ad508, e508, hx508_0, hx508_1, hx508_2, hx508_3⟩ := at_T26 (Kd.R_reads' HO_5.out).2.2 x7_1 p508 q508
               obtain rfl : ad486 = ad508 := (by injection e508)
               replace p508 := eq_true p508
               replace q508 := eq_true q508
               have p510 : 0 ≤ ((ji22) : Int) := of_decide_eq_true (by first | (with_reducible assumption) | assumption)
               have q510 : (ji22) < (t483.length : Int) := of_decide_eq_true (by first | (with_reducible assumption) | assumption)
               obtain ⟨ad510, e510, hx510_0, hx510_1, hx510_2, hx510_3⟩ := at_T26 (Kd.R_reads' HO_5.out).2.2 (ji22) p510 q510
               obtain rfl : ad486 = ad510 := (by injection e510)
               replace p510 := eq_true p510
               replace q510 := eq_true q510
               have p511 : 0 ≤ (x7_1 : Int) := of_decide_eq_true (by first | (with_reducible assumption) | assumption)
               have q511 : x7_1 < (t483.length : Int) := of_decide_eq_true (by first | (with_reducible assumption) | assumption)
               obtain ⟨ad511, e511, hx511_0, hx511_1, hx511_2, hx511_3⟩ := at_T26 (Kd.R_reads' HO_5.out).2.2 x7_1 p511 q511
               obtain rfl : ad486 = ad511 := (by injection e511)
               replace p511 := eq_true p511
               replace q511 := eq_true q511
               refine start_ (n := 43) (S := fun w' => w'.cell? (ad486.add (((ji22)).toNat * 4)) = some (.bool ((rd_T26 t483 (ji22)).f0.f0)) ∧ w'.cell? ⟨(ad486.add (((ji22)).toNat * 4)).block, (ad486.add (((ji22)).toNat * 4)).off + 1, none⟩ = some (.int .u64 ((rd_T26 t483 (ji22)).f0.f1)) ∧ w'.cell? ⟨(ad486.add (((ji22)).toNat * 4)).block, (ad486.add (((ji22)).toNat * 4)).off + 2, none⟩ = some (.int .u64 ((rd_T26 t483 (ji22)).f0.f2)) ∧ w'.cell? ⟨(ad486.add (((ji22)).toNat * 4)).block, (ad486.add (((ji22)).toNat * 4)).off + 3, none⟩ = some (.int .i64 ((rd_T26 t483 (ji22)).f1)) ∧ w'.cell? (ad486.add ((x7_1).toNat * 4)) = some (.bool ((rd_T26 t483 x7_1).f0.f0)) ∧ w'.cell? ⟨(ad486.add ((x7_1).toNat * 4)).block, (ad486.add ((x7_1).toNat * 4)).off + 1, none⟩ = some (.int .u64 ((rd_T26 t483 x7_1).f0.f1)) ∧ w'.cell? ⟨(ad486.add ((x7_1).toNat * 4)).block, (ad486.add ((x7_1).toNat * 4)).off + 2, none⟩ = some (.int .u64 ((rd_T26 t483 x7_1).f0.f2)) ∧ w'.cell? ⟨(ad486.add ((x7_1).toNat * 4)).block, (ad486.add ((x7_1).toNat * 4)).off + 3, none⟩ = some (.int .i64 ((rd_T26 t483 x7_1).f1)) ∧ w'.cell? (ad486.add (((ji22)).toNat * 4)) = some (.bool ((rd_T26 t483 (ji22)).f0.f0)) ∧ w'.cell? ⟨(ad486.add (((ji22)).toNat * 4)).block, (ad486.add (((ji22)).toNat * 4)).off + 1, none⟩ = some (.int .u64 ((rd_T26 t483 (ji22)).f0.f1)) ∧ w'.cell? ⟨(ad486.add (((ji22)).toNat * 4)).block, (ad486.add (((ji22)).toNat * 4)).off + 2, none⟩ = some (.int .u64 ((rd_T26 t483 (ji22)).f0.f2)) ∧ w'.cell? ⟨(ad486.add (((ji22)).toNat * 4)).block, (ad486.add (((ji22)).toNat * 4)).off + 3, none⟩ = some (.int .i64 ((rd_T26 t483 (ji22)).f1)) ∧ w'.cell? (ad486.add ((x7_1).toNat * 4)) = some (.bool ((rd_T26 t483 x7_1).f0.f0)) ∧ w'.cell? ⟨(ad486.add ((x7_1).toNat * 4)).block, (ad486.add ((x7_1).toNat * 4)).off + 1, none⟩ = some (.int .u64 ((rd_T26 t483 x7_1).f0.f1)) ∧ w'.cell? ⟨(ad486.add ((x7_1).toNat * 4)).block, (ad486.add ((x7_1).toNat * 4)).off + 2, none⟩ = some (.int .u64 ((rd_T26 t483 x7_1).f0.f2)) ∧ w'.cell? ⟨(ad486.add ((x7_1).toNat * 4)).block, (ad486.add ((x7_1).toNat * 4)).off + 3, none⟩ = some (.int .i64 ((rd_T26 t483 x7_1).f1))) (ds := []) (tk 43 0) (by kernel_rfl) rfl rfl ⟨hx507_0, hx507_1, hx507_2, hx507_3, hx508_0, hx508_1, hx508_2, hx508_3, hx510_0, hx510_1, hx510_2, hx510_3, hx511_0, hx511_1, hx511_2, hx511_3⟩ (fun hHeld => ?_); refine with_tabW ddilaw03_PrefixWhole.tab11 ddilaw03_PrefixWhole.bits11 (fun HT_ HW_ => ?_)
               generalize w109.drew = w110 at HO_5 BK481 BK482 BK495 BK505 BK506 HB hx507_0 hx507_1 hx507_2 hx507_3 hx508_0 hx508_1 hx508_2 hx508_3 hx510_0 hx510_1 hx510_2 hx510_3 hx511_0 hx511_1 hx511_2 hx511_3 hHeld ⊢
               refine pureA (i := 0) (some 53) HT_ (tk 43 1) ?_
               refine pureA (i := 1) (some 54) HT_ (tk 43 2) ?_
               refine pureA (i := 2) (some 55) HT_ (tk 43 3) ?_
               refine pureA (i := 3) (some 56) HT_ (tk 43 4) ?_
               refine pureA (i := 5) (some 58) HT_ (tr [4, 1, 1, 37]) ?_
               refine pureA (i := 6) (some 59) HT_ (tr [4, 1, 2, 36]) ?_
               refine pureA (i := 7) (some 60) HT_ (tr [4, 1, 3, 35]) ?_
               refine takeA (i := 4) (some 57) HT_ HW_ (tk 43 8) hHeld ?_
               refine takeA (i := 8) (some 61) HT_ HW_ (tk 43 9) hHeld ?_
               refine one_ (i := 9) (N := some 62) (tk 43 10) rfl rfl (one_of HT_.out (by kernel_rfl)) (by decide) (fun K hK => ?_)
               refine goes_ Tryd.func21 (by kernel_rfl) rfl #[.agg #[.bool ((rd_T26 t483 (ji22)).f0.f0), .int .u64 ((rd_T26 t483 (ji22)).f0.f1), .int .u64 ((rd_T26 t483 (ji22)).f0.f2), .int .i64 ((rd_T26 t483 (ji22)).f1)], .agg #[.bool ((rd_T26 t483 x7_1).f0.f0), .int .u64 ((rd_T26 t483 x7_1).f0.f1), .int .u64 ((rd_T26 t483 x7_1).f0.f2), .int .i64 ((rd_T26 t483 x7_1).f1)]] (by rfl) rfl rfl (by (try simp only [List.map_toArray, List.map_cons, List.map_nil]); first | done | (simp only [hji22]; rfl) | rfl | (simp only [List.length_drop, List.length_take]; rfl)) ?_
               with_reducible refine (prefix_Compare.calls kj11 ((rd_T26 t483 (ji22)).f0.f0) ((rd_T26 t483 (ji22)).f0.f1) ((rd_T26 t483 (ji22)).f0.f2) ((rd_T26 t483 (ji22)).f1) ((rd_T26 t483 x7_1).f0.f0) ((rd_T26 t483 x7_1).f0.f1) ((rd_T26 t483 x7_1).f0.f2) ((rd_T26 t483 x7_1).f1) t509 _ A25.out).mono ?_
               rintro e w111 ⟨rfl, hb⟩
               have hHe_ := pH hb hHeld
               refine ⟨_, rfl, ?_⟩
               replace HO_5 := Aside0.mk (Kd.R_below (by (with_reducible repeat (first | apply Kd.R_alloc | apply Kd.R_drewN | apply Kd.R_drew)); exact HO_5.out) hb)
               replace BK481 := (pB BK481 hb)
               replace BK482 := (pB BK482 hb)
               replace BK495 := (pB BK495 hb)
               replace BK505 := (pB BK505 hb)
               replace BK506 := (pB BK506 hb)
               replace HB := (pS HB hb)
               (try clear hb)
               (try clear hk)
               refine hK.out _ _ ⟨hHe_.1, hHe_.2.1, hHe_.2.2.1, hHe_.2.2.2.1, hHe_.2.2.2.2.1, hHe_.2.2.2.2.2.1, hHe_.2.2.2.2.2.2.1, hHe_.2.2.2.2.2.2.2.1, hHe_.2.2.2.2.2.2.2.2.1, hHe_.2.2.2.2.2.2.2.2.2.1, hHe_.2.2.2.2.2.2.2.2.2.2.1, hHe_.2.2.2.2.2.2.2.2.2.2.2.1, hHe_.2.2.2.2.2.2.2.2.2.2.2.2.1, hHe_.2.2.2.2.2.2.2.2.2.2.2.2.2.1, hHe_.2.2.2.2.2.2.2.2.2.2.2.2.2.2.1, hHe_.2.2.2.2.2.2.2.2.2.2.2.2.2.2.2⟩ (fun hHeld => ?_)
               clear hK K
               refine normA (N := some 62) ?_
               refine pureA (i := 10) (some 63) HT_ (tk 43 11) ?_
               refine pureA (i := 11) (some 64) HT_ (tk 43 12) ?_
               refine pureA (i := 12) (some 65) HT_ (tk 43 13) ?_
               refine pureA (i := 13) (some 66) HT_ (tk 43 14) ?_
               refine pureA (i := 14) (some 67) HT_ (tk 43 15) ?_
               refine pureA (i := 15) (some 68) HT_ (tk 43 16) ?_
               refine pureA (i := 17) (some 70) HT_ (tr [16, 1, 1, 25]) ?_
               refine pureA (i := 18) (some 71) HT_ (tr [16, 1, 2, 24]) ?_
               refine pureA (i := 19) (some 72) HT_ (tr [16, 1, 3, 23]) ?_
               refine takeA (i := 16) (some 69) HT_ HW_ (tk 43 20) hHeld ?_
               refine takeA (i := 20) (some 73) HT_ HW_ (tk 43 21) hHeld ?_
               refine one_ (i := 21) (N := some 74) (tk 43 22) rfl rfl (one_of HT_.out (by kernel_rfl)) (by decide) (fun K hK => ?_)
               refine goes_ Tryd.func19 (by kernel_rfl) rfl #[.agg #[.bool ((rd_T26 t483 (ji22)).f0.f0), .int .u64 ((rd_T26 t483 (ji22)).f0.f1), .int .u64 ((rd_T26 t483 (ji22)).f0.f2), .int .i64 ((rd_T26 t483 (ji22)).f1)], .agg #[.bool ((rd_T26 t483 x7_1).f0.f0), .int .u64 ((rd_T26 t483 x7_1).f0.f1), .int .u64 ((rd_T26 t483 x7_1).f0.f2), .int .i64 ((rd_T26 t483 x7_1).f1)]] (by rfl) rfl rfl (by (try simp only [List.map_toArray, List.map_cons, List.map_nil]); first | done | (simp only [hji22]; rfl) | rfl | (simp only [List.length_drop, List.length_take]; rfl)) ?_
               with_reducible refine (prefix_Overlap.calls ((rd_T26 t483 (ji22)).f0.f0) ((rd_T26 t483 (ji22)).f0.f1) ((rd_T26 t483 (ji22)).f0.f2) ((rd_T26 t483 (ji22)).f1) ((rd_T26 t483 x7_1).f0.f0) ((rd_T26 t483 x7_1).f0.f1) ((rd_T26 t483 x7_1).f0.f2) ((rd_T26 t483 x7_1).f1) false _ A27.out).mono ?_
               rintro e w112 ⟨rfl, hb⟩
               have hHe_ := pH hb hHeld
               refine ⟨_, rfl, ?_⟩
               replace HO_5 := Aside0.mk (Kd.R_below (by (with_reducible repeat (first | apply Kd.R_alloc | apply Kd.R_drewN | apply Kd.R_drew)); exact HO_5.out) hb)
               replace BK481 := (pB BK481 hb)
               replace BK482 := (pB BK482 hb)
               replace BK495 := (pB BK495 hb)
               replace BK505 := (pB BK505 hb)
               replace BK506 := (pB BK506 hb)
               replace HB := (pS HB hb)
               (try clear hb)
               (try clear hk)
               refine hK.out _ _ ⟨hHe_.1, hHe_.2.1, hHe_.2.2.1, hHe_.2.2.2.1, hHe_.2.2.2.2.1, hHe_.2.2.2.2.2.1, hHe_.2.2.2.2.2.2.1, hHe_.2.2.2.2.2.2.2.1, hHe_.2.2.2.2.2.2.2.2.1, hHe_.2.2.2.2.2.2.2.2.2.1, hHe_.2.2.2.2.2.2.2.2.2.2.1, hHe_.2.2.2.2.2.2.2.2.2.2.2.1, hHe_.2.2.2.2.2.2.2.2.2.2.2.2.1, hHe_.2.2.2.2.2.2.2.2.2.2.2.2.2.1, hHe_.2.2.2.2.2.2.2.2.2.2.2.2.2.2.1, hHe_.2.2.2.2.2.2.2.2.2.2.2.2.2.2.2⟩ (fun hHeld => ?_)
               clear hK K
               refine normA (N := some 74) ?_
               refine pureA (i := 22) (some 75) HT_ (tk 43 23) ?_
               refine pureA (i := 23) (some 76) HT_ (tk 43 24) ?_
               refine pureA (i := 24) (some 77) HT_ (tk 43 25) ?_
               refine pureA (i := 25) (some 78) HT_ (tk 43 26) ?_
               refine pureB (i := 26) (some 79) HT_ (tk 43 27) ?_
               refine pureB (i := 27) (some 80) HT_ (tk 43 28) ?_
               refine pureB (i := 28) (some 81) HT_ (tk 43 29) ?_
               refine pureB (i := 29) (some 82) HT_ (tk 43 30) ?_
               refine pureB (i := 30) (some 83) HT_ (tk 43 31) ?_
               refine pureB (i := 31) (some 84) HT_ (tk 43 32) ?_
               refine pureB (i := 32) (some 85) HT_ (tk 43 33) ?_
               refine pureA (i := 33) (some 86) HT_ (tk 43 34) ?_
               refine pureA (i := 34) (some 87) HT_ (tk 43 35) ?_
               refine pureB (i := 35) (some 88) HT_ (tk 43 36) ?_
               refine pureB (i := 36) (some 89) HT_ (tk 43 37) ?_
               refine pureB (i := 37) (some 90) HT_ (tk 43 38) ?_
               refine pureB (i := 38) (some 91) HT_ (tk 43 39) ?_
               refine pureB (i := 39) (some 92) HT_ (tk 43 40) ?_
               refine pureB (i := 40) (some 93) HT_ (tk 43 41) ?_
               refine pureA (i := 41) (some 94) HT_ (tk 43 42) ?_
               refine pureA (i := 42) (some 95) HT_ (tk 43 43) ?_
               refine done_ (done_of HT_.out (by kernel_rfl)) ?_
               try go_wp2_with (first | ((with_reducible refine gate_ (.load 36 (.tmp 2)) rfl ?_); refine wpList_load_row (by rfl) 36 (.tmp 2) (by rfl) _ (by rfl) 36 _ (0, 0) _ (by first | exact BK481.out | exact BK482.out | exact BK495.out | exact BK505.out | exact BK506.out | exact pQ BK481 | exact pQ BK482 | exact pQ BK495 | exact pQ BK505 | exact pQ BK506) hu36 (by rfl) (by kernel_rfl) ?_))
               go_roundg kj11
               case measure => have := HK1.out; have := HJ11.out; omega
               case rel => exact ⟨(x6_11), (wrap64 (x7_1 + 1)), pT, pT, (by first | exact H' | (simp only [hji22]; exact H') | (simp only [hji22] at H' ⊢; exact H')), ⟨by have := HK1.out; have := HJ11.out; omega⟩, ⟨by (with_reducible repeat (first | apply Kd.R_alloc | apply Kd.R_drewN | apply Kd.R_drew)); exact Kd.R_mono HO_5.out (fun _ hk => trivial)⟩, ⟨pM BK481⟩, ⟨pM BK482⟩, ⟨pE HB⟩⟩
           ·
            rw [if_neg c24] at H
            exact absurd H (by simp)
          ·
           rw [if_neg c23] at H
           exact absurd H (by simp)
         ·
          rw [if_neg c19] at H
          exact absurd H (by simp)
        ·
         rw [if_neg c18] at H
         exact absurd H (by simp)
    ·
     rw [if_neg c10] at H
     exact absurd H (by simp)
   ·
    rw [if_neg c9] at H
    have c9b0 : decide (x7_1 < (t483.length : Int)) = false := decide_eq_false c9
    clear c9
    have HC113 := Aside0.mk H
    clear H
    obtain ⟨Ao114, co114, eo114⟩ := Kd.R_slice HO_5.out
    subst eo114
    go_upto_region 13 with (fail)
    go_cut [13] (fun v13 wc => ∃ (kq : Nat) (x13_112 : Bool), v13 = .bool x13_112 ∧ Aside0 (ddilaw03_PrefixWhole.j2 kq x6_1 x13_112 = some r) ∧ Aside0 (kq ≤ k1) ∧ Aside0 (wc.heap[gb481]? = some (.cells #[.bool a0_0, .int .u64 a0_1, .int .u64 a0_2, .bool a0_3, .int .u64 a0_4, .int .u64 a0_5] 36 (0, 0))) ∧ Aside0 (wc.heap[gb482]? = some (.cells #[.bool a1_0, .int .u64 a1_1, .int .u64 a1_2] 24 (0, 0))) ∧ Aside0 (Below w.heap.size w wc))
    case first =>
     have H := HC113.out
     clear HC113
     replace H := Option.bind_eq_some_iff.mp H
     obtain ⟨t515, A1150, H⟩ := H
     replace H : (if t515 = true then ((addr_Valid.f a0_3 a0_4 a0_5).bind fun t516 => (if t516 = true then ((addr_Valid.f a1_0 a1_1 a1_2).bind fun t517 => (if t517 = true then (if (a0_0 == a1_0) = true then (if (a0_3 == a1_0) = true then ((addr_Compare.f k1 a0_0 a0_1 a0_2 a1_0 a1_1 a1_2).bind fun t518 => (if t518 ≤ 0 then ((addr_Compare.f k1 a1_0 a1_1 a1_2 a0_3 a0_4 a0_5).bind fun t519 => (ddilaw03_PrefixWhole.j2 k1 x6_1 (decide (t519 ≤ 0)))) else (ddilaw03_PrefixWhole.j2 k1 x6_1 false))) else (ddilaw03_PrefixWhole.j2 k1 x6_1 false)) else (ddilaw03_PrefixWhole.j2 k1 x6_1 false)) else (ddilaw03_PrefixWhole.j2 k1 x6_1 false))) else (ddilaw03_PrefixWhole.j2 k1 x6_1 false))) else (ddilaw03_PrefixWhole.j2 k1 x6_1 false)) = some r := H
     have A115 := Aside0.mk A1150
     clear A1150
     by_cases c116 : t515 = true
     ·
      subst c116
      rw [if_pos rfl] at H
      replace H := Option.bind_eq_some_iff.mp H
      obtain ⟨t516, A1170, H⟩ := H
      replace H : (if t516 = true then ((addr_Valid.f a1_0 a1_1 a1_2).bind fun t517 => (if t517 = true then (if (a0_0 == a1_0) = true then (if (a0_3 == a1_0) = true then ((addr_Compare.f k1 a0_0 a0_1 a0_2 a1_0 a1_1 a1_2).bind fun t518 => (if t518 ≤ 0 then ((addr_Compare.f k1 a1_0 a1_1 a1_2 a0_3 a0_4 a0_5).bind fun t519 => (ddilaw03_PrefixWhole.j2 k1 x6_1 (decide (t519 ≤ 0)))) else (ddilaw03_PrefixWhole.j2 k1 x6_1 false))) else (ddilaw03_PrefixWhole.j2 k1 x6_1 false)) else (ddilaw03_PrefixWhole.j2 k1 x6_1 false)) else (ddilaw03_PrefixWhole.j2 k1 x6_1 false))) else (ddilaw03_PrefixWhole.j2 k1 x6_1 false)) = some r := H
      have A117 := Aside0.mk A1170
      clear A1170
      by_cases c118 : t516 = true
      ·
       subst c118
       rw [if_pos rfl] at H
       replace H := Option.bind_eq_some_iff.mp H
       obtain ⟨t517, A1190, H⟩ := H
       replace H : (if t517 = true then (if (a0_0 == a1_0) = true then (if (a0_3 == a1_0) = true then ((addr_Compare.f k1 a0_0 a0_1 a0_2 a1_0 a1_1 a1_2).bind fun t518 => (if t518 ≤ 0 then ((addr_Compare.f k1 a1_0 a1_1 a1_2 a0_3 a0_4 a0_5).bind fun t519 => (ddilaw03_PrefixWhole.j2 k1 x6_1 (decide (t519 ≤ 0)))) else (ddilaw03_PrefixWhole.j2 k1 x6_1 false))) else (ddilaw03_PrefixWhole.j2 k1 x6_1 false)) else (ddilaw03_PrefixWhole.j2 k1 x6_1 false)) else (ddilaw03_PrefixWhole.j2 k1 x6_1 false)) = some r := H
       have A119 := Aside0.mk A1190
       clear A1190
       by_cases c120 : t517 = true
       ·
        subst c120
        rw [if_pos rfl] at H
        by_cases c121 : (a0_0 == a1_0) = true
        ·
         rw [if_pos c121] at H
         have c121b0 : (a0_0 == a1_0) = true := c121
         (try (have c121b1 : decide (a0_0 = a1_0) = true := by simpa using c121))
         (try (have c121b2 : (a0_0 == a1_0) = true := by simpa using c121))
         clear c121
         (first | rw [c121b0] | (simp only [i64_w, i32_w]; rw [c121b0]) | skip)
         by_cases c122 : (a0_3 == a1_0) = true
         ·
          rw [if_pos c122] at H
          have c122b0 : (a0_3 == a1_0) = true := c122
          (try (have c122b1 : decide (a0_3 = a1_0) = true := by simpa using c122))
          (try (have c122b2 : (a0_3 == a1_0) = true := by simpa using c122))
          clear c122
          replace H := Option.bind_eq_some_iff.mp H
          obtain ⟨t518, A1230, H⟩ := H
          replace H : (if t518 ≤ 0 then ((addr_Compare.f k1 a1_0 a1_1 a1_2 a0_3 a0_4 a0_5).bind fun t519 => (ddilaw03_PrefixWhole.j2 k1 x6_1 (decide (t519 ≤ 0)))) else (ddilaw03_PrefixWhole.j2 k1 x6_1 false)) = some r := H
          have A123 := Aside0.mk A1230
          clear A1230
          by_cases c124 : t518 ≤ 0
          ·
           rw [if_pos c124] at H
           have c124b0 : decide (t518 ≤ 0) = true := decide_eq_true c124
           clear c124
           replace H := Option.bind_eq_some_iff.mp H
           obtain ⟨t519, A1250, H⟩ := H
           replace H : (ddilaw03_PrefixWhole.j2 k1 x6_1 (decide (t519 ≤ 0))) = some r := H
           have A125 := Aside0.mk A1250
           clear A1250
           have H' := Aside0.mk H
           clear H
           have hnb126 := NB481_482.out
           have hnc126 := NB482_481.out
           obtain ⟨hcz127_0, hcz127_1, hcz127_2, hcz127_3, hcz127_4, hcz127_5, hfz127_0, hfz127_1, hfz127_2, hfz127_3, hfz127_4, hfz127_5⟩ := pC6 BK481
           go_wp2_with (first | ((with_reducible refine gate_ (.load 36 (.tmp 2)) rfl ?_); refine wpList_load_row (by rfl) 36 (.tmp 2) (by rfl) _ (by rfl) 36 _ (0, 0) _ (by first | exact BK481.out | exact BK482.out | exact BK495.out | exact BK505.out | exact BK506.out | exact pQ BK481 | exact pQ BK482 | exact pQ BK495 | exact pQ BK505 | exact pQ BK506) hu36 (by rfl) (by kernel_rfl) ?_) | ((with_reducible refine gate_callee (f := 18) rfl ?_); refine goesA (some 98) Tryd.func18 #[.agg #[.bool a0_0, .int .u64 a0_1, .int .u64 a0_2]] ?_; (with_reducible refine (addr_Valid.calls a0_0 a0_1 a0_2 true _ A115.out).mono ?_); rintro e w128 ⟨rfl, hb⟩; refine ⟨_, rfl, ?_⟩; replace HO_5 := Aside0.mk (Kd.R_below (by (with_reducible repeat (first | apply Kd.R_alloc | apply Kd.R_drewN | apply Kd.R_drew)); exact HO_5.out) hb); replace BK481 := (pB BK481 hb); replace BK482 := (pB BK482 hb); replace HB := (pS HB hb); (try clear hb); (try clear hk); obtain ⟨hcz129_0, hcz129_1, hcz129_2, hcz129_3, hcz129_4, hcz129_5, hfz129_0, hfz129_1, hfz129_2, hfz129_3, hfz129_4, hfz129_5⟩ := pC6 BK481) | (go_at_call 18; (with_reducible refine (addr_Valid.calls a0_3 a0_4 a0_5 true _ A117.out).mono ?_); rintro e w130 ⟨rfl, hb⟩; replace HO_5 := Aside0.mk (Kd.R_below (by (with_reducible repeat (first | apply Kd.R_alloc | apply Kd.R_drewN | apply Kd.R_drew)); exact HO_5.out) hb); replace BK481 := (pB BK481 hb); replace BK482 := (pB BK482 hb); replace HB := (pS HB hb); (try clear hb); (try clear hk); obtain ⟨hcz131_0, hcz131_1, hcz131_2, hfz131_0, hfz131_1, hfz131_2⟩ := pC3 BK482) | (go_at_call 18; (with_reducible refine (addr_Valid.calls a1_0 a1_1 a1_2 true _ A119.out).mono ?_); rintro e w132 ⟨rfl, hb⟩; replace HO_5 := Aside0.mk (Kd.R_below (by (with_reducible repeat (first | apply Kd.R_alloc | apply Kd.R_drewN | apply Kd.R_drew)); exact HO_5.out) hb); replace BK481 := (pB BK481 hb); replace BK482 := (pB BK482 hb); replace HB := (pS HB hb); (try clear hb); (try clear hk); obtain ⟨hcz133_0, hcz133_1, hcz133_2, hcz133_3, hcz133_4, hcz133_5, hfz133_0, hfz133_1, hfz133_2, hfz133_3, hfz133_4, hfz133_5⟩ := pC6 BK481; obtain ⟨hcz134_0, hcz134_1, hcz134_2, hfz134_0, hfz134_1, hfz134_2⟩ := pC3 BK482) | (go_at_call 26; (with_reducible refine (addr_Compare.calls k1 a0_0 a0_1 a0_2 a1_0 a1_1 a1_2 t518 _ A123.out).mono ?_); rintro e w135 ⟨rfl, hb⟩; replace HO_5 := Aside0.mk (Kd.R_below (by (with_reducible repeat (first | apply Kd.R_alloc | apply Kd.R_drewN | apply Kd.R_drew)); exact HO_5.out) hb); replace BK481 := (pB BK481 hb); replace BK482 := (pB BK482 hb); replace HB := (pS HB hb); (try clear hb); (try clear hk); obtain ⟨hcz136_0, hcz136_1, hcz136_2, hfz136_0, hfz136_1, hfz136_2⟩ := pC3 BK482; obtain ⟨hcz137_0, hcz137_1, hcz137_2, hcz137_3, hcz137_4, hcz137_5, hfz137_0, hfz137_1, hfz137_2, hfz137_3, hfz137_4, hfz137_5⟩ := pC6 BK481) | (go_at_call 26; (with_reducible refine (addr_Compare.calls k1 a1_0 a1_1 a1_2 a0_3 a0_4 a0_5 t519 _ A125.out).mono ?_); rintro e w138 ⟨rfl, hb⟩; replace HO_5 := Aside0.mk (Kd.R_below (by (with_reducible repeat (first | apply Kd.R_alloc | apply Kd.R_drewN | apply Kd.R_drew)); exact HO_5.out) hb); replace BK481 := (pB BK481 hb); replace BK482 := (pB BK482 hb); replace HB := (pS HB hb); (try clear hb); (try clear hk)))
           refine Met.intro ?_
           go_step
           (repeat apply Exists.intro)
           refine ⟨?rel, ?heq_⟩
           case heq_ => first | rfl | (rw [c121b0]) | (simp only [c121b0])
           case rel => exact ⟨_, (decide (t519 ≤ 0)), pT, H', ⟨by have := HK1.out; first | omega | exact Nat.le_refl _⟩, ⟨pM BK481⟩, ⟨pM BK482⟩, ⟨pE HB⟩⟩
          ·
           rw [if_neg c124] at H
           have c124b0 : decide (t518 ≤ 0) = false := decide_eq_false c124
           clear c124
           have H' := Aside0.mk H
           clear H
           have hnb139 := NB481_482.out
           have hnc139 := NB482_481.out
           obtain ⟨hcz140_0, hcz140_1, hcz140_2, hcz140_3, hcz140_4, hcz140_5, hfz140_0, hfz140_1, hfz140_2, hfz140_3, hfz140_4, hfz140_5⟩ := pC6 BK481
           go_wp2_with (first | ((with_reducible refine gate_ (.load 36 (.tmp 2)) rfl ?_); refine wpList_load_row (by rfl) 36 (.tmp 2) (by rfl) _ (by rfl) 36 _ (0, 0) _ (by first | exact BK481.out | exact BK482.out | exact BK495.out | exact BK505.out | exact BK506.out | exact pQ BK481 | exact pQ BK482 | exact pQ BK495 | exact pQ BK505 | exact pQ BK506) hu36 (by rfl) (by kernel_rfl) ?_) | ((with_reducible refine gate_callee (f := 18) rfl ?_); refine goesA (some 98) Tryd.func18 #[.agg #[.bool a0_0, .int .u64 a0_1, .int .u64 a0_2]] ?_; (with_reducible refine (addr_Valid.calls a0_0 a0_1 a0_2 true _ A115.out).mono ?_); rintro e w141 ⟨rfl, hb⟩; refine ⟨_, rfl, ?_⟩; replace HO_5 := Aside0.mk (Kd.R_below (by (with_reducible repeat (first | apply Kd.R_alloc | apply Kd.R_drewN | apply Kd.R_drew)); exact HO_5.out) hb); replace BK481 := (pB BK481 hb); replace BK482 := (pB BK482 hb); replace HB := (pS HB hb); (try clear hb); (try clear hk); obtain ⟨hcz142_0, hcz142_1, hcz142_2, hcz142_3, hcz142_4, hcz142_5, hfz142_0, hfz142_1, hfz142_2, hfz142_3, hfz142_4, hfz142_5⟩ := pC6 BK481) | (go_at_call 18; (with_reducible refine (addr_Valid.calls a0_3 a0_4 a0_5 true _ A117.out).mono ?_); rintro e w143 ⟨rfl, hb⟩; replace HO_5 := Aside0.mk (Kd.R_below (by (with_reducible repeat (first | apply Kd.R_alloc | apply Kd.R_drewN | apply Kd.R_drew)); exact HO_5.out) hb); replace BK481 := (pB BK481 hb); replace BK482 := (pB BK482 hb); replace HB := (pS HB hb); (try clear hb); (try clear hk); obtain ⟨hcz144_0, hcz144_1, hcz144_2, hfz144_0, hfz144_1, hfz144_2⟩ := pC3 BK482) | (go_at_call 18; (with_reducible refine (addr_Valid.calls a1_0 a1_1 a1_2 true _ A119.out).mono ?_); rintro e w145 ⟨rfl, hb⟩; replace HO_5 := Aside0.mk (Kd.R_below (by (with_reducible repeat (first | apply Kd.R_alloc | apply Kd.R_drewN | apply Kd.R_drew)); exact HO_5.out) hb); replace BK481 := (pB BK481 hb); replace BK482 := (pB BK482 hb); replace HB := (pS HB hb); (try clear hb); (try clear hk); obtain ⟨hcz146_0, hcz146_1, hcz146_2, hcz146_3, hcz146_4, hcz146_5, hfz146_0, hfz146_1, hfz146_2, hfz146_3, hfz146_4, hfz146_5⟩ := pC6 BK481; obtain ⟨hcz147_0, hcz147_1, hcz147_2, hfz147_0, hfz147_1, hfz147_2⟩ := pC3 BK482) | (go_at_call 26; (with_reducible refine (addr_Compare.calls k1 a0_0 a0_1 a0_2 a1_0 a1_1 a1_2 t518 _ A123.out).mono ?_); rintro e w148 ⟨rfl, hb⟩; replace HO_5 := Aside0.mk (Kd.R_below (by (with_reducible repeat (first | apply Kd.R_alloc | apply Kd.R_drewN | apply Kd.R_drew)); exact HO_5.out) hb); replace BK481 := (pB BK481 hb); replace BK482 := (pB BK482 hb); replace HB := (pS HB hb); (try clear hb); (try clear hk)))
           refine Met.intro ?_
           go_step
           (repeat apply Exists.intro)
           refine ⟨?rel, ?heq_⟩
           case heq_ => first | rfl | (rw [c121b0]) | (simp only [c121b0])
           case rel => exact ⟨_, (false), pT, H', ⟨by have := HK1.out; first | omega | exact Nat.le_refl _⟩, ⟨pM BK481⟩, ⟨pM BK482⟩, ⟨pE HB⟩⟩
         ·
          rw [if_neg c122] at H
          have c122b0 : (a0_3 == a1_0) = false := by simpa using c122
          (try (have c122b1 : decide (a0_3 = a1_0) = false := by simpa using c122))
          (try (have c122b2 : (a0_3 == a1_0) = false := by simpa using c122))
          (try (have c122b3 : ¬ (a0_3 = a1_0) := by simpa using c122))
          clear c122
          have H' := Aside0.mk H
          clear H
          have hnb149 := NB481_482.out
          have hnc149 := NB482_481.out
          obtain ⟨hcz150_0, hcz150_1, hcz150_2, hcz150_3, hcz150_4, hcz150_5, hfz150_0, hfz150_1, hfz150_2, hfz150_3, hfz150_4, hfz150_5⟩ := pC6 BK481
          go_wp2_with (first | ((with_reducible refine gate_ (.load 36 (.tmp 2)) rfl ?_); refine wpList_load_row (by rfl) 36 (.tmp 2) (by rfl) _ (by rfl) 36 _ (0, 0) _ (by first | exact BK481.out | exact BK482.out | exact BK495.out | exact BK505.out | exact BK506.out | exact pQ BK481 | exact pQ BK482 | exact pQ BK495 | exact pQ BK505 | exact pQ BK506) hu36 (by rfl) (by kernel_rfl) ?_) | ((with_reducible refine gate_callee (f := 18) rfl ?_); refine goesA (some 98) Tryd.func18 #[.agg #[.bool a0_0, .int .u64 a0_1, .int .u64 a0_2]] ?_; (with_reducible refine (addr_Valid.calls a0_0 a0_1 a0_2 true _ A115.out).mono ?_); rintro e w151 ⟨rfl, hb⟩; refine ⟨_, rfl, ?_⟩; replace HO_5 := Aside0.mk (Kd.R_below (by (with_reducible repeat (first | apply Kd.R_alloc | apply Kd.R_drewN | apply Kd.R_drew)); exact HO_5.out) hb); replace BK481 := (pB BK481 hb); replace BK482 := (pB BK482 hb); replace HB := (pS HB hb); (try clear hb); (try clear hk); obtain ⟨hcz152_0, hcz152_1, hcz152_2, hcz152_3, hcz152_4, hcz152_5, hfz152_0, hfz152_1, hfz152_2, hfz152_3, hfz152_4, hfz152_5⟩ := pC6 BK481) | (go_at_call 18; (with_reducible refine (addr_Valid.calls a0_3 a0_4 a0_5 true _ A117.out).mono ?_); rintro e w153 ⟨rfl, hb⟩; replace HO_5 := Aside0.mk (Kd.R_below (by (with_reducible repeat (first | apply Kd.R_alloc | apply Kd.R_drewN | apply Kd.R_drew)); exact HO_5.out) hb); replace BK481 := (pB BK481 hb); replace BK482 := (pB BK482 hb); replace HB := (pS HB hb); (try clear hb); (try clear hk); obtain ⟨hcz154_0, hcz154_1, hcz154_2, hfz154_0, hfz154_1, hfz154_2⟩ := pC3 BK482) | (go_at_call 18; (with_reducible refine (addr_Valid.calls a1_0 a1_1 a1_2 true _ A119.out).mono ?_); rintro e w155 ⟨rfl, hb⟩; replace HO_5 := Aside0.mk (Kd.R_below (by (with_reducible repeat (first | apply Kd.R_alloc | apply Kd.R_drewN | apply Kd.R_drew)); exact HO_5.out) hb); replace BK481 := (pB BK481 hb); replace BK482 := (pB BK482 hb); replace HB := (pS HB hb); (try clear hb); (try clear hk); obtain ⟨hcz156_0, hcz156_1, hcz156_2, hcz156_3, hcz156_4, hcz156_5, hfz156_0, hfz156_1, hfz156_2, hfz156_3, hfz156_4, hfz156_5⟩ := pC6 BK481; obtain ⟨hcz157_0, hcz157_1, hcz157_2, hfz157_0, hfz157_1, hfz157_2⟩ := pC3 BK482))
          refine Met.intro ?_
          go_step
          (repeat apply Exists.intro)
          refine ⟨?rel, ?heq_⟩
          case heq_ => first | rfl | (rw [c121b0]) | (simp only [c121b0])
          case rel => exact ⟨_, (false), pT, H', ⟨by have := HK1.out; first | omega | exact Nat.le_refl _⟩, ⟨pM BK481⟩, ⟨pM BK482⟩, ⟨pE HB⟩⟩
        ·
         rw [if_neg c121] at H
         have c121b0 : (a0_0 == a1_0) = false := by simpa using c121
         (try (have c121b1 : decide (a0_0 = a1_0) = false := by simpa using c121))
         (try (have c121b2 : (a0_0 == a1_0) = false := by simpa using c121))
         (try (have c121b3 : ¬ (a0_0 = a1_0) := by simpa using c121))
         clear c121
         (first | rw [c121b0] | (simp only [i64_w, i32_w]; rw [c121b0]) | skip)
         have H' := Aside0.mk H
         clear H
         have hnb158 := NB481_482.out
         have hnc158 := NB482_481.out
         obtain ⟨hcz159_0, hcz159_1, hcz159_2, hcz159_3, hcz159_4, hcz159_5, hfz159_0, hfz159_1, hfz159_2, hfz159_3, hfz159_4, hfz159_5⟩ := pC6 BK481
         go_wp2_with (first | ((with_reducible refine gate_ (.load 36 (.tmp 2)) rfl ?_); refine wpList_load_row (by rfl) 36 (.tmp 2) (by rfl) _ (by rfl) 36 _ (0, 0) _ (by first | exact BK481.out | exact BK482.out | exact BK495.out | exact BK505.out | exact BK506.out | exact pQ BK481 | exact pQ BK482 | exact pQ BK495 | exact pQ BK505 | exact pQ BK506) hu36 (by rfl) (by kernel_rfl) ?_) | ((with_reducible refine gate_callee (f := 18) rfl ?_); refine goesA (some 98) Tryd.func18 #[.agg #[.bool a0_0, .int .u64 a0_1, .int .u64 a0_2]] ?_; (with_reducible refine (addr_Valid.calls a0_0 a0_1 a0_2 true _ A115.out).mono ?_); rintro e w160 ⟨rfl, hb⟩; refine ⟨_, rfl, ?_⟩; replace HO_5 := Aside0.mk (Kd.R_below (by (with_reducible repeat (first | apply Kd.R_alloc | apply Kd.R_drewN | apply Kd.R_drew)); exact HO_5.out) hb); replace BK481 := (pB BK481 hb); replace BK482 := (pB BK482 hb); replace HB := (pS HB hb); (try clear hb); (try clear hk); obtain ⟨hcz161_0, hcz161_1, hcz161_2, hcz161_3, hcz161_4, hcz161_5, hfz161_0, hfz161_1, hfz161_2, hfz161_3, hfz161_4, hfz161_5⟩ := pC6 BK481) | (go_at_call 18; (with_reducible refine (addr_Valid.calls a0_3 a0_4 a0_5 true _ A117.out).mono ?_); rintro e w162 ⟨rfl, hb⟩; replace HO_5 := Aside0.mk (Kd.R_below (by (with_reducible repeat (first | apply Kd.R_alloc | apply Kd.R_drewN | apply Kd.R_drew)); exact HO_5.out) hb); replace BK481 := (pB BK481 hb); replace BK482 := (pB BK482 hb); replace HB := (pS HB hb); (try clear hb); (try clear hk); obtain ⟨hcz163_0, hcz163_1, hcz163_2, hfz163_0, hfz163_1, hfz163_2⟩ := pC3 BK482) | (go_at_call 18; (with_reducible refine (addr_Valid.calls a1_0 a1_1 a1_2 true _ A119.out).mono ?_); rintro e w164 ⟨rfl, hb⟩; replace HO_5 := Aside0.mk (Kd.R_below (by (with_reducible repeat (first | apply Kd.R_alloc | apply Kd.R_drewN | apply Kd.R_drew)); exact HO_5.out) hb); replace BK481 := (pB BK481 hb); replace BK482 := (pB BK482 hb); replace HB := (pS HB hb); (try clear hb); (try clear hk); obtain ⟨hcz165_0, hcz165_1, hcz165_2, hcz165_3, hcz165_4, hcz165_5, hfz165_0, hfz165_1, hfz165_2, hfz165_3, hfz165_4, hfz165_5⟩ := pC6 BK481; obtain ⟨hcz166_0, hcz166_1, hcz166_2, hfz166_0, hfz166_1, hfz166_2⟩ := pC3 BK482))
         refine Met.intro ?_
         go_step
         (repeat apply Exists.intro)
         refine ⟨?rel, ?heq_⟩
         case heq_ => first | rfl | (rw [c121b0]) | (simp only [c121b0])
         case rel => exact ⟨_, (false), pT, H', ⟨by have := HK1.out; first | omega | exact Nat.le_refl _⟩, ⟨pM BK481⟩, ⟨pM BK482⟩, ⟨pE HB⟩⟩
       ·
        replace c120 := Bool.eq_false_iff.mpr c120
        subst c120
        rw [if_neg (show ¬ (false = true) by decide)] at H
        have H' := Aside0.mk H
        clear H
        have hnb167 := NB481_482.out
        have hnc167 := NB482_481.out
        obtain ⟨hcz168_0, hcz168_1, hcz168_2, hcz168_3, hcz168_4, hcz168_5, hfz168_0, hfz168_1, hfz168_2, hfz168_3, hfz168_4, hfz168_5⟩ := pC6 BK481
        go_wp2_with (first | ((with_reducible refine gate_ (.load 36 (.tmp 2)) rfl ?_); refine wpList_load_row (by rfl) 36 (.tmp 2) (by rfl) _ (by rfl) 36 _ (0, 0) _ (by first | exact BK481.out | exact BK482.out | exact BK495.out | exact BK505.out | exact BK506.out | exact pQ BK481 | exact pQ BK482 | exact pQ BK495 | exact pQ BK505 | exact pQ BK506) hu36 (by rfl) (by kernel_rfl) ?_) | ((with_reducible refine gate_callee (f := 18) rfl ?_); refine goesA (some 98) Tryd.func18 #[.agg #[.bool a0_0, .int .u64 a0_1, .int .u64 a0_2]] ?_; (with_reducible refine (addr_Valid.calls a0_0 a0_1 a0_2 true _ A115.out).mono ?_); rintro e w169 ⟨rfl, hb⟩; refine ⟨_, rfl, ?_⟩; replace HO_5 := Aside0.mk (Kd.R_below (by (with_reducible repeat (first | apply Kd.R_alloc | apply Kd.R_drewN | apply Kd.R_drew)); exact HO_5.out) hb); replace BK481 := (pB BK481 hb); replace BK482 := (pB BK482 hb); replace HB := (pS HB hb); (try clear hb); (try clear hk); obtain ⟨hcz170_0, hcz170_1, hcz170_2, hcz170_3, hcz170_4, hcz170_5, hfz170_0, hfz170_1, hfz170_2, hfz170_3, hfz170_4, hfz170_5⟩ := pC6 BK481) | (go_at_call 18; (with_reducible refine (addr_Valid.calls a0_3 a0_4 a0_5 true _ A117.out).mono ?_); rintro e w171 ⟨rfl, hb⟩; replace HO_5 := Aside0.mk (Kd.R_below (by (with_reducible repeat (first | apply Kd.R_alloc | apply Kd.R_drewN | apply Kd.R_drew)); exact HO_5.out) hb); replace BK481 := (pB BK481 hb); replace BK482 := (pB BK482 hb); replace HB := (pS HB hb); (try clear hb); (try clear hk); obtain ⟨hcz172_0, hcz172_1, hcz172_2, hfz172_0, hfz172_1, hfz172_2⟩ := pC3 BK482) | (go_at_call 18; (with_reducible refine (addr_Valid.calls a1_0 a1_1 a1_2 false _ A119.out).mono ?_); rintro e w173 ⟨rfl, hb⟩; replace HO_5 := Aside0.mk (Kd.R_below (by (with_reducible repeat (first | apply Kd.R_alloc | apply Kd.R_drewN | apply Kd.R_drew)); exact HO_5.out) hb); replace BK481 := (pB BK481 hb); replace BK482 := (pB BK482 hb); replace HB := (pS HB hb); (try clear hb); (try clear hk)))
        go_meet
        case rel => exact ⟨_, (false), pT, H', ⟨by have := HK1.out; first | omega | exact Nat.le_refl _⟩, ⟨pM BK481⟩, ⟨pM BK482⟩, ⟨pE HB⟩⟩
      ·
       replace c118 := Bool.eq_false_iff.mpr c118
       subst c118
       rw [if_neg (show ¬ (false = true) by decide)] at H
       have H' := Aside0.mk H
       clear H
       have hnb174 := NB481_482.out
       have hnc174 := NB482_481.out
       obtain ⟨hcz175_0, hcz175_1, hcz175_2, hcz175_3, hcz175_4, hcz175_5, hfz175_0, hfz175_1, hfz175_2, hfz175_3, hfz175_4, hfz175_5⟩ := pC6 BK481
       go_wp2_with (first | ((with_reducible refine gate_ (.load 36 (.tmp 2)) rfl ?_); refine wpList_load_row (by rfl) 36 (.tmp 2) (by rfl) _ (by rfl) 36 _ (0, 0) _ (by first | exact BK481.out | exact BK482.out | exact BK495.out | exact BK505.out | exact BK506.out | exact pQ BK481 | exact pQ BK482 | exact pQ BK495 | exact pQ BK505 | exact pQ BK506) hu36 (by rfl) (by kernel_rfl) ?_) | ((with_reducible refine gate_callee (f := 18) rfl ?_); refine goesA (some 98) Tryd.func18 #[.agg #[.bool a0_0, .int .u64 a0_1, .int .u64 a0_2]] ?_; (with_reducible refine (addr_Valid.calls a0_0 a0_1 a0_2 true _ A115.out).mono ?_); rintro e w176 ⟨rfl, hb⟩; refine ⟨_, rfl, ?_⟩; replace HO_5 := Aside0.mk (Kd.R_below (by (with_reducible repeat (first | apply Kd.R_alloc | apply Kd.R_drewN | apply Kd.R_drew)); exact HO_5.out) hb); replace BK481 := (pB BK481 hb); replace BK482 := (pB BK482 hb); replace HB := (pS HB hb); (try clear hb); (try clear hk); obtain ⟨hcz177_0, hcz177_1, hcz177_2, hcz177_3, hcz177_4, hcz177_5, hfz177_0, hfz177_1, hfz177_2, hfz177_3, hfz177_4, hfz177_5⟩ := pC6 BK481) | (go_at_call 18; (with_reducible refine (addr_Valid.calls a0_3 a0_4 a0_5 false _ A117.out).mono ?_); rintro e w178 ⟨rfl, hb⟩; replace HO_5 := Aside0.mk (Kd.R_below (by (with_reducible repeat (first | apply Kd.R_alloc | apply Kd.R_drewN | apply Kd.R_drew)); exact HO_5.out) hb); replace BK481 := (pB BK481 hb); replace BK482 := (pB BK482 hb); replace HB := (pS HB hb); (try clear hb); (try clear hk)))
       go_meet
       case rel => exact ⟨_, (false), pT, H', ⟨by have := HK1.out; first | omega | exact Nat.le_refl _⟩, ⟨pM BK481⟩, ⟨pM BK482⟩, ⟨pE HB⟩⟩
     ·
      replace c116 := Bool.eq_false_iff.mpr c116
      subst c116
      rw [if_neg (show ¬ (false = true) by decide)] at H
      have H' := Aside0.mk H
      clear H
      have hnb179 := NB481_482.out
      have hnc179 := NB482_481.out
      obtain ⟨hcz180_0, hcz180_1, hcz180_2, hcz180_3, hcz180_4, hcz180_5, hfz180_0, hfz180_1, hfz180_2, hfz180_3, hfz180_4, hfz180_5⟩ := pC6 BK481
      go_wp2_with (first | ((with_reducible refine gate_ (.load 36 (.tmp 2)) rfl ?_); refine wpList_load_row (by rfl) 36 (.tmp 2) (by rfl) _ (by rfl) 36 _ (0, 0) _ (by first | exact BK481.out | exact BK482.out | exact BK495.out | exact BK505.out | exact BK506.out | exact pQ BK481 | exact pQ BK482 | exact pQ BK495 | exact pQ BK505 | exact pQ BK506) hu36 (by rfl) (by kernel_rfl) ?_) | ((with_reducible refine gate_callee (f := 18) rfl ?_); refine goesA (some 98) Tryd.func18 #[.agg #[.bool a0_0, .int .u64 a0_1, .int .u64 a0_2]] ?_; (with_reducible refine (addr_Valid.calls a0_0 a0_1 a0_2 false _ A115.out).mono ?_); rintro e w181 ⟨rfl, hb⟩; refine ⟨_, rfl, ?_⟩; replace HO_5 := Aside0.mk (Kd.R_below (by (with_reducible repeat (first | apply Kd.R_alloc | apply Kd.R_drewN | apply Kd.R_drew)); exact HO_5.out) hb); replace BK481 := (pB BK481 hb); replace BK482 := (pB BK482 hb); replace HB := (pS HB hb); (try clear hb); (try clear hk)))
      go_meet
      case rel => exact ⟨_, (false), pT, H', ⟨by have := HK1.out; first | omega | exact Nat.le_refl _⟩, ⟨pM BK481⟩, ⟨pM BK482⟩, ⟨pE HB⟩⟩
    case rest =>
     clear HC113
     try clear c1
     try clear c2
     try clear p2
     try clear p6
     try clear c9
     try clear c9b0
     try clear c10
     try clear c11
     try clear c12
     try clear c13
     try clear c14
     try clear c15
     try clear c16
     try clear c17
     try clear c18
     try clear c19
     try clear c21
     try clear c23
     try clear c24
     try clear p64
     try clear c116
     try clear c118
     try clear c120
     try clear c121
     try clear c121b0
     try clear c121b1
     try clear c121b2
     try clear c122
     try clear c122b0
     try clear c122b1
     try clear c122b2
     try clear c124
     try clear c124b0
     try clear c126
     try clear c139
     try clear c149
     try clear c158
     try clear c167
     try clear c174
     try clear c179
     try clear hcz127_0 hcz127_1 hcz127_2 hcz127_3 hcz127_4 hcz127_5
     try clear hcz129_0 hcz129_1 hcz129_2 hcz129_3 hcz129_4 hcz129_5
     try clear hcz131_0 hcz131_1 hcz131_2
     try clear hcz133_0 hcz133_1 hcz133_2 hcz133_3 hcz133_4 hcz133_5
     try clear hcz134_0 hcz134_1 hcz134_2
     try clear hcz136_0 hcz136_1 hcz136_2
     try clear hcz137_0 hcz137_1 hcz137_2 hcz137_3 hcz137_4 hcz137_5
     try clear hcz140_0 hcz140_1 hcz140_2 hcz140_3 hcz140_4 hcz140_5
     try clear hcz142_0 hcz142_1 hcz142_2 hcz142_3 hcz142_4 hcz142_5
     try clear hcz144_0 hcz144_1 hcz144_2
     try clear hcz146_0 hcz146_1 hcz146_2 hcz146_3 hcz146_4 hcz146_5
     try clear hcz147_0 hcz147_1 hcz147_2
     try clear hcz150_0 hcz150_1 hcz150_2 hcz150_3 hcz150_4 hcz150_5
     try clear hcz152_0 hcz152_1 hcz152_2 hcz152_3 hcz152_4 hcz152_5
     try clear hcz154_0 hcz154_1 hcz154_2
     try clear hcz156_0 hcz156_1 hcz156_2 hcz156_3 hcz156_4 hcz156_5
     try clear hcz157_0 hcz157_1 hcz157_2
     try clear hcz159_0 hcz159_1 hcz159_2 hcz159_3 hcz159_4 hcz159_5
     try clear hcz161_0 hcz161_1 hcz161_2 hcz161_3 hcz161_4 hcz161_5
     try clear hcz163_0 hcz163_1 hcz163_2
     try clear hcz165_0 hcz165_1 hcz165_2 hcz165_3 hcz165_4 hcz165_5
     try clear hcz166_0 hcz166_1 hcz166_2
     try clear hcz168_0 hcz168_1 hcz168_2 hcz168_3 hcz168_4 hcz168_5
     try clear hcz170_0 hcz170_1 hcz170_2 hcz170_3 hcz170_4 hcz170_5
     try clear hcz172_0 hcz172_1 hcz172_2
     try clear hcz175_0 hcz175_1 hcz175_2 hcz175_3 hcz175_4 hcz175_5
     try clear hcz177_0 hcz177_1 hcz177_2 hcz177_3 hcz177_4 hcz177_5
     try clear hcz180_0 hcz180_1 hcz180_2 hcz180_3 hcz180_4 hcz180_5
     try clear hfz127_0 hfz127_1 hfz127_2 hfz127_3 hfz127_4 hfz127_5
     try clear hfz129_0 hfz129_1 hfz129_2 hfz129_3 hfz129_4 hfz129_5
     try clear hfz131_0 hfz131_1 hfz131_2
     try clear hfz133_0 hfz133_1 hfz133_2 hfz133_3 hfz133_4 hfz133_5
     try clear hfz134_0 hfz134_1 hfz134_2
     try clear hfz136_0 hfz136_1 hfz136_2
     try clear hfz137_0 hfz137_1 hfz137_2 hfz137_3 hfz137_4 hfz137_5
     try clear hfz140_0 hfz140_1 hfz140_2 hfz140_3 hfz140_4 hfz140_5
     try clear hfz142_0 hfz142_1 hfz142_2 hfz142_3 hfz142_4 hfz142_5
     try clear hfz144_0 hfz144_1 hfz144_2
     try clear hfz146_0 hfz146_1 hfz146_2 hfz146_3 hfz146_4 hfz146_5
     try clear hfz147_0 hfz147_1 hfz147_2
     try clear hfz150_0 hfz150_1 hfz150_2 hfz150_3 hfz150_4 hfz150_5
     try clear hfz152_0 hfz152_1 hfz152_2 hfz152_3 hfz152_4 hfz152_5
     try clear hfz154_0 hfz154_1 hfz154_2
     try clear hfz156_0 hfz156_1 hfz156_2 hfz156_3 hfz156_4 hfz156_5
     try clear hfz157_0 hfz157_1 hfz157_2
     try clear hfz159_0 hfz159_1 hfz159_2 hfz159_3 hfz159_4 hfz159_5
     try clear hfz161_0 hfz161_1 hfz161_2 hfz161_3 hfz161_4 hfz161_5
     try clear hfz163_0 hfz163_1 hfz163_2
     try clear hfz165_0 hfz165_1 hfz165_2 hfz165_3 hfz165_4 hfz165_5
     try clear hfz166_0 hfz166_1 hfz166_2
     try clear hfz168_0 hfz168_1 hfz168_2 hfz168_3 hfz168_4 hfz168_5
     try clear hfz170_0 hfz170_1 hfz170_2 hfz170_3 hfz170_4 hfz170_5
     try clear hfz172_0 hfz172_1 hfz172_2
     try clear hfz175_0 hfz175_1 hfz175_2 hfz175_3 hfz175_4 hfz175_5
     try clear hfz177_0 hfz177_1 hfz177_2 hfz177_3 hfz177_4 hfz177_5
     try clear hfz180_0 hfz180_1 hfz180_2 hfz180_3 hfz180_4 hfz180_5
     obtain ⟨kq, x13_112, rfl, HA, HJ112, BK481, BK482, HB⟩ := hcut
     cases kq with
     | zero => exact absurd HA.out (by simp [ddilaw03_PrefixWhole.j2])
     | succ kj112 =>
      have H := HA.out
      clear HA
      simp only [ddilaw03_PrefixWhole.j2] at H
      by_cases c182 : x13_112 = true
      ·
       subst c182
       rw [if_pos rfl] at H
       by_cases c183 : x6_1 = 1
       ·
        rw [if_pos c183] at H
        have c183b0 : (x6_1 == 1) = true := beq_iff_eq.mpr c183
        have c183b1 : (x6_1 != 1) = false := bne_eq_false_iff_eq.mpr c183
        clear c183
        replace H := Option.bind_eq_some_iff.mp H
        obtain ⟨t520, A1840, H⟩ := H
        replace H : (some t520) = some r := H
        have A184 := Aside0.mk A1840
        clear A1840
        obtain rfl := Option.some.inj H
        go_wp2_with (first | ((with_reducible refine gate_ (.load 36 (.tmp 2)) rfl ?_); refine wpList_load_row (by rfl) 36 (.tmp 2) (by rfl) _ (by rfl) 36 _ (0, 0) _ (by first | exact BK481.out | exact BK482.out | exact BK495.out | exact BK505.out | exact BK506.out | exact pQ BK481 | exact pQ BK482 | exact pQ BK495 | exact pQ BK505 | exact pQ BK506) hu36 (by rfl) (by kernel_rfl) ?_) | (go_at_call 11; (with_reducible refine (ddilaw03_awake.calls kj112  t520 _ ?side1 A184.out).mono ?_); (case side1 => exact Laid.below HLD.out (pE HB)); rintro e w185 ⟨rfl, hb⟩; replace BK481 := (pB BK481 hb); replace BK482 := (pB BK482 hb); replace HB := (pS HB hb); (try clear hb); (try clear hk)))
        go_ret
        exact pR (pE HB)
       ·
        rw [if_neg c183] at H
        exact absurd H (by simp)
      ·
       replace c182 := Bool.eq_false_iff.mpr c182
       subst c182
       rw [if_neg (show ¬ (false = true) by decide)] at H
       by_cases c186 : x6_1 = 0
       ·
        rw [if_pos c186] at H
        have c186b0 : (x6_1 == 0) = true := beq_iff_eq.mpr c186
        have c186b1 : (x6_1 != 0) = false := bne_eq_false_iff_eq.mpr c186
        clear c186
        replace H := Option.bind_eq_some_iff.mp H
        obtain ⟨t521, A1870, H⟩ := H
        replace H : (some t521) = some r := H
        have A187 := Aside0.mk A1870
        clear A1870
        obtain rfl := Option.some.inj H
        go_wp2_with (first | ((with_reducible refine gate_ (.load 36 (.tmp 2)) rfl ?_); refine wpList_load_row (by rfl) 36 (.tmp 2) (by rfl) _ (by rfl) 36 _ (0, 0) _ (by first | exact BK481.out | exact BK482.out | exact BK495.out | exact BK505.out | exact BK506.out | exact pQ BK481 | exact pQ BK482 | exact pQ BK495 | exact pQ BK505 | exact pQ BK506) hu36 (by rfl) (by kernel_rfl) ?_) | (go_at_call 11; (with_reducible refine (ddilaw03_awake.calls kj112  t521 _ ?side1 A187.out).mono ?_); (case side1 => exact Laid.below HLD.out (pE HB)); rintro e w188 ⟨rfl, hb⟩; replace BK481 := (pB BK481 hb); replace BK482 := (pB BK482 hb); replace HB := (pS HB hb); (try clear hb); (try clear hk)))
        go_ret
        exact pR (pE HB)
       ·
        rw [if_neg c186] at H
        exact absurd H (by simp)

end Go.Proofs.YteflcmmandlknaaDoor.PA
