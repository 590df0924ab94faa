/- The Go functions in Lean, with the proofs that the code comes to these answers: printed by this session's program (wip/px) out of the seat's translation. Conditions: each theorem's own. -/
import Derived.Test.YteflcmmandlknaaDoorPAx0
import Derived.Test.YteflcmmandlknaaDoorPAx2
import Derived.Test.YteflcmmandlknaaDoorPAx3
import Derived.Test.YteflcmmandlknaaDoorPAx5
import Derived.Test.YteflcmmandlknaaDoorPAx13
import Derived.Test.YteflcmmandlknaaDoorPAx15
namespace Go.Proofs.YteflcmmandlknaaDoor.PA
open Go.RowKit Go.Proofs.YteflcmmandlknaaDoorW.PrintWords Go.Proofs.YteflcmmandlknaaDoorW.PrintLast Go.Proofs.YteflcmmandlknaaDoorW.PrintMore
attribute [local go_sem] max2_int min2_int max_two min_two max_three min_three max_four min_four   -- for this text's walks alone
attribute [local go_sem ↓] Ext.isSome_setCell
open Press
set_option linter.unusedVariables false
set_option linter.unusedSimpArgs false

attribute [local go_sem high] eqA26
/-! ### ddilaw03_PrefixTree: function 5 -/
mutual
def ddilaw03_PrefixTree.j0 : Nat → Bool → Bool → Int → Int → Int → Bool → Int → Int → Int → Bool → Int → Int → Int → Option (Bool)
 | 0, _, _, _, _, _, _, _, _, _, _, _, _, _ => none
 | k + 1, x18, x415000, x415001, x415002, x415003, x415004, x415005, x415006, x415007, x415008, x415009, x415010, x415011 => if x18 = true then ((prefix_Overlap.f x415000 x415001 x415002 x415003 x415004 x415005 x415006 x415007).bind fun t417 => (if t417 = true then (none) else ((prefix_Within.f x415000 x415001 x415002 x415003 x415004 x415005 x415006 x415007).bind fun t418 => (if t418 = true then (none) else ((ddilaw03_awake.f k).bind fun t419 => (some t419)))))) else ((prefix_Within.f x415000 x415001 x415002 x415003 x415004 x415005 x415006 x415007).bind fun t420 => ((prefix_Within.f x415004 x415005 x415006 x415007 x415000 x415001 x415002 x415003).bind fun t421 => ((prefix_Overlap.f x415000 x415001 x415002 x415003 x415004 x415005 x415006 x415007).bind fun t422 => (if t420 = true then (if (t422 != true) = true then (ddilaw03_PrefixTree.j1 k t420 t421 t422 true x415000 x415001 x415002 x415003 x415004 x415005 x415006 x415007 x415008 x415009 x415010 x415011) else (if (t421 != ((x415000 == x415004 && (x415001 == x415005 && (x415002 == x415006))) && (x415003 == x415007))) = true then (ddilaw03_PrefixTree.j1 k t420 t421 t422 true x415000 x415001 x415002 x415003 x415004 x415005 x415006 x415007 x415008 x415009 x415010 x415011) else ((prefix_Overlap.f x415004 x415005 x415006 x415007 x415000 x415001 x415002 x415003).bind fun t423 => (ddilaw03_PrefixTree.j1 k t420 t421 t422 (t422 != t423) x415000 x415001 x415002 x415003 x415004 x415005 x415006 x415007 x415008 x415009 x415010 x415011)))) else (if (t422 != t421) = true then (ddilaw03_PrefixTree.j1 k t420 t421 t422 true x415000 x415001 x415002 x415003 x415004 x415005 x415006 x415007 x415008 x415009 x415010 x415011) else (if (false != ((x415000 == x415004 && (x415001 == x415005 && (x415002 == x415006))) && (x415003 == x415007))) = true then (ddilaw03_PrefixTree.j1 k t420 t421 t422 true x415000 x415001 x415002 x415003 x415004 x415005 x415006 x415007 x415008 x415009 x415010 x415011) else ((prefix_Overlap.f x415004 x415005 x415006 x415007 x415000 x415001 x415002 x415003).bind fun t424 => (ddilaw03_PrefixTree.j1 k t420 t421 t422 (t422 != t424) x415000 x415001 x415002 x415003 x415004 x415005 x415006 x415007 x415008 x415009 x415010 x415011))))))))
def ddilaw03_PrefixTree.j1 : Nat → Bool → Bool → Bool → Bool → Bool → Int → Int → Int → Bool → Int → Int → Int → Bool → Int → Int → Int → Option (Bool)
 | 0, _, _, _, _, _, _, _, _, _, _, _, _, _, _, _, _ => none
 | k + 1, x3, x4, x5, x77, x415000, x415001, x415002, x415003, x415004, x415005, x415006, x415007, x415008, x415009, x415010, x415011 => if x77 = true then (none) else ((prefix_Contains.f x415000 x415001 x415002 x415003 x415008 x415009 x415010).bind fun t425 => ((prefix_Contains.f x415004 x415005 x415006 x415007 x415008 x415009 x415010).bind fun t426 => (if x3 = true then (if t425 = true then (if t426 = true then (if x4 = true then (ddilaw03_PrefixTree.j2 k x3 (!x5) x415000 x415001 x415002 x415003 x415004 x415005 x415006 x415007 x415008 x415009 x415010 x415011) else (ddilaw03_PrefixTree.j2 k x3 (!x5) x415000 x415001 x415002 x415003 x415004 x415005 x415006 x415007 x415008 x415009 x415010 x415011)) else (ddilaw03_PrefixTree.j2 k x3 true x415000 x415001 x415002 x415003 x415004 x415005 x415006 x415007 x415008 x415009 x415010 x415011)) else (if x4 = true then (if t426 = true then (ddilaw03_PrefixTree.j2 k x3 true x415000 x415001 x415002 x415003 x415004 x415005 x415006 x415007 x415008 x415009 x415010 x415011) else (ddilaw03_PrefixTree.j2 k x3 false x415000 x415001 x415002 x415003 x415004 x415005 x415006 x415007 x415008 x415009 x415010 x415011)) else (ddilaw03_PrefixTree.j2 k x3 false x415000 x415001 x415002 x415003 x415004 x415005 x415006 x415007 x415008 x415009 x415010 x415011))) else (if x4 = true then (if t426 = true then (if t425 = true then (ddilaw03_PrefixTree.j2 k x3 (!x5) x415000 x415001 x415002 x415003 x415004 x415005 x415006 x415007 x415008 x415009 x415010 x415011) else (ddilaw03_PrefixTree.j2 k x3 true x415000 x415001 x415002 x415003 x415004 x415005 x415006 x415007 x415008 x415009 x415010 x415011)) else (if t425 = true then (ddilaw03_PrefixTree.j2 k x3 false x415000 x415001 x415002 x415003 x415004 x415005 x415006 x415007 x415008 x415009 x415010 x415011) else (ddilaw03_PrefixTree.j2 k x3 false x415000 x415001 x415002 x415003 x415004 x415005 x415006 x415007 x415008 x415009 x415010 x415011))) else (if t425 = true then (if t426 = true then (ddilaw03_PrefixTree.j2 k x3 (!x5) x415000 x415001 x415002 x415003 x415004 x415005 x415006 x415007 x415008 x415009 x415010 x415011) else (ddilaw03_PrefixTree.j2 k x3 false x415000 x415001 x415002 x415003 x415004 x415005 x415006 x415007 x415008 x415009 x415010 x415011)) else (ddilaw03_PrefixTree.j2 k x3 false x415000 x415001 x415002 x415003 x415004 x415005 x415006 x415007 x415008 x415009 x415010 x415011))))))
def ddilaw03_PrefixTree.j2 : Nat → Bool → Bool → Bool → Int → Int → Int → Bool → Int → Int → Int → Bool → Int → Int → Int → Option (Bool)
 | 0, _, _, _, _, _, _, _, _, _, _, _, _, _, _ => none
 | k + 1, x3, x115, x415000, x415001, x415002, x415003, x415004, x415005, x415006, x415007, x415008, x415009, x415010, x415011 => if x115 = true then (none) else ((prefix_Compare.f k x415000 x415001 x415002 x415003 x415004 x415005 x415006 x415007).bind fun t427 => ((prefix_Compare.f k x415004 x415005 x415006 x415007 x415000 x415001 x415002 x415003).bind fun t428 => (if t427 = (wrap64 (-t428)) then (if ((t427 == 0) == ((x415000 == x415004 && (x415001 == x415005 && (x415002 == x415006))) && (x415003 == x415007))) = true then (if x3 = true then (if x415003 ≥ x415007 then ((ddilaw03_awake.f k).bind fun t429 => (some t429)) else (none)) else ((ddilaw03_awake.f k).bind fun t430 => (some t430))) else (none)) else (none))))
end
def ddilaw03_PrefixTree.f (k : Nat) (a0_0 : Bool) (a0_1 : Int) (a0_2 : Int) (a0_3 : Int) (a0_4 : Bool) (a0_5 : Int) (a0_6 : Int) (a0_7 : Int) (a0_8 : Bool) (a0_9 : Int) (a0_10 : Int) (a0_11 : Int) : Option (Bool) := (prefix_Valid.f a0_0 a0_1 a0_2 a0_3).bind fun t415 => (if t415 = true then ((prefix_Valid.f a0_4 a0_5 a0_6 a0_7).bind fun t416 => (ddilaw03_PrefixTree.j0 k (!t416) a0_0 a0_1 a0_2 a0_3 a0_4 a0_5 a0_6 a0_7 a0_8 a0_9 a0_10 a0_11)) else (ddilaw03_PrefixTree.j0 k true a0_0 a0_1 a0_2 a0_3 a0_4 a0_5 a0_6 a0_7 a0_8 a0_9 a0_10 a0_11))
theorem ddilaw03_PrefixTree.mono_l : ∀ k, (∀ y0 y1 y2 y3 y4 y5 y6 y7 y8 y9 y10 y11 y12, LeO (ddilaw03_PrefixTree.j0 k y0 y1 y2 y3 y4 y5 y6 y7 y8 y9 y10 y11 y12) (ddilaw03_PrefixTree.j0 (k + 1) y0 y1 y2 y3 y4 y5 y6 y7 y8 y9 y10 y11 y12)) ∧ (∀ y0 y1 y2 y3 y4 y5 y6 y7 y8 y9 y10 y11 y12 y13 y14 y15, LeO (ddilaw03_PrefixTree.j1 k y0 y1 y2 y3 y4 y5 y6 y7 y8 y9 y10 y11 y12 y13 y14 y15) (ddilaw03_PrefixTree.j1 (k + 1) y0 y1 y2 y3 y4 y5 y6 y7 y8 y9 y10 y11 y12 y13 y14 y15)) ∧ (∀ y0 y1 y2 y3 y4 y5 y6 y7 y8 y9 y10 y11 y12 y13, LeO (ddilaw03_PrefixTree.j2 k y0 y1 y2 y3 y4 y5 y6 y7 y8 y9 y10 y11 y12 y13) (ddilaw03_PrefixTree.j2 (k + 1) y0 y1 y2 y3 y4 y5 y6 y7 y8 y9 y10 y11 y12 y13))
 | 0 => ⟨fun _ _ _ _ _ _ _ _ _ _ _ _ _ r h => by simp [ddilaw03_PrefixTree.j0] at h, fun _ _ _ _ _ _ _ _ _ _ _ _ _ _ _ _ r h => by simp [ddilaw03_PrefixTree.j1] at h, fun _ _ _ _ _ _ _ _ _ _ _ _ _ _ r h => by simp [ddilaw03_PrefixTree.j2] at h⟩
 | k + 1 => by
  obtain ⟨ih0, ih1, ih2⟩ := ddilaw03_PrefixTree.mono_l k
  refine ⟨?_, ?_, ?_⟩
  ·
   intro y0 y1 y2 y3 y4 y5 y6 y7 y8 y9 y10 y11 y12
   unfold ddilaw03_PrefixTree.j0
   repeat' first
   | (with_reducible exact ih0 _ _ _ _ _ _ _ _ _ _ _ _ _)
   | (with_reducible exact ih1 _ _ _ _ _ _ _ _ _ _ _ _ _ _ _ _)
   | (with_reducible exact ih2 _ _ _ _ _ _ _ _ _ _ _ _ _ _)
   | (with_reducible exact ddilaw03_awake.mono _)
   | (with_reducible exact prefix_Compare.mono _ _ _ _ _ _ _ _ _)
   | (with_reducible exact LeO.refl _)
   | (with_reducible exact LeO.none _)
   | (with_reducible refine LeO.ite ?_ ?_)
   | (with_reducible refine LeO.bind ?_ (fun _ => ?_))
   | exact ih0 _ _ _ _ _ _ _ _ _ _ _ _ _
   | exact ih1 _ _ _ _ _ _ _ _ _ _ _ _ _ _ _ _
   | exact ih2 _ _ _ _ _ _ _ _ _ _ _ _ _ _
   | exact ddilaw03_awake.mono _
   | exact prefix_Compare.mono _ _ _ _ _ _ _ _ _
   | exact LeO.none _
   | refine LeO.ite ?_ ?_
   | refine LeO.bind ?_ (fun _ => ?_)
  ·
   intro y0 y1 y2 y3 y4 y5 y6 y7 y8 y9 y10 y11 y12 y13 y14 y15
   unfold ddilaw03_PrefixTree.j1
   repeat' first
   | (with_reducible exact ih0 _ _ _ _ _ _ _ _ _ _ _ _ _)
   | (with_reducible exact ih1 _ _ _ _ _ _ _ _ _ _ _ _ _ _ _ _)
   | (with_reducible exact ih2 _ _ _ _ _ _ _ _ _ _ _ _ _ _)
   | (with_reducible exact ddilaw03_awake.mono _)
   | (with_reducible exact prefix_Compare.mono _ _ _ _ _ _ _ _ _)
   | (with_reducible exact LeO.refl _)
   | (with_reducible exact LeO.none _)
   | (with_reducible refine LeO.ite ?_ ?_)
   | (with_reducible refine LeO.bind ?_ (fun _ => ?_))
   | exact ih0 _ _ _ _ _ _ _ _ _ _ _ _ _
   | exact ih1 _ _ _ _ _ _ _ _ _ _ _ _ _ _ _ _
   | exact ih2 _ _ _ _ _ _ _ _ _ _ _ _ _ _
   | exact ddilaw03_awake.mono _
   | exact prefix_Compare.mono _ _ _ _ _ _ _ _ _
   | exact LeO.none _
   | refine LeO.ite ?_ ?_
   | refine LeO.bind ?_ (fun _ => ?_)
  ·
   intro y0 y1 y2 y3 y4 y5 y6 y7 y8 y9 y10 y11 y12 y13
   unfold ddilaw03_PrefixTree.j2
   repeat' first
   | (with_reducible exact ih0 _ _ _ _ _ _ _ _ _ _ _ _ _)
   | (with_reducible exact ih1 _ _ _ _ _ _ _ _ _ _ _ _ _ _ _ _)
   | (with_reducible exact ih2 _ _ _ _ _ _ _ _ _ _ _ _ _ _)
   | (with_reducible exact ddilaw03_awake.mono _)
   | (with_reducible exact prefix_Compare.mono _ _ _ _ _ _ _ _ _)
   | (with_reducible exact LeO.refl _)
   | (with_reducible exact LeO.none _)
   | (with_reducible refine LeO.ite ?_ ?_)
   | (with_reducible refine LeO.bind ?_ (fun _ => ?_))
   | exact ih0 _ _ _ _ _ _ _ _ _ _ _ _ _
   | exact ih1 _ _ _ _ _ _ _ _ _ _ _ _ _ _ _ _
   | exact ih2 _ _ _ _ _ _ _ _ _ _ _ _ _ _
   | exact ddilaw03_awake.mono _
   | exact prefix_Compare.mono _ _ _ _ _ _ _ _ _
   | exact LeO.none _
   | refine LeO.ite ?_ ?_
   | refine LeO.bind ?_ (fun _ => ?_)
theorem ddilaw03_PrefixTree.mono : ∀ a0 a1 a2 a3 a4 a5 a6 a7 a8 a9 a10 a11 k, LeO (ddilaw03_PrefixTree.f k a0 a1 a2 a3 a4 a5 a6 a7 a8 a9 a10 a11) (ddilaw03_PrefixTree.f (k + 1) a0 a1 a2 a3 a4 a5 a6 a7 a8 a9 a10 a11) := by
 intro a0 a1 a2 a3 a4 a5 a6 a7 a8 a9 a10 a11 k
 obtain ⟨ih0, ih1, ih2⟩ := ddilaw03_PrefixTree.mono_l k
 unfold ddilaw03_PrefixTree.f
 repeat' first
  | (with_reducible exact ih0 _ _ _ _ _ _ _ _ _ _ _ _ _)
  | (with_reducible exact ih1 _ _ _ _ _ _ _ _ _ _ _ _ _ _ _ _)
  | (with_reducible exact ih2 _ _ _ _ _ _ _ _ _ _ _ _ _ _)
  | (with_reducible exact ddilaw03_awake.mono _)
  | (with_reducible exact prefix_Compare.mono _ _ _ _ _ _ _ _ _)
  | (with_reducible exact LeO.refl _)
  | (with_reducible exact LeO.none _)
  | (with_reducible refine LeO.ite ?_ ?_)
  | (with_reducible refine LeO.bind ?_ (fun _ => ?_))
  | exact ih0 _ _ _ _ _ _ _ _ _ _ _ _ _
  | exact ih1 _ _ _ _ _ _ _ _ _ _ _ _ _ _ _ _
  | exact ih2 _ _ _ _ _ _ _ _ _ _ _ _ _ _
  | exact ddilaw03_awake.mono _
  | exact prefix_Compare.mono _ _ _ _ _ _ _ _ _
  | exact LeO.none _
  | refine LeO.ite ?_ ?_
  | refine LeO.bind ?_ (fun _ => ?_)
def ddilaw03_PrefixTree.T3 : Bool × List (List Nat × List Nat) := (true, [([], []), ([0], [0]), ([], []), ([2], [2]), ([1, 3], [1, 3]), ([], []), ([5], [5]), ([], []), ([7], [7]), ([6, 8, 4], [6, 8]), ([], []), ([10], [10]), ([], []), ([12], [12]), ([11, 13, 9], [11, 13]), ([4, 14, 0, 1, 2, 3, 4], [4]), ([9, 15, 0, 1, 2, 3, 4, 5, 6, 7, 8, 9, 15], [9]), ([14, 16, 0, 1, 2, 3, 4, 5, 6, 7, 8, 9, 10, 11, 12, 13, 14, 15, 16], [14])])
def ddilaw03_PrefixTree.B3 : List Nat := [0, 1, 0, 4, 15, 0, 32, 0, 128, 511, 0, 1024, 0, 4096, 16383, 32767, 65535, 131071]
theorem ddilaw03_PrefixTree.tab3 : rtab .any (opsOf Tryd.f5 3) = ddilaw03_PrefixTree.T3 := by kernel_rfl
theorem ddilaw03_PrefixTree.bits3 : waitsOk ddilaw03_PrefixTree.T3.2 ddilaw03_PrefixTree.B3 = true := by kernel_rfl
def ddilaw03_PrefixTree.T6 : Bool × List (List Nat × List Nat) := (true, [([], []), ([0], [0]), ([], []), ([2], [2]), ([1, 3], [1, 3]), ([], []), ([5], [5]), ([], []), ([7], [7]), ([6, 8, 4], [6, 8]), ([4, 9, 0, 1, 2, 3, 4], [4]), ([9, 10, 0, 1, 2, 3, 4, 5, 6, 7, 8, 9, 10], [9])])
def ddilaw03_PrefixTree.B6 : List Nat := [0, 1, 0, 4, 15, 0, 32, 0, 128, 511, 1023, 2047]
theorem ddilaw03_PrefixTree.tab6 : rtab .any (opsOf Tryd.f5 6) = ddilaw03_PrefixTree.T6 := by kernel_rfl
theorem ddilaw03_PrefixTree.bits6 : waitsOk ddilaw03_PrefixTree.T6.2 ddilaw03_PrefixTree.B6 = true := by kernel_rfl
set_option maxHeartbeats 40000000 in
set_option maxRecDepth 100000 in
theorem ddilaw03_PrefixTree.calls (k : Nat) (a0_0 : Bool) (a0_1 : Int) (a0_2 : Int) (a0_3 : Int) (a0_4 : Bool) (a0_5 : Int) (a0_6 : Int) (a0_7 : Int) (a0_8 : Bool) (a0_9 : Int) (a0_10 : Int) (a0_11 : Int) (r : Bool) (w : World) (hLD : Laid w) (h : ddilaw03_PrefixTree.f k a0_0 a0_1 a0_2 a0_3 a0_4 a0_5 a0_6 a0_7 a0_8 a0_9 a0_10 a0_11 = some r) :
 Calls Tryd.prog 5 #[.agg #[.bool a0_0, .int .u64 a0_1, .int .u64 a0_2, .int .i64 a0_3, .bool a0_4, .int .u64 a0_5, .int .u64 a0_6, .int .i64 a0_7, .bool a0_8, .int .u64 a0_9, .int .u64 a0_10, .int .i64 a0_11]] w fun e w' => e = .returned (.bool r) ∧ Below w.heap.size w w' := by
 have hu48 := Tryd.underlying48
 have hu26 := Tryd.underlying26
 have hu24 := Tryd.underlying24
 have HLD := Aside0.mk hLD
 clear hLD
 have HB := Aside0.mk (Below.refl w.heap.size w)
 have H : ((prefix_Valid.f a0_0 a0_1 a0_2 a0_3).bind fun t415 => (if t415 = true then ((prefix_Valid.f a0_4 a0_5 a0_6 a0_7).bind fun t416 => (ddilaw03_PrefixTree.j0 k (!t416) a0_0 a0_1 a0_2 a0_3 a0_4 a0_5 a0_6 a0_7 a0_8 a0_9 a0_10 a0_11)) else (ddilaw03_PrefixTree.j0 k true a0_0 a0_1 a0_2 a0_3 a0_4 a0_5 a0_6 a0_7 a0_8 a0_9 a0_10 a0_11))) = some r := h
 clear h
 have HC2 := Aside0.mk H
 clear H
 go_enter Tryd.func5, Tryd.ntmps5
 go_upto_region 1 with (first | ((with_reducible refine gate_dst (N := 1) rfl ?_); refine boxA (N := 1) (cs := #[.bool a0_0, .int .u64 a0_1, .int .u64 a0_2, .int .i64 a0_3, .bool a0_4, .int .u64 a0_5, .int .u64 a0_6, .int .i64 a0_7, .bool a0_8, .int .u64 a0_9, .int .u64 a0_10, .int .i64 a0_11]) (t := 48) ?_; intro gb414 hg w3 hbox hb; have BK414 := Aside0.mk (hbox); have GW414 := (pZ HB hg); have GE414 := (pZ HB hg); replace HB := (pS HB hb); clear hb hbox hg))
 (try simp only [Act.put, List.setIfInBounds_toArray, List.set_cons_zero, List.set_cons_succ])
 go_cut [18] (fun v18 wc => ∃ (kq : Nat) (x18_1 : Bool), v18 = .bool x18_1 ∧ Aside0 (ddilaw03_PrefixTree.j0 kq x18_1 a0_0 a0_1 a0_2 a0_3 a0_4 a0_5 a0_6 a0_7 a0_8 a0_9 a0_10 a0_11 = some r) ∧ Aside0 (kq ≤ k) ∧ Aside0 (wc.heap[gb414]? = some (.cells #[.bool a0_0, .int .u64 a0_1, .int .u64 a0_2, .int .i64 a0_3, .bool a0_4, .int .u64 a0_5, .int .u64 a0_6, .int .i64 a0_7, .bool a0_8, .int .u64 a0_9, .int .u64 a0_10, .int .i64 a0_11] 48 (0, 0))) ∧ Aside0 (Below w.heap.size w wc))
 case first =>
  have H := HC2.out
  clear HC2
  replace H := Option.bind_eq_some_iff.mp H
  obtain ⟨t415, A40, H⟩ := H
  replace H : (if t415 = true then ((prefix_Valid.f a0_4 a0_5 a0_6 a0_7).bind fun t416 => (ddilaw03_PrefixTree.j0 k (!t416) a0_0 a0_1 a0_2 a0_3 a0_4 a0_5 a0_6 a0_7 a0_8 a0_9 a0_10 a0_11)) else (ddilaw03_PrefixTree.j0 k true a0_0 a0_1 a0_2 a0_3 a0_4 a0_5 a0_6 a0_7 a0_8 a0_9 a0_10 a0_11)) = some r := H
  have A4 := Aside0.mk A40
  clear A40
  by_cases c5 : t415 = true
  ·
   subst c5
   rw [if_pos rfl] at H
   replace H := Option.bind_eq_some_iff.mp H
   obtain ⟨t416, A60, H⟩ := H
   replace H : (ddilaw03_PrefixTree.j0 k (!t416) a0_0 a0_1 a0_2 a0_3 a0_4 a0_5 a0_6 a0_7 a0_8 a0_9 a0_10 a0_11) = some r := H
   have A6 := Aside0.mk A60
   clear A60
   have H' := Aside0.mk H
   clear H
   obtain ⟨hcz7_0, hcz7_1, hcz7_2, hcz7_3, hcz7_4, hcz7_5, hcz7_6, hcz7_7, hcz7_8, hcz7_9, hcz7_10, hcz7_11, hfz7_0, hfz7_1, hfz7_2, hfz7_3, hfz7_4, hfz7_5, hfz7_6, hfz7_7, hfz7_8, hfz7_9, hfz7_10, hfz7_11⟩ := pC12 BK414
   go_wp2_with (first | ((with_reducible refine gate_callee (f := 9) rfl ?_); refine goesA (some 11) Tryd.func9 #[.agg #[.bool a0_0, .int .u64 a0_1, .int .u64 a0_2, .int .i64 a0_3]] ?_; (with_reducible refine (prefix_Valid.calls a0_0 a0_1 a0_2 a0_3 true _ A4.out).mono ?_); rintro e w8 ⟨rfl, hb⟩; refine ⟨_, rfl, ?_⟩; replace BK414 := (pB BK414 hb); replace HB := (pS HB hb); (try clear hb); obtain ⟨hcz9_0, hcz9_1, hcz9_2, hcz9_3, hcz9_4, hcz9_5, hcz9_6, hcz9_7, hcz9_8, hcz9_9, hcz9_10, hcz9_11, hfz9_0, hfz9_1, hfz9_2, hfz9_3, hfz9_4, hfz9_5, hfz9_6, hfz9_7, hfz9_8, hfz9_9, hfz9_10, hfz9_11⟩ := pC12 BK414) | (go_at_call 9; (with_reducible refine (prefix_Valid.calls a0_4 a0_5 a0_6 a0_7 t416 _ A6.out).mono ?_); rintro e w10 ⟨rfl, hb⟩; replace BK414 := (pB BK414 hb); replace HB := (pS HB hb); (try clear hb)))
   go_meet
   case rel => exact ⟨_, (!t416), pT, H', ⟨by first | omega | exact Nat.le_refl _⟩, ⟨pM BK414⟩, ⟨pE HB⟩⟩
  ·
   replace c5 := Bool.eq_false_iff.mpr c5
   subst c5
   rw [if_neg (show ¬ (false = true) by decide)] at H
   have H' := Aside0.mk H
   clear H
   obtain ⟨hcz11_0, hcz11_1, hcz11_2, hcz11_3, hcz11_4, hcz11_5, hcz11_6, hcz11_7, hcz11_8, hcz11_9, hcz11_10, hcz11_11, hfz11_0, hfz11_1, hfz11_2, hfz11_3, hfz11_4, hfz11_5, hfz11_6, hfz11_7, hfz11_8, hfz11_9, hfz11_10, hfz11_11⟩ := pC12 BK414
   go_wp2_with (first | ((with_reducible refine gate_callee (f := 9) rfl ?_); refine goesA (some 11) Tryd.func9 #[.agg #[.bool a0_0, .int .u64 a0_1, .int .u64 a0_2, .int .i64 a0_3]] ?_; (with_reducible refine (prefix_Valid.calls a0_0 a0_1 a0_2 a0_3 false _ A4.out).mono ?_); rintro e w12 ⟨rfl, hb⟩; refine ⟨_, rfl, ?_⟩; replace BK414 := (pB BK414 hb); replace HB := (pS HB hb); (try clear hb)))
   go_meet
   case rel => exact ⟨_, (true), pT, H', ⟨by first | omega | exact Nat.le_refl _⟩, ⟨pM BK414⟩, ⟨pE HB⟩⟩
 case rest =>
  clear HC2
  try clear p2
  try clear c5
  try clear c9
  try clear hcz11_0 hcz11_1 hcz11_10 hcz11_11 hcz11_2 hcz11_3 hcz11_4 hcz11_5 hcz11_6 hcz11_7 hcz11_8 hcz11_9
  try clear hcz7_0 hcz7_1 hcz7_10 hcz7_11 hcz7_2 hcz7_3 hcz7_4 hcz7_5 hcz7_6 hcz7_7 hcz7_8 hcz7_9
  try clear hcz9_0 hcz9_1 hcz9_10 hcz9_11 hcz9_2 hcz9_3 hcz9_4 hcz9_5 hcz9_6 hcz9_7 hcz9_8 hcz9_9
  try clear hfz11_0 hfz11_1 hfz11_10 hfz11_11 hfz11_2 hfz11_3 hfz11_4 hfz11_5 hfz11_6 hfz11_7 hfz11_8 hfz11_9
  try clear hfz7_0 hfz7_1 hfz7_10 hfz7_11 hfz7_2 hfz7_3 hfz7_4 hfz7_5 hfz7_6 hfz7_7 hfz7_8 hfz7_9
  try clear hfz9_0 hfz9_1 hfz9_10 hfz9_11 hfz9_2 hfz9_3 hfz9_4 hfz9_5 hfz9_6 hfz9_7 hfz9_8 hfz9_9
  obtain ⟨kq, x18_1, rfl, HA, HJ1, BK414, HB⟩ := hcut
  cases kq with
  | zero => exact absurd HA.out (by simp [ddilaw03_PrefixTree.j0])
  | succ kj1 =>
   have H := HA.out
   clear HA
   simp only [ddilaw03_PrefixTree.j0] at H
   by_cases c13 : x18_1 = true
   ·
    subst c13
    rw [if_pos rfl] at H
    replace H := Option.bind_eq_some_iff.mp H
    obtain ⟨t417, A140, H⟩ := H
    replace H : (if t417 = true then (none) else ((prefix_Within.f a0_0 a0_1 a0_2 a0_3 a0_4 a0_5 a0_6 a0_7).bind fun t418 => (if t418 = true then (none) else ((ddilaw03_awake.f kj1).bind fun t419 => (some t419))))) = some r := H
    have A14 := Aside0.mk A140
    clear A140
    by_cases c15 : t417 = true
    ·
     subst c15
     rw [if_pos rfl] at H
     exact absurd H (by simp)
    ·
     replace c15 := Bool.eq_false_iff.mpr c15
     subst c15
     rw [if_neg (show ¬ (false = true) by decide)] at H
     replace H := Option.bind_eq_some_iff.mp H
     obtain ⟨t418, A160, H⟩ := H
     replace H : (if t418 = true then (none) else ((ddilaw03_awake.f kj1).bind fun t419 => (some t419))) = some r := H
     have A16 := Aside0.mk A160
     clear A160
     by_cases c17 : t418 = true
     ·
      subst c17
      rw [if_pos rfl] at H
      exact absurd H (by simp)
     ·
      replace c17 := Bool.eq_false_iff.mpr c17
      subst c17
      rw [if_neg (show ¬ (false = true) by decide)] at H
      replace H := Option.bind_eq_some_iff.mp H
      obtain ⟨t419, A180, H⟩ := H
      replace H : (some t419) = some r := H
      have A18 := Aside0.mk A180
      clear A180
      obtain rfl := Option.some.inj H
      obtain ⟨hcz19_0, hcz19_1, hcz19_2, hcz19_3, hcz19_4, hcz19_5, hcz19_6, hcz19_7, hcz19_8, hcz19_9, hcz19_10, hcz19_11, hfz19_0, hfz19_1, hfz19_2, hfz19_3, hfz19_4, hfz19_5, hfz19_6, hfz19_7, hfz19_8, hfz19_9, hfz19_10, hfz19_11⟩ := pC12 BK414
      go_wp2_with (first | ((with_reducible refine gate_callee (f := 19) rfl ?_); refine goesA (some 23) Tryd.func19 #[.agg #[.bool a0_0, .int .u64 a0_1, .int .u64 a0_2, .int .i64 a0_3], .agg #[.bool a0_4, .int .u64 a0_5, .int .u64 a0_6, .int .i64 a0_7]] ?_; (with_reducible refine (prefix_Overlap.calls a0_0 a0_1 a0_2 a0_3 a0_4 a0_5 a0_6 a0_7 false _ A14.out).mono ?_); rintro e w20 ⟨rfl, hb⟩; refine ⟨_, rfl, ?_⟩; replace BK414 := (pB BK414 hb); replace HB := (pS HB hb); (try clear hb); obtain ⟨hcz21_0, hcz21_1, hcz21_2, hcz21_3, hcz21_4, hcz21_5, hcz21_6, hcz21_7, hcz21_8, hcz21_9, hcz21_10, hcz21_11, hfz21_0, hfz21_1, hfz21_2, hfz21_3, hfz21_4, hfz21_5, hfz21_6, hfz21_7, hfz21_8, hfz21_9, hfz21_10, hfz21_11⟩ := pC12 BK414) | (go_at_call 20; (with_reducible refine (prefix_Within.calls a0_0 a0_1 a0_2 a0_3 a0_4 a0_5 a0_6 a0_7 false _ A16.out).mono ?_); rintro e w22 ⟨rfl, hb⟩; replace BK414 := (pB BK414 hb); replace HB := (pS HB hb); (try clear hb)) | (go_at_call 11; (with_reducible refine (ddilaw03_awake.calls kj1  t419 _ ?side1 A18.out).mono ?_); (case side1 => exact Laid.below HLD.out (pE HB)); rintro e w23 ⟨rfl, hb⟩; replace BK414 := (pB BK414 hb); replace HB := (pS HB hb); (try clear hb)))
      go_ret
      exact pR (pE HB)
   ·
    replace c13 := Bool.eq_false_iff.mpr c13
    subst c13
    rw [if_neg (show ¬ (false = true) by decide)] at H
    replace H := Option.bind_eq_some_iff.mp H
    obtain ⟨t420, A240, H⟩ := H
    replace H : ((prefix_Within.f a0_4 a0_5 a0_6 a0_7 a0_0 a0_1 a0_2 a0_3).bind fun t421 => ((prefix_Overlap.f a0_0 a0_1 a0_2 a0_3 a0_4 a0_5 a0_6 a0_7).bind fun t422 => (if t420 = true then (if (t422 != true) = true then (ddilaw03_PrefixTree.j1 kj1 t420 t421 t422 true a0_0 a0_1 a0_2 a0_3 a0_4 a0_5 a0_6 a0_7 a0_8 a0_9 a0_10 a0_11) else (if (t421 != ((a0_0 == a0_4 && (a0_1 == a0_5 && (a0_2 == a0_6))) && (a0_3 == a0_7))) = true then (ddilaw03_PrefixTree.j1 kj1 t420 t421 t422 true a0_0 a0_1 a0_2 a0_3 a0_4 a0_5 a0_6 a0_7 a0_8 a0_9 a0_10 a0_11) else ((prefix_Overlap.f a0_4 a0_5 a0_6 a0_7 a0_0 a0_1 a0_2 a0_3).bind fun t423 => (ddilaw03_PrefixTree.j1 kj1 t420 t421 t422 (t422 != t423) a0_0 a0_1 a0_2 a0_3 a0_4 a0_5 a0_6 a0_7 a0_8 a0_9 a0_10 a0_11)))) else (if (t422 != t421) = true then (ddilaw03_PrefixTree.j1 kj1 t420 t421 t422 true a0_0 a0_1 a0_2 a0_3 a0_4 a0_5 a0_6 a0_7 a0_8 a0_9 a0_10 a0_11) else (if (false != ((a0_0 == a0_4 && (a0_1 == a0_5 && (a0_2 == a0_6))) && (a0_3 == a0_7))) = true then (ddilaw03_PrefixTree.j1 kj1 t420 t421 t422 true a0_0 a0_1 a0_2 a0_3 a0_4 a0_5 a0_6 a0_7 a0_8 a0_9 a0_10 a0_11) else ((prefix_Overlap.f a0_4 a0_5 a0_6 a0_7 a0_0 a0_1 a0_2 a0_3).bind fun t424 => (ddilaw03_PrefixTree.j1 kj1 t420 t421 t422 (t422 != t424) a0_0 a0_1 a0_2 a0_3 a0_4 a0_5 a0_6 a0_7 a0_8 a0_9 a0_10 a0_11))))))) = some r := H
    have A24 := Aside0.mk A240
    clear A240
    replace H := Option.bind_eq_some_iff.mp H
    obtain ⟨t421, A250, H⟩ := H
    replace H : ((prefix_Overlap.f a0_0 a0_1 a0_2 a0_3 a0_4 a0_5 a0_6 a0_7).bind fun t422 => (if t420 = true then (if (t422 != true) = true then (ddilaw03_PrefixTree.j1 kj1 t420 t421 t422 true a0_0 a0_1 a0_2 a0_3 a0_4 a0_5 a0_6 a0_7 a0_8 a0_9 a0_10 a0_11) else (if (t421 != ((a0_0 == a0_4 && (a0_1 == a0_5 && (a0_2 == a0_6))) && (a0_3 == a0_7))) = true then (ddilaw03_PrefixTree.j1 kj1 t420 t421 t422 true a0_0 a0_1 a0_2 a0_3 a0_4 a0_5 a0_6 a0_7 a0_8 a0_9 a0_10 a0_11) else ((prefix_Overlap.f a0_4 a0_5 a0_6 a0_7 a0_0 a0_1 a0_2 a0_3).bind fun t423 => (ddilaw03_PrefixTree.j1 kj1 t420 t421 t422 (t422 != t423) a0_0 a0_1 a0_2 a0_3 a0_4 a0_5 a0_6 a0_7 a0_8 a0_9 a0_10 a0_11)))) else (if (t422 != t421) = true then (ddilaw03_PrefixTree.j1 kj1 t420 t421 t422 true a0_0 a0_1 a0_2 a0_3 a0_4 a0_5 a0_6 a0_7 a0_8 a0_9 a0_10 a0_11) else (if (false != ((a0_0 == a0_4 && (a0_1 == a0_5 && (a0_2 == a0_6))) && (a0_3 == a0_7))) = true then (ddilaw03_PrefixTree.j1 kj1 t420 t421 t422 true a0_0 a0_1 a0_2 a0_3 a0_4 a0_5 a0_6 a0_7 a0_8 a0_9 a0_10 a0_11) else ((prefix_Overlap.f a0_4 a0_5 a0_6 a0_7 a0_0 a0_1 a0_2 a0_3).bind fun t424 => (ddilaw03_PrefixTree.j1 kj1 t420 t421 t422 (t422 != t424) a0_0 a0_1 a0_2 a0_3 a0_4 a0_5 a0_6 a0_7 a0_8 a0_9 a0_10 a0_11)))))) = some r := H
    have A25 := Aside0.mk A250
    clear A250
    replace H := Option.bind_eq_some_iff.mp H
    obtain ⟨t422, A260, H⟩ := H
    replace H : (if t420 = true then (if (t422 != true) = true then (ddilaw03_PrefixTree.j1 kj1 t420 t421 t422 true a0_0 a0_1 a0_2 a0_3 a0_4 a0_5 a0_6 a0_7 a0_8 a0_9 a0_10 a0_11) else (if (t421 != ((a0_0 == a0_4 && (a0_1 == a0_5 && (a0_2 == a0_6))) && (a0_3 == a0_7))) = true then (ddilaw03_PrefixTree.j1 kj1 t420 t421 t422 true a0_0 a0_1 a0_2 a0_3 a0_4 a0_5 a0_6 a0_7 a0_8 a0_9 a0_10 a0_11) else ((prefix_Overlap.f a0_4 a0_5 a0_6 a0_7 a0_0 a0_1 a0_2 a0_3).bind fun t423 => (ddilaw03_PrefixTree.j1 kj1 t420 t421 t422 (t422 != t423) a0_0 a0_1 a0_2 a0_3 a0_4 a0_5 a0_6 a0_7 a0_8 a0_9 a0_10 a0_11)))) else (if (t422 != t421) = true then (ddilaw03_PrefixTree.j1 kj1 t420 t421 t422 true a0_0 a0_1 a0_2 a0_3 a0_4 a0_5 a0_6 a0_7 a0_8 a0_9 a0_10 a0_11) else (if (false != ((a0_0 == a0_4 && (a0_1 == a0_5 && (a0_2 == a0_6))) && (a0_3 == a0_7))) = true then (ddilaw03_PrefixTree.j1 kj1 t420 t421 t422 true a0_0 a0_1 a0_2 a0_3 a0_4 a0_5 a0_6 a0_7 a0_8 a0_9 a0_10 a0_11) else ((prefix_Overlap.f a0_4 a0_5 a0_6 a0_7 a0_0 a0_1 a0_2 a0_3).bind fun t424 => (ddilaw03_PrefixTree.j1 kj1 t420 t421 t422 (t422 != t424) a0_0 a0_1 a0_2 a0_3 a0_4 a0_5 a0_6 a0_7 a0_8 a0_9 a0_10 a0_11))))) = some r := H
    have A26 := Aside0.mk A260
    clear A260
    have HC27 := Aside0.mk H
    clear H
    try go_wp2
    replace BK414 := Aside0.mk (blk_drew BK414.out)
    replace HB := Aside0.mk (below_drew1 HB.out)
    refine start_ (n := 18) (S := fun w' => w'.cell? ⟨gb414, 0, none⟩ = some (.bool a0_0) ∧ w'.cell? ⟨gb414, 1, none⟩ = some (.int .u64 a0_1) ∧ w'.cell? ⟨gb414, 2, none⟩ = some (.int .u64 a0_2) ∧ w'.cell? ⟨gb414, 3, none⟩ = some (.int .i64 a0_3) ∧ w'.cell? ⟨gb414, 4, none⟩ = some (.bool a0_4) ∧ w'.cell? ⟨gb414, 5, none⟩ = some (.int .u64 a0_5) ∧ w'.cell? ⟨gb414, 6, none⟩ = some (.int .u64 a0_6) ∧ w'.cell? ⟨gb414, 7, none⟩ = some (.int .i64 a0_7) ∧ w'.cell? ⟨gb414, 8, none⟩ = some (.bool a0_8) ∧ w'.cell? ⟨gb414, 9, none⟩ = some (.int .u64 a0_9) ∧ w'.cell? ⟨gb414, 10, none⟩ = some (.int .u64 a0_10) ∧ w'.cell? ⟨gb414, 11, none⟩ = some (.int .i64 a0_11)) (ds := []) (tk 18 0) (by kernel_rfl) rfl rfl ⟨(blk_cell BK414.out 0).trans rfl, (blk_cell BK414.out 1).trans rfl, (blk_cell BK414.out 2).trans rfl, (blk_cell BK414.out 3).trans rfl, (blk_cell BK414.out 4).trans rfl, (blk_cell BK414.out 5).trans rfl, (blk_cell BK414.out 6).trans rfl, (blk_cell BK414.out 7).trans rfl, (blk_cell BK414.out 8).trans rfl, (blk_cell BK414.out 9).trans rfl, (blk_cell BK414.out 10).trans rfl, (blk_cell BK414.out 11).trans rfl⟩ (fun hHeld => ?_); refine with_tabW ddilaw03_PrefixTree.tab3 ddilaw03_PrefixTree.bits3 (fun HT_ HW_ => ?_)
    generalize wc.drew = w28 at BK414 HB hHeld ⊢
    refine pureA (i := 0) (some 36) HT_ (tk 18 1) ?_
    refine pureA (i := 2) (some 38) HT_ (tr [1, 1, 1, 15]) ?_
    refine pureA (i := 5) (some 41) HT_ (tr [1, 1, 1, 2, 1, 12]) ?_
    refine pureA (i := 7) (some 43) HT_ (tr [1, 1, 1, 2, 1, 1, 1, 10]) ?_
    refine pureA (i := 10) (some 46) HT_ (tr [1, 1, 1, 2, 1, 1, 1, 2, 1, 7]) ?_
    refine pureA (i := 12) (some 48) HT_ (tr [1, 1, 1, 2, 1, 1, 1, 2, 1, 1, 1, 5]) ?_
    refine takeA (i := 1) (some 37) HT_ HW_ (tr [3, 2, 1, 1, 1, 2, 1, 1, 1, 5]) hHeld ?_
    refine takeA (i := 3) (some 39) HT_ HW_ (tr [4, 1, 1, 1, 1, 2, 1, 1, 1, 5]) hHeld ?_
    refine takeA (i := 6) (some 42) HT_ HW_ (tr [4, 1, 3, 2, 1, 1, 1, 5]) hHeld ?_
    refine takeA (i := 8) (some 44) HT_ HW_ (tr [4, 1, 4, 1, 1, 1, 1, 5]) hHeld ?_
    refine takeA (i := 11) (some 47) HT_ HW_ (tr [4, 1, 4, 1, 3, 5]) hHeld ?_
    refine takeA (i := 13) (some 49) HT_ HW_ (tr [4, 1, 4, 1, 4, 4]) hHeld ?_
    refine one_ (i := 4) (N := some 40) (tr [9, 1, 4, 4]) rfl rfl (one_of HT_.out (by kernel_rfl)) (by decide) (fun K hK => ?_)
    refine goesR Tryd.func20 #[.agg #[.bool a0_0, .int .u64 a0_1, .int .u64 a0_2, .int .i64 a0_3], .agg #[.bool a0_4, .int .u64 a0_5, .int .u64 a0_6, .int .i64 a0_7]] ?_
    with_reducible refine (prefix_Within.calls a0_0 a0_1 a0_2 a0_3 a0_4 a0_5 a0_6 a0_7 t420 _ A24.out).mono ?_
    rintro e w29 ⟨rfl, hb⟩
    refine ⟨_, rfl, ?_⟩
    replace BK414 := (pB BK414 hb)
    replace HB := (pS HB hb)
    (try clear hb)
    refine hK.out _ _ ⟨(blk_cell BK414.out 0).trans rfl, (blk_cell BK414.out 1).trans rfl, (blk_cell BK414.out 2).trans rfl, (blk_cell BK414.out 3).trans rfl, (blk_cell BK414.out 4).trans rfl, (blk_cell BK414.out 5).trans rfl, (blk_cell BK414.out 6).trans rfl, (blk_cell BK414.out 7).trans rfl, (blk_cell BK414.out 8).trans rfl, (blk_cell BK414.out 9).trans rfl, (blk_cell BK414.out 10).trans rfl, (blk_cell BK414.out 11).trans rfl⟩ (fun hHeld => ?_)
    clear hK K
    refine normA (N := some 40) ?_
    refine one_ (i := 9) (N := some 45) (tk 18 14) rfl rfl (one_of HT_.out (by kernel_rfl)) (by decide) (fun K hK => ?_)
    refine goesR Tryd.func20 #[.agg #[.bool a0_4, .int .u64 a0_5, .int .u64 a0_6, .int .i64 a0_7], .agg #[.bool a0_0, .int .u64 a0_1, .int .u64 a0_2, .int .i64 a0_3]] ?_
    with_reducible refine (prefix_Within.calls a0_4 a0_5 a0_6 a0_7 a0_0 a0_1 a0_2 a0_3 t421 _ A25.out).mono ?_
    rintro e w30 ⟨rfl, hb⟩
    refine ⟨_, rfl, ?_⟩
    replace BK414 := (pB BK414 hb)
    replace HB := (pS HB hb)
    (try clear hb)
    refine hK.out _ _ ⟨(blk_cell BK414.out 0).trans rfl, (blk_cell BK414.out 1).trans rfl, (blk_cell BK414.out 2).trans rfl, (blk_cell BK414.out 3).trans rfl, (blk_cell BK414.out 4).trans rfl, (blk_cell BK414.out 5).trans rfl, (blk_cell BK414.out 6).trans rfl, (blk_cell BK414.out 7).trans rfl, (blk_cell BK414.out 8).trans rfl, (blk_cell BK414.out 9).trans rfl, (blk_cell BK414.out 10).trans rfl, (blk_cell BK414.out 11).trans rfl⟩ (fun hHeld => ?_)
    clear hK K
    refine normA (N := some 45) ?_
    refine one_ (i := 14) (N := some 50) (tk 18 15) rfl rfl (one_of HT_.out (by kernel_rfl)) (by decide) (fun K hK => ?_)
    refine goesR Tryd.func19 #[.agg #[.bool a0_0, .int .u64 a0_1, .int .u64 a0_2, .int .i64 a0_3], .agg #[.bool a0_4, .int .u64 a0_5, .int .u64 a0_6, .int .i64 a0_7]] ?_
    with_reducible refine (prefix_Overlap.calls a0_0 a0_1 a0_2 a0_3 a0_4 a0_5 a0_6 a0_7 t422 _ A26.out).mono ?_
    rintro e w31 ⟨rfl, hb⟩
    refine ⟨_, rfl, ?_⟩
    replace BK414 := (pB BK414 hb)
    replace HB := (pS HB hb)
    (try clear hb)
    refine hK.out _ _ ⟨(blk_cell BK414.out 0).trans rfl, (blk_cell BK414.out 1).trans rfl, (blk_cell BK414.out 2).trans rfl, (blk_cell BK414.out 3).trans rfl, (blk_cell BK414.out 4).trans rfl, (blk_cell BK414.out 5).trans rfl, (blk_cell BK414.out 6).trans rfl, (blk_cell BK414.out 7).trans rfl, (blk_cell BK414.out 8).trans rfl, (blk_cell BK414.out 9).trans rfl, (blk_cell BK414.out 10).trans rfl, (blk_cell BK414.out 11).trans rfl⟩ (fun hHeld => ?_)
    clear hK K
    refine normA (N := some 50) ?_
    refine pureA (i := 15) (some 3) HT_ (tk 18 16) ?_
    refine pureA (i := 16) (some 4) HT_ (tk 18 17) ?_
    refine pureA (i := 17) (some 5) HT_ (tk 18 18) ?_
    refine done_ (done_of HT_.out (by kernel_rfl)) ?_
    go_upto_region 4 with (fail)
    go_cut [77] (fun v77 wc => ∃ (kq : Nat) (x77_26 : Bool), v77 = .bool x77_26 ∧ Aside0 (ddilaw03_PrefixTree.j1 kq t420 t421 t422 x77_26 a0_0 a0_1 a0_2 a0_3 a0_4 a0_5 a0_6 a0_7 a0_8 a0_9 a0_10 a0_11 = some r) ∧ Aside0 (kq ≤ kj1) ∧ Aside0 (wc.heap[gb414]? = some (.cells #[.bool a0_0, .int .u64 a0_1, .int .u64 a0_2, .int .i64 a0_3, .bool a0_4, .int .u64 a0_5, .int .u64 a0_6, .int .i64 a0_7, .bool a0_8, .int .u64 a0_9, .int .u64 a0_10, .int .i64 a0_11] 48 (0, 0))) ∧ Aside0 (Below w.heap.size w wc))
    case first =>
     have H := HC27.out
     clear HC27
     by_cases c32 : t420 = true
     ·
      subst c32
      rw [if_pos rfl] at H
      by_cases c33 : (t422 != true) = true
      ·
       rw [if_pos c33] at H
       have c33b0 : (t422 != true) = true := c33
       (try (have c33b1 : decide (t422 = true) = false := by simpa using c33))
       (try (have c33b2 : (t422 == true) = false := by simpa using c33))
       (try (have c33b3 : ¬ (t422 = true) := by simpa using c33))
       clear c33
       (first | rw [c33b0] | (simp only [i64_w, i32_w]; rw [c33b0]) | skip)
       have H' := Aside0.mk H
       clear H
       go_wp2
       refine Met.intro ?_
       go_step
       (repeat apply Exists.intro)
       refine ⟨?rel, ?heq_⟩
       case heq_ => first | rfl | (rw [c33b0]) | (simp only [c33b0])
       case rel => exact ⟨_, (true), pT, H', ⟨by have := HJ1.out; first | omega | exact Nat.le_refl _⟩, ⟨pM BK414⟩, ⟨pE HB⟩⟩
      ·
       rw [if_neg c33] at H
       have c33b0 : (t422 != true) = false := by simpa using c33
       (try (have c33b1 : decide (t422 = true) = true := by simpa using c33))
       (try (have c33b2 : (t422 == true) = true := by simpa using c33))
       clear c33
       (first | rw [c33b0] | (simp only [i64_w, i32_w]; rw [c33b0]) | skip)
       by_cases c34 : (t421 != ((a0_0 == a0_4 && (a0_1 == a0_5 && (a0_2 == a0_6))) && (a0_3 == a0_7))) = true
       ·
        rw [if_pos c34] at H
        have c34b0 : (t421 != ((a0_0 == a0_4 && (a0_1 == a0_5 && (a0_2 == a0_6))) && (a0_3 == a0_7))) = true := c34
        (try (have c34b1 : decide (t421 = ((a0_0 == a0_4 && (a0_1 == a0_5 && (a0_2 == a0_6))) && (a0_3 == a0_7))) = false := by simpa using c34))
        (try (have c34b2 : (t421 == ((a0_0 == a0_4 && (a0_1 == a0_5 && (a0_2 == a0_6))) && (a0_3 == a0_7))) = false := by simpa using c34))
        (try (have c34b3 : ¬ (t421 = ((a0_0 == a0_4 && (a0_1 == a0_5 && (a0_2 == a0_6))) && (a0_3 == a0_7))) := by simpa using c34))
        clear c34
        have H' := Aside0.mk H
        clear H
        obtain ⟨hcz35_0, hcz35_1, hcz35_2, hcz35_3, hcz35_4, hcz35_5, hcz35_6, hcz35_7, hcz35_8, hcz35_9, hcz35_10, hcz35_11, hfz35_0, hfz35_1, hfz35_2, hfz35_3, hfz35_4, hfz35_5, hfz35_6, hfz35_7, hfz35_8, hfz35_9, hfz35_10, hfz35_11⟩ := pC12 BK414
        go_wp2
        refine Met.intro ?_
        go_step
        (repeat apply Exists.intro)
        refine ⟨?rel, ?heq_⟩
        case heq_ => first | rfl | (rw [c33b0]) | (simp only [c33b0])
        case rel => exact ⟨_, (true), pT, H', ⟨by have := HJ1.out; first | omega | exact Nat.le_refl _⟩, ⟨pM BK414⟩, ⟨pE HB⟩⟩
       ·
        rw [if_neg c34] at H
        have c34b0 : (t421 != ((a0_0 == a0_4 && (a0_1 == a0_5 && (a0_2 == a0_6))) && (a0_3 == a0_7))) = false := by simpa using c34
        (try (have c34b1 : decide (t421 = ((a0_0 == a0_4 && (a0_1 == a0_5 && (a0_2 == a0_6))) && (a0_3 == a0_7))) = true := by simpa using c34))
        (try (have c34b2 : (t421 == ((a0_0 == a0_4 && (a0_1 == a0_5 && (a0_2 == a0_6))) && (a0_3 == a0_7))) = true := by simpa using c34))
        clear c34
        replace H := Option.bind_eq_some_iff.mp H
        obtain ⟨t423, A360, H⟩ := H
        replace H : (ddilaw03_PrefixTree.j1 kj1 true t421 t422 (t422 != t423) a0_0 a0_1 a0_2 a0_3 a0_4 a0_5 a0_6 a0_7 a0_8 a0_9 a0_10 a0_11) = some r := H
        have A36 := Aside0.mk A360
        clear A360
        have H' := Aside0.mk H
        clear H
        obtain ⟨hcz37_0, hcz37_1, hcz37_2, hcz37_3, hcz37_4, hcz37_5, hcz37_6, hcz37_7, hcz37_8, hcz37_9, hcz37_10, hcz37_11, hfz37_0, hfz37_1, hfz37_2, hfz37_3, hfz37_4, hfz37_5, hfz37_6, hfz37_7, hfz37_8, hfz37_9, hfz37_10, hfz37_11⟩ := pC12 BK414
        go_wp2_with (first | (go_at_call 19; (with_reducible refine (prefix_Overlap.calls a0_4 a0_5 a0_6 a0_7 a0_0 a0_1 a0_2 a0_3 t423 _ A36.out).mono ?_); rintro e w38 ⟨rfl, hb⟩; replace BK414 := (pB BK414 hb); replace HB := (pS HB hb); (try clear hb)))
        refine Met.intro ?_
        go_step
        (repeat apply Exists.intro)
        refine ⟨?rel, ?heq_⟩
        case heq_ => first | rfl | (rw [c33b0]) | (simp only [c33b0])
        case rel => exact ⟨_, ((t422 != t423)), pT, H', ⟨by have := HJ1.out; first | omega | exact Nat.le_refl _⟩, ⟨pM BK414⟩, ⟨pE HB⟩⟩
     ·
      replace c32 := Bool.eq_false_iff.mpr c32
      subst c32
      rw [if_neg (show ¬ (false = true) by decide)] at H
      by_cases c39 : (t422 != t421) = true
      ·
       rw [if_pos c39] at H
       have c39b0 : (t422 != t421) = true := c39
       (try (have c39b1 : decide (t422 = t421) = false := by simpa using c39))
       (try (have c39b2 : (t422 == t421) = false := by simpa using c39))
       (try (have c39b3 : ¬ (t422 = t421) := by simpa using c39))
       clear c39
       have H' := Aside0.mk H
       clear H
       go_wp2
       go_meet
       case rel => exact ⟨_, (true), pT, H', ⟨by have := HJ1.out; first | omega | exact Nat.le_refl _⟩, ⟨pM BK414⟩, ⟨pE HB⟩⟩
      ·
       rw [if_neg c39] at H
       have c39b0 : (t422 != t421) = false := by simpa using c39
       (try (have c39b1 : decide (t422 = t421) = true := by simpa using c39))
       (try (have c39b2 : (t422 == t421) = true := by simpa using c39))
       clear c39
       by_cases c40 : (false != ((a0_0 == a0_4 && (a0_1 == a0_5 && (a0_2 == a0_6))) && (a0_3 == a0_7))) = true
       ·
        rw [if_pos c40] at H
        have c40b0 : (false != ((a0_0 == a0_4 && (a0_1 == a0_5 && (a0_2 == a0_6))) && (a0_3 == a0_7))) = true := c40
        (try (have c40b1 : decide (false = ((a0_0 == a0_4 && (a0_1 == a0_5 && (a0_2 == a0_6))) && (a0_3 == a0_7))) = false := by simpa using c40))
        (try (have c40b2 : (false == ((a0_0 == a0_4 && (a0_1 == a0_5 && (a0_2 == a0_6))) && (a0_3 == a0_7))) = false := by simpa using c40))
        (try (have c40b3 : ¬ (false = ((a0_0 == a0_4 && (a0_1 == a0_5 && (a0_2 == a0_6))) && (a0_3 == a0_7))) := by simpa using c40))
        clear c40
        have H' := Aside0.mk H
        clear H
        obtain ⟨hcz41_0, hcz41_1, hcz41_2, hcz41_3, hcz41_4, hcz41_5, hcz41_6, hcz41_7, hcz41_8, hcz41_9, hcz41_10, hcz41_11, hfz41_0, hfz41_1, hfz41_2, hfz41_3, hfz41_4, hfz41_5, hfz41_6, hfz41_7, hfz41_8, hfz41_9, hfz41_10, hfz41_11⟩ := pC12 BK414
        go_wp2
        go_meet
        case rel => exact ⟨_, (true), pT, H', ⟨by have := HJ1.out; first | omega | exact Nat.le_refl _⟩, ⟨pM BK414⟩, ⟨pE HB⟩⟩
       ·
        rw [if_neg c40] at H
        have c40b0 : (false != ((a0_0 == a0_4 && (a0_1 == a0_5 && (a0_2 == a0_6))) && (a0_3 == a0_7))) = false := by simpa using c40
        have c40b09 := bfF c40b0
        (try (have c40b1 : decide (false = ((a0_0 == a0_4 && (a0_1 == a0_5 && (a0_2 == a0_6))) && (a0_3 == a0_7))) = true := by simpa using c40))
        (try (have c40b2 : (false == ((a0_0 == a0_4 && (a0_1 == a0_5 && (a0_2 == a0_6))) && (a0_3 == a0_7))) = true := by simpa using c40))
        clear c40
        replace H := Option.bind_eq_some_iff.mp H
        obtain ⟨t424, A420, H⟩ := H
        replace H : (ddilaw03_PrefixTree.j1 kj1 false t421 t422 (t422 != t424) a0_0 a0_1 a0_2 a0_3 a0_4 a0_5 a0_6 a0_7 a0_8 a0_9 a0_10 a0_11) = some r := H
        have A42 := Aside0.mk A420
        clear A420
        have H' := Aside0.mk H
        clear H
        obtain ⟨hcz43_0, hcz43_1, hcz43_2, hcz43_3, hcz43_4, hcz43_5, hcz43_6, hcz43_7, hcz43_8, hcz43_9, hcz43_10, hcz43_11, hfz43_0, hfz43_1, hfz43_2, hfz43_3, hfz43_4, hfz43_5, hfz43_6, hfz43_7, hfz43_8, hfz43_9, hfz43_10, hfz43_11⟩ := pC12 BK414
        go_wp2_with (first | (go_at_call 19; (with_reducible refine (prefix_Overlap.calls a0_4 a0_5 a0_6 a0_7 a0_0 a0_1 a0_2 a0_3 t424 _ A42.out).mono ?_); rintro e w44 ⟨rfl, hb⟩; replace BK414 := (pB BK414 hb); replace HB := (pS HB hb); (try clear hb)))
        go_meet
        case rel => exact ⟨_, ((t422 != t424)), (by first | exact pT | (rw [bfF c40b0]; rfl)), H', ⟨by have := HJ1.out; first | omega | exact Nat.le_refl _⟩, ⟨pM BK414⟩, ⟨pE HB⟩⟩
    case rest =>
     clear HC27
     try clear c1
     try clear c2
     try clear p2
     try clear c3
     try clear c4
     try clear c5
     try clear c9
     try clear c13
     try clear c15
     try clear c17
     try clear c19
     try clear c20
     try clear c32
     try clear c33
     try clear c33b0
     try clear c33b1
     try clear c33b2
     try clear c34
     try clear c34b0
     try clear c34b1
     try clear c34b2
     try clear c39
     try clear c39b0
     try clear c39b1
     try clear c39b2
     try clear c40
     try clear c40b0
     try clear c40b1
     try clear c40b2
     try clear hcz11_0 hcz11_1 hcz11_10 hcz11_11 hcz11_2 hcz11_3 hcz11_4 hcz11_5 hcz11_6 hcz11_7 hcz11_8 hcz11_9
     try clear hcz19_0 hcz19_1 hcz19_10 hcz19_11 hcz19_2 hcz19_3 hcz19_4 hcz19_5 hcz19_6 hcz19_7 hcz19_8 hcz19_9
     try clear hcz21_0 hcz21_1 hcz21_10 hcz21_11 hcz21_2 hcz21_3 hcz21_4 hcz21_5 hcz21_6 hcz21_7 hcz21_8 hcz21_9
     try clear hcz35_0 hcz35_1 hcz35_10 hcz35_11 hcz35_2 hcz35_3 hcz35_4 hcz35_5 hcz35_6 hcz35_7 hcz35_8 hcz35_9
     try clear hcz37_0 hcz37_1 hcz37_10 hcz37_11 hcz37_2 hcz37_3 hcz37_4 hcz37_5 hcz37_6 hcz37_7 hcz37_8 hcz37_9
     try clear hcz41_0 hcz41_1 hcz41_10 hcz41_11 hcz41_2 hcz41_3 hcz41_4 hcz41_5 hcz41_6 hcz41_7 hcz41_8 hcz41_9
     try clear hcz43_0 hcz43_1 hcz43_10 hcz43_11 hcz43_2 hcz43_3 hcz43_4 hcz43_5 hcz43_6 hcz43_7 hcz43_8 hcz43_9
     try clear hcz7_0 hcz7_1 hcz7_10 hcz7_11 hcz7_2 hcz7_3 hcz7_4 hcz7_5 hcz7_6 hcz7_7 hcz7_8 hcz7_9
     try clear hcz9_0 hcz9_1 hcz9_10 hcz9_11 hcz9_2 hcz9_3 hcz9_4 hcz9_5 hcz9_6 hcz9_7 hcz9_8 hcz9_9
     try clear hfz11_0 hfz11_1 hfz11_10 hfz11_11 hfz11_2 hfz11_3 hfz11_4 hfz11_5 hfz11_6 hfz11_7 hfz11_8 hfz11_9
     try clear hfz19_0 hfz19_1 hfz19_10 hfz19_11 hfz19_2 hfz19_3 hfz19_4 hfz19_5 hfz19_6 hfz19_7 hfz19_8 hfz19_9
     try clear hfz21_0 hfz21_1 hfz21_10 hfz21_11 hfz21_2 hfz21_3 hfz21_4 hfz21_5 hfz21_6 hfz21_7 hfz21_8 hfz21_9
     try clear hfz35_0 hfz35_1 hfz35_10 hfz35_11 hfz35_2 hfz35_3 hfz35_4 hfz35_5 hfz35_6 hfz35_7 hfz35_8 hfz35_9
     try clear hfz37_0 hfz37_1 hfz37_10 hfz37_11 hfz37_2 hfz37_3 hfz37_4 hfz37_5 hfz37_6 hfz37_7 hfz37_8 hfz37_9
     try clear hfz41_0 hfz41_1 hfz41_10 hfz41_11 hfz41_2 hfz41_3 hfz41_4 hfz41_5 hfz41_6 hfz41_7 hfz41_8 hfz41_9
     try clear hfz43_0 hfz43_1 hfz43_10 hfz43_11 hfz43_2 hfz43_3 hfz43_4 hfz43_5 hfz43_6 hfz43_7 hfz43_8 hfz43_9
     try clear hfz7_0 hfz7_1 hfz7_10 hfz7_11 hfz7_2 hfz7_3 hfz7_4 hfz7_5 hfz7_6 hfz7_7 hfz7_8 hfz7_9
     try clear hfz9_0 hfz9_1 hfz9_10 hfz9_11 hfz9_2 hfz9_3 hfz9_4 hfz9_5 hfz9_6 hfz9_7 hfz9_8 hfz9_9
     try clear p2
     obtain ⟨kq, x77_26, rfl, HA, HJ26, BK414, HB⟩ := hcut
     cases kq with
     | zero => exact absurd HA.out (by simp [ddilaw03_PrefixTree.j1])
     | succ kj26 =>
      have H := HA.out
      clear HA
      simp only [ddilaw03_PrefixTree.j1] at H
      by_cases c45 : x77_26 = true
      ·
       subst c45
       rw [if_pos rfl] at H
       exact absurd H (by simp)
      ·
       replace c45 := Bool.eq_false_iff.mpr c45
       subst c45
       rw [if_neg (show ¬ (false = true) by decide)] at H
       replace H := Option.bind_eq_some_iff.mp H
       obtain ⟨t425, A460, H⟩ := H
       replace H : ((prefix_Contains.f a0_4 a0_5 a0_6 a0_7 a0_8 a0_9 a0_10).bind fun t426 => (if t420 = true then (if t425 = true then (if t426 = true then (if t421 = true then (ddilaw03_PrefixTree.j2 kj26 t420 (!t422) a0_0 a0_1 a0_2 a0_3 a0_4 a0_5 a0_6 a0_7 a0_8 a0_9 a0_10 a0_11) else (ddilaw03_PrefixTree.j2 kj26 t420 (!t422) a0_0 a0_1 a0_2 a0_3 a0_4 a0_5 a0_6 a0_7 a0_8 a0_9 a0_10 a0_11)) else (ddilaw03_PrefixTree.j2 kj26 t420 true a0_0 a0_1 a0_2 a0_3 a0_4 a0_5 a0_6 a0_7 a0_8 a0_9 a0_10 a0_11)) else (if t421 = true then (if t426 = true then (ddilaw03_PrefixTree.j2 kj26 t420 true a0_0 a0_1 a0_2 a0_3 a0_4 a0_5 a0_6 a0_7 a0_8 a0_9 a0_10 a0_11) else (ddilaw03_PrefixTree.j2 kj26 t420 false a0_0 a0_1 a0_2 a0_3 a0_4 a0_5 a0_6 a0_7 a0_8 a0_9 a0_10 a0_11)) else (ddilaw03_PrefixTree.j2 kj26 t420 false a0_0 a0_1 a0_2 a0_3 a0_4 a0_5 a0_6 a0_7 a0_8 a0_9 a0_10 a0_11))) else (if t421 = true then (if t426 = true then (if t425 = true then (ddilaw03_PrefixTree.j2 kj26 t420 (!t422) a0_0 a0_1 a0_2 a0_3 a0_4 a0_5 a0_6 a0_7 a0_8 a0_9 a0_10 a0_11) else (ddilaw03_PrefixTree.j2 kj26 t420 true a0_0 a0_1 a0_2 a0_3 a0_4 a0_5 a0_6 a0_7 a0_8 a0_9 a0_10 a0_11)) else (if t425 = true then (ddilaw03_PrefixTree.j2 kj26 t420 false a0_0 a0_1 a0_2 a0_3 a0_4 a0_5 a0_6 a0_7 a0_8 a0_9 a0_10 a0_11) else (ddilaw03_PrefixTree.j2 kj26 t420 false a0_0 a0_1 a0_2 a0_3 a0_4 a0_5 a0_6 a0_7 a0_8 a0_9 a0_10 a0_11))) else (if t425 = true then (if t426 = true then (ddilaw03_PrefixTree.j2 kj26 t420 (!t422) a0_0 a0_1 a0_2 a0_3 a0_4 a0_5 a0_6 a0_7 a0_8 a0_9 a0_10 a0_11) else (ddilaw03_PrefixTree.j2 kj26 t420 false a0_0 a0_1 a0_2 a0_3 a0_4 a0_5 a0_6 a0_7 a0_8 a0_9 a0_10 a0_11)) else (ddilaw03_PrefixTree.j2 kj26 t420 false a0_0 a0_1 a0_2 a0_3 a0_4 a0_5 a0_6 a0_7 a0_8 a0_9 a0_10 a0_11))))) = some r := H
       have A46 := Aside0.mk A460
       clear A460
       replace H := Option.bind_eq_some_iff.mp H
       obtain ⟨t426, A470, H⟩ := H
       replace H : (if t420 = true then (if t425 = true then (if t426 = true then (if t421 = true then (ddilaw03_PrefixTree.j2 kj26 t420 (!t422) a0_0 a0_1 a0_2 a0_3 a0_4 a0_5 a0_6 a0_7 a0_8 a0_9 a0_10 a0_11) else (ddilaw03_PrefixTree.j2 kj26 t420 (!t422) a0_0 a0_1 a0_2 a0_3 a0_4 a0_5 a0_6 a0_7 a0_8 a0_9 a0_10 a0_11)) else (ddilaw03_PrefixTree.j2 kj26 t420 true a0_0 a0_1 a0_2 a0_3 a0_4 a0_5 a0_6 a0_7 a0_8 a0_9 a0_10 a0_11)) else (if t421 = true then (if t426 = true then (ddilaw03_PrefixTree.j2 kj26 t420 true a0_0 a0_1 a0_2 a0_3 a0_4 a0_5 a0_6 a0_7 a0_8 a0_9 a0_10 a0_11) else (ddilaw03_PrefixTree.j2 kj26 t420 false a0_0 a0_1 a0_2 a0_3 a0_4 a0_5 a0_6 a0_7 a0_8 a0_9 a0_10 a0_11)) else (ddilaw03_PrefixTree.j2 kj26 t420 false a0_0 a0_1 a0_2 a0_3 a0_4 a0_5 a0_6 a0_7 a0_8 a0_9 a0_10 a0_11))) else (if t421 = true then (if t426 = true then (if t425 = true then (ddilaw03_PrefixTree.j2 kj26 t420 (!t422) a0_0 a0_1 a0_2 a0_3 a0_4 a0_5 a0_6 a0_7 a0_8 a0_9 a0_10 a0_11) else (ddilaw03_PrefixTree.j2 kj26 t420 true a0_0 a0_1 a0_2 a0_3 a0_4 a0_5 a0_6 a0_7 a0_8 a0_9 a0_10 a0_11)) else (if t425 = true then (ddilaw03_PrefixTree.j2 kj26 t420 false a0_0 a0_1 a0_2 a0_3 a0_4 a0_5 a0_6 a0_7 a0_8 a0_9 a0_10 a0_11) else (ddilaw03_PrefixTree.j2 kj26 t420 false a0_0 a0_1 a0_2 a0_3 a0_4 a0_5 a0_6 a0_7 a0_8 a0_9 a0_10 a0_11))) else (if t425 = true then (if t426 = true then (ddilaw03_PrefixTree.j2 kj26 t420 (!t422) a0_0 a0_1 a0_2 a0_3 a0_4 a0_5 a0_6 a0_7 a0_8 a0_9 a0_10 a0_11) else (ddilaw03_PrefixTree.j2 kj26 t420 false a0_0 a0_1 a0_2 a0_3 a0_4 a0_5 a0_6 a0_7 a0_8 a0_9 a0_10 a0_11)) else (ddilaw03_PrefixTree.j2 kj26 t420 false a0_0 a0_1 a0_2 a0_3 a0_4 a0_5 a0_6 a0_7 a0_8 a0_9 a0_10 a0_11)))) = some r := H
       have A47 := Aside0.mk A470
       clear A470
       have HC48 := Aside0.mk H
       clear H
       try go_wp2
       replace BK414 := Aside0.mk (blk_drew BK414.out)
       replace HB := Aside0.mk (below_drew1 HB.out)
       refine start_ (n := 12) (S := fun w' => w'.cell? ⟨gb414, 0, none⟩ = some (.bool a0_0) ∧ w'.cell? ⟨gb414, 1, none⟩ = some (.int .u64 a0_1) ∧ w'.cell? ⟨gb414, 2, none⟩ = some (.int .u64 a0_2) ∧ w'.cell? ⟨gb414, 3, none⟩ = some (.int .i64 a0_3) ∧ w'.cell? ⟨gb414, 4, none⟩ = some (.bool a0_4) ∧ w'.cell? ⟨gb414, 5, none⟩ = some (.int .u64 a0_5) ∧ w'.cell? ⟨gb414, 6, none⟩ = some (.int .u64 a0_6) ∧ w'.cell? ⟨gb414, 7, none⟩ = some (.int .i64 a0_7) ∧ w'.cell? ⟨gb414, 8, none⟩ = some (.bool a0_8) ∧ w'.cell? ⟨gb414, 9, none⟩ = some (.int .u64 a0_9) ∧ w'.cell? ⟨gb414, 10, none⟩ = some (.int .u64 a0_10) ∧ w'.cell? ⟨gb414, 11, none⟩ = some (.int .i64 a0_11)) (ds := []) (tk 12 0) (by kernel_rfl) rfl rfl ⟨(blk_cell BK414.out 0).trans rfl, (blk_cell BK414.out 1).trans rfl, (blk_cell BK414.out 2).trans rfl, (blk_cell BK414.out 3).trans rfl, (blk_cell BK414.out 4).trans rfl, (blk_cell BK414.out 5).trans rfl, (blk_cell BK414.out 6).trans rfl, (blk_cell BK414.out 7).trans rfl, (blk_cell BK414.out 8).trans rfl, (blk_cell BK414.out 9).trans rfl, (blk_cell BK414.out 10).trans rfl, (blk_cell BK414.out 11).trans rfl⟩ (fun hHeld => ?_); refine with_tabW ddilaw03_PrefixTree.tab6 ddilaw03_PrefixTree.bits6 (fun HT_ HW_ => ?_)
       generalize wc.drew = w49 at BK414 HB hHeld ⊢
       refine pureA (i := 0) (some 78) HT_ (tk 12 1) ?_
       refine pureA (i := 2) (some 80) HT_ (tr [1, 1, 1, 9]) ?_
       refine pureA (i := 5) (some 83) HT_ (tr [1, 1, 1, 2, 1, 6]) ?_
       refine pureA (i := 7) (some 85) HT_ (tr [1, 1, 1, 2, 1, 1, 1, 4]) ?_
       refine takeA (i := 1) (some 79) HT_ HW_ (tr [3, 2, 1, 1, 1, 4]) hHeld ?_
       refine takeA (i := 3) (some 81) HT_ HW_ (tr [4, 1, 1, 1, 1, 4]) hHeld ?_
       refine takeA (i := 6) (some 84) HT_ HW_ (tr [4, 1, 3, 4]) hHeld ?_
       refine takeA (i := 8) (some 86) HT_ HW_ (tr [4, 1, 4, 3]) hHeld ?_
       refine one_ (i := 4) (N := some 82) (tk 12 9) rfl rfl (one_of HT_.out (by kernel_rfl)) (by decide) (fun K hK => ?_)
       refine goesR Tryd.func10 #[.agg #[.bool a0_0, .int .u64 a0_1, .int .u64 a0_2, .int .i64 a0_3], .agg #[.bool a0_8, .int .u64 a0_9, .int .u64 a0_10]] ?_
       with_reducible refine (prefix_Contains.calls a0_0 a0_1 a0_2 a0_3 a0_8 a0_9 a0_10 t425 _ A46.out).mono ?_
       rintro e w50 ⟨rfl, hb⟩
       refine ⟨_, rfl, ?_⟩
       replace BK414 := (pB BK414 hb)
       replace HB := (pS HB hb)
       (try clear hb)
       refine hK.out _ _ ⟨(blk_cell BK414.out 0).trans rfl, (blk_cell BK414.out 1).trans rfl, (blk_cell BK414.out 2).trans rfl, (blk_cell BK414.out 3).trans rfl, (blk_cell BK414.out 4).trans rfl, (blk_cell BK414.out 5).trans rfl, (blk_cell BK414.out 6).trans rfl, (blk_cell BK414.out 7).trans rfl, (blk_cell BK414.out 8).trans rfl, (blk_cell BK414.out 9).trans rfl, (blk_cell BK414.out 10).trans rfl, (blk_cell BK414.out 11).trans rfl⟩ (fun hHeld => ?_)
       clear hK K
       refine normA (N := some 82) ?_
       refine one_ (i := 9) (N := some 87) (tk 12 10) rfl rfl (one_of HT_.out (by kernel_rfl)) (by decide) (fun K hK => ?_)
       refine goesR Tryd.func10 #[.agg #[.bool a0_4, .int .u64 a0_5, .int .u64 a0_6, .int .i64 a0_7], .agg #[.bool a0_8, .int .u64 a0_9, .int .u64 a0_10]] ?_
       with_reducible refine (prefix_Contains.calls a0_4 a0_5 a0_6 a0_7 a0_8 a0_9 a0_10 t426 _ A47.out).mono ?_
       rintro e w51 ⟨rfl, hb⟩
       refine ⟨_, rfl, ?_⟩
       replace BK414 := (pB BK414 hb)
       replace HB := (pS HB hb)
       (try clear hb)
       refine hK.out _ _ ⟨(blk_cell BK414.out 0).trans rfl, (blk_cell BK414.out 1).trans rfl, (blk_cell BK414.out 2).trans rfl, (blk_cell BK414.out 3).trans rfl, (blk_cell BK414.out 4).trans rfl, (blk_cell BK414.out 5).trans rfl, (blk_cell BK414.out 6).trans rfl, (blk_cell BK414.out 7).trans rfl, (blk_cell BK414.out 8).trans rfl, (blk_cell BK414.out 9).trans rfl, (blk_cell BK414.out 10).trans rfl, (blk_cell BK414.out 11).trans rfl⟩ (fun hHeld => ?_)
       clear hK K
       refine normA (N := some 87) ?_
       refine pureA (i := 10) (some 6) HT_ (tk 12 11) ?_
       refine pureA (i := 11) (some 7) HT_ (tk 12 12) ?_
       refine done_ (done_of HT_.out (by kernel_rfl)) ?_
       go_upto_region 7 with (fail)
       go_cut [115] (fun v115 wc => ∃ (kq : Nat) (x115_47 : Bool), v115 = .bool x115_47 ∧ Aside0 (ddilaw03_PrefixTree.j2 kq t420 x115_47 a0_0 a0_1 a0_2 a0_3 a0_4 a0_5 a0_6 a0_7 a0_8 a0_9 a0_10 a0_11 = some r) ∧ Aside0 (kq ≤ kj26) ∧ Aside0 (wc.heap[gb414]? = some (.cells #[.bool a0_0, .int .u64 a0_1, .int .u64 a0_2, .int .i64 a0_3, .bool a0_4, .int .u64 a0_5, .int .u64 a0_6, .int .i64 a0_7, .bool a0_8, .int .u64 a0_9, .int .u64 a0_10, .int .i64 a0_11] 48 (0, 0))) ∧ Aside0 (Below w.heap.size w wc))
       case first =>
        have H := HC48.out
        clear HC48
        by_cases c52 : t420 = true
        ·
         subst c52
         rw [if_pos rfl] at H
         by_cases c53 : t425 = true
         ·
          subst c53
          rw [if_pos rfl] at H
          by_cases c54 : t426 = true
          ·
           subst c54
           rw [if_pos rfl] at H
           by_cases c55 : t421 = true
           ·
            subst c55
            rw [if_pos rfl] at H
            have H' := Aside0.mk H
            clear H
            go_wp2
            go_meet
            case rel => exact ⟨_, (!t422), pT, H', ⟨by have := HJ1.out; have := HJ26.out; first | omega | exact Nat.le_refl _⟩, ⟨pM BK414⟩, ⟨pE HB⟩⟩
           ·
            replace c55 := Bool.eq_false_iff.mpr c55
            subst c55
            rw [if_neg (show ¬ (false = true) by decide)] at H
            have H' := Aside0.mk H
            clear H
            go_wp2
            go_meet
            case rel => exact ⟨_, (!t422), pT, H', ⟨by have := HJ1.out; have := HJ26.out; first | omega | exact Nat.le_refl _⟩, ⟨pM BK414⟩, ⟨pE HB⟩⟩
          ·
           replace c54 := Bool.eq_false_iff.mpr c54
           subst c54
           rw [if_neg (show ¬ (false = true) by decide)] at H
           have H' := Aside0.mk H
           clear H
           go_wp2
           go_meet
           case rel => exact ⟨_, (true), pT, H', ⟨by have := HJ1.out; have := HJ26.out; first | omega | exact Nat.le_refl _⟩, ⟨pM BK414⟩, ⟨pE HB⟩⟩
         ·
          replace c53 := Bool.eq_false_iff.mpr c53
          subst c53
          rw [if_neg (show ¬ (false = true) by decide)] at H
          by_cases c56 : t421 = true
          ·
           subst c56
           rw [if_pos rfl] at H
           by_cases c57 : t426 = true
           ·
            subst c57
            rw [if_pos rfl] at H
            have H' := Aside0.mk H
            clear H
            go_wp2
            go_meet
            case rel => exact ⟨_, (true), pT, H', ⟨by have := HJ1.out; have := HJ26.out; first | omega | exact Nat.le_refl _⟩, ⟨pM BK414⟩, ⟨pE HB⟩⟩
           ·
            replace c57 := Bool.eq_false_iff.mpr c57
            subst c57
            rw [if_neg (show ¬ (false = true) by decide)] at H
            have H' := Aside0.mk H
            clear H
            go_wp2
            go_meet
            case rel => exact ⟨_, (false), pT, H', ⟨by have := HJ1.out; have := HJ26.out; first | omega | exact Nat.le_refl _⟩, ⟨pM BK414⟩, ⟨pE HB⟩⟩
          ·
           replace c56 := Bool.eq_false_iff.mpr c56
           subst c56
           rw [if_neg (show ¬ (false = true) by decide)] at H
           have H' := Aside0.mk H
           clear H
           go_wp2
           go_meet
           case rel => exact ⟨_, (false), pT, H', ⟨by have := HJ1.out; have := HJ26.out; first | omega | exact Nat.le_refl _⟩, ⟨pM BK414⟩, ⟨pE HB⟩⟩
        ·
         replace c52 := Bool.eq_false_iff.mpr c52
         subst c52
         rw [if_neg (show ¬ (false = true) by decide)] at H
         by_cases c58 : t421 = true
         ·
          subst c58
          rw [if_pos rfl] at H
          by_cases c59 : t426 = true
          ·
           subst c59
           rw [if_pos rfl] at H
           by_cases c60 : t425 = true
           ·
            subst c60
            rw [if_pos rfl] at H
            have H' := Aside0.mk H
            clear H
            go_wp2
            go_meet
            case rel => exact ⟨_, (!t422), pT, H', ⟨by have := HJ1.out; have := HJ26.out; first | omega | exact Nat.le_refl _⟩, ⟨pM BK414⟩, ⟨pE HB⟩⟩
           ·
            replace c60 := Bool.eq_false_iff.mpr c60
            subst c60
            rw [if_neg (show ¬ (false = true) by decide)] at H
            have H' := Aside0.mk H
            clear H
            go_wp2
            go_meet
            case rel => exact ⟨_, (true), pT, H', ⟨by have := HJ1.out; have := HJ26.out; first | omega | exact Nat.le_refl _⟩, ⟨pM BK414⟩, ⟨pE HB⟩⟩
          ·
           replace c59 := Bool.eq_false_iff.mpr c59
           subst c59
           rw [if_neg (show ¬ (false = true) by decide)] at H
           by_cases c61 : t425 = true
           ·
            subst c61
            rw [if_pos rfl] at H
            have H' := Aside0.mk H
            clear H
            go_wp2
            go_meet
            case rel => exact ⟨_, (false), pT, H', ⟨by have := HJ1.out; have := HJ26.out; first | omega | exact Nat.le_refl _⟩, ⟨pM BK414⟩, ⟨pE HB⟩⟩
           ·
            replace c61 := Bool.eq_false_iff.mpr c61
            subst c61
            rw [if_neg (show ¬ (false = true) by decide)] at H
            have H' := Aside0.mk H
            clear H
            go_wp2
            go_meet
            case rel => exact ⟨_, (false), pT, H', ⟨by have := HJ1.out; have := HJ26.out; first | omega | exact Nat.le_refl _⟩, ⟨pM BK414⟩, ⟨pE HB⟩⟩
         ·
          replace c58 := Bool.eq_false_iff.mpr c58
          subst c58
          rw [if_neg (show ¬ (false = true) by decide)] at H
          by_cases c62 : t425 = true
          ·
           subst c62
           rw [if_pos rfl] at H
           by_cases c63 : t426 = true
           ·
            subst c63
            rw [if_pos rfl] at H
            have H' := Aside0.mk H
            clear H
            go_wp2
            go_meet
            case rel => exact ⟨_, (!t422), pT, H', ⟨by have := HJ1.out; have := HJ26.out; first | omega | exact Nat.le_refl _⟩, ⟨pM BK414⟩, ⟨pE HB⟩⟩
           ·
            replace c63 := Bool.eq_false_iff.mpr c63
            subst c63
            rw [if_neg (show ¬ (false = true) by decide)] at H
            have H' := Aside0.mk H
            clear H
            go_wp2
            go_meet
            case rel => exact ⟨_, (false), pT, H', ⟨by have := HJ1.out; have := HJ26.out; first | omega | exact Nat.le_refl _⟩, ⟨pM BK414⟩, ⟨pE HB⟩⟩
          ·
           replace c62 := Bool.eq_false_iff.mpr c62
           subst c62
           rw [if_neg (show ¬ (false = true) by decide)] at H
           have H' := Aside0.mk H
           clear H
           go_wp2
           go_meet
           case rel => exact ⟨_, (false), pT, H', ⟨by have := HJ1.out; have := HJ26.out; first | omega | exact Nat.le_refl _⟩, ⟨pM BK414⟩, ⟨pE HB⟩⟩
       case rest =>
        clear HC48
        try clear c1
        try clear p2
        try clear c4
        try clear c5
        try clear c6
        try clear c10
        try clear c45
        try clear c52
        try clear c53
        try clear c54
        try clear c55
        try clear c56
        try clear c57
        try clear c58
        try clear c59
        try clear c60
        try clear c61
        try clear c62
        try clear c63
        try clear hcz11_10 hcz11_11 hcz11_2 hcz11_3 hcz11_4 hcz11_5 hcz11_6 hcz11_7 hcz11_8 hcz11_9
        try clear hcz19_0 hcz19_1 hcz19_10 hcz19_11 hcz19_2 hcz19_3 hcz19_4 hcz19_5 hcz19_6 hcz19_7 hcz19_8 hcz19_9
        try clear hcz21_0 hcz21_1 hcz21_10 hcz21_11 hcz21_2 hcz21_3 hcz21_4 hcz21_5 hcz21_6 hcz21_7 hcz21_8 hcz21_9
        try clear hcz35_0 hcz35_1 hcz35_10 hcz35_11 hcz35_2 hcz35_3 hcz35_4 hcz35_5 hcz35_6 hcz35_7 hcz35_8 hcz35_9
        try clear hcz37_0 hcz37_1 hcz37_10 hcz37_11 hcz37_2 hcz37_3 hcz37_4 hcz37_5 hcz37_6 hcz37_7 hcz37_8 hcz37_9
        try clear hcz41_0 hcz41_1 hcz41_10 hcz41_11 hcz41_2 hcz41_3 hcz41_4 hcz41_5 hcz41_6 hcz41_7 hcz41_8 hcz41_9
        try clear hcz43_0 hcz43_1 hcz43_10 hcz43_11 hcz43_2 hcz43_3 hcz43_4 hcz43_5 hcz43_6 hcz43_7 hcz43_8 hcz43_9
        try clear hcz7_0 hcz7_1 hcz7_10 hcz7_11 hcz7_2 hcz7_3 hcz7_4 hcz7_5 hcz7_6 hcz7_7 hcz7_8 hcz7_9
        try clear hcz9_0 hcz9_1 hcz9_10 hcz9_11 hcz9_2 hcz9_3 hcz9_4 hcz9_5 hcz9_6 hcz9_7 hcz9_8 hcz9_9
        try clear hfz11_0 hfz11_1 hfz11_10 hfz11_11 hfz11_2 hfz11_3 hfz11_4 hfz11_5 hfz11_6 hfz11_7 hfz11_8 hfz11_9
        try clear hfz19_0 hfz19_1 hfz19_10 hfz19_11 hfz19_2 hfz19_3 hfz19_4 hfz19_5 hfz19_6 hfz19_7 hfz19_8 hfz19_9
        try clear hfz21_0 hfz21_1 hfz21_10 hfz21_11 hfz21_2 hfz21_3 hfz21_4 hfz21_5 hfz21_6 hfz21_7 hfz21_8 hfz21_9
        try clear hfz35_0 hfz35_1 hfz35_10 hfz35_11 hfz35_2 hfz35_3 hfz35_4 hfz35_5 hfz35_6 hfz35_7 hfz35_8 hfz35_9
        try clear hfz37_0 hfz37_1 hfz37_10 hfz37_11 hfz37_2 hfz37_3 hfz37_4 hfz37_5 hfz37_6 hfz37_7 hfz37_8 hfz37_9
        try clear hfz41_0 hfz41_1 hfz41_10 hfz41_11 hfz41_2 hfz41_3 hfz41_4 hfz41_5 hfz41_6 hfz41_7 hfz41_8 hfz41_9
        try clear hfz43_0 hfz43_1 hfz43_10 hfz43_11 hfz43_2 hfz43_3 hfz43_4 hfz43_5 hfz43_6 hfz43_7 hfz43_8 hfz43_9
        try clear hfz7_0 hfz7_1 hfz7_10 hfz7_11 hfz7_2 hfz7_3 hfz7_4 hfz7_5 hfz7_6 hfz7_7 hfz7_8 hfz7_9
        try clear hfz9_0 hfz9_1 hfz9_10 hfz9_11 hfz9_2 hfz9_3 hfz9_4 hfz9_5 hfz9_6 hfz9_7 hfz9_8 hfz9_9
        try clear p2
        obtain ⟨kq, x115_47, rfl, HA, HJ47, BK414, HB⟩ := hcut
        cases kq with
        | zero => exact absurd HA.out (by simp [ddilaw03_PrefixTree.j2])
        | succ kj47 =>
         have H := HA.out
         clear HA
         simp only [ddilaw03_PrefixTree.j2] at H
         by_cases c64 : x115_47 = true
         ·
          subst c64
          rw [if_pos rfl] at H
          exact absurd H (by simp)
         ·
          replace c64 := Bool.eq_false_iff.mpr c64
          subst c64
          rw [if_neg (show ¬ (false = true) by decide)] at H
          replace H := Option.bind_eq_some_iff.mp H
          obtain ⟨t427, A650, H⟩ := H
          replace H : ((prefix_Compare.f kj47 a0_4 a0_5 a0_6 a0_7 a0_0 a0_1 a0_2 a0_3).bind fun t428 => (if t427 = (wrap64 (-t428)) then (if ((t427 == 0) == ((a0_0 == a0_4 && (a0_1 == a0_5 && (a0_2 == a0_6))) && (a0_3 == a0_7))) = true then (if t420 = true then (if a0_3 ≥ a0_7 then ((ddilaw03_awake.f kj47).bind fun t429 => (some t429)) else (none)) else ((ddilaw03_awake.f kj47).bind fun t430 => (some t430))) else (none)) else (none))) = some r := H
          have A65 := Aside0.mk A650
          clear A650
          replace H := Option.bind_eq_some_iff.mp H
          obtain ⟨t428, A660, H⟩ := H
          replace H : (if t427 = (wrap64 (-t428)) then (if ((t427 == 0) == ((a0_0 == a0_4 && (a0_1 == a0_5 && (a0_2 == a0_6))) && (a0_3 == a0_7))) = true then (if t420 = true then (if a0_3 ≥ a0_7 then ((ddilaw03_awake.f kj47).bind fun t429 => (some t429)) else (none)) else ((ddilaw03_awake.f kj47).bind fun t430 => (some t430))) else (none)) else (none)) = some r := H
          have A66 := Aside0.mk A660
          clear A660
          by_cases c67 : t427 = (wrap64 (-t428))
          ·
           rw [if_pos c67] at H
           have c67b0 : (t427 == (wrap64 (-t428))) = true := beq_iff_eq.mpr c67
           have c67b1 : (t427 != (wrap64 (-t428))) = false := bne_eq_false_iff_eq.mpr c67
           clear c67
           by_cases c68 : ((t427 == 0) == ((a0_0 == a0_4 && (a0_1 == a0_5 && (a0_2 == a0_6))) && (a0_3 == a0_7))) = true
           ·
            rw [if_pos c68] at H
            have c68b0 : ((t427 == 0) == ((a0_0 == a0_4 && (a0_1 == a0_5 && (a0_2 == a0_6))) && (a0_3 == a0_7))) = true := c68
            (try (have c68b1 : decide ((t427 == 0) = ((a0_0 == a0_4 && (a0_1 == a0_5 && (a0_2 == a0_6))) && (a0_3 == a0_7))) = true := by simpa using c68))
            (try (have c68b2 : ((t427 == 0) == ((a0_0 == a0_4 && (a0_1 == a0_5 && (a0_2 == a0_6))) && (a0_3 == a0_7))) = true := by simpa using c68))
            clear c68
            by_cases c69 : t420 = true
            ·
             subst c69
             rw [if_pos rfl] at H
             by_cases c70 : a0_3 ≥ a0_7
             ·
              rw [if_pos c70] at H
              have c70b0 : decide (a0_7 ≤ a0_3) = true := decide_eq_true c70
              clear c70
              replace H := Option.bind_eq_some_iff.mp H
              obtain ⟨t429, A710, H⟩ := H
              replace H : (some t429) = some r := H
              have A71 := Aside0.mk A710
              clear A710
              obtain rfl := Option.some.inj H
              obtain ⟨hcz72_0, hcz72_1, hcz72_2, hcz72_3, hcz72_4, hcz72_5, hcz72_6, hcz72_7, hcz72_8, hcz72_9, hcz72_10, hcz72_11, hfz72_0, hfz72_1, hfz72_2, hfz72_3, hfz72_4, hfz72_5, hfz72_6, hfz72_7, hfz72_8, hfz72_9, hfz72_10, hfz72_11⟩ := pC12 BK414
              go_wp2_with (first | ((with_reducible refine gate_callee (f := 21) rfl ?_); refine goesA (some 120) Tryd.func21 #[.agg #[.bool a0_0, .int .u64 a0_1, .int .u64 a0_2, .int .i64 a0_3], .agg #[.bool a0_4, .int .u64 a0_5, .int .u64 a0_6, .int .i64 a0_7]] ?_; (with_reducible refine (prefix_Compare.calls kj47 a0_0 a0_1 a0_2 a0_3 a0_4 a0_5 a0_6 a0_7 t427 _ A65.out).mono ?_); rintro e w73 ⟨rfl, hb⟩; refine ⟨_, rfl, ?_⟩; replace BK414 := (pB BK414 hb); replace HB := (pS HB hb); (try clear hb); obtain ⟨hcz74_0, hcz74_1, hcz74_2, hcz74_3, hcz74_4, hcz74_5, hcz74_6, hcz74_7, hcz74_8, hcz74_9, hcz74_10, hcz74_11, hfz74_0, hfz74_1, hfz74_2, hfz74_3, hfz74_4, hfz74_5, hfz74_6, hfz74_7, hfz74_8, hfz74_9, hfz74_10, hfz74_11⟩ := pC12 BK414) | ((with_reducible refine gate_callee (f := 21) rfl ?_); refine goesA (some 126) Tryd.func21 #[.agg #[.bool a0_4, .int .u64 a0_5, .int .u64 a0_6, .int .i64 a0_7], .agg #[.bool a0_0, .int .u64 a0_1, .int .u64 a0_2, .int .i64 a0_3]] ?_; (with_reducible refine (prefix_Compare.calls kj47 a0_4 a0_5 a0_6 a0_7 a0_0 a0_1 a0_2 a0_3 t428 _ A66.out).mono ?_); rintro e w75 ⟨rfl, hb⟩; refine ⟨_, rfl, ?_⟩; replace BK414 := (pB BK414 hb); replace HB := (pS HB hb); (try clear hb); obtain ⟨hcz76_0, hcz76_1, hcz76_2, hcz76_3, hcz76_4, hcz76_5, hcz76_6, hcz76_7, hcz76_8, hcz76_9, hcz76_10, hcz76_11, hfz76_0, hfz76_1, hfz76_2, hfz76_3, hfz76_4, hfz76_5, hfz76_6, hfz76_7, hfz76_8, hfz76_9, hfz76_10, hfz76_11⟩ := pC12 BK414) | (go_at_call 11; (with_reducible refine (ddilaw03_awake.calls kj47  t429 _ ?side1 A71.out).mono ?_); (case side1 => exact Laid.below HLD.out (pE HB)); rintro e w77 ⟨rfl, hb⟩; replace BK414 := (pB BK414 hb); replace HB := (pS HB hb); (try clear hb)))
              go_ret
              exact pR (pE HB)
             ·
              rw [if_neg c70] at H
              exact absurd H (by simp)
            ·
             replace c69 := Bool.eq_false_iff.mpr c69
             subst c69
             rw [if_neg (show ¬ (false = true) by decide)] at H
             replace H := Option.bind_eq_some_iff.mp H
             obtain ⟨t430, A780, H⟩ := H
             replace H : (some t430) = some r := H
             have A78 := Aside0.mk A780
             clear A780
             obtain rfl := Option.some.inj H
             obtain ⟨hcz79_0, hcz79_1, hcz79_2, hcz79_3, hcz79_4, hcz79_5, hcz79_6, hcz79_7, hcz79_8, hcz79_9, hcz79_10, hcz79_11, hfz79_0, hfz79_1, hfz79_2, hfz79_3, hfz79_4, hfz79_5, hfz79_6, hfz79_7, hfz79_8, hfz79_9, hfz79_10, hfz79_11⟩ := pC12 BK414
             go_wp2_with (first | ((with_reducible refine gate_callee (f := 21) rfl ?_); refine goesA (some 120) Tryd.func21 #[.agg #[.bool a0_0, .int .u64 a0_1, .int .u64 a0_2, .int .i64 a0_3], .agg #[.bool a0_4, .int .u64 a0_5, .int .u64 a0_6, .int .i64 a0_7]] ?_; (with_reducible refine (prefix_Compare.calls kj47 a0_0 a0_1 a0_2 a0_3 a0_4 a0_5 a0_6 a0_7 t427 _ A65.out).mono ?_); rintro e w80 ⟨rfl, hb⟩; refine ⟨_, rfl, ?_⟩; replace BK414 := (pB BK414 hb); replace HB := (pS HB hb); (try clear hb); obtain ⟨hcz81_0, hcz81_1, hcz81_2, hcz81_3, hcz81_4, hcz81_5, hcz81_6, hcz81_7, hcz81_8, hcz81_9, hcz81_10, hcz81_11, hfz81_0, hfz81_1, hfz81_2, hfz81_3, hfz81_4, hfz81_5, hfz81_6, hfz81_7, hfz81_8, hfz81_9, hfz81_10, hfz81_11⟩ := pC12 BK414) | ((with_reducible refine gate_callee (f := 21) rfl ?_); refine goesA (some 126) Tryd.func21 #[.agg #[.bool a0_4, .int .u64 a0_5, .int .u64 a0_6, .int .i64 a0_7], .agg #[.bool a0_0, .int .u64 a0_1, .int .u64 a0_2, .int .i64 a0_3]] ?_; (with_reducible refine (prefix_Compare.calls kj47 a0_4 a0_5 a0_6 a0_7 a0_0 a0_1 a0_2 a0_3 t428 _ A66.out).mono ?_); rintro e w82 ⟨rfl, hb⟩; refine ⟨_, rfl, ?_⟩; replace BK414 := (pB BK414 hb); replace HB := (pS HB hb); (try clear hb); obtain ⟨hcz83_0, hcz83_1, hcz83_2, hcz83_3, hcz83_4, hcz83_5, hcz83_6, hcz83_7, hcz83_8, hcz83_9, hcz83_10, hcz83_11, hfz83_0, hfz83_1, hfz83_2, hfz83_3, hfz83_4, hfz83_5, hfz83_6, hfz83_7, hfz83_8, hfz83_9, hfz83_10, hfz83_11⟩ := pC12 BK414) | (go_at_call 11; (with_reducible refine (ddilaw03_awake.calls kj47  t430 _ ?side1 A78.out).mono ?_); (case side1 => exact Laid.below HLD.out (pE HB)); rintro e w84 ⟨rfl, hb⟩; replace BK414 := (pB BK414 hb); replace HB := (pS HB hb); (try clear hb)))
             go_ret
             exact pR (pE HB)
           ·
            rw [if_neg c68] at H
            exact absurd H (by simp)
          ·
           rw [if_neg c67] at H
           exact absurd H (by simp)

end Go.Proofs.YteflcmmandlknaaDoor.PA
