/- The Go functions in Lean, with the proofs that the code comes to these answers: printed by this session's program (wip/px) out of the seat's translation. Conditions: each theorem's own. -/
import Derived.Test.YteflcmmandlknaaGreatDoorPAx0
import Derived.Test.YteflcmmandlknaaGreatDoorPAx2
import Derived.Test.YteflcmmandlknaaGreatDoorPAx3
import Derived.Test.YteflcmmandlknaaGreatDoorPAx6
import Derived.Test.YteflcmmandlknaaGreatDoorPAx7
import Derived.Test.YteflcmmandlknaaGreatDoorPAx8
import Derived.Test.YteflcmmandlknaaGreatDoorPAx11
import Derived.Test.YteflcmmandlknaaGreatDoorPAx17
import Derived.Test.YteflcmmandlknaaGreatDoorPAx18
namespace Go.Proofs.YteflcmmandlknaaGreatDoor.PA
open Go.RowKit Go.Proofs.YteflcmmandlknaaGreatDoorW.PrintWords Go.Proofs.YteflcmmandlknaaGreatDoorW.PrintLast Go.Proofs.YteflcmmandlknaaGreatDoorW.PrintMore
attribute [local go_sem] max2_int min2_int max_two min_two max_three min_three max_four min_four   -- for this text's walks alone
attribute [local go_sem ↓] Ext.isSome_setCell
open Press
set_option linter.unusedVariables false
set_option linter.unusedSimpArgs false
attribute [local go_sem high] eqA26 eqA33
/-! ### ddilaw03_PrefixParts: function 4 -/
def ddilaw03_PrefixParts.j0 : Nat → Int → Int → Bool → Bool → Int → Int → Int → Option (Bool)
 | 0, _, _, _, _, _, _, _ => none
 | k + 1, x1, x2, x73, x526000, x526001, x526002, x526003 => if x73 = true then (none) else ((prefix_Part.f k x526000 x526001 x526002 x526003 x1 x2).bind fun bt564 => ((ddiref03_Part.f k x526000 x526001 x526002 x526003 x1 x2).bind fun bt570 => ((prefix_Size.f x526000 x526001 x526002 x526003).bind fun bt576 => ((ddiref03_Size.f k x526000 x526001 x526002 x526003).bind fun bt578 => ((prefix_Zone.f k x526000 x526001 x526002 x526003).bind fun bt580 => ((ddiref03_Zone.f k x526000 x526001 x526002 x526003).bind fun bt582 => (if ((bt564.1 == bt570.1 && (bt564.2.1 == bt570.2.1 && (bt564.2.2.1 == bt570.2.2.1))) && (bt564.2.2.2.1 == bt570.2.2.2.1)) = true then (if (bt564.2.2.2.2 == bt570.2.2.2.2) = true then (if bt576.1 = bt578.1 then (if (bt576.2 == bt578.2) = true then (if bt580.1.toList = bt582.1.toList then (if (bt580.2 == bt582.2) = true then ((ddilaw03_awake.f k).bind fun t584 => (some t584)) else (none)) else (none)) else (none)) else (none)) else (none)) else (none))))))))
def ddilaw03_PrefixParts.f (k : Nat) (a0_0 : Bool) (a0_1 : Int) (a0_2 : Int) (a0_3 : Int) (a1 : Int) (a2 : Int) : Option (Bool) := (prefix_Bounds.f a0_0 a0_1 a0_2 a0_3).bind fun bt526 => ((ddiref03_Bounds.f k a0_0 a0_1 a0_2 a0_3).bind fun bt534 => ((prefix_Halves.f k a0_0 a0_1 a0_2 a0_3).bind fun bt542 => ((ddiref03_Halves.f k a0_0 a0_1 a0_2 a0_3).bind fun bt553 => (if ((!(bt526.1 == bt534.1) || (!(bt526.2.1 == bt534.2.1) || (!(bt526.2.2.1 == bt534.2.2.1)))) || ((!(bt526.2.2.2.1 == bt534.2.2.2.1) || (!(bt526.2.2.2.2.1 == bt534.2.2.2.2.1) || (!(bt526.2.2.2.2.2.1 == bt534.2.2.2.2.2.1)))))) = true then (ddilaw03_PrefixParts.j0 k a1 a2 true a0_0 a0_1 a0_2 a0_3) else (if (bt526.2.2.2.2.2.2 != bt534.2.2.2.2.2.2) = true then (ddilaw03_PrefixParts.j0 k a1 a2 true a0_0 a0_1 a0_2 a0_3) else (if ((!(bt542.1 == bt553.1) || (!(bt542.2.1 == bt553.2.1) || (!(bt542.2.2.1 == bt553.2.2.1)))) || (!(bt542.2.2.2.1 == bt553.2.2.2.1))) = true then (ddilaw03_PrefixParts.j0 k a1 a2 true a0_0 a0_1 a0_2 a0_3) else (if ((!(bt542.2.2.2.2.1 == bt553.2.2.2.2.1) || (!(bt542.2.2.2.2.2.1 == bt553.2.2.2.2.2.1) || (!(bt542.2.2.2.2.2.2.1 == bt553.2.2.2.2.2.2.1)))) || (!(bt542.2.2.2.2.2.2.2.1 == bt553.2.2.2.2.2.2.2.1))) = true then (ddilaw03_PrefixParts.j0 k a1 a2 true a0_0 a0_1 a0_2 a0_3) else (ddilaw03_PrefixParts.j0 k a1 a2 (bt542.2.2.2.2.2.2.2.2 != bt553.2.2.2.2.2.2.2.2) a0_0 a0_1 a0_2 a0_3))))))))
theorem ddilaw03_PrefixParts.mono_l : ∀ k, (∀ y0 y1 y2 y3 y4 y5 y6, LeO (ddilaw03_PrefixParts.j0 k y0 y1 y2 y3 y4 y5 y6) (ddilaw03_PrefixParts.j0 (k + 1) y0 y1 y2 y3 y4 y5 y6))
 | 0 => fun _ _ _ _ _ _ _ r h => by simp [ddilaw03_PrefixParts.j0] at h
 | k + 1 => by
  have ih0 := ddilaw03_PrefixParts.mono_l k
  ·
   intro y0 y1 y2 y3 y4 y5 y6
   unfold ddilaw03_PrefixParts.j0
   repeat' with_reducible first | exact ih0 _ _ _ _ _ _ _ | exact ddilaw03_awake.mono _ | exact ddiref03_Bounds.mono _ _ _ _ _ | exact ddiref03_Halves.mono _ _ _ _ _ | exact ddiref03_Part.mono _ _ _ _ _ _ _ | exact ddiref03_Size.mono _ _ _ _ _ | exact ddiref03_Zone.mono _ _ _ _ _ | exact prefix_Halves.mono _ _ _ _ _ | exact prefix_Part.mono _ _ _ _ _ _ _ | exact prefix_Zone.mono _ _ _ _ _ | exact LeO.refl _ | exact LeO.none _ | refine LeO.ite ?_ ?_ | refine LeO.bind ?_ (fun _ => ?_)
theorem ddilaw03_PrefixParts.mono : ∀ a0 a1 a2 a3 a4 a5 k, LeO (ddilaw03_PrefixParts.f k a0 a1 a2 a3 a4 a5) (ddilaw03_PrefixParts.f (k + 1) a0 a1 a2 a3 a4 a5) := by
 intro a0 a1 a2 a3 a4 a5 k
 have ih0 := ddilaw03_PrefixParts.mono_l k
 unfold ddilaw03_PrefixParts.f
 repeat' with_reducible first | exact ih0 _ _ _ _ _ _ _ | exact ddilaw03_awake.mono _ | exact ddiref03_Bounds.mono _ _ _ _ _ | exact ddiref03_Halves.mono _ _ _ _ _ | exact ddiref03_Part.mono _ _ _ _ _ _ _ | exact ddiref03_Size.mono _ _ _ _ _ | exact ddiref03_Zone.mono _ _ _ _ _ | exact prefix_Halves.mono _ _ _ _ _ | exact prefix_Part.mono _ _ _ _ _ _ _ | exact prefix_Zone.mono _ _ _ _ _ | exact LeO.refl _ | exact LeO.none _ | refine LeO.ite ?_ ?_ | refine LeO.bind ?_ (fun _ => ?_)
set_option maxHeartbeats 40000000 in
set_option maxRecDepth 100000 in
theorem ddilaw03_PrefixParts.calls (k : Nat) (a0_0 : Bool) (a0_1 : Int) (a0_2 : Int) (a0_3 : Int) (a1 : Int) (a2 : Int) (r : Bool) (w : World) (hLD : Laid w) (h : ddilaw03_PrefixParts.f k a0_0 a0_1 a0_2 a0_3 a1 a2 = some r) :
 Calls Tryz.prog 4 #[.agg #[.bool a0_0, .int .u64 a0_1, .int .u64 a0_2, .int .i64 a0_3], .int .i64 a1, .int .u64 a2] w fun e w' => e = .returned (.bool r) ∧ Below w.heap.size w w' := by
 have hu26 := Tryz.underlying26
 have hu33 := Tryz.underlying33
 have HLD := Aside0.mk hLD
 clear hLD
 have HB := Aside0.mk (Below.refl w.heap.size w)
 have H : ((prefix_Bounds.f a0_0 a0_1 a0_2 a0_3).bind fun bt526 => ((ddiref03_Bounds.f k a0_0 a0_1 a0_2 a0_3).bind fun bt534 => ((prefix_Halves.f k a0_0 a0_1 a0_2 a0_3).bind fun bt542 => ((ddiref03_Halves.f k a0_0 a0_1 a0_2 a0_3).bind fun bt553 => (if ((!(bt526.1 == bt534.1) || (!(bt526.2.1 == bt534.2.1) || (!(bt526.2.2.1 == bt534.2.2.1)))) || ((!(bt526.2.2.2.1 == bt534.2.2.2.1) || (!(bt526.2.2.2.2.1 == bt534.2.2.2.2.1) || (!(bt526.2.2.2.2.2.1 == bt534.2.2.2.2.2.1)))))) = true then (ddilaw03_PrefixParts.j0 k a1 a2 true a0_0 a0_1 a0_2 a0_3) else (if (bt526.2.2.2.2.2.2 != bt534.2.2.2.2.2.2) = true then (ddilaw03_PrefixParts.j0 k a1 a2 true a0_0 a0_1 a0_2 a0_3) else (if ((!(bt542.1 == bt553.1) || (!(bt542.2.1 == bt553.2.1) || (!(bt542.2.2.1 == bt553.2.2.1)))) || (!(bt542.2.2.2.1 == bt553.2.2.2.1))) = true then (ddilaw03_PrefixParts.j0 k a1 a2 true a0_0 a0_1 a0_2 a0_3) else (if ((!(bt542.2.2.2.2.1 == bt553.2.2.2.2.1) || (!(bt542.2.2.2.2.2.1 == bt553.2.2.2.2.2.1) || (!(bt542.2.2.2.2.2.2.1 == bt553.2.2.2.2.2.2.1)))) || (!(bt542.2.2.2.2.2.2.2.1 == bt553.2.2.2.2.2.2.2.1))) = true then (ddilaw03_PrefixParts.j0 k a1 a2 true a0_0 a0_1 a0_2 a0_3) else (ddilaw03_PrefixParts.j0 k a1 a2 (bt542.2.2.2.2.2.2.2.2 != bt553.2.2.2.2.2.2.2.2) a0_0 a0_1 a0_2 a0_3))))))))) = some r := h
 clear h
 replace H := Option.bind_eq_some_iff.mp H
 obtain ⟨⟨t526, t527, t528, t529, t530, t531, t532⟩, A40, H⟩ := H
 replace H : ((ddiref03_Bounds.f k a0_0 a0_1 a0_2 a0_3).bind fun bt534 => ((prefix_Halves.f k a0_0 a0_1 a0_2 a0_3).bind fun bt542 => ((ddiref03_Halves.f k a0_0 a0_1 a0_2 a0_3).bind fun bt553 => (if ((!(t526 == bt534.1) || (!(t527 == bt534.2.1) || (!(t528 == bt534.2.2.1)))) || ((!(t529 == bt534.2.2.2.1) || (!(t530 == bt534.2.2.2.2.1) || (!(t531 == bt534.2.2.2.2.2.1)))))) = true then (ddilaw03_PrefixParts.j0 k a1 a2 true a0_0 a0_1 a0_2 a0_3) else (if (t532 != bt534.2.2.2.2.2.2) = true then (ddilaw03_PrefixParts.j0 k a1 a2 true a0_0 a0_1 a0_2 a0_3) else (if ((!(bt542.1 == bt553.1) || (!(bt542.2.1 == bt553.2.1) || (!(bt542.2.2.1 == bt553.2.2.1)))) || (!(bt542.2.2.2.1 == bt553.2.2.2.1))) = true then (ddilaw03_PrefixParts.j0 k a1 a2 true a0_0 a0_1 a0_2 a0_3) else (if ((!(bt542.2.2.2.2.1 == bt553.2.2.2.2.1) || (!(bt542.2.2.2.2.2.1 == bt553.2.2.2.2.2.1) || (!(bt542.2.2.2.2.2.2.1 == bt553.2.2.2.2.2.2.1)))) || (!(bt542.2.2.2.2.2.2.2.1 == bt553.2.2.2.2.2.2.2.1))) = true then (ddilaw03_PrefixParts.j0 k a1 a2 true a0_0 a0_1 a0_2 a0_3) else (ddilaw03_PrefixParts.j0 k a1 a2 (bt542.2.2.2.2.2.2.2.2 != bt553.2.2.2.2.2.2.2.2) a0_0 a0_1 a0_2 a0_3)))))))) = some r := H
 have A4 := Aside0.mk A40
 clear A40
 replace H := Option.bind_eq_some_iff.mp H
 obtain ⟨⟨t534, t535, t536, t537, t538, t539, t540⟩, A50, H⟩ := H
 replace H : ((prefix_Halves.f k a0_0 a0_1 a0_2 a0_3).bind fun bt542 => ((ddiref03_Halves.f k a0_0 a0_1 a0_2 a0_3).bind fun bt553 => (if ((!(t526 == t534) || (!(t527 == t535) || (!(t528 == t536)))) || ((!(t529 == t537) || (!(t530 == t538) || (!(t531 == t539)))))) = true then (ddilaw03_PrefixParts.j0 k a1 a2 true a0_0 a0_1 a0_2 a0_3) else (if (t532 != t540) = true then (ddilaw03_PrefixParts.j0 k a1 a2 true a0_0 a0_1 a0_2 a0_3) else (if ((!(bt542.1 == bt553.1) || (!(bt542.2.1 == bt553.2.1) || (!(bt542.2.2.1 == bt553.2.2.1)))) || (!(bt542.2.2.2.1 == bt553.2.2.2.1))) = true then (ddilaw03_PrefixParts.j0 k a1 a2 true a0_0 a0_1 a0_2 a0_3) else (if ((!(bt542.2.2.2.2.1 == bt553.2.2.2.2.1) || (!(bt542.2.2.2.2.2.1 == bt553.2.2.2.2.2.1) || (!(bt542.2.2.2.2.2.2.1 == bt553.2.2.2.2.2.2.1)))) || (!(bt542.2.2.2.2.2.2.2.1 == bt553.2.2.2.2.2.2.2.1))) = true then (ddilaw03_PrefixParts.j0 k a1 a2 true a0_0 a0_1 a0_2 a0_3) else (ddilaw03_PrefixParts.j0 k a1 a2 (bt542.2.2.2.2.2.2.2.2 != bt553.2.2.2.2.2.2.2.2) a0_0 a0_1 a0_2 a0_3))))))) = some r := H
 have A5 := Aside0.mk A50
 clear A50
 replace H := Option.bind_eq_some_iff.mp H
 obtain ⟨⟨t542, t543, t544, t545, t546, t547, t548, t549, t550⟩, A60, H⟩ := H
 replace H : ((ddiref03_Halves.f k a0_0 a0_1 a0_2 a0_3).bind fun bt553 => (if ((!(t526 == t534) || (!(t527 == t535) || (!(t528 == t536)))) || ((!(t529 == t537) || (!(t530 == t538) || (!(t531 == t539)))))) = true then (ddilaw03_PrefixParts.j0 k a1 a2 true a0_0 a0_1 a0_2 a0_3) else (if (t532 != t540) = true then (ddilaw03_PrefixParts.j0 k a1 a2 true a0_0 a0_1 a0_2 a0_3) else (if ((!(t542 == bt553.1) || (!(t543 == bt553.2.1) || (!(t544 == bt553.2.2.1)))) || (!(t545 == bt553.2.2.2.1))) = true then (ddilaw03_PrefixParts.j0 k a1 a2 true a0_0 a0_1 a0_2 a0_3) else (if ((!(t546 == bt553.2.2.2.2.1) || (!(t547 == bt553.2.2.2.2.2.1) || (!(t548 == bt553.2.2.2.2.2.2.1)))) || (!(t549 == bt553.2.2.2.2.2.2.2.1))) = true then (ddilaw03_PrefixParts.j0 k a1 a2 true a0_0 a0_1 a0_2 a0_3) else (ddilaw03_PrefixParts.j0 k a1 a2 (t550 != bt553.2.2.2.2.2.2.2.2) a0_0 a0_1 a0_2 a0_3)))))) = some r := H
 have A6 := Aside0.mk A60
 clear A60
 replace H := Option.bind_eq_some_iff.mp H
 obtain ⟨⟨t553, t554, t555, t556, t557, t558, t559, t560, t561⟩, A70, H⟩ := H
 replace H : (if ((!(t526 == t534) || (!(t527 == t535) || (!(t528 == t536)))) || ((!(t529 == t537) || (!(t530 == t538) || (!(t531 == t539)))))) = true then (ddilaw03_PrefixParts.j0 k a1 a2 true a0_0 a0_1 a0_2 a0_3) else (if (t532 != t540) = true then (ddilaw03_PrefixParts.j0 k a1 a2 true a0_0 a0_1 a0_2 a0_3) else (if ((!(t542 == t553) || (!(t543 == t554) || (!(t544 == t555)))) || (!(t545 == t556))) = true then (ddilaw03_PrefixParts.j0 k a1 a2 true a0_0 a0_1 a0_2 a0_3) else (if ((!(t546 == t557) || (!(t547 == t558) || (!(t548 == t559)))) || (!(t549 == t560))) = true then (ddilaw03_PrefixParts.j0 k a1 a2 true a0_0 a0_1 a0_2 a0_3) else (ddilaw03_PrefixParts.j0 k a1 a2 (t550 != t561) a0_0 a0_1 a0_2 a0_3))))) = some r := H
 have A7 := Aside0.mk A70
 clear A70
 have HC8 := Aside0.mk H
 clear H
 go_enter Tryz.func4, Tryz.ntmps4
 go_upto_region 5 with (first | ((with_reducible refine gate_dst (N := 3) rfl ?_); refine boxA (N := 3) (cs := #[.bool a0_0, .int .u64 a0_1, .int .u64 a0_2, .int .i64 a0_3]) (t := 26) ?_; intro gb525 hg w9 hbox hb; have BK525 := Aside0.mk (hbox); have GE525 := (pZ HB hg); replace HB := (pS HB hb); clear hb hbox hg; obtain ⟨hcz10_0, hcz10_1, hcz10_2, hcz10_3, hfz10_0, hfz10_1, hfz10_2, hfz10_3⟩ := pC4 BK525) | ((with_reducible refine gate_callee (f := 10) rfl ?_); refine goesA (some 31) Tryz.func10 #[.agg #[.bool a0_0, .int .u64 a0_1, .int .u64 a0_2, .int .i64 a0_3]] ?_; (with_reducible refine (prefix_Bounds.calls a0_0 a0_1 a0_2 a0_3 t526 t527 t528 t529 t530 t531 t532 _ A4.out).mono ?_); rintro e w11 ⟨rfl, hb⟩; refine ⟨_, rfl, ?_⟩; replace BK525 := (pB BK525 hb); replace HB := (pS HB hb); (try clear hb)) | ((with_reducible refine gate_dst (N := 7) rfl ?_); refine boxA (N := 7) (cs := #[.bool false, .int .u64 0, .int .u64 0, .bool false, .int .u64 0, .int .u64 0]) (t := 33) ?_; intro gb533 hg w12 hbox hb; have BK533 := Aside0.mk (hbox); have GE533 := (pZ HB hg); have NB525_533 := (pL BK525 hg); have NB533_525 := (pG BK525 hg); replace BK525 := (pB BK525 hb); replace HB := (pS HB hb); clear hb hbox hg; have hnb13 := NB533_525.out; have hnc13 := NB525_533.out; obtain ⟨hcz14_0, hcz14_1, hcz14_2, hcz14_3, hcz14_4, hcz14_5, hfz14_0, hfz14_1, hfz14_2, hfz14_3, hfz14_4, hfz14_5⟩ := pC6 BK533) | ((with_reducible refine gate_store (t := 33) (p := 7) rfl ?_); refine store_event (t := 33) (p := 7) (v := ?vo_w15) (w1 := ((((((w12.setCell ⟨gb533, 0, none⟩ (.bool t526)).setCell ⟨gb533, 1, none⟩ (.int .u64 t527)).setCell ⟨gb533, 2, none⟩ (.int .u64 t528)).setCell ⟨gb533, 3, none⟩ (.bool t529)).setCell ⟨gb533, 4, none⟩ (.int .u64 t530)).setCell ⟨gb533, 5, none⟩ (.int .u64 t531))) ?hg ?ho ?hn ?hr ?_; (case ho => rfl); (case hg => rfl); (case hn => rfl); (case hr => first | (exact Ext.run_store_chain 33 _ _ rfl _ _ _ _ rfl rfl (pM BK533) (by kernel_rfl) rfl rfl rfl) | (go_simp; done) | (go_simp; rfl)); intro w15 hw; replace BK525 : Aside0 (w15.heap[gb525]? = some (.cells #[.bool a0_0, .int .u64 a0_1, .int .u64 a0_2, .int .i64 a0_3] 26 (0, 0))) := (pW hw (pK NB525_533 (pK NB525_533 (pK NB525_533 (pK NB525_533 (pK NB525_533 (pK NB525_533 (pM BK525)))))))); replace BK533 : Aside0 (w15.heap[gb533]? = some (.cells #[.bool t526, .int .u64 t527, .int .u64 t528, .bool t529, .int .u64 t530, .int .u64 t531] 33 (0, 0))) := (pW hw (pP (pP (pP (pP (pP (pP (pM BK533)))))))); replace HB : Aside0 (Below w.heap.size w w15) := ⟨(by rw [hw]; exact (by repeat (first | (with_reducible first | exact HB.out | apply below_alloc | apply pw_below_drewN | apply below_drew1 | refine below_set ?_ GE525.out | refine below_set ?_ GE533.out) | exact HB.out)))⟩; clear hw; obtain ⟨hcz16_0, hcz16_1, hcz16_2, hcz16_3, hfz16_0, hfz16_1, hfz16_2, hfz16_3⟩ := pC4 BK525) | ((with_reducible refine gate_callee (f := 11) rfl ?_); refine goesA (some 36) Tryz.func11 #[.agg #[.bool a0_0, .int .u64 a0_1, .int .u64 a0_2, .int .i64 a0_3]] ?_; (with_reducible refine (ddiref03_Bounds.calls k a0_0 a0_1 a0_2 a0_3 t534 t535 t536 t537 t538 t539 t540 _ A5.out).mono ?_); rintro e w17 ⟨rfl, hb⟩; refine ⟨_, rfl, ?_⟩; replace BK525 := (pB BK525 hb); replace BK533 := (pB BK533 hb); replace HB := (pS HB hb); (try clear hb)) | ((with_reducible refine gate_dst (N := 9) rfl ?_); refine boxA (N := 9) (cs := #[.bool false, .int .u64 0, .int .u64 0, .bool false, .int .u64 0, .int .u64 0]) (t := 33) ?_; intro gb541 hg w18 hbox hb; have BK541 := Aside0.mk (hbox); have GE541 := (pZ HB hg); have NB525_541 := (pL BK525 hg); have NB541_525 := (pG BK525 hg); have NB533_541 := (pL BK533 hg); have NB541_533 := (pG BK533 hg); replace BK525 := (pB BK525 hb); replace BK533 := (pB BK533 hb); replace HB := (pS HB hb); clear hb hbox hg; have hnb19 := NB541_525.out; have hnc19 := NB525_541.out; have hnb20 := NB541_533.out; have hnc20 := NB533_541.out; obtain ⟨hcz21_0, hcz21_1, hcz21_2, hcz21_3, hcz21_4, hcz21_5, hfz21_0, hfz21_1, hfz21_2, hfz21_3, hfz21_4, hfz21_5⟩ := pC6 BK541) | ((with_reducible refine gate_store (t := 33) (p := 9) rfl ?_); refine store_event (t := 33) (p := 9) (v := ?vo_w22) (w1 := ((((((w18.setCell ⟨gb541, 0, none⟩ (.bool t534)).setCell ⟨gb541, 1, none⟩ (.int .u64 t535)).setCell ⟨gb541, 2, none⟩ (.int .u64 t536)).setCell ⟨gb541, 3, none⟩ (.bool t537)).setCell ⟨gb541, 4, none⟩ (.int .u64 t538)).setCell ⟨gb541, 5, none⟩ (.int .u64 t539))) ?hg ?ho ?hn ?hr ?_; (case ho => rfl); (case hg => rfl); (case hn => rfl); (case hr => first | (exact Ext.run_store_chain 33 _ _ rfl _ _ _ _ rfl rfl (pM BK541) (by kernel_rfl) rfl rfl rfl) | (go_simp; done) | (go_simp; rfl)); intro w22 hw; replace BK525 : Aside0 (w22.heap[gb525]? = some (.cells #[.bool a0_0, .int .u64 a0_1, .int .u64 a0_2, .int .i64 a0_3] 26 (0, 0))) := (pW hw (pK NB525_541 (pK NB525_541 (pK NB525_541 (pK NB525_541 (pK NB525_541 (pK NB525_541 (pM BK525)))))))); replace BK533 : Aside0 (w22.heap[gb533]? = some (.cells #[.bool t526, .int .u64 t527, .int .u64 t528, .bool t529, .int .u64 t530, .int .u64 t531] 33 (0, 0))) := (pW hw (pK NB533_541 (pK NB533_541 (pK NB533_541 (pK NB533_541 (pK NB533_541 (pK NB533_541 (pM BK533)))))))); replace BK541 : Aside0 (w22.heap[gb541]? = some (.cells #[.bool t534, .int .u64 t535, .int .u64 t536, .bool t537, .int .u64 t538, .int .u64 t539] 33 (0, 0))) := (pW hw (pP (pP (pP (pP (pP (pP (pM BK541)))))))); replace HB : Aside0 (Below w.heap.size w w22) := ⟨(by rw [hw]; exact (by repeat (first | (with_reducible first | exact HB.out | apply below_alloc | apply pw_below_drewN | apply below_drew1 | refine below_set ?_ GE525.out | refine below_set ?_ GE533.out | refine below_set ?_ GE541.out) | exact HB.out)))⟩; clear hw; obtain ⟨hcz23_0, hcz23_1, hcz23_2, hcz23_3, hfz23_0, hfz23_1, hfz23_2, hfz23_3⟩ := pC4 BK525) | ((with_reducible refine gate_callee (f := 12) rfl ?_); refine goesA (some 41) Tryz.func12 #[.agg #[.bool a0_0, .int .u64 a0_1, .int .u64 a0_2, .int .i64 a0_3]] ?_; (with_reducible refine (prefix_Halves.calls k a0_0 a0_1 a0_2 a0_3 t542 t543 t544 t545 t546 t547 t548 t549 t550 _ A6.out).mono ?_); rintro e w24 ⟨rfl, hb⟩; refine ⟨_, rfl, ?_⟩; replace BK525 := (pB BK525 hb); replace BK533 := (pB BK533 hb); replace BK541 := (pB BK541 hb); replace HB := (pS HB hb); (try clear hb)) | ((with_reducible refine gate_dst (N := 11) rfl ?_); refine boxA (N := 11) (cs := #[.bool false, .int .u64 0, .int .u64 0, .int .i64 0]) (t := 26) ?_; intro gb551 hg w25 hbox hb; have BK551 := Aside0.mk (hbox); have GE551 := (pZ HB hg); have NB525_551 := (pL BK525 hg); have NB551_525 := (pG BK525 hg); have NB533_551 := (pL BK533 hg); have NB551_533 := (pG BK533 hg); have NB541_551 := (pL BK541 hg); have NB551_541 := (pG BK541 hg); replace BK525 := (pB BK525 hb); replace BK533 := (pB BK533 hb); replace BK541 := (pB BK541 hb); replace HB := (pS HB hb); clear hb hbox hg) | ((with_reducible refine gate_dst (N := 12) rfl ?_); refine boxA (N := 12) (cs := #[.bool false, .int .u64 0, .int .u64 0, .int .i64 0]) (t := 26) ?_; intro gb552 hg w26 hbox hb; have BK552 := Aside0.mk (hbox); have GE552 := (pZ HB hg); have NB525_552 := (pL BK525 hg); have NB552_525 := (pG BK525 hg); have NB533_552 := (pL BK533 hg); have NB552_533 := (pG BK533 hg); have NB541_552 := (pL BK541 hg); have NB552_541 := (pG BK541 hg); have NB551_552 := (pL BK551 hg); have NB552_551 := (pG BK551 hg); replace BK525 := (pB BK525 hb); replace BK533 := (pB BK533 hb); replace BK541 := (pB BK541 hb); replace BK551 := (pB BK551 hb); replace HB := (pS HB hb); clear hb hbox hg; have hnb27 := NB551_525.out; have hnc27 := NB525_551.out; have hnb28 := NB551_533.out; have hnc28 := NB533_551.out; have hnb29 := NB551_541.out; have hnc29 := NB541_551.out; have hnb30 := NB551_552.out; have hnc30 := NB552_551.out; obtain ⟨hcz31_0, hcz31_1, hcz31_2, hcz31_3, hfz31_0, hfz31_1, hfz31_2, hfz31_3⟩ := pC4 BK551; have hnb32 := NB552_525.out; have hnc32 := NB525_552.out; have hnb33 := NB552_533.out; have hnc33 := NB533_552.out; have hnb34 := NB552_541.out; have hnc34 := NB541_552.out; obtain ⟨hcz35_0, hcz35_1, hcz35_2, hcz35_3, hfz35_0, hfz35_1, hfz35_2, hfz35_3⟩ := pC4 BK552) | ((with_reducible refine gate_store (t := 26) (p := 12) rfl ?_); refine store_event (t := 26) (p := 12) (v := ?vo_w36) (w1 := ((((((((w26.setCell ⟨gb551, 0, none⟩ (.bool t542)).setCell ⟨gb551, 1, none⟩ (.int .u64 t543)).setCell ⟨gb551, 2, none⟩ (.int .u64 t544)).setCell ⟨gb551, 3, none⟩ (.int .i64 t545)).setCell ⟨gb552, 0, none⟩ (.bool t546)).setCell ⟨gb552, 1, none⟩ (.int .u64 t547)).setCell ⟨gb552, 2, none⟩ (.int .u64 t548)).setCell ⟨gb552, 3, none⟩ (.int .i64 t549))) ?hg ?ho ?hn ?hr ?_; (case ho => rfl); (case hg => rfl); (case hn => rfl); (case hr => first | (exact Ext.run_store_chain 26 _ _ rfl _ _ _ _ rfl rfl (pK NB552_551 (pK NB552_551 (pK NB552_551 (pK NB552_551 (pM BK552))))) (by kernel_rfl) rfl rfl rfl) | (go_simp; done) | (go_simp; rfl)); intro w36 hw; replace BK525 : Aside0 (w36.heap[gb525]? = some (.cells #[.bool a0_0, .int .u64 a0_1, .int .u64 a0_2, .int .i64 a0_3] 26 (0, 0))) := (pW hw (pK NB525_552 (pK NB525_552 (pK NB525_552 (pK NB525_552 (pK NB525_551 (pK NB525_551 (pK NB525_551 (pK NB525_551 (pM BK525)))))))))); replace BK533 : Aside0 (w36.heap[gb533]? = some (.cells #[.bool t526, .int .u64 t527, .int .u64 t528, .bool t529, .int .u64 t530, .int .u64 t531] 33 (0, 0))) := (pW hw (pK NB533_552 (pK NB533_552 (pK NB533_552 (pK NB533_552 (pK NB533_551 (pK NB533_551 (pK NB533_551 (pK NB533_551 (pM BK533)))))))))); replace BK541 : Aside0 (w36.heap[gb541]? = some (.cells #[.bool t534, .int .u64 t535, .int .u64 t536, .bool t537, .int .u64 t538, .int .u64 t539] 33 (0, 0))) := (pW hw (pK NB541_552 (pK NB541_552 (pK NB541_552 (pK NB541_552 (pK NB541_551 (pK NB541_551 (pK NB541_551 (pK NB541_551 (pM BK541)))))))))); replace BK551 : Aside0 (w36.heap[gb551]? = some (.cells #[.bool t542, .int .u64 t543, .int .u64 t544, .int .i64 t545] 26 (0, 0))) := (pW hw (pK NB551_552 (pK NB551_552 (pK NB551_552 (pK NB551_552 (pP (pP (pP (pP (pM BK551)))))))))); replace BK552 : Aside0 (w36.heap[gb552]? = some (.cells #[.bool t546, .int .u64 t547, .int .u64 t548, .int .i64 t549] 26 (0, 0))) := (pW hw (pP (pP (pP (pP (pK NB552_551 (pK NB552_551 (pK NB552_551 (pK NB552_551 (pM BK552)))))))))); replace HB : Aside0 (Below w.heap.size w w36) := ⟨(by rw [hw]; exact (by repeat (first | (with_reducible first | exact HB.out | apply below_alloc | apply pw_below_drewN | apply below_drew1 | refine below_set ?_ GE525.out | refine below_set ?_ GE533.out | refine below_set ?_ GE541.out | refine below_set ?_ GE551.out | refine below_set ?_ GE552.out) | exact HB.out)))⟩; clear hw; obtain ⟨hcz37_0, hcz37_1, hcz37_2, hcz37_3, hfz37_0, hfz37_1, hfz37_2, hfz37_3⟩ := pC4 BK525) | ((with_reducible refine gate_callee (f := 13) rfl ?_); refine goesA (some 47) Tryz.func13 #[.agg #[.bool a0_0, .int .u64 a0_1, .int .u64 a0_2, .int .i64 a0_3]] ?_; (with_reducible refine (ddiref03_Halves.calls k a0_0 a0_1 a0_2 a0_3 t553 t554 t555 t556 t557 t558 t559 t560 t561 _ A7.out).mono ?_); rintro e w38 ⟨rfl, hb⟩; refine ⟨_, rfl, ?_⟩; replace BK525 := (pB BK525 hb); replace BK533 := (pB BK533 hb); replace BK541 := (pB BK541 hb); replace BK551 := (pB BK551 hb); replace BK552 := (pB BK552 hb); replace HB := (pS HB hb); (try clear hb)) | ((with_reducible refine gate_dst (N := 14) rfl ?_); refine boxA (N := 14) (cs := #[.bool false, .int .u64 0, .int .u64 0, .int .i64 0]) (t := 26) ?_; intro gb562 hg w39 hbox hb; have BK562 := Aside0.mk (hbox); have GE562 := (pZ HB hg); have NB525_562 := (pL BK525 hg); have NB562_525 := (pG BK525 hg); have NB533_562 := (pL BK533 hg); have NB562_533 := (pG BK533 hg); have NB541_562 := (pL BK541 hg); have NB562_541 := (pG BK541 hg); have NB551_562 := (pL BK551 hg); have NB562_551 := (pG BK551 hg); have NB552_562 := (pL BK552 hg); have NB562_552 := (pG BK552 hg); replace BK525 := (pB BK525 hb); replace BK533 := (pB BK533 hb); replace BK541 := (pB BK541 hb); replace BK551 := (pB BK551 hb); replace BK552 := (pB BK552 hb); replace HB := (pS HB hb); clear hb hbox hg) | ((with_reducible refine gate_dst (N := 15) rfl ?_); refine boxA (N := 15) (cs := #[.bool false, .int .u64 0, .int .u64 0, .int .i64 0]) (t := 26) ?_; intro gb563 hg w40 hbox hb; have BK563 := Aside0.mk (hbox); have GE563 := (pZ HB hg); have NB525_563 := (pL BK525 hg); have NB563_525 := (pG BK525 hg); have NB533_563 := (pL BK533 hg); have NB563_533 := (pG BK533 hg); have NB541_563 := (pL BK541 hg); have NB563_541 := (pG BK541 hg); have NB551_563 := (pL BK551 hg); have NB563_551 := (pG BK551 hg); have NB552_563 := (pL BK552 hg); have NB563_552 := (pG BK552 hg); have NB562_563 := (pL BK562 hg); have NB563_562 := (pG BK562 hg); replace BK525 := (pB BK525 hb); replace BK533 := (pB BK533 hb); replace BK541 := (pB BK541 hb); replace BK551 := (pB BK551 hb); replace BK552 := (pB BK552 hb); replace BK562 := (pB BK562 hb); replace HB := (pS HB hb); clear hb hbox hg; have hnb41 := NB562_525.out; have hnc41 := NB525_562.out; have hnb42 := NB562_533.out; have hnc42 := NB533_562.out; have hnb43 := NB562_541.out; have hnc43 := NB541_562.out; have hnb44 := NB562_551.out; have hnc44 := NB551_562.out; have hnb45 := NB562_552.out; have hnc45 := NB552_562.out; have hnb46 := NB562_563.out; have hnc46 := NB563_562.out; obtain ⟨hcz47_0, hcz47_1, hcz47_2, hcz47_3, hfz47_0, hfz47_1, hfz47_2, hfz47_3⟩ := pC4 BK562; have hnb48 := NB563_525.out; have hnc48 := NB525_563.out; have hnb49 := NB563_533.out; have hnc49 := NB533_563.out; have hnb50 := NB563_541.out; have hnc50 := NB541_563.out; have hnb51 := NB563_551.out; have hnc51 := NB551_563.out; have hnb52 := NB563_552.out; have hnc52 := NB552_563.out; obtain ⟨hcz53_0, hcz53_1, hcz53_2, hcz53_3, hfz53_0, hfz53_1, hfz53_2, hfz53_3⟩ := pC4 BK563) | ((with_reducible refine gate_store (t := 26) (p := 15) rfl ?_); refine store_event (t := 26) (p := 15) (v := ?vo_w54) (w1 := ((((((((w40.setCell ⟨gb562, 0, none⟩ (.bool t553)).setCell ⟨gb562, 1, none⟩ (.int .u64 t554)).setCell ⟨gb562, 2, none⟩ (.int .u64 t555)).setCell ⟨gb562, 3, none⟩ (.int .i64 t556)).setCell ⟨gb563, 0, none⟩ (.bool t557)).setCell ⟨gb563, 1, none⟩ (.int .u64 t558)).setCell ⟨gb563, 2, none⟩ (.int .u64 t559)).setCell ⟨gb563, 3, none⟩ (.int .i64 t560))) ?hg ?ho ?hn ?hr ?_; (case ho => rfl); (case hg => rfl); (case hn => rfl); (case hr => first | (exact Ext.run_store_chain 26 _ _ rfl _ _ _ _ rfl rfl (pK NB563_562 (pK NB563_562 (pK NB563_562 (pK NB563_562 (pM BK563))))) (by kernel_rfl) rfl rfl rfl) | (go_simp; done) | (go_simp; rfl)); intro w54 hw; replace BK525 : Aside0 (w54.heap[gb525]? = some (.cells #[.bool a0_0, .int .u64 a0_1, .int .u64 a0_2, .int .i64 a0_3] 26 (0, 0))) := (pW hw (pK NB525_563 (pK NB525_563 (pK NB525_563 (pK NB525_563 (pK NB525_562 (pK NB525_562 (pK NB525_562 (pK NB525_562 (pM BK525)))))))))); replace BK533 : Aside0 (w54.heap[gb533]? = some (.cells #[.bool t526, .int .u64 t527, .int .u64 t528, .bool t529, .int .u64 t530, .int .u64 t531] 33 (0, 0))) := (pW hw (pK NB533_563 (pK NB533_563 (pK NB533_563 (pK NB533_563 (pK NB533_562 (pK NB533_562 (pK NB533_562 (pK NB533_562 (pM BK533)))))))))); replace BK541 : Aside0 (w54.heap[gb541]? = some (.cells #[.bool t534, .int .u64 t535, .int .u64 t536, .bool t537, .int .u64 t538, .int .u64 t539] 33 (0, 0))) := (pW hw (pK NB541_563 (pK NB541_563 (pK NB541_563 (pK NB541_563 (pK NB541_562 (pK NB541_562 (pK NB541_562 (pK NB541_562 (pM BK541)))))))))); replace BK551 : Aside0 (w54.heap[gb551]? = some (.cells #[.bool t542, .int .u64 t543, .int .u64 t544, .int .i64 t545] 26 (0, 0))) := (pW hw (pK NB551_563 (pK NB551_563 (pK NB551_563 (pK NB551_563 (pK NB551_562 (pK NB551_562 (pK NB551_562 (pK NB551_562 (pM BK551)))))))))); replace BK552 : Aside0 (w54.heap[gb552]? = some (.cells #[.bool t546, .int .u64 t547, .int .u64 t548, .int .i64 t549] 26 (0, 0))) := (pW hw (pK NB552_563 (pK NB552_563 (pK NB552_563 (pK NB552_563 (pK NB552_562 (pK NB552_562 (pK NB552_562 (pK NB552_562 (pM BK552)))))))))); replace BK562 : Aside0 (w54.heap[gb562]? = some (.cells #[.bool t553, .int .u64 t554, .int .u64 t555, .int .i64 t556] 26 (0, 0))) := (pW hw (pK NB562_563 (pK NB562_563 (pK NB562_563 (pK NB562_563 (pP (pP (pP (pP (pM BK562)))))))))); replace BK563 : Aside0 (w54.heap[gb563]? = some (.cells #[.bool t557, .int .u64 t558, .int .u64 t559, .int .i64 t560] 26 (0, 0))) := (pW hw (pP (pP (pP (pP (pK NB563_562 (pK NB563_562 (pK NB563_562 (pK NB563_562 (pM BK563)))))))))); replace HB : Aside0 (Below w.heap.size w w54) := ⟨(by rw [hw]; exact (by repeat (first | (with_reducible first | exact HB.out | apply below_alloc | apply pw_below_drewN | apply below_drew1 | refine below_set ?_ GE525.out | refine below_set ?_ GE533.out | refine below_set ?_ GE541.out | refine below_set ?_ GE551.out | refine below_set ?_ GE552.out | refine below_set ?_ GE562.out | refine below_set ?_ GE563.out) | exact HB.out)))⟩; clear hw))
 (try simp only [Act.put, List.setIfInBounds_toArray, List.set_cons_zero, List.set_cons_succ])
 go_cut [73] (fun v73 wc => ∃ (kq : Nat) (x73_7 : Bool), v73 = .bool x73_7 ∧ Aside0 (ddilaw03_PrefixParts.j0 kq a1 a2 x73_7 a0_0 a0_1 a0_2 a0_3 = some r) ∧ Aside0 (kq ≤ k) ∧ Aside0 (wc.heap[gb525]? = some (.cells #[.bool a0_0, .int .u64 a0_1, .int .u64 a0_2, .int .i64 a0_3] 26 (0, 0))) ∧ Aside0 (wc.heap[gb533]? = some (.cells #[.bool t526, .int .u64 t527, .int .u64 t528, .bool t529, .int .u64 t530, .int .u64 t531] 33 (0, 0))) ∧ Aside0 (wc.heap[gb541]? = some (.cells #[.bool t534, .int .u64 t535, .int .u64 t536, .bool t537, .int .u64 t538, .int .u64 t539] 33 (0, 0))) ∧ Aside0 (wc.heap[gb551]? = some (.cells #[.bool t542, .int .u64 t543, .int .u64 t544, .int .i64 t545] 26 (0, 0))) ∧ Aside0 (wc.heap[gb552]? = some (.cells #[.bool t546, .int .u64 t547, .int .u64 t548, .int .i64 t549] 26 (0, 0))) ∧ Aside0 (wc.heap[gb562]? = some (.cells #[.bool t553, .int .u64 t554, .int .u64 t555, .int .i64 t556] 26 (0, 0))) ∧ Aside0 (wc.heap[gb563]? = some (.cells #[.bool t557, .int .u64 t558, .int .u64 t559, .int .i64 t560] 26 (0, 0))) ∧ Aside0 (Below w.heap.size w wc))
 case first =>
  have H := HC8.out
  clear HC8
  by_cases c55 : ((!(t526 == t534) || (!(t527 == t535) || (!(t528 == t536)))) || ((!(t529 == t537) || (!(t530 == t538) || (!(t531 == t539)))))) = true
  ·
   rw [if_pos c55] at H
   have c55b0 : ((!(t526 == t534) || (!(t527 == t535) || (!(t528 == t536)))) || ((!(t529 == t537) || (!(t530 == t538) || (!(t531 == t539)))))) = true := c55
   clear c55
   (first | rw [c55b0] | (simp only [i64_w, i32_w]; rw [c55b0]) | skip)
   have H' := Aside0.mk H
   clear H
   have hnb56 := NB533_525.out
   have hnc56 := NB525_533.out
   have hnb57 := NB533_541.out
   have hnc57 := NB541_533.out
   have hnb58 := NB533_551.out
   have hnc58 := NB551_533.out
   have hnb59 := NB533_552.out
   have hnc59 := NB552_533.out
   have hnb60 := NB533_562.out
   have hnc60 := NB562_533.out
   have hnb61 := NB533_563.out
   have hnc61 := NB563_533.out
   obtain ⟨hcz62_0, hcz62_1, hcz62_2, hcz62_3, hcz62_4, hcz62_5, hfz62_0, hfz62_1, hfz62_2, hfz62_3, hfz62_4, hfz62_5⟩ := pC6 BK533
   have hnb63 := NB541_525.out
   have hnc63 := NB525_541.out
   have hnb64 := NB541_551.out
   have hnc64 := NB551_541.out
   have hnb65 := NB541_552.out
   have hnc65 := NB552_541.out
   have hnb66 := NB541_562.out
   have hnc66 := NB562_541.out
   have hnb67 := NB541_563.out
   have hnc67 := NB563_541.out
   obtain ⟨hcz68_0, hcz68_1, hcz68_2, hcz68_3, hcz68_4, hcz68_5, hfz68_0, hfz68_1, hfz68_2, hfz68_3, hfz68_4, hfz68_5⟩ := pC6 BK541
   go_wp2_with (first | ((with_reducible refine gate_ (.load 33 (.tmp 7)) rfl ?_); refine wpList_load_row (by rfl) 33 (.tmp 7) (by rfl) _ (by rfl) 33 _ (0, 0) _ (by first | exact BK525.out | exact BK533.out | exact BK541.out | exact BK551.out | exact BK552.out | exact BK562.out | exact BK563.out | exact BK569.out | exact BK575.out | exact pQ BK525 | exact pQ BK533 | exact pQ BK541 | exact pQ BK551 | exact pQ BK552 | exact pQ BK562 | exact pQ BK563 | exact pQ BK569 | exact pQ BK575) hu33 (by rfl) (by kernel_rfl) ?_) | ((with_reducible refine gate_ (.load 33 (.tmp 9)) rfl ?_); refine wpList_load_row (by rfl) 33 (.tmp 9) (by rfl) _ (by rfl) 33 _ (0, 0) _ (by first | exact BK525.out | exact BK533.out | exact BK541.out | exact BK551.out | exact BK552.out | exact BK562.out | exact BK563.out | exact BK569.out | exact BK575.out | exact pQ BK525 | exact pQ BK533 | exact pQ BK541 | exact pQ BK551 | exact pQ BK552 | exact pQ BK562 | exact pQ BK563 | exact pQ BK569 | exact pQ BK575) hu33 (by rfl) (by kernel_rfl) ?_))
   refine Met.intro ?_
   go_step
   (repeat apply Exists.intro)
   refine ⟨?rel, ?heq_⟩
   case heq_ => first | rfl | (rw [c55b0]) | (simp only [c55b0])
   case rel => exact ⟨_, (true), pT, H', ⟨by first | omega | exact Nat.le_refl _⟩, ⟨pM BK525⟩, ⟨pM BK533⟩, ⟨pM BK541⟩, ⟨pM BK551⟩, ⟨pM BK552⟩, ⟨pM BK562⟩, ⟨pM BK563⟩, ⟨pE HB⟩⟩
  ·
   rw [if_neg c55] at H
   have c55b0 : ((!(t526 == t534) || (!(t527 == t535) || (!(t528 == t536)))) || ((!(t529 == t537) || (!(t530 == t538) || (!(t531 == t539)))))) = false := by simpa using c55
   clear c55
   (first | rw [c55b0] | (simp only [i64_w, i32_w]; rw [c55b0]) | skip)
   by_cases c69 : (t532 != t540) = true
   ·
    rw [if_pos c69] at H
    have c69b0 : (t532 != t540) = true := c69
    (try (have c69b1 : decide (t532 = t540) = false := by simpa using c69))
    (try (have c69b2 : (t532 == t540) = false := by simpa using c69))
    (try (have c69b3 : ¬ (t532 = t540) := by simpa using c69))
    clear c69
    have H' := Aside0.mk H
    clear H
    have hnb70 := NB533_525.out
    have hnc70 := NB525_533.out
    have hnb71 := NB533_541.out
    have hnc71 := NB541_533.out
    have hnb72 := NB533_551.out
    have hnc72 := NB551_533.out
    have hnb73 := NB533_552.out
    have hnc73 := NB552_533.out
    have hnb74 := NB533_562.out
    have hnc74 := NB562_533.out
    have hnb75 := NB533_563.out
    have hnc75 := NB563_533.out
    obtain ⟨hcz76_0, hcz76_1, hcz76_2, hcz76_3, hcz76_4, hcz76_5, hfz76_0, hfz76_1, hfz76_2, hfz76_3, hfz76_4, hfz76_5⟩ := pC6 BK533
    have hnb77 := NB541_525.out
    have hnc77 := NB525_541.out
    have hnb78 := NB541_551.out
    have hnc78 := NB551_541.out
    have hnb79 := NB541_552.out
    have hnc79 := NB552_541.out
    have hnb80 := NB541_562.out
    have hnc80 := NB562_541.out
    have hnb81 := NB541_563.out
    have hnc81 := NB563_541.out
    obtain ⟨hcz82_0, hcz82_1, hcz82_2, hcz82_3, hcz82_4, hcz82_5, hfz82_0, hfz82_1, hfz82_2, hfz82_3, hfz82_4, hfz82_5⟩ := pC6 BK541
    go_wp2_with (first | ((with_reducible refine gate_ (.load 33 (.tmp 7)) rfl ?_); refine wpList_load_row (by rfl) 33 (.tmp 7) (by rfl) _ (by rfl) 33 _ (0, 0) _ (by first | exact BK525.out | exact BK533.out | exact BK541.out | exact BK551.out | exact BK552.out | exact BK562.out | exact BK563.out | exact BK569.out | exact BK575.out | exact pQ BK525 | exact pQ BK533 | exact pQ BK541 | exact pQ BK551 | exact pQ BK552 | exact pQ BK562 | exact pQ BK563 | exact pQ BK569 | exact pQ BK575) hu33 (by rfl) (by kernel_rfl) ?_) | ((with_reducible refine gate_ (.load 33 (.tmp 9)) rfl ?_); refine wpList_load_row (by rfl) 33 (.tmp 9) (by rfl) _ (by rfl) 33 _ (0, 0) _ (by first | exact BK525.out | exact BK533.out | exact BK541.out | exact BK551.out | exact BK552.out | exact BK562.out | exact BK563.out | exact BK569.out | exact BK575.out | exact pQ BK525 | exact pQ BK533 | exact pQ BK541 | exact pQ BK551 | exact pQ BK552 | exact pQ BK562 | exact pQ BK563 | exact pQ BK569 | exact pQ BK575) hu33 (by rfl) (by kernel_rfl) ?_))
    refine Met.intro ?_
    go_step
    (repeat apply Exists.intro)
    refine ⟨?rel, ?heq_⟩
    case heq_ => first | rfl | (rw [c55b0]) | (simp only [c55b0])
    case rel => exact ⟨_, (true), pT, H', ⟨by first | omega | exact Nat.le_refl _⟩, ⟨pM BK525⟩, ⟨pM BK533⟩, ⟨pM BK541⟩, ⟨pM BK551⟩, ⟨pM BK552⟩, ⟨pM BK562⟩, ⟨pM BK563⟩, ⟨pE HB⟩⟩
   ·
    rw [if_neg c69] at H
    have c69b0 : (t532 != t540) = false := by simpa using c69
    (try (have c69b1 : decide (t532 = t540) = true := by simpa using c69))
    (try (have c69b2 : (t532 == t540) = true := by simpa using c69))
    clear c69
    by_cases c83 : ((!(t542 == t553) || (!(t543 == t554) || (!(t544 == t555)))) || (!(t545 == t556))) = true
    ·
     rw [if_pos c83] at H
     have c83b0 : ((!(t542 == t553) || (!(t543 == t554) || (!(t544 == t555)))) || (!(t545 == t556))) = true := c83
     clear c83
     have H' := Aside0.mk H
     clear H
     have hnb84 := NB533_525.out
     have hnc84 := NB525_533.out
     have hnb85 := NB533_541.out
     have hnc85 := NB541_533.out
     have hnb86 := NB533_551.out
     have hnc86 := NB551_533.out
     have hnb87 := NB533_552.out
     have hnc87 := NB552_533.out
     have hnb88 := NB533_562.out
     have hnc88 := NB562_533.out
     have hnb89 := NB533_563.out
     have hnc89 := NB563_533.out
     obtain ⟨hcz90_0, hcz90_1, hcz90_2, hcz90_3, hcz90_4, hcz90_5, hfz90_0, hfz90_1, hfz90_2, hfz90_3, hfz90_4, hfz90_5⟩ := pC6 BK533
     have hnb91 := NB541_525.out
     have hnc91 := NB525_541.out
     have hnb92 := NB541_551.out
     have hnc92 := NB551_541.out
     have hnb93 := NB541_552.out
     have hnc93 := NB552_541.out
     have hnb94 := NB541_562.out
     have hnc94 := NB562_541.out
     have hnb95 := NB541_563.out
     have hnc95 := NB563_541.out
     obtain ⟨hcz96_0, hcz96_1, hcz96_2, hcz96_3, hcz96_4, hcz96_5, hfz96_0, hfz96_1, hfz96_2, hfz96_3, hfz96_4, hfz96_5⟩ := pC6 BK541
     have hnb97 := NB551_525.out
     have hnc97 := NB525_551.out
     have hnb98 := NB551_552.out
     have hnc98 := NB552_551.out
     have hnb99 := NB551_562.out
     have hnc99 := NB562_551.out
     have hnb100 := NB551_563.out
     have hnc100 := NB563_551.out
     obtain ⟨hcz101_0, hcz101_1, hcz101_2, hcz101_3, hfz101_0, hfz101_1, hfz101_2, hfz101_3⟩ := pC4 BK551
     have hnb102 := NB562_525.out
     have hnc102 := NB525_562.out
     have hnb103 := NB562_552.out
     have hnc103 := NB552_562.out
     have hnb104 := NB562_563.out
     have hnc104 := NB563_562.out
     obtain ⟨hcz105_0, hcz105_1, hcz105_2, hcz105_3, hfz105_0, hfz105_1, hfz105_2, hfz105_3⟩ := pC4 BK562
     go_wp2_with (first | ((with_reducible refine gate_ (.load 33 (.tmp 7)) rfl ?_); refine wpList_load_row (by rfl) 33 (.tmp 7) (by rfl) _ (by rfl) 33 _ (0, 0) _ (by first | exact BK525.out | exact BK533.out | exact BK541.out | exact BK551.out | exact BK552.out | exact BK562.out | exact BK563.out | exact BK569.out | exact BK575.out | exact pQ BK525 | exact pQ BK533 | exact pQ BK541 | exact pQ BK551 | exact pQ BK552 | exact pQ BK562 | exact pQ BK563 | exact pQ BK569 | exact pQ BK575) hu33 (by rfl) (by kernel_rfl) ?_) | ((with_reducible refine gate_ (.load 33 (.tmp 9)) rfl ?_); refine wpList_load_row (by rfl) 33 (.tmp 9) (by rfl) _ (by rfl) 33 _ (0, 0) _ (by first | exact BK525.out | exact BK533.out | exact BK541.out | exact BK551.out | exact BK552.out | exact BK562.out | exact BK563.out | exact BK569.out | exact BK575.out | exact pQ BK525 | exact pQ BK533 | exact pQ BK541 | exact pQ BK551 | exact pQ BK552 | exact pQ BK562 | exact pQ BK563 | exact pQ BK569 | exact pQ BK575) hu33 (by rfl) (by kernel_rfl) ?_))
     refine Met.intro ?_
     go_step
     (repeat apply Exists.intro)
     refine ⟨?rel, ?heq_⟩
     case heq_ => first | rfl | (rw [c55b0]) | (simp only [c55b0])
     case rel => exact ⟨_, (true), pT, H', ⟨by first | omega | exact Nat.le_refl _⟩, ⟨pM BK525⟩, ⟨pM BK533⟩, ⟨pM BK541⟩, ⟨pM BK551⟩, ⟨pM BK552⟩, ⟨pM BK562⟩, ⟨pM BK563⟩, ⟨pE HB⟩⟩
    ·
     rw [if_neg c83] at H
     have c83b0 : ((!(t542 == t553) || (!(t543 == t554) || (!(t544 == t555)))) || (!(t545 == t556))) = false := by simpa using c83
     clear c83
     by_cases c106 : ((!(t546 == t557) || (!(t547 == t558) || (!(t548 == t559)))) || (!(t549 == t560))) = true
     ·
      rw [if_pos c106] at H
      have c106b0 : ((!(t546 == t557) || (!(t547 == t558) || (!(t548 == t559)))) || (!(t549 == t560))) = true := c106
      clear c106
      have H' := Aside0.mk H
      clear H
      have hnb107 := NB533_525.out
      have hnc107 := NB525_533.out
      have hnb108 := NB533_541.out
      have hnc108 := NB541_533.out
      have hnb109 := NB533_551.out
      have hnc109 := NB551_533.out
      have hnb110 := NB533_552.out
      have hnc110 := NB552_533.out
      have hnb111 := NB533_562.out
      have hnc111 := NB562_533.out
      have hnb112 := NB533_563.out
      have hnc112 := NB563_533.out
      obtain ⟨hcz113_0, hcz113_1, hcz113_2, hcz113_3, hcz113_4, hcz113_5, hfz113_0, hfz113_1, hfz113_2, hfz113_3, hfz113_4, hfz113_5⟩ := pC6 BK533
      have hnb114 := NB541_525.out
      have hnc114 := NB525_541.out
      have hnb115 := NB541_551.out
      have hnc115 := NB551_541.out
      have hnb116 := NB541_552.out
      have hnc116 := NB552_541.out
      have hnb117 := NB541_562.out
      have hnc117 := NB562_541.out
      have hnb118 := NB541_563.out
      have hnc118 := NB563_541.out
      obtain ⟨hcz119_0, hcz119_1, hcz119_2, hcz119_3, hcz119_4, hcz119_5, hfz119_0, hfz119_1, hfz119_2, hfz119_3, hfz119_4, hfz119_5⟩ := pC6 BK541
      have hnb120 := NB551_525.out
      have hnc120 := NB525_551.out
      have hnb121 := NB551_552.out
      have hnc121 := NB552_551.out
      have hnb122 := NB551_562.out
      have hnc122 := NB562_551.out
      have hnb123 := NB551_563.out
      have hnc123 := NB563_551.out
      obtain ⟨hcz124_0, hcz124_1, hcz124_2, hcz124_3, hfz124_0, hfz124_1, hfz124_2, hfz124_3⟩ := pC4 BK551
      have hnb125 := NB562_525.out
      have hnc125 := NB525_562.out
      have hnb126 := NB562_552.out
      have hnc126 := NB552_562.out
      have hnb127 := NB562_563.out
      have hnc127 := NB563_562.out
      obtain ⟨hcz128_0, hcz128_1, hcz128_2, hcz128_3, hfz128_0, hfz128_1, hfz128_2, hfz128_3⟩ := pC4 BK562
      have hnb129 := NB552_525.out
      have hnc129 := NB525_552.out
      have hnb130 := NB552_563.out
      have hnc130 := NB563_552.out
      obtain ⟨hcz131_0, hcz131_1, hcz131_2, hcz131_3, hfz131_0, hfz131_1, hfz131_2, hfz131_3⟩ := pC4 BK552
      have hnb132 := NB563_525.out
      have hnc132 := NB525_563.out
      obtain ⟨hcz133_0, hcz133_1, hcz133_2, hcz133_3, hfz133_0, hfz133_1, hfz133_2, hfz133_3⟩ := pC4 BK563
      go_wp2_with (first | ((with_reducible refine gate_ (.load 33 (.tmp 7)) rfl ?_); refine wpList_load_row (by rfl) 33 (.tmp 7) (by rfl) _ (by rfl) 33 _ (0, 0) _ (by first | exact BK525.out | exact BK533.out | exact BK541.out | exact BK551.out | exact BK552.out | exact BK562.out | exact BK563.out | exact BK569.out | exact BK575.out | exact pQ BK525 | exact pQ BK533 | exact pQ BK541 | exact pQ BK551 | exact pQ BK552 | exact pQ BK562 | exact pQ BK563 | exact pQ BK569 | exact pQ BK575) hu33 (by rfl) (by kernel_rfl) ?_) | ((with_reducible refine gate_ (.load 33 (.tmp 9)) rfl ?_); refine wpList_load_row (by rfl) 33 (.tmp 9) (by rfl) _ (by rfl) 33 _ (0, 0) _ (by first | exact BK525.out | exact BK533.out | exact BK541.out | exact BK551.out | exact BK552.out | exact BK562.out | exact BK563.out | exact BK569.out | exact BK575.out | exact pQ BK525 | exact pQ BK533 | exact pQ BK541 | exact pQ BK551 | exact pQ BK552 | exact pQ BK562 | exact pQ BK563 | exact pQ BK569 | exact pQ BK575) hu33 (by rfl) (by kernel_rfl) ?_))
      refine Met.intro ?_
      go_step
      (repeat apply Exists.intro)
      refine ⟨?rel, ?heq_⟩
      case heq_ => first | rfl | (rw [c55b0]) | (simp only [c55b0])
      case rel => exact ⟨_, (true), pT, H', ⟨by first | omega | exact Nat.le_refl _⟩, ⟨pM BK525⟩, ⟨pM BK533⟩, ⟨pM BK541⟩, ⟨pM BK551⟩, ⟨pM BK552⟩, ⟨pM BK562⟩, ⟨pM BK563⟩, ⟨pE HB⟩⟩
     ·
      rw [if_neg c106] at H
      have c106b0 : ((!(t546 == t557) || (!(t547 == t558) || (!(t548 == t559)))) || (!(t549 == t560))) = false := by simpa using c106
      clear c106
      have H' := Aside0.mk H
      clear H
      have hnb134 := NB533_525.out
      have hnc134 := NB525_533.out
      have hnb135 := NB533_541.out
      have hnc135 := NB541_533.out
      have hnb136 := NB533_551.out
      have hnc136 := NB551_533.out
      have hnb137 := NB533_552.out
      have hnc137 := NB552_533.out
      have hnb138 := NB533_562.out
      have hnc138 := NB562_533.out
      have hnb139 := NB533_563.out
      have hnc139 := NB563_533.out
      obtain ⟨hcz140_0, hcz140_1, hcz140_2, hcz140_3, hcz140_4, hcz140_5, hfz140_0, hfz140_1, hfz140_2, hfz140_3, hfz140_4, hfz140_5⟩ := pC6 BK533
      have hnb141 := NB541_525.out
      have hnc141 := NB525_541.out
      have hnb142 := NB541_551.out
      have hnc142 := NB551_541.out
      have hnb143 := NB541_552.out
      have hnc143 := NB552_541.out
      have hnb144 := NB541_562.out
      have hnc144 := NB562_541.out
      have hnb145 := NB541_563.out
      have hnc145 := NB563_541.out
      obtain ⟨hcz146_0, hcz146_1, hcz146_2, hcz146_3, hcz146_4, hcz146_5, hfz146_0, hfz146_1, hfz146_2, hfz146_3, hfz146_4, hfz146_5⟩ := pC6 BK541
      have hnb147 := NB551_525.out
      have hnc147 := NB525_551.out
      have hnb148 := NB551_552.out
      have hnc148 := NB552_551.out
      have hnb149 := NB551_562.out
      have hnc149 := NB562_551.out
      have hnb150 := NB551_563.out
      have hnc150 := NB563_551.out
      obtain ⟨hcz151_0, hcz151_1, hcz151_2, hcz151_3, hfz151_0, hfz151_1, hfz151_2, hfz151_3⟩ := pC4 BK551
      have hnb152 := NB562_525.out
      have hnc152 := NB525_562.out
      have hnb153 := NB562_552.out
      have hnc153 := NB552_562.out
      have hnb154 := NB562_563.out
      have hnc154 := NB563_562.out
      obtain ⟨hcz155_0, hcz155_1, hcz155_2, hcz155_3, hfz155_0, hfz155_1, hfz155_2, hfz155_3⟩ := pC4 BK562
      have hnb156 := NB552_525.out
      have hnc156 := NB525_552.out
      have hnb157 := NB552_563.out
      have hnc157 := NB563_552.out
      obtain ⟨hcz158_0, hcz158_1, hcz158_2, hcz158_3, hfz158_0, hfz158_1, hfz158_2, hfz158_3⟩ := pC4 BK552
      have hnb159 := NB563_525.out
      have hnc159 := NB525_563.out
      obtain ⟨hcz160_0, hcz160_1, hcz160_2, hcz160_3, hfz160_0, hfz160_1, hfz160_2, hfz160_3⟩ := pC4 BK563
      go_wp2_with (first | ((with_reducible refine gate_ (.load 33 (.tmp 7)) rfl ?_); refine wpList_load_row (by rfl) 33 (.tmp 7) (by rfl) _ (by rfl) 33 _ (0, 0) _ (by first | exact BK525.out | exact BK533.out | exact BK541.out | exact BK551.out | exact BK552.out | exact BK562.out | exact BK563.out | exact BK569.out | exact BK575.out | exact pQ BK525 | exact pQ BK533 | exact pQ BK541 | exact pQ BK551 | exact pQ BK552 | exact pQ BK562 | exact pQ BK563 | exact pQ BK569 | exact pQ BK575) hu33 (by rfl) (by kernel_rfl) ?_) | ((with_reducible refine gate_ (.load 33 (.tmp 9)) rfl ?_); refine wpList_load_row (by rfl) 33 (.tmp 9) (by rfl) _ (by rfl) 33 _ (0, 0) _ (by first | exact BK525.out | exact BK533.out | exact BK541.out | exact BK551.out | exact BK552.out | exact BK562.out | exact BK563.out | exact BK569.out | exact BK575.out | exact pQ BK525 | exact pQ BK533 | exact pQ BK541 | exact pQ BK551 | exact pQ BK552 | exact pQ BK562 | exact pQ BK563 | exact pQ BK569 | exact pQ BK575) hu33 (by rfl) (by kernel_rfl) ?_))
      refine Met.intro ?_
      go_step
      (repeat apply Exists.intro)
      refine ⟨?rel, ?heq_⟩
      case heq_ => first | rfl | (rw [c55b0]) | (simp only [c55b0])
      case rel => exact ⟨_, ((t550 != t561)), pT, H', ⟨by first | omega | exact Nat.le_refl _⟩, ⟨pM BK525⟩, ⟨pM BK533⟩, ⟨pM BK541⟩, ⟨pM BK551⟩, ⟨pM BK552⟩, ⟨pM BK562⟩, ⟨pM BK563⟩, ⟨pE HB⟩⟩
 case rest =>
  clear HC8
  try clear hcz10_0 hcz10_1 hcz10_2 hcz10_3
  try clear hcz14_0 hcz14_1 hcz14_2 hcz14_3 hcz14_4 hcz14_5
  try clear hcz16_0 hcz16_1 hcz16_2 hcz16_3
  try clear hcz21_0 hcz21_1 hcz21_2 hcz21_3 hcz21_4 hcz21_5
  try clear hcz23_0 hcz23_1 hcz23_2 hcz23_3
  try clear hcz31_0 hcz31_1 hcz31_2 hcz31_3
  try clear hcz35_0 hcz35_1 hcz35_2 hcz35_3
  try clear hcz37_0 hcz37_1 hcz37_2 hcz37_3
  try clear hcz47_0 hcz47_1 hcz47_2 hcz47_3
  try clear hcz53_0 hcz53_1 hcz53_2 hcz53_3
  try clear hfz10_0 hfz10_1 hfz10_2 hfz10_3
  try clear hfz14_0 hfz14_1 hfz14_2 hfz14_3 hfz14_4 hfz14_5
  try clear hfz16_0 hfz16_1 hfz16_2 hfz16_3
  try clear hfz21_0 hfz21_1 hfz21_2 hfz21_3 hfz21_4 hfz21_5
  try clear hfz23_0 hfz23_1 hfz23_2 hfz23_3
  try clear hfz31_0 hfz31_1 hfz31_2 hfz31_3
  try clear hfz35_0 hfz35_1 hfz35_2 hfz35_3
  try clear hfz37_0 hfz37_1 hfz37_2 hfz37_3
  try clear hfz47_0 hfz47_1 hfz47_2 hfz47_3
  try clear hfz53_0 hfz53_1 hfz53_2 hfz53_3
  obtain ⟨kq, x73_7, rfl, HA, HJ7, BK525, BK533, BK541, BK551, BK552, BK562, BK563, HB⟩ := hcut
  cases kq with
  | zero => exact absurd HA.out (by simp [ddilaw03_PrefixParts.j0])
  | succ kj7 =>
   have H := HA.out
   clear HA
   simp only [ddilaw03_PrefixParts.j0] at H
   by_cases c161 : x73_7 = true
   ·
    subst c161
    rw [if_pos rfl] at H
    exact absurd H (by simp)
   ·
    replace c161 := Bool.eq_false_iff.mpr c161
    subst c161
    rw [if_neg (show ¬ (false = true) by decide)] at H
    replace H := Option.bind_eq_some_iff.mp H
    obtain ⟨⟨t564, t565, t566, t567, t568⟩, A1620, H⟩ := H
    replace H : ((ddiref03_Part.f kj7 a0_0 a0_1 a0_2 a0_3 a1 a2).bind fun bt570 => ((prefix_Size.f a0_0 a0_1 a0_2 a0_3).bind fun bt576 => ((ddiref03_Size.f kj7 a0_0 a0_1 a0_2 a0_3).bind fun bt578 => ((prefix_Zone.f kj7 a0_0 a0_1 a0_2 a0_3).bind fun bt580 => ((ddiref03_Zone.f kj7 a0_0 a0_1 a0_2 a0_3).bind fun bt582 => (if ((t564 == bt570.1 && (t565 == bt570.2.1 && (t566 == bt570.2.2.1))) && (t567 == bt570.2.2.2.1)) = true then (if (t568 == bt570.2.2.2.2) = true then (if bt576.1 = bt578.1 then (if (bt576.2 == bt578.2) = true then (if bt580.1.toList = bt582.1.toList then (if (bt580.2 == bt582.2) = true then ((ddilaw03_awake.f kj7).bind fun t584 => (some t584)) else (none)) else (none)) else (none)) else (none)) else (none)) else (none))))))) = some r := H
    have A162 := Aside0.mk A1620
    clear A1620
    replace H := Option.bind_eq_some_iff.mp H
    obtain ⟨⟨t570, t571, t572, t573, t574⟩, A1630, H⟩ := H
    replace H : ((prefix_Size.f a0_0 a0_1 a0_2 a0_3).bind fun bt576 => ((ddiref03_Size.f kj7 a0_0 a0_1 a0_2 a0_3).bind fun bt578 => ((prefix_Zone.f kj7 a0_0 a0_1 a0_2 a0_3).bind fun bt580 => ((ddiref03_Zone.f kj7 a0_0 a0_1 a0_2 a0_3).bind fun bt582 => (if ((t564 == t570 && (t565 == t571 && (t566 == t572))) && (t567 == t573)) = true then (if (t568 == t574) = true then (if bt576.1 = bt578.1 then (if (bt576.2 == bt578.2) = true then (if bt580.1.toList = bt582.1.toList then (if (bt580.2 == bt582.2) = true then ((ddilaw03_awake.f kj7).bind fun t584 => (some t584)) else (none)) else (none)) else (none)) else (none)) else (none)) else (none)))))) = some r := H
    have A163 := Aside0.mk A1630
    clear A1630
    replace H := Option.bind_eq_some_iff.mp H
    obtain ⟨⟨t576, t577⟩, A1640, H⟩ := H
    replace H : ((ddiref03_Size.f kj7 a0_0 a0_1 a0_2 a0_3).bind fun bt578 => ((prefix_Zone.f kj7 a0_0 a0_1 a0_2 a0_3).bind fun bt580 => ((ddiref03_Zone.f kj7 a0_0 a0_1 a0_2 a0_3).bind fun bt582 => (if ((t564 == t570 && (t565 == t571 && (t566 == t572))) && (t567 == t573)) = true then (if (t568 == t574) = true then (if t576 = bt578.1 then (if (t577 == bt578.2) = true then (if bt580.1.toList = bt582.1.toList then (if (bt580.2 == bt582.2) = true then ((ddilaw03_awake.f kj7).bind fun t584 => (some t584)) else (none)) else (none)) else (none)) else (none)) else (none)) else (none))))) = some r := H
    have A164 := Aside0.mk A1640
    clear A1640
    replace H := Option.bind_eq_some_iff.mp H
    obtain ⟨⟨t578, t579⟩, A1650, H⟩ := H
    replace H : ((prefix_Zone.f kj7 a0_0 a0_1 a0_2 a0_3).bind fun bt580 => ((ddiref03_Zone.f kj7 a0_0 a0_1 a0_2 a0_3).bind fun bt582 => (if ((t564 == t570 && (t565 == t571 && (t566 == t572))) && (t567 == t573)) = true then (if (t568 == t574) = true then (if t576 = t578 then (if (t577 == t579) = true then (if bt580.1.toList = bt582.1.toList then (if (bt580.2 == bt582.2) = true then ((ddilaw03_awake.f kj7).bind fun t584 => (some t584)) else (none)) else (none)) else (none)) else (none)) else (none)) else (none)))) = some r := H
    have A165 := Aside0.mk A1650
    clear A1650
    replace H := Option.bind_eq_some_iff.mp H
    obtain ⟨⟨t580, t581⟩, A1660, H⟩ := H
    replace H : ((ddiref03_Zone.f kj7 a0_0 a0_1 a0_2 a0_3).bind fun bt582 => (if ((t564 == t570 && (t565 == t571 && (t566 == t572))) && (t567 == t573)) = true then (if (t568 == t574) = true then (if t576 = t578 then (if (t577 == t579) = true then (if t580.toList = bt582.1.toList then (if (t581 == bt582.2) = true then ((ddilaw03_awake.f kj7).bind fun t584 => (some t584)) else (none)) else (none)) else (none)) else (none)) else (none)) else (none))) = some r := H
    have A166 := Aside0.mk A1660
    clear A1660
    replace H := Option.bind_eq_some_iff.mp H
    obtain ⟨⟨t582, t583⟩, A1670, H⟩ := H
    replace H : (if ((t564 == t570 && (t565 == t571 && (t566 == t572))) && (t567 == t573)) = true then (if (t568 == t574) = true then (if t576 = t578 then (if (t577 == t579) = true then (if t580.toList = t582.toList then (if (t581 == t583) = true then ((ddilaw03_awake.f kj7).bind fun t584 => (some t584)) else (none)) else (none)) else (none)) else (none)) else (none)) else (none)) = some r := H
    have A167 := Aside0.mk A1670
    clear A1670
    by_cases c168 : ((t564 == t570 && (t565 == t571 && (t566 == t572))) && (t567 == t573)) = true
    ·
     rw [if_pos c168] at H
     have c168b0 : ((t564 == t570 && (t565 == t571 && (t566 == t572))) && (t567 == t573)) = true := c168
     clear c168
     by_cases c169 : (t568 == t574) = true
     ·
      rw [if_pos c169] at H
      have c169b0 : (t568 == t574) = true := c169
      (try (have c169b1 : decide (t568 = t574) = true := by simpa using c169))
      (try (have c169b2 : (t568 == t574) = true := by simpa using c169))
      clear c169
      by_cases c170 : t576 = t578
      ·
       rw [if_pos c170] at H
       have c170b0 : (t576 == t578) = true := beq_iff_eq.mpr c170
       have c170b1 : (t576 != t578) = false := bne_eq_false_iff_eq.mpr c170
       clear c170
       by_cases c171 : (t577 == t579) = true
       ·
        rw [if_pos c171] at H
        have c171b0 : (t577 == t579) = true := c171
        (try (have c171b1 : decide (t577 = t579) = true := by simpa using c171))
        (try (have c171b2 : (t577 == t579) = true := by simpa using c171))
        clear c171
        by_cases c172 : t580.toList = t582.toList
        ·
         rw [if_pos c172] at H
         have c172b0 : (t580.toList == t582.toList) = true := beq_iff_eq.mpr c172
         have c172b1 : (t580.toList != t582.toList) = false := bne_eq_false_iff_eq.mpr c172
         clear c172
         by_cases c173 : (t581 == t583) = true
         ·
          rw [if_pos c173] at H
          have c173b0 : (t581 == t583) = true := c173
          (try (have c173b1 : decide (t581 = t583) = true := by simpa using c173))
          (try (have c173b2 : (t581 == t583) = true := by simpa using c173))
          clear c173
          replace H := Option.bind_eq_some_iff.mp H
          obtain ⟨t584, A1740, H⟩ := H
          have A174 := Aside0.mk A1740
          clear A1740
          obtain rfl := Option.some.inj H
          have hnb175 := NB525_533.out
          have hnc175 := NB533_525.out
          have hnb176 := NB525_541.out
          have hnc176 := NB541_525.out
          have hnb177 := NB525_551.out
          have hnc177 := NB551_525.out
          have hnb178 := NB525_552.out
          have hnc178 := NB552_525.out
          have hnb179 := NB525_562.out
          have hnc179 := NB562_525.out
          have hnb180 := NB525_563.out
          have hnc180 := NB563_525.out
          obtain ⟨hcz181_0, hcz181_1, hcz181_2, hcz181_3, hfz181_0, hfz181_1, hfz181_2, hfz181_3⟩ := pC4 BK525
          go_wp2_with (first | ((with_reducible refine gate_ (.load 33 (.tmp 7)) rfl ?_); refine wpList_load_row (by rfl) 33 (.tmp 7) (by rfl) _ (by rfl) 33 _ (0, 0) _ (by first | exact BK525.out | exact BK533.out | exact BK541.out | exact BK551.out | exact BK552.out | exact BK562.out | exact BK563.out | exact BK569.out | exact BK575.out | exact pQ BK525 | exact pQ BK533 | exact pQ BK541 | exact pQ BK551 | exact pQ BK552 | exact pQ BK562 | exact pQ BK563 | exact pQ BK569 | exact pQ BK575) hu33 (by rfl) (by kernel_rfl) ?_) | ((with_reducible refine gate_ (.load 33 (.tmp 9)) rfl ?_); refine wpList_load_row (by rfl) 33 (.tmp 9) (by rfl) _ (by rfl) 33 _ (0, 0) _ (by first | exact BK525.out | exact BK533.out | exact BK541.out | exact BK551.out | exact BK552.out | exact BK562.out | exact BK563.out | exact BK569.out | exact BK575.out | exact pQ BK525 | exact pQ BK533 | exact pQ BK541 | exact pQ BK551 | exact pQ BK552 | exact pQ BK562 | exact pQ BK563 | exact pQ BK569 | exact pQ BK575) hu33 (by rfl) (by kernel_rfl) ?_) | ((with_reducible refine gate_callee (f := 14) rfl ?_); refine goesA (some 78) Tryz.func14 #[.agg #[.bool a0_0, .int .u64 a0_1, .int .u64 a0_2, .int .i64 a0_3], .int .i64 a1, .int .u64 a2] ?_; (with_reducible refine (prefix_Part.calls kj7 a0_0 a0_1 a0_2 a0_3 a1 a2 t564 t565 t566 t567 t568 _ A162.out).mono ?_); rintro e w182 ⟨rfl, hb⟩; refine ⟨_, rfl, ?_⟩; replace BK525 := (pB BK525 hb); replace BK533 := (pB BK533 hb); replace BK541 := (pB BK541 hb); replace BK551 := (pB BK551 hb); replace BK552 := (pB BK552 hb); replace BK562 := (pB BK562 hb); replace BK563 := (pB BK563 hb); replace HB := (pS HB hb); (try clear hb)) | ((with_reducible refine gate_dst (N := 17) rfl ?_); refine boxA (N := 17) (cs := #[.bool false, .int .u64 0, .int .u64 0, .int .i64 0]) (t := 26) ?_; intro gb569 hg w183 hbox hb; have BK569 := Aside0.mk (hbox); have GE569 := (pZ HB hg); have NB525_569 := (pL BK525 hg); have NB569_525 := (pG BK525 hg); have NB533_569 := (pL BK533 hg); have NB569_533 := (pG BK533 hg); have NB541_569 := (pL BK541 hg); have NB569_541 := (pG BK541 hg); have NB551_569 := (pL BK551 hg); have NB569_551 := (pG BK551 hg); have NB552_569 := (pL BK552 hg); have NB569_552 := (pG BK552 hg); have NB562_569 := (pL BK562 hg); have NB569_562 := (pG BK562 hg); have NB563_569 := (pL BK563 hg); have NB569_563 := (pG BK563 hg); replace BK525 := (pB BK525 hb); replace BK533 := (pB BK533 hb); replace BK541 := (pB BK541 hb); replace BK551 := (pB BK551 hb); replace BK552 := (pB BK552 hb); replace BK562 := (pB BK562 hb); replace BK563 := (pB BK563 hb); replace HB := (pS HB hb); clear hb hbox hg; have hnb184 := NB569_525.out; have hnc184 := NB525_569.out; have hnb185 := NB569_533.out; have hnc185 := NB533_569.out; have hnb186 := NB569_541.out; have hnc186 := NB541_569.out; have hnb187 := NB569_551.out; have hnc187 := NB551_569.out; have hnb188 := NB569_552.out; have hnc188 := NB552_569.out; have hnb189 := NB569_562.out; have hnc189 := NB562_569.out; have hnb190 := NB569_563.out; have hnc190 := NB563_569.out; obtain ⟨hcz191_0, hcz191_1, hcz191_2, hcz191_3, hfz191_0, hfz191_1, hfz191_2, hfz191_3⟩ := pC4 BK569; obtain ⟨hcz192_0, hcz192_1, hcz192_2, hcz192_3, hfz192_0, hfz192_1, hfz192_2, hfz192_3⟩ := pC4 BK525) | ((with_reducible refine gate_callee (f := 15) rfl ?_); refine goesA (some 85) Tryz.func15 #[.agg #[.bool a0_0, .int .u64 a0_1, .int .u64 a0_2, .int .i64 a0_3], .int .i64 a1, .int .u64 a2] ?_; (with_reducible refine (ddiref03_Part.calls kj7 a0_0 a0_1 a0_2 a0_3 a1 a2 t570 t571 t572 t573 t574 _ A163.out).mono ?_); rintro e w193 ⟨rfl, hb⟩; refine ⟨_, rfl, ?_⟩; replace BK525 := (pD hb (pK NB525_569 (pK NB525_569 (pK NB525_569 (pK NB525_569 (pM BK525)))))); replace BK533 := (pD hb (pK NB533_569 (pK NB533_569 (pK NB533_569 (pK NB533_569 (pM BK533)))))); replace BK541 := (pD hb (pK NB541_569 (pK NB541_569 (pK NB541_569 (pK NB541_569 (pM BK541)))))); replace BK551 := (pD hb (pK NB551_569 (pK NB551_569 (pK NB551_569 (pK NB551_569 (pM BK551)))))); replace BK552 := (pD hb (pK NB552_569 (pK NB552_569 (pK NB552_569 (pK NB552_569 (pM BK552)))))); replace BK562 := (pD hb (pK NB562_569 (pK NB562_569 (pK NB562_569 (pK NB562_569 (pM BK562)))))); replace BK563 := (pD hb (pK NB563_569 (pK NB563_569 (pK NB563_569 (pK NB563_569 (pM BK563)))))); replace BK569 := (pD hb (pP (pP (pP (pP (pM BK569)))))); replace HB := (pS HB hb); (try clear hb)) | ((with_reducible refine gate_dst (N := 19) rfl ?_); refine boxA (N := 19) (cs := #[.bool false, .int .u64 0, .int .u64 0, .int .i64 0]) (t := 26) ?_; intro gb575 hg w194 hbox hb; have BK575 := Aside0.mk (hbox); have GE575 := (pZ HB hg); have NB525_575 := (pL BK525 hg); have NB575_525 := (pG BK525 hg); have NB533_575 := (pL BK533 hg); have NB575_533 := (pG BK533 hg); have NB541_575 := (pL BK541 hg); have NB575_541 := (pG BK541 hg); have NB551_575 := (pL BK551 hg); have NB575_551 := (pG BK551 hg); have NB552_575 := (pL BK552 hg); have NB575_552 := (pG BK552 hg); have NB562_575 := (pL BK562 hg); have NB575_562 := (pG BK562 hg); have NB563_575 := (pL BK563 hg); have NB575_563 := (pG BK563 hg); have NB569_575 := (pL BK569 hg); have NB575_569 := (pG BK569 hg); replace BK525 := (pB BK525 hb); replace BK533 := (pB BK533 hb); replace BK541 := (pB BK541 hb); replace BK551 := (pB BK551 hb); replace BK552 := (pB BK552 hb); replace BK562 := (pB BK562 hb); replace BK563 := (pB BK563 hb); replace BK569 := (pB BK569 hb); replace HB := (pS HB hb); clear hb hbox hg; have hnb195 := NB575_525.out; have hnc195 := NB525_575.out; have hnb196 := NB575_533.out; have hnc196 := NB533_575.out; have hnb197 := NB575_541.out; have hnc197 := NB541_575.out; have hnb198 := NB575_551.out; have hnc198 := NB551_575.out; have hnb199 := NB575_552.out; have hnc199 := NB552_575.out; have hnb200 := NB575_562.out; have hnc200 := NB562_575.out; have hnb201 := NB575_563.out; have hnc201 := NB563_575.out; have hnb202 := NB575_569.out; have hnc202 := NB569_575.out; obtain ⟨hcz203_0, hcz203_1, hcz203_2, hcz203_3, hfz203_0, hfz203_1, hfz203_2, hfz203_3⟩ := pC4 BK575; obtain ⟨hcz204_0, hcz204_1, hcz204_2, hcz204_3, hfz204_0, hfz204_1, hfz204_2, hfz204_3⟩ := pC4 BK525) | ((with_reducible refine gate_callee (f := 16) rfl ?_); refine goesA (some 90) Tryz.func16 #[.agg #[.bool a0_0, .int .u64 a0_1, .int .u64 a0_2, .int .i64 a0_3]] ?_; (with_reducible refine (prefix_Size.calls a0_0 a0_1 a0_2 a0_3 t576 t577 _ A164.out).mono ?_); rintro e w205 ⟨rfl, hb⟩; refine ⟨_, rfl, ?_⟩; replace BK525 := (pD hb (pK NB525_575 (pK NB525_575 (pK NB525_575 (pK NB525_575 (pM BK525)))))); replace BK533 := (pD hb (pK NB533_575 (pK NB533_575 (pK NB533_575 (pK NB533_575 (pM BK533)))))); replace BK541 := (pD hb (pK NB541_575 (pK NB541_575 (pK NB541_575 (pK NB541_575 (pM BK541)))))); replace BK551 := (pD hb (pK NB551_575 (pK NB551_575 (pK NB551_575 (pK NB551_575 (pM BK551)))))); replace BK552 := (pD hb (pK NB552_575 (pK NB552_575 (pK NB552_575 (pK NB552_575 (pM BK552)))))); replace BK562 := (pD hb (pK NB562_575 (pK NB562_575 (pK NB562_575 (pK NB562_575 (pM BK562)))))); replace BK563 := (pD hb (pK NB563_575 (pK NB563_575 (pK NB563_575 (pK NB563_575 (pM BK563)))))); replace BK569 := (pD hb (pK NB569_575 (pK NB569_575 (pK NB569_575 (pK NB569_575 (pM BK569)))))); replace BK575 := (pD hb (pP (pP (pP (pP (pM BK575)))))); replace HB := (pS HB hb); (try clear hb); obtain ⟨hcz206_0, hcz206_1, hcz206_2, hcz206_3, hfz206_0, hfz206_1, hfz206_2, hfz206_3⟩ := pC4 BK525) | ((with_reducible refine gate_callee (f := 17) rfl ?_); refine goesA (some 95) Tryz.func17 #[.agg #[.bool a0_0, .int .u64 a0_1, .int .u64 a0_2, .int .i64 a0_3]] ?_; (with_reducible refine (ddiref03_Size.calls kj7 a0_0 a0_1 a0_2 a0_3 t578 t579 _ A165.out).mono ?_); rintro e w207 ⟨rfl, hb⟩; refine ⟨_, rfl, ?_⟩; replace BK525 := (pB BK525 hb); replace BK533 := (pB BK533 hb); replace BK541 := (pB BK541 hb); replace BK551 := (pB BK551 hb); replace BK552 := (pB BK552 hb); replace BK562 := (pB BK562 hb); replace BK563 := (pB BK563 hb); replace BK569 := (pB BK569 hb); replace BK575 := (pB BK575 hb); replace HB := (pS HB hb); (try clear hb); obtain ⟨hcz208_0, hcz208_1, hcz208_2, hcz208_3, hfz208_0, hfz208_1, hfz208_2, hfz208_3⟩ := pC4 BK525) | ((with_reducible refine gate_callee (f := 18) rfl ?_); refine goesA (some 100) Tryz.func18 #[.agg #[.bool a0_0, .int .u64 a0_1, .int .u64 a0_2, .int .i64 a0_3]] ?_; (with_reducible refine (prefix_Zone.calls kj7 a0_0 a0_1 a0_2 a0_3 t580 t581 _ ?side1 A166.out).mono ?_); (case side1 => exact Laid.below HLD.out (pE HB)); rintro e w209 ⟨rfl, hb⟩; refine ⟨_, rfl, ?_⟩; replace BK525 := (pB BK525 hb); replace BK533 := (pB BK533 hb); replace BK541 := (pB BK541 hb); replace BK551 := (pB BK551 hb); replace BK552 := (pB BK552 hb); replace BK562 := (pB BK562 hb); replace BK563 := (pB BK563 hb); replace BK569 := (pB BK569 hb); replace BK575 := (pB BK575 hb); replace HB := (pS HB hb); (try clear hb); obtain ⟨hcz210_0, hcz210_1, hcz210_2, hcz210_3, hfz210_0, hfz210_1, hfz210_2, hfz210_3⟩ := pC4 BK525) | ((with_reducible refine gate_callee (f := 19) rfl ?_); refine goesA (some 105) Tryz.func19 #[.agg #[.bool a0_0, .int .u64 a0_1, .int .u64 a0_2, .int .i64 a0_3]] ?_; (with_reducible refine (ddiref03_Zone.calls kj7 a0_0 a0_1 a0_2 a0_3 t582 t583 _ A167.out).mono ?_); rintro e w211 ⟨rfl, hb⟩; refine ⟨_, rfl, ?_⟩; replace BK525 := (pB BK525 hb); replace BK533 := (pB BK533 hb); replace BK541 := (pB BK541 hb); replace BK551 := (pB BK551 hb); replace BK552 := (pB BK552 hb); replace BK562 := (pB BK562 hb); replace BK563 := (pB BK563 hb); replace BK569 := (pB BK569 hb); replace BK575 := (pB BK575 hb); replace HB := (pS HB hb); (try clear hb); obtain ⟨hcz212_0, hcz212_1, hcz212_2, hcz212_3, hfz212_0, hfz212_1, hfz212_2, hfz212_3⟩ := pC4 BK569; obtain ⟨hcz213_0, hcz213_1, hcz213_2, hcz213_3, hfz213_0, hfz213_1, hfz213_2, hfz213_3⟩ := pC4 BK575) | (go_at_call 9; (with_reducible refine (ddilaw03_awake.calls kj7  t584 _ ?side1 A174.out).mono ?_); (case side1 => exact Laid.below HLD.out (pE HB)); rintro e w214 ⟨rfl, hb⟩; replace BK525 := (pB BK525 hb); replace BK533 := (pB BK533 hb); replace BK541 := (pB BK541 hb); replace BK551 := (pB BK551 hb); replace BK552 := (pB BK552 hb); replace BK562 := (pB BK562 hb); replace BK563 := (pB BK563 hb); replace BK569 := (pB BK569 hb); replace BK575 := (pB BK575 hb); replace HB := (pS HB hb); (try clear hb)))
          go_ret
          exact pR (pE HB)
         ·
          rw [if_neg c173] at H
          exact absurd H (by simp)
        ·
         rw [if_neg c172] at H
         exact absurd H (by simp)
       ·
        rw [if_neg c171] at H
        exact absurd H (by simp)
      ·
       rw [if_neg c170] at H
       exact absurd H (by simp)
     ·
      rw [if_neg c169] at H
      exact absurd H (by simp)
    ·
     rw [if_neg c168] at H
     exact absurd H (by simp)
end Go.Proofs.YteflcmmandlknaaGreatDoor.PA
