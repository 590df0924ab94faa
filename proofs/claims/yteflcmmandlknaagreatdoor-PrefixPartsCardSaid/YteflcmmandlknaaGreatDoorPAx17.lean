/- The Go functions in Lean, with the proofs that the code comes to these answers: printed by this session's program (wip/px) out of the seat's translation. Conditions: each theorem's own. -/
import Derived.Test.YteflcmmandlknaaGreatDoorPAx0
import Derived.Test.YteflcmmandlknaaGreatDoorPAx11
import Derived.Test.YteflcmmandlknaaGreatDoorPAx12
namespace Go.Proofs.YteflcmmandlknaaGreatDoor.PA
open Go.RowKit Go.Proofs.YteflcmmandlknaaGreatDoorW.PrintWords Go.Proofs.YteflcmmandlknaaGreatDoorW.PrintLast Go.Proofs.YteflcmmandlknaaGreatDoorW.PrintMore
attribute [local go_sem] max2_int min2_int max_two min_two max_three min_three max_four min_four   -- for this text's walks alone
attribute [local go_sem ↓] Ext.isSome_setCell
open Press
set_option linter.unusedVariables false
set_option linter.unusedSimpArgs false
/-! ### ddiref03_Bounds: function 11 -/
def ddiref03_Bounds.f (k : Nat) (a0_0 : Bool) (a0_1 : Int) (a0_2 : Int) (a0_3 : Int) : Option (Bool × Int × Int × Bool × Int × Int × Bool) := (ddiref03_Valid.f k a0_0 a0_1 a0_2 a0_3).bind fun t470 => (if t470 = true then ((ddiref03_Long.f a0_0).bind fun t471 => ((ddiref03_ones.f k (wrap64 (t471 - a0_3))).bind fun bt472 => (some (a0_0, a0_1, a0_2, a0_0, IntKind.u64.wrap (a0_1 + bt472.1), IntKind.u64.wrap (a0_2 + bt472.2), true)))) else (some (false, 0, 0, false, 0, 0, false)))
theorem ddiref03_Bounds.mono : ∀ a0 a1 a2 a3 k, LeO (ddiref03_Bounds.f k a0 a1 a2 a3) (ddiref03_Bounds.f (k + 1) a0 a1 a2 a3) := by
 intro a0 a1 a2 a3 k
 unfold ddiref03_Bounds.f
 repeat' with_reducible first | exact ddiref03_Valid.mono _ _ _ _ _ | exact ddiref03_ones.mono _ _ | exact LeO.refl _ | exact LeO.none _ | refine LeO.ite ?_ ?_ | refine LeO.bind ?_ (fun _ => ?_)
set_option maxHeartbeats 40000000 in
set_option maxRecDepth 100000 in
theorem ddiref03_Bounds.calls (k : Nat) (a0_0 : Bool) (a0_1 : Int) (a0_2 : Int) (a0_3 : Int) (r1 : Bool) (r2 : Int) (r3 : Int) (r4 : Bool) (r5 : Int) (r6 : Int) (r7 : Bool) (w : World) (h : ddiref03_Bounds.f k a0_0 a0_1 a0_2 a0_3 = some (r1, r2, r3, r4, r5, r6, r7)) :
 Calls Tryz.prog 11 #[.agg #[.bool a0_0, .int .u64 a0_1, .int .u64 a0_2, .int .i64 a0_3]] w fun e w' => e = .returned (.tuple #[.agg #[.bool r1, .int .u64 r2, .int .u64 r3, .bool r4, .int .u64 r5, .int .u64 r6], .bool r7]) ∧ Below w.heap.size w w' := by
 have hbl10 : Tryz.prog.built 33 [] = some #[(.bool false), (.int .u64 0), (.int .u64 0), (.bool false), (.int .u64 0), (.int .u64 0)] := by kernel_rfl
 have hbl39 : ∀ (x1_ : Bool) (x2_ : Int) (x3_ : Int) (x4_ : Bool) (x5_ : Int) (x6_ : Int), Tryz.prog.built 33 [(0, (.agg #[(.bool x1_), (.int .u64 x2_), (.int .u64 x3_)])), (1, (.agg #[(.bool x4_), (.int .u64 x5_), (.int .u64 x6_)]))] = some #[(.bool x1_), (.int .u64 x2_), (.int .u64 x3_), (.bool x4_), (.int .u64 x5_), (.int .u64 x6_)] := by intros; kernel_rfl
 have hu26 := Tryz.underlying26
 have hu33 := Tryz.underlying33
 have hu24 := Tryz.underlying24
 have HB := Aside0.mk (Below.refl w.heap.size w)
 have H : ((ddiref03_Valid.f k a0_0 a0_1 a0_2 a0_3).bind fun t470 => (if t470 = true then ((ddiref03_Long.f a0_0).bind fun t471 => ((ddiref03_ones.f k (wrap64 (t471 - a0_3))).bind fun bt472 => (some (a0_0, a0_1, a0_2, a0_0, IntKind.u64.wrap (a0_1 + bt472.1), IntKind.u64.wrap (a0_2 + bt472.2), true)))) else (some (false, 0, 0, false, 0, 0, false)))) = some (r1, r2, r3, r4, r5, r6, r7) := h
 clear h
 replace H := Option.bind_eq_some_iff.mp H
 obtain ⟨t470, A20, H⟩ := H
 have A2 := Aside0.mk A20
 clear A20
 by_cases c3 : t470 = true
 ·
  subst c3
  have H1 : ((ddiref03_Long.f a0_0).bind fun t471 => ((ddiref03_ones.f k (wrap64 (t471 - a0_3))).bind fun bt472 => (some (a0_0, a0_1, a0_2, a0_0, IntKind.u64.wrap (a0_1 + bt472.1), IntKind.u64.wrap (a0_2 + bt472.2), true)))) = some (r1, r2, r3, r4, r5, r6, r7) := by rw [if_pos rfl] at H; exact H
  clear H
  have H := H1
  clear H1
  replace H := Option.bind_eq_some_iff.mp H
  obtain ⟨t471, A40, H⟩ := H
  have A4 := Aside0.mk A40
  clear A40
  replace H := Option.bind_eq_some_iff.mp H
  obtain ⟨⟨t472, t473⟩, A50, H⟩ := H
  replace H : (some (a0_0, a0_1, a0_2, a0_0, IntKind.u64.wrap (a0_1 + t472), IntKind.u64.wrap (a0_2 + t473), true)) = some (r1, r2, r3, r4, r5, r6, r7) := H
  have A5 := Aside0.mk A50
  clear A50
  simp only [Option.some.injEq, Prod.mk.injEq] at H
  obtain ⟨rfl, rfl, rfl, rfl, rfl, rfl, rfl⟩ := H
  go_enter Tryz.func11, Tryz.ntmps11
  go_wp2_with (first | ((with_reducible refine gate_dst (N := 10) rfl ?_); refine Ext.wpList_buildC ?hgd 33 _ ?ho ?hb ?_; (case hgd => rfl); (case ho => rfl); (case hb => ((try go_simp); exact hbl10))) | ((with_reducible refine gate_dst (N := 39) rfl ?_); refine Ext.wpList_buildC ?hgd 33 _ ?ho ?hb ?_; (case hgd => rfl); (case ho => rfl); (case hb => ((try go_simp); exact hbl39 _ _ _ _ _ _))) | ((with_reducible refine gate_dst (N := 1) rfl ?_); refine boxA (N := 1) (cs := #[.bool a0_0, .int .u64 a0_1, .int .u64 a0_2, .int .i64 a0_3]) (t := 26) ?_; intro gb468 hg w6 hbox hb; have BK468 := Aside0.mk (hbox); have GE468 := (pZ HB hg); replace HB := (pS HB hb); clear hb hbox hg) | ((with_reducible refine gate_dst (N := 2) rfl ?_); refine boxA (N := 2) (cs := #[.bool false, .int .u64 0, .int .u64 0, .bool false, .int .u64 0, .int .u64 0]) (t := 33) ?_; intro gb469 hg w7 hbox hb; have BK469 := Aside0.mk (hbox); have GE469 := (pZ HB hg); have NB468_469 := (pL BK468 hg); have NB469_468 := (pG BK468 hg); replace BK468 := (pB BK468 hb); replace HB := (pS HB hb); clear hb hbox hg; have hnb8 := NB468_469.out; have hnc8 := NB469_468.out; obtain ⟨hcz9_0, hcz9_1, hcz9_2, hcz9_3, hfz9_0, hfz9_1, hfz9_2, hfz9_3⟩ := pC4 BK468) | (go_at_call 27; (with_reducible refine (ddiref03_Valid.calls k a0_0 a0_1 a0_2 a0_3 true _ A2.out).mono ?_); rintro e w10 ⟨rfl, hb⟩; replace BK468 := (pB BK468 hb); replace BK469 := (pB BK469 hb); replace HB := (pS HB hb); (try clear hb); obtain ⟨hcz11_0, hcz11_1, hcz11_2, hcz11_3, hfz11_0, hfz11_1, hfz11_2, hfz11_3⟩ := pC4 BK468) | (go_at_call 45; (with_reducible refine (ddiref03_Long.calls a0_0 t471 _ A4.out).mono ?_); rintro e w' ⟨rfl, ⟨nd, rfl⟩⟩; (try first | exact ⟨rfl, _, World.drewN_drewN _ _ _⟩ | exact ⟨rfl, _, Eq.trans (World.drewN_drewN _ _ _) (congrArg (World.drewN _) (Nat.add_assoc _ _ _))⟩)) | (go_at_call 44; (with_reducible refine (ddiref03_ones.calls k (wrap64 (t471 - a0_3)) t472 t473 _ A5.out).mono ?_); rintro e w' ⟨rfl, ⟨nd, rfl⟩⟩; (try first | exact ⟨rfl, _, World.drewN_drewN _ _ _⟩ | exact ⟨rfl, _, Eq.trans (World.drewN_drewN _ _ _) (congrArg (World.drewN _) (Nat.add_assoc _ _ _))⟩)) | ((with_reducible refine gate_dst (N := 6) rfl ?_); refine boxA (N := 6) (cs := #[.bool false, .int .u64 0, .int .u64 0]) (t := 24) ?_; intro gb474 hg w12 hbox hb; have BK474 := Aside0.mk (hbox); have GE474 := (pZ HB hg); have NB468_474 := (pL BK468 hg); have NB474_468 := (pG BK468 hg); have NB469_474 := (pL BK469 hg); have NB474_469 := (pG BK469 hg); replace BK468 := (pB BK468 hb); replace BK469 := (pB BK469 hb); replace HB := (pS HB hb); clear hb hbox hg; have hnb13 := NB474_468.out; have hnc13 := NB468_474.out; have hnb14 := NB474_469.out; have hnc14 := NB469_474.out; obtain ⟨hcz15_0, hcz15_1, hcz15_2, hfz15_0, hfz15_1, hfz15_2⟩ := pC3 BK474; obtain ⟨hcz16_0, hcz16_1, hcz16_2, hcz16_3, hfz16_0, hfz16_1, hfz16_2, hfz16_3⟩ := pC4 BK468; obtain ⟨hcz17_0, hcz17_1, hcz17_2, hcz17_3, hcz17_4, hcz17_5, hfz17_0, hfz17_1, hfz17_2, hfz17_3, hfz17_4, hfz17_5⟩ := pC6 BK469) | ((with_reducible refine gate_store (t := 33) (p := 2) rfl ?_); (try (rw [drewN_self w12]; generalize hq_ : World.drewN w12 _ = w12; replace BK468 := Aside0.mk (blk_at hq_ BK468.out); replace BK469 := Aside0.mk (blk_at hq_ BK469.out); replace BK474 := Aside0.mk (blk_at hq_ BK474.out); replace HB := Aside0.mk (below_at hq_ HB.out); clear hq_)); refine store_event (t := 33) (p := 2) (v := ?vo_w18) (w1 := (((((((((w12.setCell ⟨gb474, 0, none⟩ (.bool a0_0)).setCell ⟨gb474, 1, none⟩ (.int .u64 (IntKind.u64.wrap (a0_1 + t472)))).setCell ⟨gb474, 2, none⟩ (.int .u64 (IntKind.u64.wrap (a0_2 + t473)))).setCell ⟨gb469, 0, none⟩ (.bool a0_0)).setCell ⟨gb469, 1, none⟩ (.int .u64 a0_1)).setCell ⟨gb469, 2, none⟩ (.int .u64 a0_2)).setCell ⟨gb469, 3, none⟩ (.bool a0_0)).setCell ⟨gb469, 4, none⟩ (.int .u64 (IntKind.u64.wrap (a0_1 + t472)))).setCell ⟨gb469, 5, none⟩ (.int .u64 (IntKind.u64.wrap (a0_2 + t473))))) ?hg ?ho ?hn ?hr ?_; (case ho => rfl); (case hg => rfl); (case hn => rfl); (case hr => first | (exact Ext.run_store_chain 33 _ _ rfl _ _ _ _ rfl rfl (pK NB469_474 (pK NB469_474 (pK NB469_474 (pM BK469)))) (by kernel_rfl) rfl rfl rfl) | (go_simp; done) | (go_simp; rfl)); intro w18 hw; replace BK468 : Aside0 (w18.heap[gb468]? = some (.cells #[.bool a0_0, .int .u64 a0_1, .int .u64 a0_2, .int .i64 a0_3] 26 (0, 0))) := (pW hw (pK NB468_469 (pK NB468_469 (pK NB468_469 (pK NB468_469 (pK NB468_469 (pK NB468_469 (pK NB468_474 (pK NB468_474 (pK NB468_474 (pM BK468))))))))))); replace BK469 : Aside0 (w18.heap[gb469]? = some (.cells #[.bool a0_0, .int .u64 a0_1, .int .u64 a0_2, .bool a0_0, .int .u64 (IntKind.u64.wrap (a0_1 + t472)), .int .u64 (IntKind.u64.wrap (a0_2 + t473))] 33 (0, 0))) := (pW hw (pP (pP (pP (pP (pP (pP (pK NB469_474 (pK NB469_474 (pK NB469_474 (pM BK469))))))))))); replace BK474 : Aside0 (w18.heap[gb474]? = some (.cells #[.bool a0_0, .int .u64 (IntKind.u64.wrap (a0_1 + t472)), .int .u64 (IntKind.u64.wrap (a0_2 + t473))] 24 (0, 0))) := (pW hw (pK NB474_469 (pK NB474_469 (pK NB474_469 (pK NB474_469 (pK NB474_469 (pK NB474_469 (pP (pP (pP (pM BK474))))))))))); replace HB : Aside0 (Below w.heap.size w w18) := ⟨(by rw [hw]; exact (by repeat (first | (with_reducible first | exact HB.out | apply below_alloc | apply pw_below_drewN | apply below_drew1 | refine below_set ?_ GE468.out | refine below_set ?_ GE469.out | refine below_set ?_ GE474.out) | exact HB.out)))⟩; clear hw))
  repeat (go_quiet (first | ((with_reducible refine gate_dst (N := 1) rfl ?_); refine boxA (N := 1) (cs := #[.bool a0_0, .int .u64 a0_1, .int .u64 a0_2, .int .i64 a0_3]) (t := 26) ?_; intro gb468 hg w6 hbox hb; have BK468 := Aside0.mk (hbox); have GE468 := (pZ HB hg); replace HB := (pS HB hb); clear hb hbox hg) | ((with_reducible refine gate_dst (N := 2) rfl ?_); refine boxA (N := 2) (cs := #[.bool false, .int .u64 0, .int .u64 0, .bool false, .int .u64 0, .int .u64 0]) (t := 33) ?_; intro gb469 hg w7 hbox hb; have BK469 := Aside0.mk (hbox); have GE469 := (pZ HB hg); have NB468_469 := (pL BK468 hg); have NB469_468 := (pG BK468 hg); replace BK468 := (pB BK468 hb); replace HB := (pS HB hb); clear hb hbox hg; have hnb8 := NB468_469.out; have hnc8 := NB469_468.out; obtain ⟨hcz9_0, hcz9_1, hcz9_2, hcz9_3, hfz9_0, hfz9_1, hfz9_2, hfz9_3⟩ := pC4 BK468) | (go_at_call 27; (with_reducible refine (ddiref03_Valid.calls k a0_0 a0_1 a0_2 a0_3 true _ A2.out).mono ?_); rintro e w10 ⟨rfl, hb⟩; replace BK468 := (pB BK468 hb); replace BK469 := (pB BK469 hb); replace HB := (pS HB hb); (try clear hb); obtain ⟨hcz11_0, hcz11_1, hcz11_2, hcz11_3, hfz11_0, hfz11_1, hfz11_2, hfz11_3⟩ := pC4 BK468) | (go_at_call 45; (with_reducible refine (ddiref03_Long.calls a0_0 t471 _ A4.out).mono ?_); rintro e w' ⟨rfl, ⟨nd, rfl⟩⟩; (try first | exact ⟨rfl, _, World.drewN_drewN _ _ _⟩ | exact ⟨rfl, _, Eq.trans (World.drewN_drewN _ _ _) (congrArg (World.drewN _) (Nat.add_assoc _ _ _))⟩)) | (go_at_call 44; (with_reducible refine (ddiref03_ones.calls k (wrap64 (t471 - a0_3)) t472 t473 _ A5.out).mono ?_); rintro e w' ⟨rfl, ⟨nd, rfl⟩⟩; (try first | exact ⟨rfl, _, World.drewN_drewN _ _ _⟩ | exact ⟨rfl, _, Eq.trans (World.drewN_drewN _ _ _) (congrArg (World.drewN _) (Nat.add_assoc _ _ _))⟩)) | ((with_reducible refine gate_dst (N := 6) rfl ?_); refine boxA (N := 6) (cs := #[.bool false, .int .u64 0, .int .u64 0]) (t := 24) ?_; intro gb474 hg w12 hbox hb; have BK474 := Aside0.mk (hbox); have GE474 := (pZ HB hg); have NB468_474 := (pL BK468 hg); have NB474_468 := (pG BK468 hg); have NB469_474 := (pL BK469 hg); have NB474_469 := (pG BK469 hg); replace BK468 := (pB BK468 hb); replace BK469 := (pB BK469 hb); replace HB := (pS HB hb); clear hb hbox hg; have hnb13 := NB474_468.out; have hnc13 := NB468_474.out; have hnb14 := NB474_469.out; have hnc14 := NB469_474.out; obtain ⟨hcz15_0, hcz15_1, hcz15_2, hfz15_0, hfz15_1, hfz15_2⟩ := pC3 BK474; obtain ⟨hcz16_0, hcz16_1, hcz16_2, hcz16_3, hfz16_0, hfz16_1, hfz16_2, hfz16_3⟩ := pC4 BK468; obtain ⟨hcz17_0, hcz17_1, hcz17_2, hcz17_3, hcz17_4, hcz17_5, hfz17_0, hfz17_1, hfz17_2, hfz17_3, hfz17_4, hfz17_5⟩ := pC6 BK469) | ((with_reducible refine gate_store (t := 33) (p := 2) rfl ?_); (try (rw [drewN_self w12]; generalize hq_ : World.drewN w12 _ = w12; replace BK468 := Aside0.mk (blk_at hq_ BK468.out); replace BK469 := Aside0.mk (blk_at hq_ BK469.out); replace BK474 := Aside0.mk (blk_at hq_ BK474.out); replace HB := Aside0.mk (below_at hq_ HB.out); clear hq_)); refine store_event (t := 33) (p := 2) (v := ?vo_w18) (w1 := (((((((((w12.setCell ⟨gb474, 0, none⟩ (.bool a0_0)).setCell ⟨gb474, 1, none⟩ (.int .u64 (IntKind.u64.wrap (a0_1 + t472)))).setCell ⟨gb474, 2, none⟩ (.int .u64 (IntKind.u64.wrap (a0_2 + t473)))).setCell ⟨gb469, 0, none⟩ (.bool a0_0)).setCell ⟨gb469, 1, none⟩ (.int .u64 a0_1)).setCell ⟨gb469, 2, none⟩ (.int .u64 a0_2)).setCell ⟨gb469, 3, none⟩ (.bool a0_0)).setCell ⟨gb469, 4, none⟩ (.int .u64 (IntKind.u64.wrap (a0_1 + t472)))).setCell ⟨gb469, 5, none⟩ (.int .u64 (IntKind.u64.wrap (a0_2 + t473))))) ?hg ?ho ?hn ?hr ?_; (case ho => rfl); (case hg => rfl); (case hn => rfl); (case hr => first | (exact Ext.run_store_chain 33 _ _ rfl _ _ _ _ rfl rfl (pK NB469_474 (pK NB469_474 (pK NB469_474 (pM BK469)))) (by kernel_rfl) rfl rfl rfl) | (go_simp; done) | (go_simp; rfl)); intro w18 hw; replace BK468 : Aside0 (w18.heap[gb468]? = some (.cells #[.bool a0_0, .int .u64 a0_1, .int .u64 a0_2, .int .i64 a0_3] 26 (0, 0))) := (pW hw (pK NB468_469 (pK NB468_469 (pK NB468_469 (pK NB468_469 (pK NB468_469 (pK NB468_469 (pK NB468_474 (pK NB468_474 (pK NB468_474 (pM BK468))))))))))); replace BK469 : Aside0 (w18.heap[gb469]? = some (.cells #[.bool a0_0, .int .u64 a0_1, .int .u64 a0_2, .bool a0_0, .int .u64 (IntKind.u64.wrap (a0_1 + t472)), .int .u64 (IntKind.u64.wrap (a0_2 + t473))] 33 (0, 0))) := (pW hw (pP (pP (pP (pP (pP (pP (pK NB469_474 (pK NB469_474 (pK NB469_474 (pM BK469))))))))))); replace BK474 : Aside0 (w18.heap[gb474]? = some (.cells #[.bool a0_0, .int .u64 (IntKind.u64.wrap (a0_1 + t472)), .int .u64 (IntKind.u64.wrap (a0_2 + t473))] 24 (0, 0))) := (pW hw (pK NB474_469 (pK NB474_469 (pK NB474_469 (pK NB474_469 (pK NB474_469 (pK NB474_469 (pP (pP (pP (pM BK474))))))))))); replace HB : Aside0 (Below w.heap.size w w18) := ⟨(by rw [hw]; exact (by repeat (first | (with_reducible first | exact HB.out | apply below_alloc | apply pw_below_drewN | apply below_drew1 | refine below_set ?_ GE468.out | refine below_set ?_ GE469.out | refine below_set ?_ GE474.out) | exact HB.out)))⟩; clear hw)); try go_wp2_with (first | ((with_reducible refine gate_dst (N := 10) rfl ?_); refine Ext.wpList_buildC ?hgd 33 _ ?ho ?hb ?_; (case hgd => rfl); (case ho => rfl); (case hb => ((try go_simp); exact hbl10))) | ((with_reducible refine gate_dst (N := 39) rfl ?_); refine Ext.wpList_buildC ?hgd 33 _ ?ho ?hb ?_; (case hgd => rfl); (case ho => rfl); (case hb => ((try go_simp); exact hbl39 _ _ _ _ _ _))) | ((with_reducible refine gate_dst (N := 1) rfl ?_); refine boxA (N := 1) (cs := #[.bool a0_0, .int .u64 a0_1, .int .u64 a0_2, .int .i64 a0_3]) (t := 26) ?_; intro gb468 hg w6 hbox hb; have BK468 := Aside0.mk (hbox); have GE468 := (pZ HB hg); replace HB := (pS HB hb); clear hb hbox hg) | ((with_reducible refine gate_dst (N := 2) rfl ?_); refine boxA (N := 2) (cs := #[.bool false, .int .u64 0, .int .u64 0, .bool false, .int .u64 0, .int .u64 0]) (t := 33) ?_; intro gb469 hg w7 hbox hb; have BK469 := Aside0.mk (hbox); have GE469 := (pZ HB hg); have NB468_469 := (pL BK468 hg); have NB469_468 := (pG BK468 hg); replace BK468 := (pB BK468 hb); replace HB := (pS HB hb); clear hb hbox hg; have hnb8 := NB468_469.out; have hnc8 := NB469_468.out; obtain ⟨hcz9_0, hcz9_1, hcz9_2, hcz9_3, hfz9_0, hfz9_1, hfz9_2, hfz9_3⟩ := pC4 BK468) | (go_at_call 27; (with_reducible refine (ddiref03_Valid.calls k a0_0 a0_1 a0_2 a0_3 true _ A2.out).mono ?_); rintro e w10 ⟨rfl, hb⟩; replace BK468 := (pB BK468 hb); replace BK469 := (pB BK469 hb); replace HB := (pS HB hb); (try clear hb); obtain ⟨hcz11_0, hcz11_1, hcz11_2, hcz11_3, hfz11_0, hfz11_1, hfz11_2, hfz11_3⟩ := pC4 BK468) | (go_at_call 45; (with_reducible refine (ddiref03_Long.calls a0_0 t471 _ A4.out).mono ?_); rintro e w' ⟨rfl, ⟨nd, rfl⟩⟩; (try first | exact ⟨rfl, _, World.drewN_drewN _ _ _⟩ | exact ⟨rfl, _, Eq.trans (World.drewN_drewN _ _ _) (congrArg (World.drewN _) (Nat.add_assoc _ _ _))⟩)) | (go_at_call 44; (with_reducible refine (ddiref03_ones.calls k (wrap64 (t471 - a0_3)) t472 t473 _ A5.out).mono ?_); rintro e w' ⟨rfl, ⟨nd, rfl⟩⟩; (try first | exact ⟨rfl, _, World.drewN_drewN _ _ _⟩ | exact ⟨rfl, _, Eq.trans (World.drewN_drewN _ _ _) (congrArg (World.drewN _) (Nat.add_assoc _ _ _))⟩)) | ((with_reducible refine gate_dst (N := 6) rfl ?_); refine boxA (N := 6) (cs := #[.bool false, .int .u64 0, .int .u64 0]) (t := 24) ?_; intro gb474 hg w12 hbox hb; have BK474 := Aside0.mk (hbox); have GE474 := (pZ HB hg); have NB468_474 := (pL BK468 hg); have NB474_468 := (pG BK468 hg); have NB469_474 := (pL BK469 hg); have NB474_469 := (pG BK469 hg); replace BK468 := (pB BK468 hb); replace BK469 := (pB BK469 hb); replace HB := (pS HB hb); clear hb hbox hg; have hnb13 := NB474_468.out; have hnc13 := NB468_474.out; have hnb14 := NB474_469.out; have hnc14 := NB469_474.out; obtain ⟨hcz15_0, hcz15_1, hcz15_2, hfz15_0, hfz15_1, hfz15_2⟩ := pC3 BK474; obtain ⟨hcz16_0, hcz16_1, hcz16_2, hcz16_3, hfz16_0, hfz16_1, hfz16_2, hfz16_3⟩ := pC4 BK468; obtain ⟨hcz17_0, hcz17_1, hcz17_2, hcz17_3, hcz17_4, hcz17_5, hfz17_0, hfz17_1, hfz17_2, hfz17_3, hfz17_4, hfz17_5⟩ := pC6 BK469) | ((with_reducible refine gate_store (t := 33) (p := 2) rfl ?_); (try (rw [drewN_self w12]; generalize hq_ : World.drewN w12 _ = w12; replace BK468 := Aside0.mk (blk_at hq_ BK468.out); replace BK469 := Aside0.mk (blk_at hq_ BK469.out); replace BK474 := Aside0.mk (blk_at hq_ BK474.out); replace HB := Aside0.mk (below_at hq_ HB.out); clear hq_)); refine store_event (t := 33) (p := 2) (v := ?vo_w18) (w1 := (((((((((w12.setCell ⟨gb474, 0, none⟩ (.bool a0_0)).setCell ⟨gb474, 1, none⟩ (.int .u64 (IntKind.u64.wrap (a0_1 + t472)))).setCell ⟨gb474, 2, none⟩ (.int .u64 (IntKind.u64.wrap (a0_2 + t473)))).setCell ⟨gb469, 0, none⟩ (.bool a0_0)).setCell ⟨gb469, 1, none⟩ (.int .u64 a0_1)).setCell ⟨gb469, 2, none⟩ (.int .u64 a0_2)).setCell ⟨gb469, 3, none⟩ (.bool a0_0)).setCell ⟨gb469, 4, none⟩ (.int .u64 (IntKind.u64.wrap (a0_1 + t472)))).setCell ⟨gb469, 5, none⟩ (.int .u64 (IntKind.u64.wrap (a0_2 + t473))))) ?hg ?ho ?hn ?hr ?_; (case ho => rfl); (case hg => rfl); (case hn => rfl); (case hr => first | (exact Ext.run_store_chain 33 _ _ rfl _ _ _ _ rfl rfl (pK NB469_474 (pK NB469_474 (pK NB469_474 (pM BK469)))) (by kernel_rfl) rfl rfl rfl) | (go_simp; done) | (go_simp; rfl)); intro w18 hw; replace BK468 : Aside0 (w18.heap[gb468]? = some (.cells #[.bool a0_0, .int .u64 a0_1, .int .u64 a0_2, .int .i64 a0_3] 26 (0, 0))) := (pW hw (pK NB468_469 (pK NB468_469 (pK NB468_469 (pK NB468_469 (pK NB468_469 (pK NB468_469 (pK NB468_474 (pK NB468_474 (pK NB468_474 (pM BK468))))))))))); replace BK469 : Aside0 (w18.heap[gb469]? = some (.cells #[.bool a0_0, .int .u64 a0_1, .int .u64 a0_2, .bool a0_0, .int .u64 (IntKind.u64.wrap (a0_1 + t472)), .int .u64 (IntKind.u64.wrap (a0_2 + t473))] 33 (0, 0))) := (pW hw (pP (pP (pP (pP (pP (pP (pK NB469_474 (pK NB469_474 (pK NB469_474 (pM BK469))))))))))); replace BK474 : Aside0 (w18.heap[gb474]? = some (.cells #[.bool a0_0, .int .u64 (IntKind.u64.wrap (a0_1 + t472)), .int .u64 (IntKind.u64.wrap (a0_2 + t473))] 24 (0, 0))) := (pW hw (pK NB474_469 (pK NB474_469 (pK NB474_469 (pK NB474_469 (pK NB474_469 (pK NB474_469 (pP (pP (pP (pM BK474))))))))))); replace HB : Aside0 (Below w.heap.size w w18) := ⟨(by rw [hw]; exact (by repeat (first | (with_reducible first | exact HB.out | apply below_alloc | apply pw_below_drewN | apply below_drew1 | refine below_set ?_ GE468.out | refine below_set ?_ GE469.out | refine below_set ?_ GE474.out) | exact HB.out)))⟩; clear hw)))
  refine bodyPost_ret (results_ct rfl _ _ gb469 33 #[.bool a0_0, .int .u64 a0_1, .int .u64 a0_2, .bool a0_0, .int .u64 (IntKind.u64.wrap (a0_1 + t472)), .int .u64 (IntKind.u64.wrap (a0_2 + t473))] (0, 0) _ rfl (pM BK469) Tryz.underlying33 rfl (by kernel_rfl)) rfl ?_
  exact pR (pE HB)
 ·
  replace c3 := Bool.eq_false_iff.mpr c3
  subst c3
  rw [if_neg (show ¬ (false = true) by decide)] at H
  simp only [Option.some.injEq, Prod.mk.injEq] at H
  obtain ⟨rfl, rfl, rfl, rfl, rfl, rfl, rfl⟩ := H
  go_enter Tryz.func11, Tryz.ntmps11
  go_wp2_with (first | ((with_reducible refine gate_dst (N := 10) rfl ?_); refine Ext.wpList_buildC ?hgd 33 _ ?ho ?hb ?_; (case hgd => rfl); (case ho => rfl); (case hb => ((try go_simp); exact hbl10))) | ((with_reducible refine gate_dst (N := 39) rfl ?_); refine Ext.wpList_buildC ?hgd 33 _ ?ho ?hb ?_; (case hgd => rfl); (case ho => rfl); (case hb => ((try go_simp); exact hbl39 _ _ _ _ _ _))) | ((with_reducible refine gate_dst (N := 1) rfl ?_); refine boxA (N := 1) (cs := #[.bool a0_0, .int .u64 a0_1, .int .u64 a0_2, .int .i64 a0_3]) (t := 26) ?_; intro gb468 hg w19 hbox hb; have BK468 := Aside0.mk (hbox); have GE468 := (pZ HB hg); replace HB := (pS HB hb); clear hb hbox hg) | ((with_reducible refine gate_dst (N := 2) rfl ?_); refine boxA (N := 2) (cs := #[.bool false, .int .u64 0, .int .u64 0, .bool false, .int .u64 0, .int .u64 0]) (t := 33) ?_; intro gb469 hg w20 hbox hb; have BK469 := Aside0.mk (hbox); have GE469 := (pZ HB hg); have NB468_469 := (pL BK468 hg); have NB469_468 := (pG BK468 hg); replace BK468 := (pB BK468 hb); replace HB := (pS HB hb); clear hb hbox hg; have hnb21 := NB468_469.out; have hnc21 := NB469_468.out; obtain ⟨hcz22_0, hcz22_1, hcz22_2, hcz22_3, hfz22_0, hfz22_1, hfz22_2, hfz22_3⟩ := pC4 BK468) | (go_at_call 27; (with_reducible refine (ddiref03_Valid.calls k a0_0 a0_1 a0_2 a0_3 false _ A2.out).mono ?_); rintro e w23 ⟨rfl, hb⟩; replace BK468 := (pB BK468 hb); replace BK469 := (pB BK469 hb); replace HB := (pS HB hb); (try clear hb); obtain ⟨hcz24_0, hcz24_1, hcz24_2, hcz24_3, hcz24_4, hcz24_5, hfz24_0, hfz24_1, hfz24_2, hfz24_3, hfz24_4, hfz24_5⟩ := pC6 BK469) | ((with_reducible refine gate_store (t := 33) (p := 2) rfl ?_); (try (rw [drewN_self w23]; generalize hq_ : World.drewN w23 _ = w23; replace BK468 := Aside0.mk (blk_at hq_ BK468.out); replace BK469 := Aside0.mk (blk_at hq_ BK469.out); replace HB := Aside0.mk (below_at hq_ HB.out); clear hq_)); refine store_event (t := 33) (p := 2) (v := ?vo_w25) (w1 := ((((((w23.setCell ⟨gb469, 0, none⟩ (.bool false)).setCell ⟨gb469, 1, none⟩ (.int .u64 0)).setCell ⟨gb469, 2, none⟩ (.int .u64 0)).setCell ⟨gb469, 3, none⟩ (.bool false)).setCell ⟨gb469, 4, none⟩ (.int .u64 0)).setCell ⟨gb469, 5, none⟩ (.int .u64 0))) ?hg ?ho ?hn ?hr ?_; (case ho => rfl); (case hg => rfl); (case hn => rfl); (case hr => first | (exact Ext.run_store_chain 33 _ _ rfl _ _ _ _ rfl rfl (pM BK469) (by kernel_rfl) rfl rfl rfl) | (go_simp; done) | (go_simp; rfl)); intro w25 hw; replace BK468 : Aside0 (w25.heap[gb468]? = some (.cells #[.bool a0_0, .int .u64 a0_1, .int .u64 a0_2, .int .i64 a0_3] 26 (0, 0))) := (pW hw (pK NB468_469 (pK NB468_469 (pK NB468_469 (pK NB468_469 (pK NB468_469 (pK NB468_469 (pM BK468)))))))); replace BK469 : Aside0 (w25.heap[gb469]? = some (.cells #[.bool false, .int .u64 0, .int .u64 0, .bool false, .int .u64 0, .int .u64 0] 33 (0, 0))) := (pW hw (pP (pP (pP (pP (pP (pP (pM BK469)))))))); replace HB : Aside0 (Below w.heap.size w w25) := ⟨(by rw [hw]; exact (by repeat (first | (with_reducible first | exact HB.out | apply below_alloc | apply pw_below_drewN | apply below_drew1 | refine below_set ?_ GE468.out | refine below_set ?_ GE469.out) | exact HB.out)))⟩; clear hw))
  repeat (go_quiet (first | ((with_reducible refine gate_dst (N := 1) rfl ?_); refine boxA (N := 1) (cs := #[.bool a0_0, .int .u64 a0_1, .int .u64 a0_2, .int .i64 a0_3]) (t := 26) ?_; intro gb468 hg w19 hbox hb; have BK468 := Aside0.mk (hbox); have GE468 := (pZ HB hg); replace HB := (pS HB hb); clear hb hbox hg) | ((with_reducible refine gate_dst (N := 2) rfl ?_); refine boxA (N := 2) (cs := #[.bool false, .int .u64 0, .int .u64 0, .bool false, .int .u64 0, .int .u64 0]) (t := 33) ?_; intro gb469 hg w20 hbox hb; have BK469 := Aside0.mk (hbox); have GE469 := (pZ HB hg); have NB468_469 := (pL BK468 hg); have NB469_468 := (pG BK468 hg); replace BK468 := (pB BK468 hb); replace HB := (pS HB hb); clear hb hbox hg; have hnb21 := NB468_469.out; have hnc21 := NB469_468.out; obtain ⟨hcz22_0, hcz22_1, hcz22_2, hcz22_3, hfz22_0, hfz22_1, hfz22_2, hfz22_3⟩ := pC4 BK468) | (go_at_call 27; (with_reducible refine (ddiref03_Valid.calls k a0_0 a0_1 a0_2 a0_3 false _ A2.out).mono ?_); rintro e w23 ⟨rfl, hb⟩; replace BK468 := (pB BK468 hb); replace BK469 := (pB BK469 hb); replace HB := (pS HB hb); (try clear hb); obtain ⟨hcz24_0, hcz24_1, hcz24_2, hcz24_3, hcz24_4, hcz24_5, hfz24_0, hfz24_1, hfz24_2, hfz24_3, hfz24_4, hfz24_5⟩ := pC6 BK469) | ((with_reducible refine gate_store (t := 33) (p := 2) rfl ?_); (try (rw [drewN_self w23]; generalize hq_ : World.drewN w23 _ = w23; replace BK468 := Aside0.mk (blk_at hq_ BK468.out); replace BK469 := Aside0.mk (blk_at hq_ BK469.out); replace HB := Aside0.mk (below_at hq_ HB.out); clear hq_)); refine store_event (t := 33) (p := 2) (v := ?vo_w25) (w1 := ((((((w23.setCell ⟨gb469, 0, none⟩ (.bool false)).setCell ⟨gb469, 1, none⟩ (.int .u64 0)).setCell ⟨gb469, 2, none⟩ (.int .u64 0)).setCell ⟨gb469, 3, none⟩ (.bool false)).setCell ⟨gb469, 4, none⟩ (.int .u64 0)).setCell ⟨gb469, 5, none⟩ (.int .u64 0))) ?hg ?ho ?hn ?hr ?_; (case ho => rfl); (case hg => rfl); (case hn => rfl); (case hr => first | (exact Ext.run_store_chain 33 _ _ rfl _ _ _ _ rfl rfl (pM BK469) (by kernel_rfl) rfl rfl rfl) | (go_simp; done) | (go_simp; rfl)); intro w25 hw; replace BK468 : Aside0 (w25.heap[gb468]? = some (.cells #[.bool a0_0, .int .u64 a0_1, .int .u64 a0_2, .int .i64 a0_3] 26 (0, 0))) := (pW hw (pK NB468_469 (pK NB468_469 (pK NB468_469 (pK NB468_469 (pK NB468_469 (pK NB468_469 (pM BK468)))))))); replace BK469 : Aside0 (w25.heap[gb469]? = some (.cells #[.bool false, .int .u64 0, .int .u64 0, .bool false, .int .u64 0, .int .u64 0] 33 (0, 0))) := (pW hw (pP (pP (pP (pP (pP (pP (pM BK469)))))))); replace HB : Aside0 (Below w.heap.size w w25) := ⟨(by rw [hw]; exact (by repeat (first | (with_reducible first | exact HB.out | apply below_alloc | apply pw_below_drewN | apply below_drew1 | refine below_set ?_ GE468.out | refine below_set ?_ GE469.out) | exact HB.out)))⟩; clear hw)); try go_wp2_with (first | ((with_reducible refine gate_dst (N := 10) rfl ?_); refine Ext.wpList_buildC ?hgd 33 _ ?ho ?hb ?_; (case hgd => rfl); (case ho => rfl); (case hb => ((try go_simp); exact hbl10))) | ((with_reducible refine gate_dst (N := 39) rfl ?_); refine Ext.wpList_buildC ?hgd 33 _ ?ho ?hb ?_; (case hgd => rfl); (case ho => rfl); (case hb => ((try go_simp); exact hbl39 _ _ _ _ _ _))) | ((with_reducible refine gate_dst (N := 1) rfl ?_); refine boxA (N := 1) (cs := #[.bool a0_0, .int .u64 a0_1, .int .u64 a0_2, .int .i64 a0_3]) (t := 26) ?_; intro gb468 hg w19 hbox hb; have BK468 := Aside0.mk (hbox); have GE468 := (pZ HB hg); replace HB := (pS HB hb); clear hb hbox hg) | ((with_reducible refine gate_dst (N := 2) rfl ?_); refine boxA (N := 2) (cs := #[.bool false, .int .u64 0, .int .u64 0, .bool false, .int .u64 0, .int .u64 0]) (t := 33) ?_; intro gb469 hg w20 hbox hb; have BK469 := Aside0.mk (hbox); have GE469 := (pZ HB hg); have NB468_469 := (pL BK468 hg); have NB469_468 := (pG BK468 hg); replace BK468 := (pB BK468 hb); replace HB := (pS HB hb); clear hb hbox hg; have hnb21 := NB468_469.out; have hnc21 := NB469_468.out; obtain ⟨hcz22_0, hcz22_1, hcz22_2, hcz22_3, hfz22_0, hfz22_1, hfz22_2, hfz22_3⟩ := pC4 BK468) | (go_at_call 27; (with_reducible refine (ddiref03_Valid.calls k a0_0 a0_1 a0_2 a0_3 false _ A2.out).mono ?_); rintro e w23 ⟨rfl, hb⟩; replace BK468 := (pB BK468 hb); replace BK469 := (pB BK469 hb); replace HB := (pS HB hb); (try clear hb); obtain ⟨hcz24_0, hcz24_1, hcz24_2, hcz24_3, hcz24_4, hcz24_5, hfz24_0, hfz24_1, hfz24_2, hfz24_3, hfz24_4, hfz24_5⟩ := pC6 BK469) | ((with_reducible refine gate_store (t := 33) (p := 2) rfl ?_); (try (rw [drewN_self w23]; generalize hq_ : World.drewN w23 _ = w23; replace BK468 := Aside0.mk (blk_at hq_ BK468.out); replace BK469 := Aside0.mk (blk_at hq_ BK469.out); replace HB := Aside0.mk (below_at hq_ HB.out); clear hq_)); refine store_event (t := 33) (p := 2) (v := ?vo_w25) (w1 := ((((((w23.setCell ⟨gb469, 0, none⟩ (.bool false)).setCell ⟨gb469, 1, none⟩ (.int .u64 0)).setCell ⟨gb469, 2, none⟩ (.int .u64 0)).setCell ⟨gb469, 3, none⟩ (.bool false)).setCell ⟨gb469, 4, none⟩ (.int .u64 0)).setCell ⟨gb469, 5, none⟩ (.int .u64 0))) ?hg ?ho ?hn ?hr ?_; (case ho => rfl); (case hg => rfl); (case hn => rfl); (case hr => first | (exact Ext.run_store_chain 33 _ _ rfl _ _ _ _ rfl rfl (pM BK469) (by kernel_rfl) rfl rfl rfl) | (go_simp; done) | (go_simp; rfl)); intro w25 hw; replace BK468 : Aside0 (w25.heap[gb468]? = some (.cells #[.bool a0_0, .int .u64 a0_1, .int .u64 a0_2, .int .i64 a0_3] 26 (0, 0))) := (pW hw (pK NB468_469 (pK NB468_469 (pK NB468_469 (pK NB468_469 (pK NB468_469 (pK NB468_469 (pM BK468)))))))); replace BK469 : Aside0 (w25.heap[gb469]? = some (.cells #[.bool false, .int .u64 0, .int .u64 0, .bool false, .int .u64 0, .int .u64 0] 33 (0, 0))) := (pW hw (pP (pP (pP (pP (pP (pP (pM BK469)))))))); replace HB : Aside0 (Below w.heap.size w w25) := ⟨(by rw [hw]; exact (by repeat (first | (with_reducible first | exact HB.out | apply below_alloc | apply pw_below_drewN | apply below_drew1 | refine below_set ?_ GE468.out | refine below_set ?_ GE469.out) | exact HB.out)))⟩; clear hw)))
  refine bodyPost_ret (results_ct rfl _ _ gb469 33 #[.bool false, .int .u64 0, .int .u64 0, .bool false, .int .u64 0, .int .u64 0] (0, 0) _ rfl (pM BK469) Tryz.underlying33 rfl (by kernel_rfl)) rfl ?_
  exact pR (pE HB)

/-! ### ddiref03_Part: function 15 -/
mutual
def ddiref03_Part.j0 : Nat → Int → Int → Bool → Bool → Int → Int → Int → Option (Bool × Int × Int × Int × Bool)
 | 0, _, _, _, _, _, _, _ => none
 | k + 1, x1, x2, x30, x476000, x476001, x476002, x476003 => if x30 = true then (some (false, 0, 0, 0, false)) else ((ddiref03_ones.f k (wrap64 (x1 - x476003))).bind fun bt479 => (if x2 > bt479.2 then (some (false, 0, 0, 0, false)) else (ddiref03_Part.l0 k x1 0 x2 x1 x476000 x476001 x476002 x476003)))
def ddiref03_Part.l0 : Nat → Int → Int → Int → Int → Bool → Int → Int → Int → Option (Bool × Int × Int × Int × Bool)
 | 0, _, _, _, _, _, _, _, _ => none
 | k + 1, x1, x10, x11, x12, x476000, x476001, x476002, x476003 => (ddiref03_Long.f x476000).bind fun t481 => (if x12 < t481 then (ddiref03_Part.l0 k x1 (IntKind.u64.wrap ((IntKind.u64.wrap (x10 * 2)) + (IntKind.u64.wrap (Int.tdiv x11 9223372036854775808)))) (IntKind.u64.wrap (x11 * 2)) (wrap64 (x12 + 1)) x476000 x476001 x476002 x476003) else (some (x476000, IntKind.u64.wrap (x476001 + x10), IntKind.u64.wrap (x476002 + x11), x1, true)))
end
def ddiref03_Part.f (k : Nat) (a0_0 : Bool) (a0_1 : Int) (a0_2 : Int) (a0_3 : Int) (a1 : Int) (a2 : Int) : Option (Bool × Int × Int × Int × Bool) := (ddiref03_Valid.f k a0_0 a0_1 a0_2 a0_3).bind fun t477 => (if t477 = true then (if a1 < a0_3 then (ddiref03_Part.j0 k a1 a2 true a0_0 a0_1 a0_2 a0_3) else ((ddiref03_Long.f a0_0).bind fun t478 => (ddiref03_Part.j0 k a1 a2 (decide (a1 > t478)) a0_0 a0_1 a0_2 a0_3))) else (ddiref03_Part.j0 k a1 a2 true a0_0 a0_1 a0_2 a0_3))
theorem ddiref03_Part.mono_l : ∀ k, (∀ y0 y1 y2 y3 y4 y5 y6, LeO (ddiref03_Part.j0 k y0 y1 y2 y3 y4 y5 y6) (ddiref03_Part.j0 (k + 1) y0 y1 y2 y3 y4 y5 y6)) ∧ (∀ y0 y1 y2 y3 y4 y5 y6 y7, LeO (ddiref03_Part.l0 k y0 y1 y2 y3 y4 y5 y6 y7) (ddiref03_Part.l0 (k + 1) y0 y1 y2 y3 y4 y5 y6 y7))
 | 0 => ⟨fun _ _ _ _ _ _ _ r h => by simp [ddiref03_Part.j0] at h, fun _ _ _ _ _ _ _ _ r h => by simp [ddiref03_Part.l0] at h⟩
 | k + 1 => by
  obtain ⟨ih0, ih1⟩ := ddiref03_Part.mono_l k
  refine ⟨?_, ?_⟩
  ·
   intro y0 y1 y2 y3 y4 y5 y6
   unfold ddiref03_Part.j0
   repeat' with_reducible first | exact ih0 _ _ _ _ _ _ _ | exact ih1 _ _ _ _ _ _ _ _ | exact ddiref03_Valid.mono _ _ _ _ _ | exact ddiref03_ones.mono _ _ | exact LeO.refl _ | exact LeO.none _ | refine LeO.ite ?_ ?_ | refine LeO.bind ?_ (fun _ => ?_)
  ·
   intro y0 y1 y2 y3 y4 y5 y6 y7
   unfold ddiref03_Part.l0
   repeat' with_reducible first | exact ih0 _ _ _ _ _ _ _ | exact ih1 _ _ _ _ _ _ _ _ | exact ddiref03_Valid.mono _ _ _ _ _ | exact ddiref03_ones.mono _ _ | exact LeO.refl _ | exact LeO.none _ | refine LeO.ite ?_ ?_ | refine LeO.bind ?_ (fun _ => ?_)
theorem ddiref03_Part.mono : ∀ a0 a1 a2 a3 a4 a5 k, LeO (ddiref03_Part.f k a0 a1 a2 a3 a4 a5) (ddiref03_Part.f (k + 1) a0 a1 a2 a3 a4 a5) := by
 intro a0 a1 a2 a3 a4 a5 k
 obtain ⟨ih0, ih1⟩ := ddiref03_Part.mono_l k
 unfold ddiref03_Part.f
 repeat' with_reducible first | exact ih0 _ _ _ _ _ _ _ | exact ih1 _ _ _ _ _ _ _ _ | exact ddiref03_Valid.mono _ _ _ _ _ | exact ddiref03_ones.mono _ _ | exact LeO.refl _ | exact LeO.none _ | refine LeO.ite ?_ ?_ | refine LeO.bind ?_ (fun _ => ?_)
set_option maxHeartbeats 40000000 in
set_option maxRecDepth 100000 in
theorem ddiref03_Part.calls (k : Nat) (a0_0 : Bool) (a0_1 : Int) (a0_2 : Int) (a0_3 : Int) (a1 : Int) (a2 : Int) (r1 : Bool) (r2 : Int) (r3 : Int) (r4 : Int) (r5 : Bool) (w : World) (h : ddiref03_Part.f k a0_0 a0_1 a0_2 a0_3 a1 a2 = some (r1, r2, r3, r4, r5)) :
 Calls Tryz.prog 15 #[.agg #[.bool a0_0, .int .u64 a0_1, .int .u64 a0_2, .int .i64 a0_3], .int .i64 a1, .int .u64 a2] w fun e w' => e = .returned (.tuple #[.agg #[.bool r1, .int .u64 r2, .int .u64 r3, .int .i64 r4], .bool r5]) ∧ Below w.heap.size w w' := by
 have hu26 := Tryz.underlying26
 have hu24 := Tryz.underlying24
 have HB := Aside0.mk (Below.refl w.heap.size w)
 have H : ((ddiref03_Valid.f k a0_0 a0_1 a0_2 a0_3).bind fun t477 => (if t477 = true then (if a1 < a0_3 then (ddiref03_Part.j0 k a1 a2 true a0_0 a0_1 a0_2 a0_3) else ((ddiref03_Long.f a0_0).bind fun t478 => (ddiref03_Part.j0 k a1 a2 (decide (a1 > t478)) a0_0 a0_1 a0_2 a0_3))) else (ddiref03_Part.j0 k a1 a2 true a0_0 a0_1 a0_2 a0_3))) = some (r1, r2, r3, r4, r5) := h
 clear h
 have HC4 := Aside0.mk H
 clear H
 go_enter Tryz.func15, Tryz.ntmps15
 go_upto_region 1 with (first | ((with_reducible refine gate_dst (N := 3) rfl ?_); refine boxA (N := 3) (cs := #[.bool a0_0, .int .u64 a0_1, .int .u64 a0_2, .int .i64 a0_3]) (t := 26) ?_; intro gb475 hg w5 hbox hb; have BK475 := Aside0.mk (hbox); have GE475 := (pZ HB hg); replace HB := (pS HB hb); clear hb hbox hg) | ((with_reducible refine gate_dst (N := 6) rfl ?_); refine boxA (N := 6) (cs := #[.bool false, .int .u64 0, .int .u64 0, .int .i64 0]) (t := 26) ?_; intro gb476 hg w6 hbox hb; have BK476 := Aside0.mk (hbox); have GE476 := (pZ HB hg); have NB475_476 := (pL BK475 hg); have NB476_475 := (pG BK475 hg); replace BK475 := (pB BK475 hb); replace HB := (pS HB hb); clear hb hbox hg))
 (try simp only [Act.put, List.setIfInBounds_toArray, List.set_cons_zero, List.set_cons_succ])
 go_cut [30] (fun v30 wc => ∃ (kq : Nat) (x30_3 : Bool), v30 = .bool x30_3 ∧ Aside0 (ddiref03_Part.j0 kq a1 a2 x30_3 a0_0 a0_1 a0_2 a0_3 = some (r1, r2, r3, r4, r5)) ∧ Aside0 (kq ≤ k) ∧ Aside0 (wc.heap[gb475]? = some (.cells #[.bool a0_0, .int .u64 a0_1, .int .u64 a0_2, .int .i64 a0_3] 26 (0, 0))) ∧ Aside0 (wc.heap[gb476]? = some (.cells #[.bool false, .int .u64 0, .int .u64 0, .int .i64 0] 26 (0, 0))) ∧ Aside0 (Below w.heap.size w wc))
 case first =>
  have H := HC4.out
  clear HC4
  replace H := Option.bind_eq_some_iff.mp H
  obtain ⟨t477, A70, H⟩ := H
  have A7 := Aside0.mk A70
  clear A70
  by_cases c8 : t477 = true
  ·
   subst c8
   have H1 : (if a1 < a0_3 then (ddiref03_Part.j0 k a1 a2 true a0_0 a0_1 a0_2 a0_3) else ((ddiref03_Long.f a0_0).bind fun t478 => (ddiref03_Part.j0 k a1 a2 (decide (a1 > t478)) a0_0 a0_1 a0_2 a0_3))) = some (r1, r2, r3, r4, r5) := by rw [if_pos rfl] at H; exact H
   clear H
   have H := H1
   clear H1
   by_cases c9 : a1 < a0_3
   ·
    rw [if_pos c9] at H
    have c9b0 := decide_eq_true c9
    clear c9
    (first | rw [c9b0] | (simp only [i64_w, i32_w]; rw [c9b0]) | skip)
    have H' := Aside0.mk H
    clear H
    have hnb10 := NB475_476.out
    have hnc10 := NB476_475.out
    obtain ⟨hcz11_0, hcz11_1, hcz11_2, hcz11_3, hfz11_0, hfz11_1, hfz11_2, hfz11_3⟩ := pC4 BK475
    go_wp2_with (first | ((with_reducible refine gate_callee (f := 27) rfl ?_); refine goesA (some 15) Tryz.func27 #[.agg #[.bool a0_0, .int .u64 a0_1, .int .u64 a0_2, .int .i64 a0_3]] ?_; (with_reducible refine (ddiref03_Valid.calls k a0_0 a0_1 a0_2 a0_3 true _ A7.out).mono ?_); rintro e w12 ⟨rfl, hb⟩; refine ⟨_, rfl, ?_⟩; replace BK475 := (pB BK475 hb); replace BK476 := (pB BK476 hb); replace HB := (pS HB hb); (try clear hb); obtain ⟨hcz13_0, hcz13_1, hcz13_2, hcz13_3, hfz13_0, hfz13_1, hfz13_2, hfz13_3⟩ := pC4 BK475))
    refine Met.intro ?_
    go_step
    (repeat apply Exists.intro)
    refine ⟨?rel, ?heq_⟩
    case heq_ => first | rfl | (rw [c9b0]) | (simp only [c9b0])
    case rel => exact ⟨_, (true), pT, H', ⟨by first | omega | exact Nat.le_refl _⟩, ⟨pM BK475⟩, ⟨pM BK476⟩, ⟨pE HB⟩⟩
   ·
    rw [if_neg c9] at H
    have c9b0 := decide_eq_false c9
    clear c9
    (first | rw [c9b0] | (simp only [i64_w, i32_w]; rw [c9b0]) | skip)
    replace H := Option.bind_eq_some_iff.mp H
    obtain ⟨t478, A140, H⟩ := H
    have A14 := Aside0.mk A140
    clear A140
    have H' := Aside0.mk H
    clear H
    have hnb15 := NB475_476.out
    have hnc15 := NB476_475.out
    obtain ⟨hcz16_0, hcz16_1, hcz16_2, hcz16_3, hfz16_0, hfz16_1, hfz16_2, hfz16_3⟩ := pC4 BK475
    go_wp2_with (first | ((with_reducible refine gate_callee (f := 27) rfl ?_); refine goesA (some 15) Tryz.func27 #[.agg #[.bool a0_0, .int .u64 a0_1, .int .u64 a0_2, .int .i64 a0_3]] ?_; (with_reducible refine (ddiref03_Valid.calls k a0_0 a0_1 a0_2 a0_3 true _ A7.out).mono ?_); rintro e w17 ⟨rfl, hb⟩; refine ⟨_, rfl, ?_⟩; replace BK475 := (pB BK475 hb); replace BK476 := (pB BK476 hb); replace HB := (pS HB hb); (try clear hb); obtain ⟨hcz18_0, hcz18_1, hcz18_2, hcz18_3, hfz18_0, hfz18_1, hfz18_2, hfz18_3⟩ := pC4 BK475) | (go_at_call 45; (with_reducible refine (ddiref03_Long.calls a0_0 t478 _ A14.out).mono ?_); rintro e w' ⟨rfl, ⟨nd, rfl⟩⟩))
    refine Met.intro ?_
    go_step
    (repeat apply Exists.intro)
    refine ⟨?rel, ?heq_⟩
    case heq_ => first | rfl | (rw [c9b0]) | (simp only [c9b0])
    case rel => exact ⟨_, (decide (a1 > t478)), pT, H', ⟨by first | omega | exact Nat.le_refl _⟩, ⟨pM BK475⟩, ⟨pM BK476⟩, ⟨pE HB⟩⟩
  ·
   replace c8 := Bool.eq_false_iff.mpr c8
   subst c8
   rw [if_neg (show ¬ (false = true) by decide)] at H
   have H' := Aside0.mk H
   clear H
   have hnb19 := NB475_476.out
   have hnc19 := NB476_475.out
   obtain ⟨hcz20_0, hcz20_1, hcz20_2, hcz20_3, hfz20_0, hfz20_1, hfz20_2, hfz20_3⟩ := pC4 BK475
   go_wp2_with (first | ((with_reducible refine gate_callee (f := 27) rfl ?_); refine goesA (some 15) Tryz.func27 #[.agg #[.bool a0_0, .int .u64 a0_1, .int .u64 a0_2, .int .i64 a0_3]] ?_; (with_reducible refine (ddiref03_Valid.calls k a0_0 a0_1 a0_2 a0_3 false _ A7.out).mono ?_); rintro e w21 ⟨rfl, hb⟩; refine ⟨_, rfl, ?_⟩; replace BK475 := (pB BK475 hb); replace BK476 := (pB BK476 hb); replace HB := (pS HB hb); (try clear hb)))
   go_meet
   case rel => exact ⟨_, (true), pT, H', ⟨by first | omega | exact Nat.le_refl _⟩, ⟨pM BK475⟩, ⟨pM BK476⟩, ⟨pE HB⟩⟩
 case rest =>
  clear HC4
  obtain ⟨kq, x30_3, rfl, HA, HJ3, BK475, BK476, HB⟩ := hcut
  cases kq with
  | zero => exact absurd HA.out (by simp [ddiref03_Part.j0])
  | succ kj3 =>
   have H := HA.out
   clear HA
   simp only [ddiref03_Part.j0] at H
   by_cases c22 : x30_3 = true
   ·
    subst c22
    have H1 : (some (false, 0, 0, 0, false)) = some (r1, r2, r3, r4, r5) := by rw [if_pos rfl] at H; exact H
    clear H
    have H := H1
    clear H1
    simp only [Option.some.injEq, Prod.mk.injEq] at H
    obtain ⟨rfl, rfl, rfl, rfl, rfl⟩ := H
    have hnb23 := NB476_475.out
    have hnc23 := NB475_476.out
    obtain ⟨hcz24_0, hcz24_1, hcz24_2, hcz24_3, hfz24_0, hfz24_1, hfz24_2, hfz24_3⟩ := pC4 BK476
    go_wp2
    refine bodyPost_ret (results_ct rfl _ _ gb476 26 #[.bool false, .int .u64 0, .int .u64 0, .int .i64 0] (0, 0) _ rfl (pP (pP (pP (pP (pM BK476))))) Tryz.underlying26 rfl (by kernel_rfl)) rfl ?_
    exact pR (pE HB)
   ·
    replace c22 := Bool.eq_false_iff.mpr c22
    subst c22
    rw [if_neg (show ¬ (false = true) by decide)] at H
    replace H := Option.bind_eq_some_iff.mp H
    obtain ⟨⟨t479, t480⟩, A250, H⟩ := H
    replace H : (if a2 > t480 then (some (false, 0, 0, 0, false)) else (ddiref03_Part.l0 kj3 a1 0 a2 a1 a0_0 a0_1 a0_2 a0_3)) = some (r1, r2, r3, r4, r5) := H
    have A25 := Aside0.mk A250
    clear A250
    by_cases c26 : a2 > t480
    ·
     rw [if_pos c26] at H
     have c26b0 := decide_eq_true c26
     clear c26
     simp only [Option.some.injEq, Prod.mk.injEq] at H
     obtain ⟨rfl, rfl, rfl, rfl, rfl⟩ := H
     have hnb27 := NB475_476.out
     have hnc27 := NB476_475.out
     obtain ⟨hcz28_0, hcz28_1, hcz28_2, hcz28_3, hfz28_0, hfz28_1, hfz28_2, hfz28_3⟩ := pC4 BK475
     go_wp2_with (first | ((with_reducible refine gate_callee (f := 44) rfl ?_); refine goesA (some 37) Tryz.func44 #[.int .i64 (wrap64 (a1 - a0_3))] ?_; (with_reducible refine (ddiref03_ones.calls kj3 (wrap64 (a1 - a0_3)) t479 t480 _ A25.out).mono ?_); rintro e w' ⟨rfl, ⟨nd, rfl⟩⟩; refine ⟨_, rfl, ?_⟩; (try (rw [drewN_self wc]; generalize hq_ : World.drewN wc _ = wc; replace BK475 : Aside0 (wc.heap[gb475]? = some (.cells #[.bool a0_0, .int .u64 a0_1, .int .u64 a0_2, .int .i64 a0_3] 26 (0, 0))) := ⟨by rw [← hq_]; exact (pM BK475)⟩; replace BK476 : Aside0 (wc.heap[gb476]? = some (.cells #[.bool false, .int .u64 0, .int .u64 0, .int .i64 0] 26 (0, 0))) := ⟨by rw [← hq_]; exact (pM BK476)⟩; replace HB : Aside0 (Below w.heap.size w wc) := ⟨by rw [← hq_]; exact (by repeat (first | (with_reducible first | exact HB.out | apply below_alloc | apply pw_below_drewN | apply below_drew1 | refine below_set ?_ GE475.out | refine below_set ?_ GE476.out) | exact HB.out))⟩; clear hq_)); obtain ⟨hcz29_0, hcz29_1, hcz29_2, hcz29_3, hfz29_0, hfz29_1, hfz29_2, hfz29_3⟩ := pC4 BK476))
     refine bodyPost_ret (results_ct rfl _ _ gb476 26 #[.bool false, .int .u64 0, .int .u64 0, .int .i64 0] (0, 0) _ rfl (pP (pP (pP (pP (pM BK476))))) Tryz.underlying26 rfl (by kernel_rfl)) rfl ?_
     exact pR (pE HB)
    ·
     rw [if_neg c26] at H
     have c26b0 := decide_eq_false c26
     clear c26
     have H' := Aside0.mk H
     clear H
     have hnb30 := NB475_476.out
     have hnc30 := NB476_475.out
     obtain ⟨hcz31_0, hcz31_1, hcz31_2, hcz31_3, hfz31_0, hfz31_1, hfz31_2, hfz31_3⟩ := pC4 BK475
     go_wp2_with (first | ((with_reducible refine gate_callee (f := 44) rfl ?_); refine goesA (some 37) Tryz.func44 #[.int .i64 (wrap64 (a1 - a0_3))] ?_; (with_reducible refine (ddiref03_ones.calls kj3 (wrap64 (a1 - a0_3)) t479 t480 _ A25.out).mono ?_); rintro e w' ⟨rfl, ⟨nd, rfl⟩⟩; refine ⟨_, rfl, ?_⟩))
     go_loopg [10, 11, 12] kj3 (fun kq v10 v11 v12 w' => ∃ (x10_2 : Int) (x11_2 : Int) (x12_2 : Int), v10 = .int .u64 x10_2 ∧ v11 = .int .u64 x11_2 ∧ v12 = .int .i64 x12_2 ∧ Aside0 (ddiref03_Part.l0 kq a1 x10_2 x11_2 x12_2 a0_0 a0_1 a0_2 a0_3 = some (r1, r2, r3, r4, r5)) ∧ Aside0 (kq ≤ kj3) ∧ Aside0 (w'.heap[gb475]? = some (.cells #[.bool a0_0, .int .u64 a0_1, .int .u64 a0_2, .int .i64 a0_3] 26 (0, 0))) ∧ Aside0 (w'.heap[gb476]? = some (.cells #[.bool false, .int .u64 0, .int .u64 0, .int .i64 0] 26 (0, 0))) ∧ Aside0 (Below w.heap.size w w'))
     case atStart => exact ⟨(0), (a2), (a1), pT, pT, pT, H', ⟨Nat.le_refl _⟩, ⟨pM BK475⟩, ⟨pM BK476⟩, ⟨pE HB⟩⟩
     case round =>
      clear H'
      try clear c22
      try clear c26
      try clear c26b0
      try clear hcz31_0 hcz31_1 hcz31_2 hcz31_3
      try clear hfz31_0 hfz31_1 hfz31_2 hfz31_3
      obtain ⟨x10_2, x11_2, x12_2, rfl, rfl, rfl, HA, HK2, BK475, BK476, HB⟩ := hrel
      cases gk with
      | zero => exact absurd HA.out (by simp [ddiref03_Part.l0])
      | succ k2 =>
       have H := HA.out
       clear HA
       simp only [ddiref03_Part.l0] at H
       replace H := Option.bind_eq_some_iff.mp H
       obtain ⟨t481, A320, H⟩ := H
       have A32 := Aside0.mk A320
       clear A320
       by_cases c33 : x12_2 < t481
       ·
        rw [if_pos c33] at H
        have c33b0 := decide_eq_true c33
        clear c33
        have H' := Aside0.mk H
        clear H
        have hnb34 := NB475_476.out
        have hnc34 := NB476_475.out
        obtain ⟨hcz35_0, hcz35_1, hcz35_2, hcz35_3, hfz35_0, hfz35_1, hfz35_2, hfz35_3⟩ := pC4 BK475
        go_wp2_with (first | ((with_reducible refine gate_callee (f := 45) rfl ?_); refine goesA (some 50) Tryz.func45 #[.bool a0_0] ?_; (with_reducible refine (ddiref03_Long.calls a0_0 t481 _ A32.out).mono ?_); rintro e w' ⟨rfl, ⟨nd, rfl⟩⟩; refine ⟨_, rfl, ?_⟩))
        go_roundg k2
        case measure => have := HJ3.out; have := HK2.out; omega
        case rel => exact ⟨(IntKind.u64.wrap ((IntKind.u64.wrap (x10_2 * 2)) + (IntKind.u64.wrap (Int.tdiv x11_2 9223372036854775808)))), (IntKind.u64.wrap (x11_2 * 2)), (wrap64 (x12_2 + 1)), pT, pT, pT, H', ⟨by have := HJ3.out; have := HK2.out; omega⟩, ⟨pM BK475⟩, ⟨pM BK476⟩, ⟨pE HB⟩⟩
       ·
        rw [if_neg c33] at H
        have c33b0 := decide_eq_false c33
        clear c33
        simp only [Option.some.injEq, Prod.mk.injEq] at H
        obtain ⟨rfl, rfl, rfl, rfl, rfl⟩ := H
        have hnb36 := NB475_476.out
        have hnc36 := NB476_475.out
        obtain ⟨hcz37_0, hcz37_1, hcz37_2, hcz37_3, hfz37_0, hfz37_1, hfz37_2, hfz37_3⟩ := pC4 BK475
        go_wp2_with (first | ((with_reducible refine gate_callee (f := 45) rfl ?_); refine goesA (some 50) Tryz.func45 #[.bool a0_0] ?_; (with_reducible refine (ddiref03_Long.calls a0_0 t481 _ A32.out).mono ?_); rintro e w' ⟨rfl, ⟨nd, rfl⟩⟩; refine ⟨_, rfl, ?_⟩; (try (rw [drewN_self wr]; generalize hq_ : World.drewN wr _ = wr; replace BK475 : Aside0 (wr.heap[gb475]? = some (.cells #[.bool a0_0, .int .u64 a0_1, .int .u64 a0_2, .int .i64 a0_3] 26 (0, 0))) := ⟨by rw [← hq_]; exact (pM BK475)⟩; replace BK476 : Aside0 (wr.heap[gb476]? = some (.cells #[.bool false, .int .u64 0, .int .u64 0, .int .i64 0] 26 (0, 0))) := ⟨by rw [← hq_]; exact (pM BK476)⟩; replace HB : Aside0 (Below w.heap.size w wr) := ⟨by rw [← hq_]; exact (by repeat (first | (with_reducible first | exact HB.out | apply below_alloc | apply pw_below_drewN | apply below_drew1 | refine below_set ?_ GE475.out | refine below_set ?_ GE476.out) | exact HB.out))⟩; clear hq_)); obtain ⟨hcz38_0, hcz38_1, hcz38_2, hcz38_3, hfz38_0, hfz38_1, hfz38_2, hfz38_3⟩ := pC4 BK475) | ((with_reducible refine gate_dst (N := 13) rfl ?_); refine boxA (N := 13) (cs := #[.bool false, .int .u64 0, .int .u64 0]) (t := 24) ?_; intro gb482 hg w39 hbox hb; have BK482 := Aside0.mk (hbox); have GE482 := (pZ HB hg); have NB475_482 := (pL BK475 hg); have NB482_475 := (pG BK475 hg); have NB476_482 := (pL BK476 hg); have NB482_476 := (pG BK476 hg); replace BK475 := (pB BK475 hb); replace BK476 := (pB BK476 hb); replace HB := (pS HB hb); clear hb hbox hg; have hnb40 := NB482_475.out; have hnc40 := NB475_482.out; have hnb41 := NB482_476.out; have hnc41 := NB476_482.out; obtain ⟨hcz42_0, hcz42_1, hcz42_2, hfz42_0, hfz42_1, hfz42_2⟩ := pC3 BK482; obtain ⟨hcz43_0, hcz43_1, hcz43_2, hcz43_3, hfz43_0, hfz43_1, hfz43_2, hfz43_3⟩ := pC4 BK476) | ((with_reducible refine gate_store (t := 26) (p := 6) rfl ?_); refine store_event (t := 26) (p := 6) (v := ?vo_w44) (w1 := (((((((w39.setCell ⟨gb482, 0, none⟩ (.bool a0_0)).setCell ⟨gb482, 1, none⟩ (.int .u64 (IntKind.u64.wrap (a0_1 + x10_2)))).setCell ⟨gb482, 2, none⟩ (.int .u64 (IntKind.u64.wrap (a0_2 + x11_2)))).setCell ⟨gb476, 0, none⟩ (.bool a0_0)).setCell ⟨gb476, 1, none⟩ (.int .u64 (IntKind.u64.wrap (a0_1 + x10_2)))).setCell ⟨gb476, 2, none⟩ (.int .u64 (IntKind.u64.wrap (a0_2 + x11_2)))).setCell ⟨gb476, 3, none⟩ (.int .i64 a1))) ?hg ?ho ?hn ?hr ?_; (case ho => rfl); (case hg => rfl); (case hn => rfl); (case hr => first | (exact Ext.run_store_chain 26 _ _ rfl _ _ _ _ rfl rfl (pK NB476_482 (pK NB476_482 (pK NB476_482 (pM BK476)))) (by kernel_rfl) rfl rfl rfl) | (go_simp; done) | (go_simp; rfl)); intro w44 hw; replace BK475 : Aside0 (w44.heap[gb475]? = some (.cells #[.bool a0_0, .int .u64 a0_1, .int .u64 a0_2, .int .i64 a0_3] 26 (0, 0))) := (pW hw (pK NB475_476 (pK NB475_476 (pK NB475_476 (pK NB475_476 (pK NB475_482 (pK NB475_482 (pK NB475_482 (pM BK475))))))))); replace BK476 : Aside0 (w44.heap[gb476]? = some (.cells #[.bool a0_0, .int .u64 (IntKind.u64.wrap (a0_1 + x10_2)), .int .u64 (IntKind.u64.wrap (a0_2 + x11_2)), .int .i64 a1] 26 (0, 0))) := (pW hw (pP (pP (pP (pP (pK NB476_482 (pK NB476_482 (pK NB476_482 (pM BK476))))))))); replace BK482 : Aside0 (w44.heap[gb482]? = some (.cells #[.bool a0_0, .int .u64 (IntKind.u64.wrap (a0_1 + x10_2)), .int .u64 (IntKind.u64.wrap (a0_2 + x11_2))] 24 (0, 0))) := (pW hw (pK NB482_476 (pK NB482_476 (pK NB482_476 (pK NB482_476 (pP (pP (pP (pM BK482))))))))); replace HB : Aside0 (Below w.heap.size w w44) := ⟨(by rw [hw]; exact (by repeat (first | (with_reducible first | exact HB.out | apply below_alloc | apply pw_below_drewN | apply below_drew1 | refine below_set ?_ GE475.out | refine below_set ?_ GE476.out | refine below_set ?_ GE482.out) | exact HB.out)))⟩; clear hw))
        refine bodyPost_ret (results_ct rfl _ _ gb476 26 #[.bool a0_0, .int .u64 (IntKind.u64.wrap (a0_1 + x10_2)), .int .u64 (IntKind.u64.wrap (a0_2 + x11_2)), .int .i64 a1] (0, 0) _ rfl (pM BK476) Tryz.underlying26 rfl (by kernel_rfl)) rfl ?_
        exact pR (pE HB)

/-! ### ddiref03_Halves: function 13 -/
def ddiref03_Halves.f (k : Nat) (a0_0 : Bool) (a0_1 : Int) (a0_2 : Int) (a0_3 : Int) : Option (Bool × Int × Int × Int × Bool × Int × Int × Int × Bool) := (ddiref03_Part.f k a0_0 a0_1 a0_2 a0_3 (wrap64 (a0_3 + 1)) 0).bind fun bt486 => ((ddiref03_Part.f k a0_0 a0_1 a0_2 a0_3 (wrap64 (a0_3 + 1)) 1).bind fun bt492 => (if bt492.2.2.2.2 = true then (some (bt486.1, bt486.2.1, bt486.2.2.1, bt486.2.2.2.1, bt492.1, bt492.2.1, bt492.2.2.1, bt492.2.2.2.1, true)) else (some (false, 0, 0, 0, false, 0, 0, 0, false))))
theorem ddiref03_Halves.mono : ∀ a0 a1 a2 a3 k, LeO (ddiref03_Halves.f k a0 a1 a2 a3) (ddiref03_Halves.f (k + 1) a0 a1 a2 a3) := by
 intro a0 a1 a2 a3 k
 unfold ddiref03_Halves.f
 repeat' with_reducible first | exact ddiref03_Part.mono _ _ _ _ _ _ _ | exact LeO.refl _ | exact LeO.none _ | refine LeO.ite ?_ ?_ | refine LeO.bind ?_ (fun _ => ?_)
set_option maxHeartbeats 40000000 in
set_option maxRecDepth 100000 in
theorem ddiref03_Halves.calls (k : Nat) (a0_0 : Bool) (a0_1 : Int) (a0_2 : Int) (a0_3 : Int) (r1 : Bool) (r2 : Int) (r3 : Int) (r4 : Int) (r5 : Bool) (r6 : Int) (r7 : Int) (r8 : Int) (r9 : Bool) (w : World) (h : ddiref03_Halves.f k a0_0 a0_1 a0_2 a0_3 = some (r1, r2, r3, r4, r5, r6, r7, r8, r9)) :
 Calls Tryz.prog 13 #[.agg #[.bool a0_0, .int .u64 a0_1, .int .u64 a0_2, .int .i64 a0_3]] w fun e w' => e = .returned (.tuple #[.agg #[.bool r1, .int .u64 r2, .int .u64 r3, .int .i64 r4], .agg #[.bool r5, .int .u64 r6, .int .u64 r7, .int .i64 r8], .bool r9]) ∧ Below w.heap.size w w' := by
 have hu26 := Tryz.underlying26
 have HB := Aside0.mk (Below.refl w.heap.size w)
 have H : ((ddiref03_Part.f k a0_0 a0_1 a0_2 a0_3 (wrap64 (a0_3 + 1)) 0).bind fun bt486 => ((ddiref03_Part.f k a0_0 a0_1 a0_2 a0_3 (wrap64 (a0_3 + 1)) 1).bind fun bt492 => (if bt492.2.2.2.2 = true then (some (bt486.1, bt486.2.1, bt486.2.2.1, bt486.2.2.2.1, bt492.1, bt492.2.1, bt492.2.2.1, bt492.2.2.2.1, true)) else (some (false, 0, 0, 0, false, 0, 0, 0, false))))) = some (r1, r2, r3, r4, r5, r6, r7, r8, r9) := h
 clear h
 replace H := Option.bind_eq_some_iff.mp H
 obtain ⟨⟨t486, t487, t488, t489, t490⟩, A20, H⟩ := H
 replace H : ((ddiref03_Part.f k a0_0 a0_1 a0_2 a0_3 (wrap64 (a0_3 + 1)) 1).bind fun bt492 => (if bt492.2.2.2.2 = true then (some (t486, t487, t488, t489, bt492.1, bt492.2.1, bt492.2.2.1, bt492.2.2.2.1, true)) else (some (false, 0, 0, 0, false, 0, 0, 0, false)))) = some (r1, r2, r3, r4, r5, r6, r7, r8, r9) := H
 have A2 := Aside0.mk A20
 clear A20
 replace H := Option.bind_eq_some_iff.mp H
 obtain ⟨⟨t492, t493, t494, t495, t496⟩, A30, H⟩ := H
 replace H : (if t496 = true then (some (t486, t487, t488, t489, t492, t493, t494, t495, true)) else (some (false, 0, 0, 0, false, 0, 0, 0, false))) = some (r1, r2, r3, r4, r5, r6, r7, r8, r9) := H
 have A3 := Aside0.mk A30
 clear A30
 by_cases c4 : t496 = true
 ·
  subst c4
  have H1 : (some (t486, t487, t488, t489, t492, t493, t494, t495, true)) = some (r1, r2, r3, r4, r5, r6, r7, r8, r9) := by rw [if_pos rfl] at H; exact H
  clear H
  have H := H1
  clear H1
  simp only [Option.some.injEq, Prod.mk.injEq] at H
  obtain ⟨rfl, rfl, rfl, rfl, rfl, rfl, rfl, rfl, rfl⟩ := H
  go_enter Tryz.func13, Tryz.ntmps13
  try go_wp2_with (first | ((with_reducible refine gate_dst (N := 1) rfl ?_); refine boxA (N := 1) (cs := #[.bool a0_0, .int .u64 a0_1, .int .u64 a0_2, .int .i64 a0_3]) (t := 26) ?_; intro gb483 hg w5 hbox hb; have BK483 := Aside0.mk (hbox); have GE483 := (pZ HB hg); replace HB := (pS HB hb); clear hb hbox hg) | ((with_reducible refine gate_dst (N := 2) rfl ?_); refine boxA (N := 2) (cs := #[.bool false, .int .u64 0, .int .u64 0, .int .i64 0]) (t := 26) ?_; intro gb484 hg w6 hbox hb; have BK484 := Aside0.mk (hbox); have GE484 := (pZ HB hg); have NB483_484 := (pL BK483 hg); have NB484_483 := (pG BK483 hg); replace BK483 := (pB BK483 hb); replace HB := (pS HB hb); clear hb hbox hg) | ((with_reducible refine gate_dst (N := 3) rfl ?_); refine boxA (N := 3) (cs := #[.bool false, .int .u64 0, .int .u64 0, .int .i64 0]) (t := 26) ?_; intro gb485 hg w7 hbox hb; have BK485 := Aside0.mk (hbox); have GE485 := (pZ HB hg); have NB483_485 := (pL BK483 hg); have NB485_483 := (pG BK483 hg); have NB484_485 := (pL BK484 hg); have NB485_484 := (pG BK484 hg); replace BK483 := (pB BK483 hb); replace BK484 := (pB BK484 hb); replace HB := (pS HB hb); clear hb hbox hg; have hnb8 := NB483_484.out; have hnc8 := NB484_483.out; have hnb9 := NB483_485.out; have hnc9 := NB485_483.out; obtain ⟨hcz10_0, hcz10_1, hcz10_2, hcz10_3, hfz10_0, hfz10_1, hfz10_2, hfz10_3⟩ := pC4 BK483) | ((with_reducible refine gate_callee (f := 15) rfl ?_); refine goesA (some 14) Tryz.func15 #[.agg #[.bool a0_0, .int .u64 a0_1, .int .u64 a0_2, .int .i64 a0_3], .int .i64 (wrap64 (a0_3 + 1)), .int .u64 0] ?_; (with_reducible refine (ddiref03_Part.calls k a0_0 a0_1 a0_2 a0_3 (wrap64 (a0_3 + 1)) 0 t486 t487 t488 t489 t490 _ A2.out).mono ?_); rintro e w11 ⟨rfl, hb⟩; refine ⟨_, rfl, ?_⟩; replace BK483 := (pB BK483 hb); replace BK484 := (pB BK484 hb); replace BK485 := (pB BK485 hb); replace HB := (pS HB hb); (try clear hb)) | ((with_reducible refine gate_dst (N := 5) rfl ?_); refine boxA (N := 5) (cs := #[.bool false, .int .u64 0, .int .u64 0, .int .i64 0]) (t := 26) ?_; intro gb491 hg w12 hbox hb; have BK491 := Aside0.mk (hbox); have GE491 := (pZ HB hg); have NB483_491 := (pL BK483 hg); have NB491_483 := (pG BK483 hg); have NB484_491 := (pL BK484 hg); have NB491_484 := (pG BK484 hg); have NB485_491 := (pL BK485 hg); have NB491_485 := (pG BK485 hg); replace BK483 := (pB BK483 hb); replace BK484 := (pB BK484 hb); replace BK485 := (pB BK485 hb); replace HB := (pS HB hb); clear hb hbox hg; have hnb13 := NB491_483.out; have hnc13 := NB483_491.out; have hnb14 := NB491_484.out; have hnc14 := NB484_491.out; have hnb15 := NB491_485.out; have hnc15 := NB485_491.out; obtain ⟨hcz16_0, hcz16_1, hcz16_2, hcz16_3, hfz16_0, hfz16_1, hfz16_2, hfz16_3⟩ := pC4 BK491; obtain ⟨hcz17_0, hcz17_1, hcz17_2, hcz17_3, hfz17_0, hfz17_1, hfz17_2, hfz17_3⟩ := pC4 BK483) | ((with_reducible refine gate_callee (f := 15) rfl ?_); refine goesA (some 22) Tryz.func15 #[.agg #[.bool a0_0, .int .u64 a0_1, .int .u64 a0_2, .int .i64 a0_3], .int .i64 (wrap64 (a0_3 + 1)), .int .u64 1] ?_; (with_reducible refine (ddiref03_Part.calls k a0_0 a0_1 a0_2 a0_3 (wrap64 (a0_3 + 1)) 1 t492 t493 t494 t495 true _ A3.out).mono ?_); rintro e w18 ⟨rfl, hb⟩; refine ⟨_, rfl, ?_⟩; replace BK483 := (pD hb (pK NB483_491 (pK NB483_491 (pK NB483_491 (pK NB483_491 (pM BK483)))))); replace BK484 := (pD hb (pK NB484_491 (pK NB484_491 (pK NB484_491 (pK NB484_491 (pM BK484)))))); replace BK485 := (pD hb (pK NB485_491 (pK NB485_491 (pK NB485_491 (pK NB485_491 (pM BK485)))))); replace BK491 := (pD hb (pP (pP (pP (pP (pM BK491)))))); replace HB := (pS HB hb); (try clear hb)) | ((with_reducible refine gate_dst (N := 7) rfl ?_); refine boxA (N := 7) (cs := #[.bool false, .int .u64 0, .int .u64 0, .int .i64 0]) (t := 26) ?_; intro gb497 hg w19 hbox hb; have BK497 := Aside0.mk (hbox); have GE497 := (pZ HB hg); have NB483_497 := (pL BK483 hg); have NB497_483 := (pG BK483 hg); have NB484_497 := (pL BK484 hg); have NB497_484 := (pG BK484 hg); have NB485_497 := (pL BK485 hg); have NB497_485 := (pG BK485 hg); have NB491_497 := (pL BK491 hg); have NB497_491 := (pG BK491 hg); replace BK483 := (pB BK483 hb); replace BK484 := (pB BK484 hb); replace BK485 := (pB BK485 hb); replace BK491 := (pB BK491 hb); replace HB := (pS HB hb); clear hb hbox hg; have hnb20 := NB497_483.out; have hnc20 := NB483_497.out; have hnb21 := NB497_484.out; have hnc21 := NB484_497.out; have hnb22 := NB497_485.out; have hnc22 := NB485_497.out; have hnb23 := NB497_491.out; have hnc23 := NB491_497.out; obtain ⟨hcz24_0, hcz24_1, hcz24_2, hcz24_3, hfz24_0, hfz24_1, hfz24_2, hfz24_3⟩ := pC4 BK497))
  have n0_ : Aside0 (((((w19.setCell ⟨gb497, 0, none⟩ (.bool t492)).setCell ⟨gb497, 1, none⟩ (.int .u64 t493)).setCell ⟨gb497, 2, none⟩ (.int .u64 t494)).setCell ⟨gb497, 3, none⟩ (.int .i64 t495)).heap[gb483]? = some (.cells #[.bool a0_0, .int .u64 a0_1, .int .u64 a0_2, .int .i64 a0_3] 26 (0, 0))) := ⟨by (with_reducible repeat (first | refine blk_drewN ?_ _ | refine blk_drew ?_ | refine blk_alloc ?_ _)); refine blk_far ?_ NB483_497.out _; (with_reducible repeat (first | refine blk_drewN ?_ _ | refine blk_drew ?_ | refine blk_alloc ?_ _)); refine blk_far ?_ NB483_497.out _; (with_reducible repeat (first | refine blk_drewN ?_ _ | refine blk_drew ?_ | refine blk_alloc ?_ _)); refine blk_far ?_ NB483_497.out _; (with_reducible repeat (first | refine blk_drewN ?_ _ | refine blk_drew ?_ | refine blk_alloc ?_ _)); refine blk_far ?_ NB483_497.out _; (with_reducible repeat (first | refine blk_drewN ?_ _ | refine blk_drew ?_ | refine blk_alloc ?_ _)); exact BK483.out⟩
  have n1_ : Aside0 (((((w19.setCell ⟨gb497, 0, none⟩ (.bool t492)).setCell ⟨gb497, 1, none⟩ (.int .u64 t493)).setCell ⟨gb497, 2, none⟩ (.int .u64 t494)).setCell ⟨gb497, 3, none⟩ (.int .i64 t495)).heap[gb484]? = some (.cells #[.bool false, .int .u64 0, .int .u64 0, .int .i64 0] 26 (0, 0))) := ⟨by (with_reducible repeat (first | refine blk_drewN ?_ _ | refine blk_drew ?_ | refine blk_alloc ?_ _)); refine blk_far ?_ NB484_497.out _; (with_reducible repeat (first | refine blk_drewN ?_ _ | refine blk_drew ?_ | refine blk_alloc ?_ _)); refine blk_far ?_ NB484_497.out _; (with_reducible repeat (first | refine blk_drewN ?_ _ | refine blk_drew ?_ | refine blk_alloc ?_ _)); refine blk_far ?_ NB484_497.out _; (with_reducible repeat (first | refine blk_drewN ?_ _ | refine blk_drew ?_ | refine blk_alloc ?_ _)); refine blk_far ?_ NB484_497.out _; (with_reducible repeat (first | refine blk_drewN ?_ _ | refine blk_drew ?_ | refine blk_alloc ?_ _)); exact BK484.out⟩
  have n2_ : Aside0 (((((w19.setCell ⟨gb497, 0, none⟩ (.bool t492)).setCell ⟨gb497, 1, none⟩ (.int .u64 t493)).setCell ⟨gb497, 2, none⟩ (.int .u64 t494)).setCell ⟨gb497, 3, none⟩ (.int .i64 t495)).heap[gb485]? = some (.cells #[.bool false, .int .u64 0, .int .u64 0, .int .i64 0] 26 (0, 0))) := ⟨by (with_reducible repeat (first | refine blk_drewN ?_ _ | refine blk_drew ?_ | refine blk_alloc ?_ _)); refine blk_far ?_ NB485_497.out _; (with_reducible repeat (first | refine blk_drewN ?_ _ | refine blk_drew ?_ | refine blk_alloc ?_ _)); refine blk_far ?_ NB485_497.out _; (with_reducible repeat (first | refine blk_drewN ?_ _ | refine blk_drew ?_ | refine blk_alloc ?_ _)); refine blk_far ?_ NB485_497.out _; (with_reducible repeat (first | refine blk_drewN ?_ _ | refine blk_drew ?_ | refine blk_alloc ?_ _)); refine blk_far ?_ NB485_497.out _; (with_reducible repeat (first | refine blk_drewN ?_ _ | refine blk_drew ?_ | refine blk_alloc ?_ _)); exact BK485.out⟩
  have n3_ : Aside0 (((((w19.setCell ⟨gb497, 0, none⟩ (.bool t492)).setCell ⟨gb497, 1, none⟩ (.int .u64 t493)).setCell ⟨gb497, 2, none⟩ (.int .u64 t494)).setCell ⟨gb497, 3, none⟩ (.int .i64 t495)).heap[gb491]? = some (.cells #[.bool t486, .int .u64 t487, .int .u64 t488, .int .i64 t489] 26 (0, 0))) := ⟨by (with_reducible repeat (first | refine blk_drewN ?_ _ | refine blk_drew ?_ | refine blk_alloc ?_ _)); refine blk_far ?_ NB491_497.out _; (with_reducible repeat (first | refine blk_drewN ?_ _ | refine blk_drew ?_ | refine blk_alloc ?_ _)); refine blk_far ?_ NB491_497.out _; (with_reducible repeat (first | refine blk_drewN ?_ _ | refine blk_drew ?_ | refine blk_alloc ?_ _)); refine blk_far ?_ NB491_497.out _; (with_reducible repeat (first | refine blk_drewN ?_ _ | refine blk_drew ?_ | refine blk_alloc ?_ _)); refine blk_far ?_ NB491_497.out _; (with_reducible repeat (first | refine blk_drewN ?_ _ | refine blk_drew ?_ | refine blk_alloc ?_ _)); exact BK491.out⟩
  have n4_ : Aside0 (((((w19.setCell ⟨gb497, 0, none⟩ (.bool t492)).setCell ⟨gb497, 1, none⟩ (.int .u64 t493)).setCell ⟨gb497, 2, none⟩ (.int .u64 t494)).setCell ⟨gb497, 3, none⟩ (.int .i64 t495)).heap[gb497]? = some (.cells #[.bool t492, .int .u64 t493, .int .u64 t494, .int .i64 t495] 26 (0, 0))) := ⟨by (with_reducible repeat (first | refine blk_drewN ?_ _ | refine blk_drew ?_ | refine blk_alloc ?_ _)); refine blk_put (cs := #[.bool t492, .int .u64 t493, .int .u64 t494, .int .i64 0]) ?_ 3 _ rfl; (with_reducible repeat (first | refine blk_drewN ?_ _ | refine blk_drew ?_ | refine blk_alloc ?_ _)); refine blk_put (cs := #[.bool t492, .int .u64 t493, .int .u64 0, .int .i64 0]) ?_ 2 _ rfl; (with_reducible repeat (first | refine blk_drewN ?_ _ | refine blk_drew ?_ | refine blk_alloc ?_ _)); refine blk_put (cs := #[.bool t492, .int .u64 0, .int .u64 0, .int .i64 0]) ?_ 1 _ rfl; (with_reducible repeat (first | refine blk_drewN ?_ _ | refine blk_drew ?_ | refine blk_alloc ?_ _)); refine blk_put (cs := #[.bool false, .int .u64 0, .int .u64 0, .int .i64 0]) ?_ 0 _ rfl; (with_reducible repeat (first | refine blk_drewN ?_ _ | refine blk_drew ?_ | refine blk_alloc ?_ _)); exact BK497.out⟩
  have n5_ : Aside0 (Below w.heap.size w ((((w19.setCell ⟨gb497, 0, none⟩ (.bool t492)).setCell ⟨gb497, 1, none⟩ (.int .u64 t493)).setCell ⟨gb497, 2, none⟩ (.int .u64 t494)).setCell ⟨gb497, 3, none⟩ (.int .i64 t495))) := ⟨pE HB⟩
  (try clear BK483)
  (try clear BK484)
  (try clear BK485)
  (try clear BK491)
  (try clear BK497)
  (try clear HB)
  generalize ((((w19.setCell ⟨gb497, 0, none⟩ (.bool t492)).setCell ⟨gb497, 1, none⟩ (.int .u64 t493)).setCell ⟨gb497, 2, none⟩ (.int .u64 t494)).setCell ⟨gb497, 3, none⟩ (.int .i64 t495)) = w25 at n0_ n1_ n2_ n3_ n4_ n5_ ⊢
  have BK483 := n0_
  have BK484 := n1_
  have BK485 := n2_
  have BK491 := n3_
  have BK497 := n4_
  have HB := n5_
  clear n0_ n1_ n2_ n3_ n4_ n5_
  replace BK483 := Aside0.mk (blk_drew BK483.out)
  replace BK484 := Aside0.mk (blk_drew BK484.out)
  replace BK485 := Aside0.mk (blk_drew BK485.out)
  replace BK491 := Aside0.mk (blk_drew BK491.out)
  replace BK497 := Aside0.mk (blk_drew BK497.out)
  replace HB := Aside0.mk (below_drew1 HB.out)
  refine start_ (n := 5) (S := fun w' => w'.cell? ⟨gb491, 0, none⟩ = some (.bool t486) ∧ w'.cell? ⟨gb491, 1, none⟩ = some (.int .u64 t487) ∧ w'.cell? ⟨gb491, 2, none⟩ = some (.int .u64 t488) ∧ w'.cell? ⟨gb491, 3, none⟩ = some (.int .i64 t489) ∧ w'.cell? ⟨gb497, 0, none⟩ = some (.bool t492) ∧ w'.cell? ⟨gb497, 1, none⟩ = some (.int .u64 t493) ∧ w'.cell? ⟨gb497, 2, none⟩ = some (.int .u64 t494) ∧ w'.cell? ⟨gb497, 3, none⟩ = some (.int .i64 t495)) (ds := []) (tk 5 0) (by kernel_rfl) rfl rfl ⟨bC BK491 0, bC BK491 1, bC BK491 2, bC BK491 3, bC BK497 0, bC BK497 1, bC BK497 2, bC BK497 3⟩ (fun hHeld => ?_)
  generalize w25.drew = w26 at BK483 BK484 BK485 BK491 BK497 HB hHeld ⊢
  refine take_ (i := 0) (N := some 29) (v := ?_) (a' := ?_) (tk 5 1) rfl rfl (by kernel_rfl) (fun _ _ _ h => h) (Or.inl ⟨by rfl, ?_⟩) hHeld ?_ ?_
  rotate_left
  ·
   rintro w' ⟨s0, s1, s2, s3, s4, s5, s6, s7⟩
   go_simp
   with_reducible rfl
  rotate_left
  ·
   simp only [Act.put, List.setIfInBounds_toArray, List.set_cons_zero, List.set_cons_succ, i64_w, i32_w]
   rfl
  refine take_ (i := 1) (N := some 30) (v := ?_) (a' := ?_) (tk 5 2) rfl rfl (by kernel_rfl) (fun _ _ _ h => h) (Or.inl ⟨by rfl, ?_⟩) hHeld ?_ ?_
  rotate_left
  ·
   rintro w' ⟨s0, s1, s2, s3, s4, s5, s6, s7⟩
   go_simp
   with_reducible rfl
  rotate_left
  ·
   simp only [Act.put, List.setIfInBounds_toArray, List.set_cons_zero, List.set_cons_succ, i64_w, i32_w]
   rfl
  refine one_ (i := 2) (N := none) (tk 5 3) rfl rfl (by kernel_rfl) (by decide) (fun K hK => ?_)
  have hs27 : w26.cell? ⟨gb484, 0, none⟩ = some (.bool false) := bC BK484 0
  have hfs27 := blk_frozen BK484.out 0
  have hns27_0 := NB483_484.out
  have hns27_2 := NB485_484.out
  have hns27_3 := NB491_484.out
  have hns27_4 := NB497_484.out
  have hms27_0 := NB484_483.out
  have hms27_2 := NB484_485.out
  have hms27_3 := NB484_491.out
  have hms27_4 := NB484_497.out
  have hs28 : w26.cell? ⟨gb484, 1, none⟩ = some (.int .u64 0) := bC BK484 1
  have hfs28 := blk_frozen BK484.out 1
  have hns28_0 := NB483_484.out
  have hns28_2 := NB485_484.out
  have hns28_3 := NB491_484.out
  have hns28_4 := NB497_484.out
  have hms28_0 := NB484_483.out
  have hms28_2 := NB484_485.out
  have hms28_3 := NB484_491.out
  have hms28_4 := NB484_497.out
  have hs29 : w26.cell? ⟨gb484, 2, none⟩ = some (.int .u64 0) := bC BK484 2
  have hfs29 := blk_frozen BK484.out 2
  have hns29_0 := NB483_484.out
  have hns29_2 := NB485_484.out
  have hns29_3 := NB491_484.out
  have hns29_4 := NB497_484.out
  have hms29_0 := NB484_483.out
  have hms29_2 := NB484_485.out
  have hms29_3 := NB484_491.out
  have hms29_4 := NB484_497.out
  have hs30 : w26.cell? ⟨gb484, 3, none⟩ = some (.int .i64 0) := bC BK484 3
  have hfs30 := blk_frozen BK484.out 3
  have hns30_0 := NB483_484.out
  have hns30_2 := NB485_484.out
  have hns30_3 := NB491_484.out
  have hns30_4 := NB497_484.out
  have hms30_0 := NB484_483.out
  have hms30_2 := NB484_485.out
  have hms30_3 := NB484_491.out
  have hms30_4 := NB484_497.out
  refine skip_ (w1 := ?_) (by rfl) rfl ?_ ?_
  rotate_left
  ·
   go_simp
   rfl
  refine hK.out _ _ ⟨((cell_far (p := ⟨gb484, _, none⟩) NB491_484.out _).trans (((cell_far (p := ⟨gb484, _, none⟩) NB491_484.out _).trans (((cell_far (p := ⟨gb484, _, none⟩) NB491_484.out _).trans (((cell_far (p := ⟨gb484, _, none⟩) NB491_484.out _).trans (hHeld.1)))))))), ((cell_far (p := ⟨gb484, _, none⟩) NB491_484.out _).trans (((cell_far (p := ⟨gb484, _, none⟩) NB491_484.out _).trans (((cell_far (p := ⟨gb484, _, none⟩) NB491_484.out _).trans (((cell_far (p := ⟨gb484, _, none⟩) NB491_484.out _).trans (hHeld.2.1)))))))), ((cell_far (p := ⟨gb484, _, none⟩) NB491_484.out _).trans (((cell_far (p := ⟨gb484, _, none⟩) NB491_484.out _).trans (((cell_far (p := ⟨gb484, _, none⟩) NB491_484.out _).trans (((cell_far (p := ⟨gb484, _, none⟩) NB491_484.out _).trans (hHeld.2.2.1)))))))), ((cell_far (p := ⟨gb484, _, none⟩) NB491_484.out _).trans (((cell_far (p := ⟨gb484, _, none⟩) NB491_484.out _).trans (((cell_far (p := ⟨gb484, _, none⟩) NB491_484.out _).trans (((cell_far (p := ⟨gb484, _, none⟩) NB491_484.out _).trans (hHeld.2.2.2.1)))))))), ((cell_far (p := ⟨gb484, _, none⟩) NB497_484.out _).trans (((cell_far (p := ⟨gb484, _, none⟩) NB497_484.out _).trans (((cell_far (p := ⟨gb484, _, none⟩) NB497_484.out _).trans (((cell_far (p := ⟨gb484, _, none⟩) NB497_484.out _).trans (hHeld.2.2.2.2.1)))))))), ((cell_far (p := ⟨gb484, _, none⟩) NB497_484.out _).trans (((cell_far (p := ⟨gb484, _, none⟩) NB497_484.out _).trans (((cell_far (p := ⟨gb484, _, none⟩) NB497_484.out _).trans (((cell_far (p := ⟨gb484, _, none⟩) NB497_484.out _).trans (hHeld.2.2.2.2.2.1)))))))), ((cell_far (p := ⟨gb484, _, none⟩) NB497_484.out _).trans (((cell_far (p := ⟨gb484, _, none⟩) NB497_484.out _).trans (((cell_far (p := ⟨gb484, _, none⟩) NB497_484.out _).trans (((cell_far (p := ⟨gb484, _, none⟩) NB497_484.out _).trans (hHeld.2.2.2.2.2.2.1)))))))), ((cell_far (p := ⟨gb484, _, none⟩) NB497_484.out _).trans (((cell_far (p := ⟨gb484, _, none⟩) NB497_484.out _).trans (((cell_far (p := ⟨gb484, _, none⟩) NB497_484.out _).trans (((cell_far (p := ⟨gb484, _, none⟩) NB497_484.out _).trans (hHeld.2.2.2.2.2.2.2))))))))⟩ (fun hHeld => ?_)
  clear hK K
  refine one_ (i := 3) (N := none) (tk 5 4) rfl rfl (by kernel_rfl) (by decide) (fun K hK => ?_)
  have hs31 : w26.cell? ⟨gb485, 0, none⟩ = some (.bool false) := bC BK485 0
  have hfs31 := blk_frozen BK485.out 0
  have hns31_0 := NB483_485.out
  have hns31_1 := NB484_485.out
  have hns31_3 := NB491_485.out
  have hns31_4 := NB497_485.out
  have hms31_0 := NB485_483.out
  have hms31_1 := NB485_484.out
  have hms31_3 := NB485_491.out
  have hms31_4 := NB485_497.out
  have hs32 : w26.cell? ⟨gb485, 1, none⟩ = some (.int .u64 0) := bC BK485 1
  have hfs32 := blk_frozen BK485.out 1
  have hns32_0 := NB483_485.out
  have hns32_1 := NB484_485.out
  have hns32_3 := NB491_485.out
  have hns32_4 := NB497_485.out
  have hms32_0 := NB485_483.out
  have hms32_1 := NB485_484.out
  have hms32_3 := NB485_491.out
  have hms32_4 := NB485_497.out
  have hs33 : w26.cell? ⟨gb485, 2, none⟩ = some (.int .u64 0) := bC BK485 2
  have hfs33 := blk_frozen BK485.out 2
  have hns33_0 := NB483_485.out
  have hns33_1 := NB484_485.out
  have hns33_3 := NB491_485.out
  have hns33_4 := NB497_485.out
  have hms33_0 := NB485_483.out
  have hms33_1 := NB485_484.out
  have hms33_3 := NB485_491.out
  have hms33_4 := NB485_497.out
  have hs34 : w26.cell? ⟨gb485, 3, none⟩ = some (.int .i64 0) := bC BK485 3
  have hfs34 := blk_frozen BK485.out 3
  have hns34_0 := NB483_485.out
  have hns34_1 := NB484_485.out
  have hns34_3 := NB491_485.out
  have hns34_4 := NB497_485.out
  have hms34_0 := NB485_483.out
  have hms34_1 := NB485_484.out
  have hms34_3 := NB485_491.out
  have hms34_4 := NB485_497.out
  refine skip_ (w1 := ?_) (by rfl) rfl ?_ ?_
  rotate_left
  ·
   go_simp
   rfl
  refine hK.out _ _ ⟨((cell_far (p := ⟨gb485, _, none⟩) NB491_485.out _).trans (((cell_far (p := ⟨gb485, _, none⟩) NB491_485.out _).trans (((cell_far (p := ⟨gb485, _, none⟩) NB491_485.out _).trans (((cell_far (p := ⟨gb485, _, none⟩) NB491_485.out _).trans (hHeld.1)))))))), ((cell_far (p := ⟨gb485, _, none⟩) NB491_485.out _).trans (((cell_far (p := ⟨gb485, _, none⟩) NB491_485.out _).trans (((cell_far (p := ⟨gb485, _, none⟩) NB491_485.out _).trans (((cell_far (p := ⟨gb485, _, none⟩) NB491_485.out _).trans (hHeld.2.1)))))))), ((cell_far (p := ⟨gb485, _, none⟩) NB491_485.out _).trans (((cell_far (p := ⟨gb485, _, none⟩) NB491_485.out _).trans (((cell_far (p := ⟨gb485, _, none⟩) NB491_485.out _).trans (((cell_far (p := ⟨gb485, _, none⟩) NB491_485.out _).trans (hHeld.2.2.1)))))))), ((cell_far (p := ⟨gb485, _, none⟩) NB491_485.out _).trans (((cell_far (p := ⟨gb485, _, none⟩) NB491_485.out _).trans (((cell_far (p := ⟨gb485, _, none⟩) NB491_485.out _).trans (((cell_far (p := ⟨gb485, _, none⟩) NB491_485.out _).trans (hHeld.2.2.2.1)))))))), ((cell_far (p := ⟨gb485, _, none⟩) NB497_485.out _).trans (((cell_far (p := ⟨gb485, _, none⟩) NB497_485.out _).trans (((cell_far (p := ⟨gb485, _, none⟩) NB497_485.out _).trans (((cell_far (p := ⟨gb485, _, none⟩) NB497_485.out _).trans (hHeld.2.2.2.2.1)))))))), ((cell_far (p := ⟨gb485, _, none⟩) NB497_485.out _).trans (((cell_far (p := ⟨gb485, _, none⟩) NB497_485.out _).trans (((cell_far (p := ⟨gb485, _, none⟩) NB497_485.out _).trans (((cell_far (p := ⟨gb485, _, none⟩) NB497_485.out _).trans (hHeld.2.2.2.2.2.1)))))))), ((cell_far (p := ⟨gb485, _, none⟩) NB497_485.out _).trans (((cell_far (p := ⟨gb485, _, none⟩) NB497_485.out _).trans (((cell_far (p := ⟨gb485, _, none⟩) NB497_485.out _).trans (((cell_far (p := ⟨gb485, _, none⟩) NB497_485.out _).trans (hHeld.2.2.2.2.2.2.1)))))))), ((cell_far (p := ⟨gb485, _, none⟩) NB497_485.out _).trans (((cell_far (p := ⟨gb485, _, none⟩) NB497_485.out _).trans (((cell_far (p := ⟨gb485, _, none⟩) NB497_485.out _).trans (((cell_far (p := ⟨gb485, _, none⟩) NB497_485.out _).trans (hHeld.2.2.2.2.2.2.2))))))))⟩ (fun hHeld => ?_)
  clear hK K
  refine pure_ (i := 4) (N := some 4) (v := ?_) (a' := ?_) (tk 5 5) rfl rfl (by kernel_rfl) (fun _ _ _ h => h) (Or.inl ⟨by rfl, ?_⟩) ?_ ?_
  rotate_left
  ·
   intro w'
   go_simp
   with_reducible rfl
  rotate_left
  ·
   simp only [Act.put, List.setIfInBounds_toArray, List.set_cons_zero, List.set_cons_succ, i64_w, i32_w]
   rfl
  refine done_ (by kernel_rfl) ?_
  try go_wp2
  refine bodyPost_ret (results_list (rs := [.cell 2 26, .cell 3 26, .tmp 4]) rfl (by simp) (.cell gb484 26 #[.bool t486, .int .u64 t487, .int .u64 t488, .int .i64 t489] (0, 0) _ rfl (pK NB484_485 (pK NB484_485 (pK NB484_485 (pK NB484_485 (pP (pP (pP (pP (pM BK484))))))))) Tryz.underlying26 rfl (by kernel_rfl) (.cell gb485 26 #[.bool t492, .int .u64 t493, .int .u64 t494, .int .i64 t495] (0, 0) _ rfl (pP (pP (pP (pP (pK NB485_484 (pK NB485_484 (pK NB485_484 (pK NB485_484 (pM BK485))))))))) Tryz.underlying26 rfl (by kernel_rfl) (.tmp .nil)))) rfl ?_
  exact pR (pE HB)
 ·
  replace c4 := Bool.eq_false_iff.mpr c4
  subst c4
  rw [if_neg (show ¬ (false = true) by decide)] at H
  simp only [Option.some.injEq, Prod.mk.injEq] at H
  obtain ⟨rfl, rfl, rfl, rfl, rfl, rfl, rfl, rfl, rfl⟩ := H
  go_enter Tryz.func13, Tryz.ntmps13
  go_wp2_with (first | ((with_reducible refine gate_dst (N := 1) rfl ?_); refine boxA (N := 1) (cs := #[.bool a0_0, .int .u64 a0_1, .int .u64 a0_2, .int .i64 a0_3]) (t := 26) ?_; intro gb483 hg w35 hbox hb; have BK483 := Aside0.mk (hbox); have GE483 := (pZ HB hg); replace HB := (pS HB hb); clear hb hbox hg) | ((with_reducible refine gate_dst (N := 2) rfl ?_); refine boxA (N := 2) (cs := #[.bool false, .int .u64 0, .int .u64 0, .int .i64 0]) (t := 26) ?_; intro gb484 hg w36 hbox hb; have BK484 := Aside0.mk (hbox); have GE484 := (pZ HB hg); have NB483_484 := (pL BK483 hg); have NB484_483 := (pG BK483 hg); replace BK483 := (pB BK483 hb); replace HB := (pS HB hb); clear hb hbox hg) | ((with_reducible refine gate_dst (N := 3) rfl ?_); refine boxA (N := 3) (cs := #[.bool false, .int .u64 0, .int .u64 0, .int .i64 0]) (t := 26) ?_; intro gb485 hg w37 hbox hb; have BK485 := Aside0.mk (hbox); have GE485 := (pZ HB hg); have NB483_485 := (pL BK483 hg); have NB485_483 := (pG BK483 hg); have NB484_485 := (pL BK484 hg); have NB485_484 := (pG BK484 hg); replace BK483 := (pB BK483 hb); replace BK484 := (pB BK484 hb); replace HB := (pS HB hb); clear hb hbox hg; have hnb38 := NB483_484.out; have hnc38 := NB484_483.out; have hnb39 := NB483_485.out; have hnc39 := NB485_483.out; obtain ⟨hcz40_0, hcz40_1, hcz40_2, hcz40_3, hfz40_0, hfz40_1, hfz40_2, hfz40_3⟩ := pC4 BK483) | ((with_reducible refine gate_callee (f := 15) rfl ?_); refine goesA (some 14) Tryz.func15 #[.agg #[.bool a0_0, .int .u64 a0_1, .int .u64 a0_2, .int .i64 a0_3], .int .i64 (wrap64 (a0_3 + 1)), .int .u64 0] ?_; (with_reducible refine (ddiref03_Part.calls k a0_0 a0_1 a0_2 a0_3 (wrap64 (a0_3 + 1)) 0 t486 t487 t488 t489 t490 _ A2.out).mono ?_); rintro e w41 ⟨rfl, hb⟩; refine ⟨_, rfl, ?_⟩; replace BK483 := (pB BK483 hb); replace BK484 := (pB BK484 hb); replace BK485 := (pB BK485 hb); replace HB := (pS HB hb); (try clear hb)) | ((with_reducible refine gate_dst (N := 5) rfl ?_); refine boxA (N := 5) (cs := #[.bool false, .int .u64 0, .int .u64 0, .int .i64 0]) (t := 26) ?_; intro gb491 hg w42 hbox hb; have BK491 := Aside0.mk (hbox); have GE491 := (pZ HB hg); have NB483_491 := (pL BK483 hg); have NB491_483 := (pG BK483 hg); have NB484_491 := (pL BK484 hg); have NB491_484 := (pG BK484 hg); have NB485_491 := (pL BK485 hg); have NB491_485 := (pG BK485 hg); replace BK483 := (pB BK483 hb); replace BK484 := (pB BK484 hb); replace BK485 := (pB BK485 hb); replace HB := (pS HB hb); clear hb hbox hg; have hnb43 := NB491_483.out; have hnc43 := NB483_491.out; have hnb44 := NB491_484.out; have hnc44 := NB484_491.out; have hnb45 := NB491_485.out; have hnc45 := NB485_491.out; obtain ⟨hcz46_0, hcz46_1, hcz46_2, hcz46_3, hfz46_0, hfz46_1, hfz46_2, hfz46_3⟩ := pC4 BK491; obtain ⟨hcz47_0, hcz47_1, hcz47_2, hcz47_3, hfz47_0, hfz47_1, hfz47_2, hfz47_3⟩ := pC4 BK483) | ((with_reducible refine gate_callee (f := 15) rfl ?_); refine goesA (some 22) Tryz.func15 #[.agg #[.bool a0_0, .int .u64 a0_1, .int .u64 a0_2, .int .i64 a0_3], .int .i64 (wrap64 (a0_3 + 1)), .int .u64 1] ?_; (with_reducible refine (ddiref03_Part.calls k a0_0 a0_1 a0_2 a0_3 (wrap64 (a0_3 + 1)) 1 t492 t493 t494 t495 false _ A3.out).mono ?_); rintro e w48 ⟨rfl, hb⟩; refine ⟨_, rfl, ?_⟩; replace BK483 := (pD hb (pK NB483_491 (pK NB483_491 (pK NB483_491 (pK NB483_491 (pM BK483)))))); replace BK484 := (pD hb (pK NB484_491 (pK NB484_491 (pK NB484_491 (pK NB484_491 (pM BK484)))))); replace BK485 := (pD hb (pK NB485_491 (pK NB485_491 (pK NB485_491 (pK NB485_491 (pM BK485)))))); replace BK491 := (pD hb (pP (pP (pP (pP (pM BK491)))))); replace HB := (pS HB hb); (try clear hb)) | ((with_reducible refine gate_dst (N := 7) rfl ?_); refine boxA (N := 7) (cs := #[.bool false, .int .u64 0, .int .u64 0, .int .i64 0]) (t := 26) ?_; intro gb497 hg w49 hbox hb; have BK497 := Aside0.mk (hbox); have GE497 := (pZ HB hg); have NB483_497 := (pL BK483 hg); have NB497_483 := (pG BK483 hg); have NB484_497 := (pL BK484 hg); have NB497_484 := (pG BK484 hg); have NB485_497 := (pL BK485 hg); have NB497_485 := (pG BK485 hg); have NB491_497 := (pL BK491 hg); have NB497_491 := (pG BK491 hg); replace BK483 := (pB BK483 hb); replace BK484 := (pB BK484 hb); replace BK485 := (pB BK485 hb); replace BK491 := (pB BK491 hb); replace HB := (pS HB hb); clear hb hbox hg; have hnb50 := NB497_483.out; have hnc50 := NB483_497.out; have hnb51 := NB497_484.out; have hnc51 := NB484_497.out; have hnb52 := NB497_485.out; have hnc52 := NB485_497.out; have hnb53 := NB497_491.out; have hnc53 := NB491_497.out; obtain ⟨hcz54_0, hcz54_1, hcz54_2, hcz54_3, hfz54_0, hfz54_1, hfz54_2, hfz54_3⟩ := pC4 BK497; have hnb55 := NB484_485.out; have hnc55 := NB485_484.out; obtain ⟨hcz56_0, hcz56_1, hcz56_2, hcz56_3, hfz56_0, hfz56_1, hfz56_2, hfz56_3⟩ := pC4 BK484) | ((with_reducible refine gate_store (t := 26) (p := 2) rfl ?_); refine store_event (t := 26) (p := 2) (v := ?vo_w57) (w1 := ((((((((w49.setCell ⟨gb497, 0, none⟩ (.bool t492)).setCell ⟨gb497, 1, none⟩ (.int .u64 t493)).setCell ⟨gb497, 2, none⟩ (.int .u64 t494)).setCell ⟨gb497, 3, none⟩ (.int .i64 t495)).setCell ⟨gb484, 0, none⟩ (.bool false)).setCell ⟨gb484, 1, none⟩ (.int .u64 0)).setCell ⟨gb484, 2, none⟩ (.int .u64 0)).setCell ⟨gb484, 3, none⟩ (.int .i64 0))) ?hg ?ho ?hn ?hr ?_; (case ho => rfl); (case hg => rfl); (case hn => rfl); (case hr => first | (exact Ext.run_store_chain 26 _ _ rfl _ _ _ _ rfl rfl (pK NB484_497 (pK NB484_497 (pK NB484_497 (pK NB484_497 (pM BK484))))) (by kernel_rfl) rfl rfl rfl) | (go_simp; done) | (go_simp; rfl)); intro w57 hw; replace BK483 : Aside0 (w57.heap[gb483]? = some (.cells #[.bool a0_0, .int .u64 a0_1, .int .u64 a0_2, .int .i64 a0_3] 26 (0, 0))) := (pW hw (pK NB483_484 (pK NB483_484 (pK NB483_484 (pK NB483_484 (pK NB483_497 (pK NB483_497 (pK NB483_497 (pK NB483_497 (pM BK483)))))))))); replace BK484 : Aside0 (w57.heap[gb484]? = some (.cells #[.bool false, .int .u64 0, .int .u64 0, .int .i64 0] 26 (0, 0))) := (pW hw (pP (pP (pP (pP (pK NB484_497 (pK NB484_497 (pK NB484_497 (pK NB484_497 (pM BK484)))))))))); replace BK485 : Aside0 (w57.heap[gb485]? = some (.cells #[.bool false, .int .u64 0, .int .u64 0, .int .i64 0] 26 (0, 0))) := (pW hw (pK NB485_484 (pK NB485_484 (pK NB485_484 (pK NB485_484 (pK NB485_497 (pK NB485_497 (pK NB485_497 (pK NB485_497 (pM BK485)))))))))); replace BK491 : Aside0 (w57.heap[gb491]? = some (.cells #[.bool t486, .int .u64 t487, .int .u64 t488, .int .i64 t489] 26 (0, 0))) := (pW hw (pK NB491_484 (pK NB491_484 (pK NB491_484 (pK NB491_484 (pK NB491_497 (pK NB491_497 (pK NB491_497 (pK NB491_497 (pM BK491)))))))))); replace BK497 : Aside0 (w57.heap[gb497]? = some (.cells #[.bool t492, .int .u64 t493, .int .u64 t494, .int .i64 t495] 26 (0, 0))) := (pW hw (pK NB497_484 (pK NB497_484 (pK NB497_484 (pK NB497_484 (pP (pP (pP (pP (pM BK497)))))))))); replace HB : Aside0 (Below w.heap.size w w57) := ⟨(by rw [hw]; exact (by repeat (first | (with_reducible first | exact HB.out | apply below_alloc | apply pw_below_drewN | apply below_drew1 | refine below_set ?_ GE483.out | refine below_set ?_ GE484.out | refine below_set ?_ GE485.out | refine below_set ?_ GE491.out | refine below_set ?_ GE497.out) | exact HB.out)))⟩; clear hw; obtain ⟨hcz58_0, hcz58_1, hcz58_2, hcz58_3, hfz58_0, hfz58_1, hfz58_2, hfz58_3⟩ := pC4 BK485))
  refine bodyPost_ret (results_list (rs := [.cell 2 26, .cell 3 26, .tmp 4]) rfl (by simp) (.cell gb484 26 #[.bool false, .int .u64 0, .int .u64 0, .int .i64 0] (0, 0) _ rfl (pK NB484_485 (pK NB484_485 (pK NB484_485 (pK NB484_485 (pM BK484))))) Tryz.underlying26 rfl (by kernel_rfl) (.cell gb485 26 #[.bool false, .int .u64 0, .int .u64 0, .int .i64 0] (0, 0) _ rfl (pP (pP (pP (pP (pM BK485))))) Tryz.underlying26 rfl (by kernel_rfl) (.tmp .nil)))) rfl ?_
  exact pR (pE HB)
end Go.Proofs.YteflcmmandlknaaGreatDoor.PA
