/- The Go functions in Lean, with the proofs that the code comes to these answers: printed by this session's program (wip/px) out of the seat's translation. Conditions: each theorem's own. -/
import Derived.Test.YteflcmmandlknaaGreatDoorPAx0
import Derived.Test.YteflcmmandlknaaGreatDoorPAx1
import Derived.Test.YteflcmmandlknaaGreatDoorPAx6
import Derived.Test.YteflcmmandlknaaGreatDoorPAx13
import Derived.Test.YteflcmmandlknaaGreatDoorPAx14
namespace Go.Proofs.YteflcmmandlknaaGreatDoor.PA
open Go.RowKit Go.Proofs.YteflcmmandlknaaGreatDoorW.PrintWords Go.Proofs.YteflcmmandlknaaGreatDoorW.PrintLast Go.Proofs.YteflcmmandlknaaGreatDoorW.PrintMore
attribute [local go_sem] max2_int min2_int max_two min_two max_three min_three max_four min_four   -- for this text's walks alone
attribute [local go_sem ↓] Ext.isSome_setCell
open Press
set_option linter.unusedVariables false
set_option linter.unusedSimpArgs false
attribute [local go_sem high] eqA24
/-! ### ddiref03_biggest: function 56 -/
def ddiref03_biggest.l0 : Nat → Int → Bool → Int → Int → Bool → Int → Int → Option (Bool × Int × Int × Int)
 | 0, _, _, _, _, _, _, _ => none
 | k + 1, x5, x392000, x392001, x392002, x393000, x393001, x393002 => (ddiref03_Long.f x392000).bind fun t394 => (if x5 ≤ t394 then ((ddiref03_Bounds.f k x392000 x392001 x392002 x5).bind fun bt397 => (if bt397.2.2.2.2.2.2 = true then ((ddiref02_Compare.f bt397.2.2.2.1 bt397.2.2.2.2.1 bt397.2.2.2.2.2.1 x393000 x393001 x393002).bind fun t405 => (if t405 ≤ 0 then (some (x392000, x392001, x392002, x5)) else (ddiref03_biggest.l0 k (wrap64 (x5 + 1)) x392000 x392001 x392002 x393000 x393001 x393002))) else (ddiref03_biggest.l0 k (wrap64 (x5 + 1)) x392000 x392001 x392002 x393000 x393001 x393002))) else ((ddiref03_Long.f x392000).bind fun t395 => (some (x392000, x392001, x392002, t395))))
def ddiref03_biggest.f (k : Nat) (a0_0 : Bool) (a0_1 : Int) (a0_2 : Int) (a1_0 : Bool) (a1_1 : Int) (a1_2 : Int) : Option (Bool × Int × Int × Int) := ddiref03_biggest.l0 k 0 a0_0 a0_1 a0_2 a1_0 a1_1 a1_2
theorem ddiref03_biggest.mono_l : ∀ k, (∀ y0 y1 y2 y3 y4 y5 y6, LeO (ddiref03_biggest.l0 k y0 y1 y2 y3 y4 y5 y6) (ddiref03_biggest.l0 (k + 1) y0 y1 y2 y3 y4 y5 y6))
 | 0 => fun _ _ _ _ _ _ _ r h => by simp [ddiref03_biggest.l0] at h
 | k + 1 => by
  have ih0 := ddiref03_biggest.mono_l k
  ·
   intro y0 y1 y2 y3 y4 y5 y6
   unfold ddiref03_biggest.l0
   repeat' with_reducible first | exact ih0 _ _ _ _ _ _ _ | exact ddiref03_Bounds.mono _ _ _ _ _ | exact LeO.refl _ | exact LeO.none _ | refine LeO.ite ?_ ?_ | refine LeO.bind ?_ (fun _ => ?_)
theorem ddiref03_biggest.mono : ∀ a0 a1 a2 a3 a4 a5 k, LeO (ddiref03_biggest.f k a0 a1 a2 a3 a4 a5) (ddiref03_biggest.f (k + 1) a0 a1 a2 a3 a4 a5) := by
 intro a0 a1 a2 a3 a4 a5 k
 have ih0 := ddiref03_biggest.mono_l k
 unfold ddiref03_biggest.f
 repeat' with_reducible first | exact ih0 _ _ _ _ _ _ _ | exact ddiref03_Bounds.mono _ _ _ _ _ | exact LeO.refl _ | exact LeO.none _ | refine LeO.ite ?_ ?_ | refine LeO.bind ?_ (fun _ => ?_)
set_option maxHeartbeats 40000000 in
set_option maxRecDepth 100000 in
theorem ddiref03_biggest.calls (k : Nat) (a0_0 : Bool) (a0_1 : Int) (a0_2 : Int) (a1_0 : Bool) (a1_1 : Int) (a1_2 : Int) (r1 : Bool) (r2 : Int) (r3 : Int) (r4 : Int) (w : World) (h : ddiref03_biggest.f k a0_0 a0_1 a0_2 a1_0 a1_1 a1_2 = some (r1, r2, r3, r4)) :
 Calls Tryz.prog 56 #[.agg #[.bool a0_0, .int .u64 a0_1, .int .u64 a0_2], .agg #[.bool a1_0, .int .u64 a1_1, .int .u64 a1_2]] w fun e w' => e = .returned (.agg #[.bool r1, .int .u64 r2, .int .u64 r3, .int .i64 r4]) ∧ Below w.heap.size w w' := by
 have hu24 := Tryz.underlying24
 have hu26 := Tryz.underlying26
 have hu33 := Tryz.underlying33
 have HB := Aside0.mk (Below.refl w.heap.size w)
 have H : (ddiref03_biggest.l0 k 0 a0_0 a0_1 a0_2 a1_0 a1_1 a1_2) = some (r1, r2, r3, r4) := h
 clear h
 have H' := Aside0.mk H
 clear H
 go_enter Tryz.func56, Tryz.ntmps56
 go_wp2_with (first | ((with_reducible refine gate_dst (N := 2) rfl ?_); refine boxA (N := 2) (cs := #[.bool a0_0, .int .u64 a0_1, .int .u64 a0_2]) (t := 24) ?_; intro gb391 hg w3 hbox hb; have BK391 := Aside0.mk (hbox); have GE391 := (pZ HB hg); replace HB := (pS HB hb); clear hb hbox hg) | ((with_reducible refine gate_dst (N := 3) rfl ?_); refine boxA (N := 3) (cs := #[.bool a1_0, .int .u64 a1_1, .int .u64 a1_2]) (t := 24) ?_; intro gb392 hg w4 hbox hb; have BK392 := Aside0.mk (hbox); have GE392 := (pZ HB hg); have NB391_392 := (pL BK391 hg); have NB392_391 := (pG BK391 hg); replace BK391 := (pB BK391 hb); replace HB := (pS HB hb); clear hb hbox hg) | ((with_reducible refine gate_dst (N := 4) rfl ?_); refine boxA (N := 4) (cs := #[.bool false, .int .u64 0, .int .u64 0, .int .i64 0]) (t := 26) ?_; intro gb393 hg w5 hbox hb; have BK393 := Aside0.mk (hbox); have GE393 := (pZ HB hg); have NB391_393 := (pL BK391 hg); have NB393_391 := (pG BK391 hg); have NB392_393 := (pL BK392 hg); have NB393_392 := (pG BK392 hg); replace BK391 := (pB BK391 hb); replace BK392 := (pB BK392 hb); replace HB := (pS HB hb); clear hb hbox hg))
 go_loopg [5] k (fun kq v5 w' => ∃ (x5_1 : Int) (x394000_1 : Bool) (x394001_1 : Int) (x394002_1 : Int) (x394003_1 : Int), v5 = .int .i64 x5_1 ∧ Aside0 (ddiref03_biggest.l0 kq x5_1 a0_0 a0_1 a0_2 a1_0 a1_1 a1_2 = some (r1, r2, r3, r4)) ∧ Aside0 (kq ≤ k) ∧ Aside0 (w'.heap[gb391]? = some (.cells #[.bool a0_0, .int .u64 a0_1, .int .u64 a0_2] 24 (0, 0))) ∧ Aside0 (w'.heap[gb392]? = some (.cells #[.bool a1_0, .int .u64 a1_1, .int .u64 a1_2] 24 (0, 0))) ∧ Aside0 (w'.heap[gb393]? = some (.cells #[.bool x394000_1, .int .u64 x394001_1, .int .u64 x394002_1, .int .i64 x394003_1] 26 (0, 0))) ∧ Aside0 (Below w.heap.size w w'))
 case atStart => exact ⟨(0), (false), (0), (0), (0), pT, H', ⟨Nat.le_refl _⟩, ⟨pM BK391⟩, ⟨pM BK392⟩, ⟨pM BK393⟩, ⟨pE HB⟩⟩
 case round =>
  clear H'
  obtain ⟨x5_1, x394000_1, x394001_1, x394002_1, x394003_1, rfl, HA, HK1, BK391, BK392, BK393, HB⟩ := hrel
  cases gk with
  | zero => exact absurd HA.out (by simp [ddiref03_biggest.l0])
  | succ k1 =>
   have H := HA.out
   clear HA
   simp only [ddiref03_biggest.l0] at H
   replace H := Option.bind_eq_some_iff.mp H
   obtain ⟨t394, A60, H⟩ := H
   have A6 := Aside0.mk A60
   clear A60
   by_cases c7 : x5_1 ≤ t394
   ·
    rw [if_pos c7] at H
    have c7b0 := decide_eq_true c7
    clear c7
    replace H := Option.bind_eq_some_iff.mp H
    obtain ⟨⟨t397, t398, t399, t400, t401, t402, t403⟩, A80, H⟩ := H
    replace H : (if t403 = true then ((ddiref02_Compare.f t400 t401 t402 a1_0 a1_1 a1_2).bind fun t405 => (if t405 ≤ 0 then (some (a0_0, a0_1, a0_2, x5_1)) else (ddiref03_biggest.l0 k1 (wrap64 (x5_1 + 1)) a0_0 a0_1 a0_2 a1_0 a1_1 a1_2))) else (ddiref03_biggest.l0 k1 (wrap64 (x5_1 + 1)) a0_0 a0_1 a0_2 a1_0 a1_1 a1_2)) = some (r1, r2, r3, r4) := H
    have A8 := Aside0.mk A80
    clear A80
    by_cases c9 : t403 = true
    ·
     subst c9
     have H1 : ((ddiref02_Compare.f t400 t401 t402 a1_0 a1_1 a1_2).bind fun t405 => (if t405 ≤ 0 then (some (a0_0, a0_1, a0_2, x5_1)) else (ddiref03_biggest.l0 k1 (wrap64 (x5_1 + 1)) a0_0 a0_1 a0_2 a1_0 a1_1 a1_2))) = some (r1, r2, r3, r4) := by rw [if_pos rfl] at H; exact H
     clear H
     have H := H1
     clear H1
     replace H := Option.bind_eq_some_iff.mp H
     obtain ⟨t405, A100, H⟩ := H
     have A10 := Aside0.mk A100
     clear A100
     by_cases c11 : t405 ≤ 0
     ·
      rw [if_pos c11] at H
      have c11b0 := decide_eq_true c11
      clear c11
      simp only [Option.some.injEq, Prod.mk.injEq] at H
      obtain ⟨rfl, rfl, rfl, rfl⟩ := H
      have hnb12 := NB391_392.out
      have hnc12 := NB392_391.out
      have hnb13 := NB391_393.out
      have hnc13 := NB393_391.out
      obtain ⟨hcz14_0, hcz14_1, hcz14_2, hfz14_0, hfz14_1, hfz14_2⟩ := pC3 BK391
      go_wp2_with (first | ((with_reducible refine gate_callee (f := 45) rfl ?_); refine goesA (some 12) Tryz.func45 #[.bool a0_0] ?_; (with_reducible refine (ddiref03_Long.calls a0_0 t394 _ A6.out).mono ?_); rintro e w' ⟨rfl, ⟨nd, rfl⟩⟩; refine ⟨_, rfl, ?_⟩; (try (rw [drewN_self wr]; generalize hq_ : World.drewN wr _ = wr; replace BK391 : Aside0 (wr.heap[gb391]? = some (.cells #[.bool a0_0, .int .u64 a0_1, .int .u64 a0_2] 24 (0, 0))) := ⟨by rw [← hq_]; exact (pM BK391)⟩; replace BK392 : Aside0 (wr.heap[gb392]? = some (.cells #[.bool a1_0, .int .u64 a1_1, .int .u64 a1_2] 24 (0, 0))) := ⟨by rw [← hq_]; exact (pM BK392)⟩; replace BK393 : Aside0 (wr.heap[gb393]? = some (.cells #[.bool x394000_1, .int .u64 x394001_1, .int .u64 x394002_1, .int .i64 x394003_1] 26 (0, 0))) := ⟨by rw [← hq_]; exact (pM BK393)⟩; replace HB : Aside0 (Below w.heap.size w wr) := ⟨by rw [← hq_]; exact (by repeat (first | (with_reducible first | exact HB.out | apply below_alloc | apply pw_below_drewN | apply below_drew1 | refine below_set ?_ GE391.out | refine below_set ?_ GE392.out | refine below_set ?_ GE393.out) | exact HB.out))⟩; clear hq_)); obtain ⟨hcz15_0, hcz15_1, hcz15_2, hfz15_0, hfz15_1, hfz15_2⟩ := pC3 BK391) | ((with_reducible refine gate_dst (N := 6) rfl ?_); refine boxA (N := 6) (cs := #[.bool false, .int .u64 0, .int .u64 0, .int .i64 0]) (t := 26) ?_; intro gb396 hg w16 hbox hb; have BK396 := Aside0.mk (hbox); have GW396 := (pZ HB hg); have GE396 := (pZ HB hg); have NB391_396 := (pL BK391 hg); have NB396_391 := (pG BK391 hg); have NB392_396 := (pL BK392 hg); have NB396_392 := (pG BK392 hg); have NB393_396 := (pL BK393 hg); have NB396_393 := (pG BK393 hg); replace BK391 := (pB BK391 hb); replace BK392 := (pB BK392 hb); replace BK393 := (pB BK393 hb); replace HB := (pS HB hb); clear hb hbox hg; have hnb17 := NB396_391.out; have hnc17 := NB391_396.out; have hnb18 := NB396_392.out; have hnc18 := NB392_396.out; have hnb19 := NB396_393.out; have hnc19 := NB393_396.out; obtain ⟨hcz20_0, hcz20_1, hcz20_2, hcz20_3, hfz20_0, hfz20_1, hfz20_2, hfz20_3⟩ := pC4 BK396) | ((with_reducible refine gate_callee (f := 11) rfl ?_); refine goesA (some 21) Tryz.func11 #[.agg #[.bool a0_0, .int .u64 a0_1, .int .u64 a0_2, .int .i64 x5_1]] ?_; (with_reducible refine (ddiref03_Bounds.calls k1 a0_0 a0_1 a0_2 x5_1 t397 t398 t399 t400 t401 t402 true _ A8.out).mono ?_); rintro e w21 ⟨rfl, hb⟩; refine ⟨_, rfl, ?_⟩; replace BK391 := (pD hb (pK NB391_396 (pK NB391_396 (pK NB391_396 (pK NB391_396 (pM BK391)))))); replace BK392 := (pD hb (pK NB392_396 (pK NB392_396 (pK NB392_396 (pK NB392_396 (pM BK392)))))); replace BK393 := (pD hb (pK NB393_396 (pK NB393_396 (pK NB393_396 (pK NB393_396 (pM BK393)))))); replace BK396 := (pD hb (pP (pP (pP (pP (pM BK396)))))); replace HB := (pS HB hb); (try clear hb)) | ((with_reducible refine gate_dst (N := 7) rfl ?_); refine boxA (N := 7) (cs := #[.bool false, .int .u64 0, .int .u64 0, .bool false, .int .u64 0, .int .u64 0]) (t := 33) ?_; intro gb404 hg w22 hbox hb; have BK404 := Aside0.mk (hbox); have GW404 := (pZ HB hg); have GE404 := (pZ HB hg); have NB391_404 := (pL BK391 hg); have NB404_391 := (pG BK391 hg); have NB392_404 := (pL BK392 hg); have NB404_392 := (pG BK392 hg); have NB393_404 := (pL BK393 hg); have NB404_393 := (pG BK393 hg); have NB396_404 := (pL BK396 hg); have NB404_396 := (pG BK396 hg); replace BK391 := (pB BK391 hb); replace BK392 := (pB BK392 hb); replace BK393 := (pB BK393 hb); replace BK396 := (pB BK396 hb); replace HB := (pS HB hb); clear hb hbox hg; have hnb23 := NB404_391.out; have hnc23 := NB391_404.out; have hnb24 := NB404_392.out; have hnc24 := NB392_404.out; have hnb25 := NB404_393.out; have hnc25 := NB393_404.out; have hnb26 := NB404_396.out; have hnc26 := NB396_404.out; obtain ⟨hcz27_0, hcz27_1, hcz27_2, hcz27_3, hcz27_4, hcz27_5, hfz27_0, hfz27_1, hfz27_2, hfz27_3, hfz27_4, hfz27_5⟩ := pC6 BK404) | ((with_reducible refine gate_store (t := 33) (p := 7) rfl ?_); refine store_event (t := 33) (p := 7) (v := ?vo_w28) (w1 := ((((((w22.setCell ⟨gb404, 0, none⟩ (.bool t397)).setCell ⟨gb404, 1, none⟩ (.int .u64 t398)).setCell ⟨gb404, 2, none⟩ (.int .u64 t399)).setCell ⟨gb404, 3, none⟩ (.bool t400)).setCell ⟨gb404, 4, none⟩ (.int .u64 t401)).setCell ⟨gb404, 5, none⟩ (.int .u64 t402))) ?hg ?ho ?hn ?hr ?_; (case ho => rfl); (case hg => rfl); (case hn => rfl); (case hr => first | (exact Ext.run_store_chain 33 _ _ rfl _ _ _ _ rfl rfl (pM BK404) (by kernel_rfl) rfl rfl rfl) | (go_simp; done) | (go_simp; rfl)); intro w28 hw; replace BK391 : Aside0 (w28.heap[gb391]? = some (.cells #[.bool a0_0, .int .u64 a0_1, .int .u64 a0_2] 24 (0, 0))) := (pW hw (pK NB391_404 (pK NB391_404 (pK NB391_404 (pK NB391_404 (pK NB391_404 (pK NB391_404 (pM BK391)))))))); replace BK392 : Aside0 (w28.heap[gb392]? = some (.cells #[.bool a1_0, .int .u64 a1_1, .int .u64 a1_2] 24 (0, 0))) := (pW hw (pK NB392_404 (pK NB392_404 (pK NB392_404 (pK NB392_404 (pK NB392_404 (pK NB392_404 (pM BK392)))))))); replace BK393 : Aside0 (w28.heap[gb393]? = some (.cells #[.bool x394000_1, .int .u64 x394001_1, .int .u64 x394002_1, .int .i64 x394003_1] 26 (0, 0))) := (pW hw (pK NB393_404 (pK NB393_404 (pK NB393_404 (pK NB393_404 (pK NB393_404 (pK NB393_404 (pM BK393)))))))); replace BK396 : Aside0 (w28.heap[gb396]? = some (.cells #[.bool a0_0, .int .u64 a0_1, .int .u64 a0_2, .int .i64 x5_1] 26 (0, 0))) := (pW hw (pK NB396_404 (pK NB396_404 (pK NB396_404 (pK NB396_404 (pK NB396_404 (pK NB396_404 (pM BK396)))))))); replace BK404 : Aside0 (w28.heap[gb404]? = some (.cells #[.bool t397, .int .u64 t398, .int .u64 t399, .bool t400, .int .u64 t401, .int .u64 t402] 33 (0, 0))) := (pW hw (pP (pP (pP (pP (pP (pP (pM BK404)))))))); replace HB : Aside0 (Below w.heap.size w w28) := ⟨(by rw [hw]; exact (by repeat (first | (with_reducible first | exact HB.out | apply below_alloc | apply pw_below_drewN | apply below_drew1 | refine below_set ?_ GE391.out | refine below_set ?_ GE392.out | refine below_set ?_ GE393.out | refine below_set ?_ GE396.out | refine below_set ?_ GE404.out) | exact HB.out)))⟩; clear hw; obtain ⟨hcz29_0, hcz29_1, hcz29_2, hcz29_3, hcz29_4, hcz29_5, hfz29_0, hfz29_1, hfz29_2, hfz29_3, hfz29_4, hfz29_5⟩ := pC6 BK404; have hnb30 := NB392_393.out; have hnc30 := NB393_392.out; obtain ⟨hcz31_0, hcz31_1, hcz31_2, hfz31_0, hfz31_1, hfz31_2⟩ := pC3 BK392) | (go_at_call 55; (with_reducible refine (ddiref02_Compare.calls t400 t401 t402 a1_0 a1_1 a1_2 t405 _ A10.out).mono ?_); rintro e w32 ⟨rfl, hb⟩; replace BK391 := (pB BK391 hb); replace BK392 := (pB BK392 hb); replace BK393 := (pB BK393 hb); replace BK396 := (pB BK396 hb); replace BK404 := (pB BK404 hb); replace HB := (pS HB hb); (try clear hb); obtain ⟨hcz33_0, hcz33_1, hcz33_2, hcz33_3, hfz33_0, hfz33_1, hfz33_2, hfz33_3⟩ := pC4 BK396; obtain ⟨hcz34_0, hcz34_1, hcz34_2, hcz34_3, hfz34_0, hfz34_1, hfz34_2, hfz34_3⟩ := pC4 BK393))
      refine bodyPost_ret (results_cell_row rfl _ _ gb393 26 #[.bool a0_0, .int .u64 a0_1, .int .u64 a0_2, .int .i64 x5_1] (0, 0) _ rfl (pP (pP (pP (pP (pM BK393))))) Tryz.underlying26 rfl (by kernel_rfl)) rfl ?_
      exact pR (pE HB)
     ·
      rw [if_neg c11] at H
      have c11b0 := decide_eq_false c11
      clear c11
      have H' := Aside0.mk H
      clear H
      have hnb35 := NB391_392.out
      have hnc35 := NB392_391.out
      have hnb36 := NB391_393.out
      have hnc36 := NB393_391.out
      obtain ⟨hcz37_0, hcz37_1, hcz37_2, hfz37_0, hfz37_1, hfz37_2⟩ := pC3 BK391
      go_wp2_with (first | ((with_reducible refine gate_callee (f := 45) rfl ?_); refine goesA (some 12) Tryz.func45 #[.bool a0_0] ?_; (with_reducible refine (ddiref03_Long.calls a0_0 t394 _ A6.out).mono ?_); rintro e w' ⟨rfl, ⟨nd, rfl⟩⟩; refine ⟨_, rfl, ?_⟩; (try (rw [drewN_self wr]; generalize hq_ : World.drewN wr _ = wr; replace BK391 : Aside0 (wr.heap[gb391]? = some (.cells #[.bool a0_0, .int .u64 a0_1, .int .u64 a0_2] 24 (0, 0))) := ⟨by rw [← hq_]; exact (pM BK391)⟩; replace BK392 : Aside0 (wr.heap[gb392]? = some (.cells #[.bool a1_0, .int .u64 a1_1, .int .u64 a1_2] 24 (0, 0))) := ⟨by rw [← hq_]; exact (pM BK392)⟩; replace BK393 : Aside0 (wr.heap[gb393]? = some (.cells #[.bool x394000_1, .int .u64 x394001_1, .int .u64 x394002_1, .int .i64 x394003_1] 26 (0, 0))) := ⟨by rw [← hq_]; exact (pM BK393)⟩; replace HB : Aside0 (Below w.heap.size w wr) := ⟨by rw [← hq_]; exact (by repeat (first | (with_reducible first | exact HB.out | apply below_alloc | apply pw_below_drewN | apply below_drew1 | refine below_set ?_ GE391.out | refine below_set ?_ GE392.out | refine below_set ?_ GE393.out) | exact HB.out))⟩; clear hq_)); obtain ⟨hcz38_0, hcz38_1, hcz38_2, hfz38_0, hfz38_1, hfz38_2⟩ := pC3 BK391) | ((with_reducible refine gate_dst (N := 6) rfl ?_); refine boxA (N := 6) (cs := #[.bool false, .int .u64 0, .int .u64 0, .int .i64 0]) (t := 26) ?_; intro gb396 hg w39 hbox hb; have BK396 := Aside0.mk (hbox); have GW396 := (pZ HB hg); have GE396 := (pZ HB hg); have NB391_396 := (pL BK391 hg); have NB396_391 := (pG BK391 hg); have NB392_396 := (pL BK392 hg); have NB396_392 := (pG BK392 hg); have NB393_396 := (pL BK393 hg); have NB396_393 := (pG BK393 hg); replace BK391 := (pB BK391 hb); replace BK392 := (pB BK392 hb); replace BK393 := (pB BK393 hb); replace HB := (pS HB hb); clear hb hbox hg; have hnb40 := NB396_391.out; have hnc40 := NB391_396.out; have hnb41 := NB396_392.out; have hnc41 := NB392_396.out; have hnb42 := NB396_393.out; have hnc42 := NB393_396.out; obtain ⟨hcz43_0, hcz43_1, hcz43_2, hcz43_3, hfz43_0, hfz43_1, hfz43_2, hfz43_3⟩ := pC4 BK396) | ((with_reducible refine gate_callee (f := 11) rfl ?_); refine goesA (some 21) Tryz.func11 #[.agg #[.bool a0_0, .int .u64 a0_1, .int .u64 a0_2, .int .i64 x5_1]] ?_; (with_reducible refine (ddiref03_Bounds.calls k1 a0_0 a0_1 a0_2 x5_1 t397 t398 t399 t400 t401 t402 true _ A8.out).mono ?_); rintro e w44 ⟨rfl, hb⟩; refine ⟨_, rfl, ?_⟩; replace BK391 := (pD hb (pK NB391_396 (pK NB391_396 (pK NB391_396 (pK NB391_396 (pM BK391)))))); replace BK392 := (pD hb (pK NB392_396 (pK NB392_396 (pK NB392_396 (pK NB392_396 (pM BK392)))))); replace BK393 := (pD hb (pK NB393_396 (pK NB393_396 (pK NB393_396 (pK NB393_396 (pM BK393)))))); replace BK396 := (pD hb (pP (pP (pP (pP (pM BK396)))))); replace HB := (pS HB hb); (try clear hb)) | ((with_reducible refine gate_dst (N := 7) rfl ?_); refine boxA (N := 7) (cs := #[.bool false, .int .u64 0, .int .u64 0, .bool false, .int .u64 0, .int .u64 0]) (t := 33) ?_; intro gb404 hg w45 hbox hb; have BK404 := Aside0.mk (hbox); have GW404 := (pZ HB hg); have GE404 := (pZ HB hg); have NB391_404 := (pL BK391 hg); have NB404_391 := (pG BK391 hg); have NB392_404 := (pL BK392 hg); have NB404_392 := (pG BK392 hg); have NB393_404 := (pL BK393 hg); have NB404_393 := (pG BK393 hg); have NB396_404 := (pL BK396 hg); have NB404_396 := (pG BK396 hg); replace BK391 := (pB BK391 hb); replace BK392 := (pB BK392 hb); replace BK393 := (pB BK393 hb); replace BK396 := (pB BK396 hb); replace HB := (pS HB hb); clear hb hbox hg; have hnb46 := NB404_391.out; have hnc46 := NB391_404.out; have hnb47 := NB404_392.out; have hnc47 := NB392_404.out; have hnb48 := NB404_393.out; have hnc48 := NB393_404.out; have hnb49 := NB404_396.out; have hnc49 := NB396_404.out; obtain ⟨hcz50_0, hcz50_1, hcz50_2, hcz50_3, hcz50_4, hcz50_5, hfz50_0, hfz50_1, hfz50_2, hfz50_3, hfz50_4, hfz50_5⟩ := pC6 BK404) | ((with_reducible refine gate_store (t := 33) (p := 7) rfl ?_); refine store_event (t := 33) (p := 7) (v := ?vo_w51) (w1 := ((((((w45.setCell ⟨gb404, 0, none⟩ (.bool t397)).setCell ⟨gb404, 1, none⟩ (.int .u64 t398)).setCell ⟨gb404, 2, none⟩ (.int .u64 t399)).setCell ⟨gb404, 3, none⟩ (.bool t400)).setCell ⟨gb404, 4, none⟩ (.int .u64 t401)).setCell ⟨gb404, 5, none⟩ (.int .u64 t402))) ?hg ?ho ?hn ?hr ?_; (case ho => rfl); (case hg => rfl); (case hn => rfl); (case hr => first | (exact Ext.run_store_chain 33 _ _ rfl _ _ _ _ rfl rfl (pM BK404) (by kernel_rfl) rfl rfl rfl) | (go_simp; done) | (go_simp; rfl)); intro w51 hw; replace BK391 : Aside0 (w51.heap[gb391]? = some (.cells #[.bool a0_0, .int .u64 a0_1, .int .u64 a0_2] 24 (0, 0))) := (pW hw (pK NB391_404 (pK NB391_404 (pK NB391_404 (pK NB391_404 (pK NB391_404 (pK NB391_404 (pM BK391)))))))); replace BK392 : Aside0 (w51.heap[gb392]? = some (.cells #[.bool a1_0, .int .u64 a1_1, .int .u64 a1_2] 24 (0, 0))) := (pW hw (pK NB392_404 (pK NB392_404 (pK NB392_404 (pK NB392_404 (pK NB392_404 (pK NB392_404 (pM BK392)))))))); replace BK393 : Aside0 (w51.heap[gb393]? = some (.cells #[.bool x394000_1, .int .u64 x394001_1, .int .u64 x394002_1, .int .i64 x394003_1] 26 (0, 0))) := (pW hw (pK NB393_404 (pK NB393_404 (pK NB393_404 (pK NB393_404 (pK NB393_404 (pK NB393_404 (pM BK393)))))))); replace BK396 : Aside0 (w51.heap[gb396]? = some (.cells #[.bool a0_0, .int .u64 a0_1, .int .u64 a0_2, .int .i64 x5_1] 26 (0, 0))) := (pW hw (pK NB396_404 (pK NB396_404 (pK NB396_404 (pK NB396_404 (pK NB396_404 (pK NB396_404 (pM BK396)))))))); replace BK404 : Aside0 (w51.heap[gb404]? = some (.cells #[.bool t397, .int .u64 t398, .int .u64 t399, .bool t400, .int .u64 t401, .int .u64 t402] 33 (0, 0))) := (pW hw (pP (pP (pP (pP (pP (pP (pM BK404)))))))); replace HB : Aside0 (Below w.heap.size w w51) := ⟨(by rw [hw]; exact (by repeat (first | (with_reducible first | exact HB.out | apply below_alloc | apply pw_below_drewN | apply below_drew1 | refine below_set ?_ GE391.out | refine below_set ?_ GE392.out | refine below_set ?_ GE393.out | refine below_set ?_ GE396.out | refine below_set ?_ GE404.out) | exact HB.out)))⟩; clear hw; obtain ⟨hcz52_0, hcz52_1, hcz52_2, hcz52_3, hcz52_4, hcz52_5, hfz52_0, hfz52_1, hfz52_2, hfz52_3, hfz52_4, hfz52_5⟩ := pC6 BK404; have hnb53 := NB392_393.out; have hnc53 := NB393_392.out; obtain ⟨hcz54_0, hcz54_1, hcz54_2, hfz54_0, hfz54_1, hfz54_2⟩ := pC3 BK392) | (go_at_call 55; (with_reducible refine (ddiref02_Compare.calls t400 t401 t402 a1_0 a1_1 a1_2 t405 _ A10.out).mono ?_); rintro e w55 ⟨rfl, hb⟩; replace BK391 := (pB BK391 hb); replace BK392 := (pB BK392 hb); replace BK393 := (pB BK393 hb); replace BK396 := (pB BK396 hb); replace BK404 := (pB BK404 hb); replace HB := (pS HB hb); (try clear hb)))
      go_roundg k1
      case measure => have := HK1.out; omega
      case rel => exact ⟨(wrap64 (x5_1 + 1)), (x394000_1), (x394001_1), (x394002_1), (x394003_1), pT, H', ⟨by have := HK1.out; omega⟩, ⟨pM BK391⟩, ⟨pM BK392⟩, ⟨pM BK393⟩, ⟨pE HB⟩⟩
    ·
     replace c9 := Bool.eq_false_iff.mpr c9
     subst c9
     rw [if_neg (show ¬ (false = true) by decide)] at H
     have H' := Aside0.mk H
     clear H
     have hnb56 := NB391_392.out
     have hnc56 := NB392_391.out
     have hnb57 := NB391_393.out
     have hnc57 := NB393_391.out
     obtain ⟨hcz58_0, hcz58_1, hcz58_2, hfz58_0, hfz58_1, hfz58_2⟩ := pC3 BK391
     go_wp2_with (first | ((with_reducible refine gate_callee (f := 45) rfl ?_); refine goesA (some 12) Tryz.func45 #[.bool a0_0] ?_; (with_reducible refine (ddiref03_Long.calls a0_0 t394 _ A6.out).mono ?_); rintro e w' ⟨rfl, ⟨nd, rfl⟩⟩; refine ⟨_, rfl, ?_⟩; (try (rw [drewN_self wr]; generalize hq_ : World.drewN wr _ = wr; replace BK391 : Aside0 (wr.heap[gb391]? = some (.cells #[.bool a0_0, .int .u64 a0_1, .int .u64 a0_2] 24 (0, 0))) := ⟨by rw [← hq_]; exact (pM BK391)⟩; replace BK392 : Aside0 (wr.heap[gb392]? = some (.cells #[.bool a1_0, .int .u64 a1_1, .int .u64 a1_2] 24 (0, 0))) := ⟨by rw [← hq_]; exact (pM BK392)⟩; replace BK393 : Aside0 (wr.heap[gb393]? = some (.cells #[.bool x394000_1, .int .u64 x394001_1, .int .u64 x394002_1, .int .i64 x394003_1] 26 (0, 0))) := ⟨by rw [← hq_]; exact (pM BK393)⟩; replace HB : Aside0 (Below w.heap.size w wr) := ⟨by rw [← hq_]; exact (by repeat (first | (with_reducible first | exact HB.out | apply below_alloc | apply pw_below_drewN | apply below_drew1 | refine below_set ?_ GE391.out | refine below_set ?_ GE392.out | refine below_set ?_ GE393.out) | exact HB.out))⟩; clear hq_)); obtain ⟨hcz59_0, hcz59_1, hcz59_2, hfz59_0, hfz59_1, hfz59_2⟩ := pC3 BK391) | ((with_reducible refine gate_dst (N := 6) rfl ?_); refine boxA (N := 6) (cs := #[.bool false, .int .u64 0, .int .u64 0, .int .i64 0]) (t := 26) ?_; intro gb396 hg w60 hbox hb; have BK396 := Aside0.mk (hbox); have GW396 := (pZ HB hg); have GE396 := (pZ HB hg); have NB391_396 := (pL BK391 hg); have NB396_391 := (pG BK391 hg); have NB392_396 := (pL BK392 hg); have NB396_392 := (pG BK392 hg); have NB393_396 := (pL BK393 hg); have NB396_393 := (pG BK393 hg); replace BK391 := (pB BK391 hb); replace BK392 := (pB BK392 hb); replace BK393 := (pB BK393 hb); replace HB := (pS HB hb); clear hb hbox hg; have hnb61 := NB396_391.out; have hnc61 := NB391_396.out; have hnb62 := NB396_392.out; have hnc62 := NB392_396.out; have hnb63 := NB396_393.out; have hnc63 := NB393_396.out; obtain ⟨hcz64_0, hcz64_1, hcz64_2, hcz64_3, hfz64_0, hfz64_1, hfz64_2, hfz64_3⟩ := pC4 BK396) | ((with_reducible refine gate_callee (f := 11) rfl ?_); refine goesA (some 21) Tryz.func11 #[.agg #[.bool a0_0, .int .u64 a0_1, .int .u64 a0_2, .int .i64 x5_1]] ?_; (with_reducible refine (ddiref03_Bounds.calls k1 a0_0 a0_1 a0_2 x5_1 t397 t398 t399 t400 t401 t402 false _ A8.out).mono ?_); rintro e w65 ⟨rfl, hb⟩; refine ⟨_, rfl, ?_⟩; replace BK391 := (pD hb (pK NB391_396 (pK NB391_396 (pK NB391_396 (pK NB391_396 (pM BK391)))))); replace BK392 := (pD hb (pK NB392_396 (pK NB392_396 (pK NB392_396 (pK NB392_396 (pM BK392)))))); replace BK393 := (pD hb (pK NB393_396 (pK NB393_396 (pK NB393_396 (pK NB393_396 (pM BK393)))))); replace BK396 := (pD hb (pP (pP (pP (pP (pM BK396)))))); replace HB := (pS HB hb); (try clear hb)) | ((with_reducible refine gate_dst (N := 7) rfl ?_); refine boxA (N := 7) (cs := #[.bool false, .int .u64 0, .int .u64 0, .bool false, .int .u64 0, .int .u64 0]) (t := 33) ?_; intro gb404 hg w66 hbox hb; have BK404 := Aside0.mk (hbox); have GW404 := (pZ HB hg); have GE404 := (pZ HB hg); have NB391_404 := (pL BK391 hg); have NB404_391 := (pG BK391 hg); have NB392_404 := (pL BK392 hg); have NB404_392 := (pG BK392 hg); have NB393_404 := (pL BK393 hg); have NB404_393 := (pG BK393 hg); have NB396_404 := (pL BK396 hg); have NB404_396 := (pG BK396 hg); replace BK391 := (pB BK391 hb); replace BK392 := (pB BK392 hb); replace BK393 := (pB BK393 hb); replace BK396 := (pB BK396 hb); replace HB := (pS HB hb); clear hb hbox hg; have hnb67 := NB404_391.out; have hnc67 := NB391_404.out; have hnb68 := NB404_392.out; have hnc68 := NB392_404.out; have hnb69 := NB404_393.out; have hnc69 := NB393_404.out; have hnb70 := NB404_396.out; have hnc70 := NB396_404.out; obtain ⟨hcz71_0, hcz71_1, hcz71_2, hcz71_3, hcz71_4, hcz71_5, hfz71_0, hfz71_1, hfz71_2, hfz71_3, hfz71_4, hfz71_5⟩ := pC6 BK404) | ((with_reducible refine gate_store (t := 33) (p := 7) rfl ?_); refine store_event (t := 33) (p := 7) (v := ?vo_w72) (w1 := ((((((w66.setCell ⟨gb404, 0, none⟩ (.bool t397)).setCell ⟨gb404, 1, none⟩ (.int .u64 t398)).setCell ⟨gb404, 2, none⟩ (.int .u64 t399)).setCell ⟨gb404, 3, none⟩ (.bool t400)).setCell ⟨gb404, 4, none⟩ (.int .u64 t401)).setCell ⟨gb404, 5, none⟩ (.int .u64 t402))) ?hg ?ho ?hn ?hr ?_; (case ho => rfl); (case hg => rfl); (case hn => rfl); (case hr => first | (exact Ext.run_store_chain 33 _ _ rfl _ _ _ _ rfl rfl (pM BK404) (by kernel_rfl) rfl rfl rfl) | (go_simp; done) | (go_simp; rfl)); intro w72 hw; replace BK391 : Aside0 (w72.heap[gb391]? = some (.cells #[.bool a0_0, .int .u64 a0_1, .int .u64 a0_2] 24 (0, 0))) := (pW hw (pK NB391_404 (pK NB391_404 (pK NB391_404 (pK NB391_404 (pK NB391_404 (pK NB391_404 (pM BK391)))))))); replace BK392 : Aside0 (w72.heap[gb392]? = some (.cells #[.bool a1_0, .int .u64 a1_1, .int .u64 a1_2] 24 (0, 0))) := (pW hw (pK NB392_404 (pK NB392_404 (pK NB392_404 (pK NB392_404 (pK NB392_404 (pK NB392_404 (pM BK392)))))))); replace BK393 : Aside0 (w72.heap[gb393]? = some (.cells #[.bool x394000_1, .int .u64 x394001_1, .int .u64 x394002_1, .int .i64 x394003_1] 26 (0, 0))) := (pW hw (pK NB393_404 (pK NB393_404 (pK NB393_404 (pK NB393_404 (pK NB393_404 (pK NB393_404 (pM BK393)))))))); replace BK396 : Aside0 (w72.heap[gb396]? = some (.cells #[.bool a0_0, .int .u64 a0_1, .int .u64 a0_2, .int .i64 x5_1] 26 (0, 0))) := (pW hw (pK NB396_404 (pK NB396_404 (pK NB396_404 (pK NB396_404 (pK NB396_404 (pK NB396_404 (pM BK396)))))))); replace BK404 : Aside0 (w72.heap[gb404]? = some (.cells #[.bool t397, .int .u64 t398, .int .u64 t399, .bool t400, .int .u64 t401, .int .u64 t402] 33 (0, 0))) := (pW hw (pP (pP (pP (pP (pP (pP (pM BK404)))))))); replace HB : Aside0 (Below w.heap.size w w72) := ⟨(by rw [hw]; exact (by repeat (first | (with_reducible first | exact HB.out | apply below_alloc | apply pw_below_drewN | apply below_drew1 | refine below_set ?_ GE391.out | refine below_set ?_ GE392.out | refine below_set ?_ GE393.out | refine below_set ?_ GE396.out | refine below_set ?_ GE404.out) | exact HB.out)))⟩; clear hw))
     go_roundg k1
     case measure => have := HK1.out; omega
     case rel => exact ⟨(wrap64 (x5_1 + 1)), (x394000_1), (x394001_1), (x394002_1), (x394003_1), pT, H', ⟨by have := HK1.out; omega⟩, ⟨pM BK391⟩, ⟨pM BK392⟩, ⟨pM BK393⟩, ⟨pE HB⟩⟩
   ·
    rw [if_neg c7] at H
    have c7b0 := decide_eq_false c7
    clear c7
    replace H := Option.bind_eq_some_iff.mp H
    obtain ⟨t395, A730, H⟩ := H
    have A73 := Aside0.mk A730
    clear A730
    simp only [Option.some.injEq, Prod.mk.injEq] at H
    obtain ⟨rfl, rfl, rfl, rfl⟩ := H
    have hnb74 := NB391_392.out
    have hnc74 := NB392_391.out
    have hnb75 := NB391_393.out
    have hnc75 := NB393_391.out
    obtain ⟨hcz76_0, hcz76_1, hcz76_2, hfz76_0, hfz76_1, hfz76_2⟩ := pC3 BK391
    try go_wp2_with (first | ((with_reducible refine gate_callee (f := 45) rfl ?_); refine goesA (some 12) Tryz.func45 #[.bool a0_0] ?_; (with_reducible refine (ddiref03_Long.calls a0_0 t394 _ A6.out).mono ?_); rintro e w' ⟨rfl, ⟨nd, rfl⟩⟩; refine ⟨_, rfl, ?_⟩; (try (rw [drewN_self wr]; generalize hq_ : World.drewN wr _ = wr; replace BK391 : Aside0 (wr.heap[gb391]? = some (.cells #[.bool a0_0, .int .u64 a0_1, .int .u64 a0_2] 24 (0, 0))) := ⟨by rw [← hq_]; exact (pM BK391)⟩; replace BK392 : Aside0 (wr.heap[gb392]? = some (.cells #[.bool a1_0, .int .u64 a1_1, .int .u64 a1_2] 24 (0, 0))) := ⟨by rw [← hq_]; exact (pM BK392)⟩; replace BK393 : Aside0 (wr.heap[gb393]? = some (.cells #[.bool x394000_1, .int .u64 x394001_1, .int .u64 x394002_1, .int .i64 x394003_1] 26 (0, 0))) := ⟨by rw [← hq_]; exact (pM BK393)⟩; replace HB : Aside0 (Below w.heap.size w wr) := ⟨by rw [← hq_]; exact (by repeat (first | (with_reducible first | exact HB.out | apply below_alloc | apply pw_below_drewN | apply below_drew1 | refine below_set ?_ GE391.out | refine below_set ?_ GE392.out | refine below_set ?_ GE393.out) | exact HB.out))⟩; clear hq_))))
    replace BK391 := Aside0.mk (blk_drew BK391.out)
    replace BK392 := Aside0.mk (blk_drew BK392.out)
    replace BK393 := Aside0.mk (blk_drew BK393.out)
    replace HB := Aside0.mk (below_drew1 HB.out)
    refine start_ (n := 6) (S := fun w' => w'.cell? ⟨gb391, 0, none⟩ = some (.bool a0_0) ∧ w'.cell? ⟨gb391, 1, none⟩ = some (.int .u64 a0_1) ∧ w'.cell? ⟨gb391, 2, none⟩ = some (.int .u64 a0_2)) (ds := []) (tk 6 0) (by kernel_rfl) rfl rfl ⟨(blk_cell BK391.out 0).trans rfl, (blk_cell BK391.out 1).trans rfl, (blk_cell BK391.out 2).trans rfl⟩ (fun hHeld => ?_)
    generalize wr.drew = w77 at BK391 BK392 BK393 HB hHeld ⊢
    refine pure_ (i := 1) (N := some 34) (v := ?_) (a' := ?_) (tr [0, 1, 1, 4]) rfl rfl (by kernel_rfl) (fun _ _ _ h => h) (Or.inl ⟨by rfl, ?_⟩) ?_ ?_
    rotate_left
    ·
     intro w'
     go_simp
     with_reducible rfl
    rotate_left
    ·
     simp only [Act.put, List.setIfInBounds_toArray, List.set_cons_zero, List.set_cons_succ, i64_w, i32_w]
     rfl
    refine take_ (i := 0) (N := some 33) (v := ?_) (a' := ?_) (tk 6 2) rfl rfl (by kernel_rfl) (fun _ _ _ h => h) (Or.inl ⟨by rfl, ?_⟩) hHeld ?_ ?_
    rotate_left
    ·
     rintro w' ⟨s0, s1, s2⟩
     go_simp
     with_reducible rfl
    rotate_left
    ·
     simp only [Act.put, List.setIfInBounds_toArray, List.set_cons_zero, List.set_cons_succ, i64_w, i32_w]
     rfl
    refine take_ (i := 2) (N := some 35) (v := ?_) (a' := ?_) (tk 6 3) rfl rfl (by kernel_rfl) (fun _ _ _ h => h) (Or.inl ⟨by rfl, ?_⟩) hHeld ?_ ?_
    rotate_left
    ·
     rintro w' ⟨s0, s1, s2⟩
     go_simp
     with_reducible rfl
    rotate_left
    ·
     simp only [Act.put, List.setIfInBounds_toArray, List.set_cons_zero, List.set_cons_succ, i64_w, i32_w]
     rfl
    refine one_ (i := 3) (N := some 36) (tk 6 4) rfl rfl (by kernel_rfl) (by decide) (fun K hK => ?_)
    refine goesR Tryz.func45 #[.bool a0_0] ?_
    with_reducible refine (ddiref03_Long.calls a0_0 t395 _ A73.out).mono ?_
    rintro e w' ⟨rfl, ⟨nd, rfl⟩⟩
    refine ⟨_, rfl, ?_⟩
    refine hK.out _ _ ⟨(blk_cell BK391.out 0).trans rfl, (blk_cell BK391.out 1).trans rfl, (blk_cell BK391.out 2).trans rfl⟩ (fun hHeld => ?_)
    clear hK K
    refine normA (N := some 36) ?_
    refine pure_ (i := 4) (N := some 37) (v := ?_) (a' := ?_) (tk 6 5) rfl rfl (by kernel_rfl) (fun _ _ _ h => h) (Or.inl ⟨by rfl, ?_⟩) ?_ ?_
    rotate_left
    ·
     intro w'
     go_simp
     with_reducible rfl
    rotate_left
    ·
     simp only [Act.put, List.setIfInBounds_toArray, List.set_cons_zero, List.set_cons_succ, i64_w, i32_w]
     rfl
    refine one_ (i := 5) (N := none) (tk 6 6) rfl rfl (by kernel_rfl) (by decide) (fun K hK => ?_)
    have hs78 : w77.cell? ⟨gb393, 0, none⟩ = some (.bool x394000_1) := (blk_cell BK393.out 0).trans rfl
    have hfs78 := blk_frozen BK393.out 0
    have hns78_0 := NB391_393.out
    have hns78_1 := NB392_393.out
    have hms78_0 := NB393_391.out
    have hms78_1 := NB393_392.out
    have hs79 : w77.cell? ⟨gb393, 1, none⟩ = some (.int .u64 x394001_1) := (blk_cell BK393.out 1).trans rfl
    have hfs79 := blk_frozen BK393.out 1
    have hns79_0 := NB391_393.out
    have hns79_1 := NB392_393.out
    have hms79_0 := NB393_391.out
    have hms79_1 := NB393_392.out
    have hs80 : w77.cell? ⟨gb393, 2, none⟩ = some (.int .u64 x394002_1) := (blk_cell BK393.out 2).trans rfl
    have hfs80 := blk_frozen BK393.out 2
    have hns80_0 := NB391_393.out
    have hns80_1 := NB392_393.out
    have hms80_0 := NB393_391.out
    have hms80_1 := NB393_392.out
    have hs81 : w77.cell? ⟨gb393, 3, none⟩ = some (.int .i64 x394003_1) := (blk_cell BK393.out 3).trans rfl
    have hfs81 := blk_frozen BK393.out 3
    have hns81_0 := NB391_393.out
    have hns81_1 := NB392_393.out
    have hms81_0 := NB393_391.out
    have hms81_1 := NB393_392.out
    refine skip_ (w1 := ?_) (by rfl) rfl ?_ ?_
    rotate_left
    ·
     go_simp
     rfl
    refine hK.out _ _ ⟨((cell_far (p := ⟨gb393, _, none⟩) NB391_393.out _).trans (((cell_far (p := ⟨gb393, _, none⟩) NB391_393.out _).trans (((cell_far (p := ⟨gb393, _, none⟩) NB391_393.out _).trans (((cell_far (p := ⟨gb393, _, none⟩) NB391_393.out _).trans (hHeld.1)))))))), ((cell_far (p := ⟨gb393, _, none⟩) NB391_393.out _).trans (((cell_far (p := ⟨gb393, _, none⟩) NB391_393.out _).trans (((cell_far (p := ⟨gb393, _, none⟩) NB391_393.out _).trans (((cell_far (p := ⟨gb393, _, none⟩) NB391_393.out _).trans (hHeld.2.1)))))))), ((cell_far (p := ⟨gb393, _, none⟩) NB391_393.out _).trans (((cell_far (p := ⟨gb393, _, none⟩) NB391_393.out _).trans (((cell_far (p := ⟨gb393, _, none⟩) NB391_393.out _).trans (((cell_far (p := ⟨gb393, _, none⟩) NB391_393.out _).trans (hHeld.2.2))))))))⟩ (fun hHeld => ?_)
    clear hK K
    refine done_ (by kernel_rfl) ?_
    try go_wp2
    refine bodyPost_ret (results_cell_row rfl _ _ gb393 26 #[.bool a0_0, .int .u64 a0_1, .int .u64 a0_2, .int .i64 t395] (0, 0) _ rfl (pP (pP (pP (pP (pM BK393))))) Tryz.underlying26 rfl (by kernel_rfl)) rfl ?_
    exact pR (pE HB)

/-! ### ddiref02_Add: function 57 -/
def ddiref02_Add.f (a0_0 : Bool) (a0_1 : Int) (a0_2 : Int) (a1 : Int) : Option (Bool × Int × Int × Bool) := (ddiref02_Valid.f a0_0 a0_1 a0_2).bind fun t408 => (if t408 = true then (if a0_0 = true then (if (IntKind.u64.wrap (a0_2 + a1)) < a0_2 then (if a0_1 = 18446744073709551615 then (some (false, 0, 0, false)) else (some (true, IntKind.u64.wrap (a0_1 + 1), IntKind.u64.wrap (a0_2 + a1), true))) else (some (true, a0_1, IntKind.u64.wrap (a0_2 + a1), true))) else (if a1 > (IntKind.u64.wrap (4294967295 - a0_2)) then (some (false, 0, 0, false)) else (some (false, 0, IntKind.u64.wrap (a0_2 + a1), true)))) else (some (false, 0, 0, false)))
set_option maxHeartbeats 40000000 in
set_option maxRecDepth 100000 in
theorem ddiref02_Add.calls (a0_0 : Bool) (a0_1 : Int) (a0_2 : Int) (a1 : Int) (r1 : Bool) (r2 : Int) (r3 : Int) (r4 : Bool) (w : World) (h : ddiref02_Add.f a0_0 a0_1 a0_2 a1 = some (r1, r2, r3, r4)) :
 Calls Tryz.prog 57 #[.agg #[.bool a0_0, .int .u64 a0_1, .int .u64 a0_2], .int .u64 a1] w fun e w' => e = .returned (.tuple #[.agg #[.bool r1, .int .u64 r2, .int .u64 r3], .bool r4]) ∧ Below w.heap.size w w' := by
 have hu24 := Tryz.underlying24
 have HB := Aside0.mk (Below.refl w.heap.size w)
 have H : ((ddiref02_Valid.f a0_0 a0_1 a0_2).bind fun t408 => (if t408 = true then (if a0_0 = true then (if (IntKind.u64.wrap (a0_2 + a1)) < a0_2 then (if a0_1 = 18446744073709551615 then (some (false, 0, 0, false)) else (some (true, IntKind.u64.wrap (a0_1 + 1), IntKind.u64.wrap (a0_2 + a1), true))) else (some (true, a0_1, IntKind.u64.wrap (a0_2 + a1), true))) else (if a1 > (IntKind.u64.wrap (4294967295 - a0_2)) then (some (false, 0, 0, false)) else (some (false, 0, IntKind.u64.wrap (a0_2 + a1), true)))) else (some (false, 0, 0, false)))) = some (r1, r2, r3, r4) := h
 clear h
 replace H := Option.bind_eq_some_iff.mp H
 obtain ⟨t408, A30, H⟩ := H
 have A3 := Aside0.mk A30
 clear A30
 by_cases c4 : t408 = true
 ·
  subst c4
  have H1 : (if a0_0 = true then (if (IntKind.u64.wrap (a0_2 + a1)) < a0_2 then (if a0_1 = 18446744073709551615 then (some (false, 0, 0, false)) else (some (true, IntKind.u64.wrap (a0_1 + 1), IntKind.u64.wrap (a0_2 + a1), true))) else (some (true, a0_1, IntKind.u64.wrap (a0_2 + a1), true))) else (if a1 > (IntKind.u64.wrap (4294967295 - a0_2)) then (some (false, 0, 0, false)) else (some (false, 0, IntKind.u64.wrap (a0_2 + a1), true)))) = some (r1, r2, r3, r4) := by rw [if_pos rfl] at H; exact H
  clear H
  have H := H1
  clear H1
  by_cases c5 : a0_0 = true
  ·
   subst c5
   have H1 : (if (IntKind.u64.wrap (a0_2 + a1)) < a0_2 then (if a0_1 = 18446744073709551615 then (some (false, 0, 0, false)) else (some (true, IntKind.u64.wrap (a0_1 + 1), IntKind.u64.wrap (a0_2 + a1), true))) else (some (true, a0_1, IntKind.u64.wrap (a0_2 + a1), true))) = some (r1, r2, r3, r4) := by rw [if_pos rfl] at H; exact H
   clear H
   have H := H1
   clear H1
   by_cases c6 : (IntKind.u64.wrap (a0_2 + a1)) < a0_2
   ·
    rw [if_pos c6] at H
    have c6b0 := decide_eq_true c6
    clear c6
    by_cases c7 : a0_1 = 18446744073709551615
    ·
     rw [if_pos c7] at H
     have c7b0 : (a0_1 == 18446744073709551615) = true := beq_iff_eq.mpr c7
     have c7b1 : (a0_1 != 18446744073709551615) = false := bne_eq_false_iff_eq.mpr c7
     clear c7
     simp only [Option.some.injEq, Prod.mk.injEq] at H
     obtain ⟨rfl, rfl, rfl, rfl⟩ := H
     go_enter Tryz.func57, Tryz.ntmps57
     go_wp2_with (first | ((with_reducible refine gate_dst (N := 2) rfl ?_); refine boxA (N := 2) (cs := #[.bool true, .int .u64 a0_1, .int .u64 a0_2]) (t := 24) ?_; intro gb406 hg w8 hbox hb; have BK406 := Aside0.mk (hbox); have GW406 := (pZ HB hg); have GE406 := (pZ HB hg); replace HB := (pS HB hb); clear hb hbox hg) | ((with_reducible refine gate_dst (N := 4) rfl ?_); refine boxA (N := 4) (cs := #[.bool false, .int .u64 0, .int .u64 0]) (t := 24) ?_; intro gb407 hg w9 hbox hb; have BK407 := Aside0.mk (hbox); have GW407 := (pZ HB hg); have GE407 := (pZ HB hg); have NB406_407 := (pL BK406 hg); have NB407_406 := (pG BK406 hg); replace BK406 := (pB BK406 hb); replace HB := (pS HB hb); clear hb hbox hg; have hnb10 := NB406_407.out; have hnc10 := NB407_406.out; obtain ⟨hcz11_0, hcz11_1, hcz11_2, hfz11_0, hfz11_1, hfz11_2⟩ := pC3 BK406) | ((with_reducible refine gate_callee (f := 54) rfl ?_); refine goesA (some 8) Tryz.func54 #[.agg #[.bool true, .int .u64 a0_1, .int .u64 a0_2]] ?_; (with_reducible refine (ddiref02_Valid.calls true a0_1 a0_2 true _ A3.out).mono ?_); rintro e w12 ⟨rfl, hb⟩; refine ⟨_, rfl, ?_⟩; replace BK406 := (pB BK406 hb); replace BK407 := (pB BK407 hb); replace HB := (pS HB hb); (try clear hb); obtain ⟨hcz13_0, hcz13_1, hcz13_2, hfz13_0, hfz13_1, hfz13_2⟩ := pC3 BK406) | ((with_reducible refine gate_dst (N := 6) rfl ?_); refine boxA (N := 6) (cs := #[.bool false, .int .u64 0, .int .u64 0]) (t := 24) ?_; intro gb409 hg w14 hbox hb; have BK409 := Aside0.mk (hbox); have GW409 := (pZ HB hg); have GE409 := (pZ HB hg); have NB406_409 := (pL BK406 hg); have NB409_406 := (pG BK406 hg); have NB407_409 := (pL BK407 hg); have NB409_407 := (pG BK407 hg); replace BK406 := (pB BK406 hb); replace BK407 := (pB BK407 hb); replace HB := (pS HB hb); clear hb hbox hg; have hnb15 := NB409_406.out; have hnc15 := NB406_409.out; have hnb16 := NB409_407.out; have hnc16 := NB407_409.out; obtain ⟨hcz17_0, hcz17_1, hcz17_2, hfz17_0, hfz17_1, hfz17_2⟩ := pC3 BK409; obtain ⟨hcz18_0, hcz18_1, hcz18_2, hfz18_0, hfz18_1, hfz18_2⟩ := pC3 BK406; obtain ⟨hcz19_0, hcz19_1, hcz19_2, hfz19_0, hfz19_1, hfz19_2⟩ := pC3 BK407) | ((with_reducible refine gate_store (t := 24) (p := 4) rfl ?_); refine store_event (t := 24) (p := 4) (v := ?vo_w20) (w1 := ((((((w14.setCell ⟨gb409, 0, none⟩ (.bool true)).setCell ⟨gb409, 1, none⟩ (.int .u64 a0_1)).setCell ⟨gb409, 2, none⟩ (.int .u64 (IntKind.u64.wrap (a0_2 + a1)))).setCell ⟨gb407, 0, none⟩ (.bool false)).setCell ⟨gb407, 1, none⟩ (.int .u64 0)).setCell ⟨gb407, 2, none⟩ (.int .u64 0))) ?hg ?ho ?hn ?hr ?_; (case ho => rfl); (case hg => rfl); (case hn => rfl); (case hr => first | (exact Ext.run_store_chain 24 _ _ rfl _ _ _ _ rfl rfl (pK NB407_409 (pK NB407_409 (pK NB407_409 (pM BK407)))) (by kernel_rfl) rfl rfl rfl) | (go_simp; done) | (go_simp; rfl)); intro w20 hw; replace BK406 : Aside0 (w20.heap[gb406]? = some (.cells #[.bool true, .int .u64 a0_1, .int .u64 a0_2] 24 (0, 0))) := (pW hw (pK NB406_407 (pK NB406_407 (pK NB406_407 (pK NB406_409 (pK NB406_409 (pK NB406_409 (pM BK406)))))))); replace BK407 : Aside0 (w20.heap[gb407]? = some (.cells #[.bool false, .int .u64 0, .int .u64 0] 24 (0, 0))) := (pW hw (pP (pP (pP (pK NB407_409 (pK NB407_409 (pK NB407_409 (pM BK407)))))))); replace BK409 : Aside0 (w20.heap[gb409]? = some (.cells #[.bool true, .int .u64 a0_1, .int .u64 (IntKind.u64.wrap (a0_2 + a1))] 24 (0, 0))) := (pW hw (pK NB409_407 (pK NB409_407 (pK NB409_407 (pP (pP (pP (pM BK409)))))))); replace HB : Aside0 (Below w.heap.size w w20) := ⟨(by rw [hw]; exact (by repeat (first | (with_reducible first | exact HB.out | apply below_alloc | apply pw_below_drewN | apply below_drew1 | refine below_set ?_ GE406.out | refine below_set ?_ GE407.out | refine below_set ?_ GE409.out) | exact HB.out)))⟩; clear hw))
     refine bodyPost_ret (results_ct rfl _ _ gb407 24 #[.bool false, .int .u64 0, .int .u64 0] (0, 0) _ rfl (pM BK407) Tryz.underlying24 rfl (by kernel_rfl)) rfl ?_
     exact pR (pE HB)
    ·
     rw [if_neg c7] at H
     have c7b0 : (a0_1 == 18446744073709551615) = false := beq_eq_false_iff_ne.mpr c7
     have c7b1 : (a0_1 != 18446744073709551615) = true := bne_iff_ne.mpr c7
     simp only [Option.some.injEq, Prod.mk.injEq] at H
     obtain ⟨rfl, rfl, rfl, rfl⟩ := H
     go_enter Tryz.func57, Tryz.ntmps57
     go_wp2_with (first | ((with_reducible refine gate_dst (N := 2) rfl ?_); refine boxA (N := 2) (cs := #[.bool true, .int .u64 a0_1, .int .u64 a0_2]) (t := 24) ?_; intro gb406 hg w21 hbox hb; have BK406 := Aside0.mk (hbox); have GW406 := (pZ HB hg); have GE406 := (pZ HB hg); replace HB := (pS HB hb); clear hb hbox hg) | ((with_reducible refine gate_dst (N := 4) rfl ?_); refine boxA (N := 4) (cs := #[.bool false, .int .u64 0, .int .u64 0]) (t := 24) ?_; intro gb407 hg w22 hbox hb; have BK407 := Aside0.mk (hbox); have GW407 := (pZ HB hg); have GE407 := (pZ HB hg); have NB406_407 := (pL BK406 hg); have NB407_406 := (pG BK406 hg); replace BK406 := (pB BK406 hb); replace HB := (pS HB hb); clear hb hbox hg; have hnb23 := NB406_407.out; have hnc23 := NB407_406.out; obtain ⟨hcz24_0, hcz24_1, hcz24_2, hfz24_0, hfz24_1, hfz24_2⟩ := pC3 BK406) | ((with_reducible refine gate_callee (f := 54) rfl ?_); refine goesA (some 8) Tryz.func54 #[.agg #[.bool true, .int .u64 a0_1, .int .u64 a0_2]] ?_; (with_reducible refine (ddiref02_Valid.calls true a0_1 a0_2 true _ A3.out).mono ?_); rintro e w25 ⟨rfl, hb⟩; refine ⟨_, rfl, ?_⟩; replace BK406 := (pB BK406 hb); replace BK407 := (pB BK407 hb); replace HB := (pS HB hb); (try clear hb); obtain ⟨hcz26_0, hcz26_1, hcz26_2, hfz26_0, hfz26_1, hfz26_2⟩ := pC3 BK406) | ((with_reducible refine gate_dst (N := 6) rfl ?_); refine boxA (N := 6) (cs := #[.bool false, .int .u64 0, .int .u64 0]) (t := 24) ?_; intro gb409 hg w27 hbox hb; have BK409 := Aside0.mk (hbox); have GW409 := (pZ HB hg); have GE409 := (pZ HB hg); have NB406_409 := (pL BK406 hg); have NB409_406 := (pG BK406 hg); have NB407_409 := (pL BK407 hg); have NB409_407 := (pG BK407 hg); replace BK406 := (pB BK406 hb); replace BK407 := (pB BK407 hb); replace HB := (pS HB hb); clear hb hbox hg; have hnb28 := NB409_406.out; have hnc28 := NB406_409.out; have hnb29 := NB409_407.out; have hnc29 := NB407_409.out; obtain ⟨hcz30_0, hcz30_1, hcz30_2, hfz30_0, hfz30_1, hfz30_2⟩ := pC3 BK409; obtain ⟨hcz31_0, hcz31_1, hcz31_2, hfz31_0, hfz31_1, hfz31_2⟩ := pC3 BK406; obtain ⟨hcz32_0, hcz32_1, hcz32_2, hfz32_0, hfz32_1, hfz32_2⟩ := pC3 BK407) | ((with_reducible refine gate_store (t := 24) (p := 4) rfl ?_); refine store_event (t := 24) (p := 4) (v := ?vo_w33) (w1 := (((((((w27.setCell ⟨gb409, 0, none⟩ (.bool true)).setCell ⟨gb409, 1, none⟩ (.int .u64 a0_1)).setCell ⟨gb409, 2, none⟩ (.int .u64 (IntKind.u64.wrap (a0_2 + a1)))).setCell ⟨gb409, 1, none⟩ (.int .u64 (IntKind.u64.wrap (a0_1 + 1)))).setCell ⟨gb407, 0, none⟩ (.bool true)).setCell ⟨gb407, 1, none⟩ (.int .u64 (IntKind.u64.wrap (a0_1 + 1)))).setCell ⟨gb407, 2, none⟩ (.int .u64 (IntKind.u64.wrap (a0_2 + a1))))) ?hg ?ho ?hn ?hr ?_; (case ho => rfl); (case hg => rfl); (case hn => rfl); (case hr => first | (exact Ext.run_store_chain 24 _ _ rfl _ _ _ _ rfl rfl (pK NB407_409 (pK NB407_409 (pK NB407_409 (pK NB407_409 (pM BK407))))) (by kernel_rfl) rfl rfl rfl) | (go_simp; done) | (go_simp; rfl)); intro w33 hw; replace BK406 : Aside0 (w33.heap[gb406]? = some (.cells #[.bool true, .int .u64 a0_1, .int .u64 a0_2] 24 (0, 0))) := (pW hw (pK NB406_407 (pK NB406_407 (pK NB406_407 (pK NB406_409 (pK NB406_409 (pK NB406_409 (pK NB406_409 (pM BK406))))))))); replace BK407 : Aside0 (w33.heap[gb407]? = some (.cells #[.bool true, .int .u64 (IntKind.u64.wrap (a0_1 + 1)), .int .u64 (IntKind.u64.wrap (a0_2 + a1))] 24 (0, 0))) := (pW hw (pP (pP (pP (pK NB407_409 (pK NB407_409 (pK NB407_409 (pK NB407_409 (pM BK407))))))))); replace BK409 : Aside0 (w33.heap[gb409]? = some (.cells #[.bool true, .int .u64 (IntKind.u64.wrap (a0_1 + 1)), .int .u64 (IntKind.u64.wrap (a0_2 + a1))] 24 (0, 0))) := (pW hw (pK NB409_407 (pK NB409_407 (pK NB409_407 (pP (pP (pP (pP (pM BK409))))))))); replace HB : Aside0 (Below w.heap.size w w33) := ⟨(by rw [hw]; exact (by repeat (first | (with_reducible first | exact HB.out | apply below_alloc | apply pw_below_drewN | apply below_drew1 | refine below_set ?_ GE406.out | refine below_set ?_ GE407.out | refine below_set ?_ GE409.out) | exact HB.out)))⟩; clear hw))
     refine bodyPost_ret (results_ct rfl _ _ gb407 24 #[.bool true, .int .u64 (IntKind.u64.wrap (a0_1 + 1)), .int .u64 (IntKind.u64.wrap (a0_2 + a1))] (0, 0) _ rfl (pM BK407) Tryz.underlying24 rfl (by kernel_rfl)) rfl ?_
     exact pR (pE HB)
   ·
    rw [if_neg c6] at H
    have c6b0 := decide_eq_false c6
    clear c6
    simp only [Option.some.injEq, Prod.mk.injEq] at H
    obtain ⟨rfl, rfl, rfl, rfl⟩ := H
    go_enter Tryz.func57, Tryz.ntmps57
    go_wp2_with (first | ((with_reducible refine gate_dst (N := 2) rfl ?_); refine boxA (N := 2) (cs := #[.bool true, .int .u64 a0_1, .int .u64 a0_2]) (t := 24) ?_; intro gb406 hg w34 hbox hb; have BK406 := Aside0.mk (hbox); have GW406 := (pZ HB hg); have GE406 := (pZ HB hg); replace HB := (pS HB hb); clear hb hbox hg) | ((with_reducible refine gate_dst (N := 4) rfl ?_); refine boxA (N := 4) (cs := #[.bool false, .int .u64 0, .int .u64 0]) (t := 24) ?_; intro gb407 hg w35 hbox hb; have BK407 := Aside0.mk (hbox); have GW407 := (pZ HB hg); have GE407 := (pZ HB hg); have NB406_407 := (pL BK406 hg); have NB407_406 := (pG BK406 hg); replace BK406 := (pB BK406 hb); replace HB := (pS HB hb); clear hb hbox hg; have hnb36 := NB406_407.out; have hnc36 := NB407_406.out; obtain ⟨hcz37_0, hcz37_1, hcz37_2, hfz37_0, hfz37_1, hfz37_2⟩ := pC3 BK406) | ((with_reducible refine gate_callee (f := 54) rfl ?_); refine goesA (some 8) Tryz.func54 #[.agg #[.bool true, .int .u64 a0_1, .int .u64 a0_2]] ?_; (with_reducible refine (ddiref02_Valid.calls true a0_1 a0_2 true _ A3.out).mono ?_); rintro e w38 ⟨rfl, hb⟩; refine ⟨_, rfl, ?_⟩; replace BK406 := (pB BK406 hb); replace BK407 := (pB BK407 hb); replace HB := (pS HB hb); (try clear hb); obtain ⟨hcz39_0, hcz39_1, hcz39_2, hfz39_0, hfz39_1, hfz39_2⟩ := pC3 BK406) | ((with_reducible refine gate_dst (N := 6) rfl ?_); refine boxA (N := 6) (cs := #[.bool false, .int .u64 0, .int .u64 0]) (t := 24) ?_; intro gb409 hg w40 hbox hb; have BK409 := Aside0.mk (hbox); have GW409 := (pZ HB hg); have GE409 := (pZ HB hg); have NB406_409 := (pL BK406 hg); have NB409_406 := (pG BK406 hg); have NB407_409 := (pL BK407 hg); have NB409_407 := (pG BK407 hg); replace BK406 := (pB BK406 hb); replace BK407 := (pB BK407 hb); replace HB := (pS HB hb); clear hb hbox hg; have hnb41 := NB409_406.out; have hnc41 := NB406_409.out; have hnb42 := NB409_407.out; have hnc42 := NB407_409.out; obtain ⟨hcz43_0, hcz43_1, hcz43_2, hfz43_0, hfz43_1, hfz43_2⟩ := pC3 BK409; obtain ⟨hcz44_0, hcz44_1, hcz44_2, hfz44_0, hfz44_1, hfz44_2⟩ := pC3 BK406; obtain ⟨hcz45_0, hcz45_1, hcz45_2, hfz45_0, hfz45_1, hfz45_2⟩ := pC3 BK407) | ((with_reducible refine gate_store (t := 24) (p := 4) rfl ?_); refine store_event (t := 24) (p := 4) (v := ?vo_w46) (w1 := ((((((w40.setCell ⟨gb409, 0, none⟩ (.bool true)).setCell ⟨gb409, 1, none⟩ (.int .u64 a0_1)).setCell ⟨gb409, 2, none⟩ (.int .u64 (IntKind.u64.wrap (a0_2 + a1)))).setCell ⟨gb407, 0, none⟩ (.bool true)).setCell ⟨gb407, 1, none⟩ (.int .u64 a0_1)).setCell ⟨gb407, 2, none⟩ (.int .u64 (IntKind.u64.wrap (a0_2 + a1))))) ?hg ?ho ?hn ?hr ?_; (case ho => rfl); (case hg => rfl); (case hn => rfl); (case hr => first | (exact Ext.run_store_chain 24 _ _ rfl _ _ _ _ rfl rfl (pK NB407_409 (pK NB407_409 (pK NB407_409 (pM BK407)))) (by kernel_rfl) rfl rfl rfl) | (go_simp; done) | (go_simp; rfl)); intro w46 hw; replace BK406 : Aside0 (w46.heap[gb406]? = some (.cells #[.bool true, .int .u64 a0_1, .int .u64 a0_2] 24 (0, 0))) := (pW hw (pK NB406_407 (pK NB406_407 (pK NB406_407 (pK NB406_409 (pK NB406_409 (pK NB406_409 (pM BK406)))))))); replace BK407 : Aside0 (w46.heap[gb407]? = some (.cells #[.bool true, .int .u64 a0_1, .int .u64 (IntKind.u64.wrap (a0_2 + a1))] 24 (0, 0))) := (pW hw (pP (pP (pP (pK NB407_409 (pK NB407_409 (pK NB407_409 (pM BK407)))))))); replace BK409 : Aside0 (w46.heap[gb409]? = some (.cells #[.bool true, .int .u64 a0_1, .int .u64 (IntKind.u64.wrap (a0_2 + a1))] 24 (0, 0))) := (pW hw (pK NB409_407 (pK NB409_407 (pK NB409_407 (pP (pP (pP (pM BK409)))))))); replace HB : Aside0 (Below w.heap.size w w46) := ⟨(by rw [hw]; exact (by repeat (first | (with_reducible first | exact HB.out | apply below_alloc | apply pw_below_drewN | apply below_drew1 | refine below_set ?_ GE406.out | refine below_set ?_ GE407.out | refine below_set ?_ GE409.out) | exact HB.out)))⟩; clear hw))
    refine bodyPost_ret (results_ct rfl _ _ gb407 24 #[.bool true, .int .u64 a0_1, .int .u64 (IntKind.u64.wrap (a0_2 + a1))] (0, 0) _ rfl (pM BK407) Tryz.underlying24 rfl (by kernel_rfl)) rfl ?_
    exact pR (pE HB)
  ·
   replace c5 := Bool.eq_false_iff.mpr c5
   subst c5
   rw [if_neg (show ¬ (false = true) by decide)] at H
   by_cases c47 : a1 > (IntKind.u64.wrap (4294967295 - a0_2))
   ·
    rw [if_pos c47] at H
    have c47b0 := decide_eq_true c47
    clear c47
    simp only [Option.some.injEq, Prod.mk.injEq] at H
    obtain ⟨rfl, rfl, rfl, rfl⟩ := H
    go_enter Tryz.func57, Tryz.ntmps57
    go_wp2_with (first | ((with_reducible refine gate_dst (N := 2) rfl ?_); refine boxA (N := 2) (cs := #[.bool false, .int .u64 a0_1, .int .u64 a0_2]) (t := 24) ?_; intro gb406 hg w48 hbox hb; have BK406 := Aside0.mk (hbox); have GW406 := (pZ HB hg); have GE406 := (pZ HB hg); replace HB := (pS HB hb); clear hb hbox hg) | ((with_reducible refine gate_dst (N := 4) rfl ?_); refine boxA (N := 4) (cs := #[.bool false, .int .u64 0, .int .u64 0]) (t := 24) ?_; intro gb407 hg w49 hbox hb; have BK407 := Aside0.mk (hbox); have GW407 := (pZ HB hg); have GE407 := (pZ HB hg); have NB406_407 := (pL BK406 hg); have NB407_406 := (pG BK406 hg); replace BK406 := (pB BK406 hb); replace HB := (pS HB hb); clear hb hbox hg; have hnb50 := NB406_407.out; have hnc50 := NB407_406.out; obtain ⟨hcz51_0, hcz51_1, hcz51_2, hfz51_0, hfz51_1, hfz51_2⟩ := pC3 BK406) | ((with_reducible refine gate_callee (f := 54) rfl ?_); refine goesA (some 8) Tryz.func54 #[.agg #[.bool false, .int .u64 a0_1, .int .u64 a0_2]] ?_; (with_reducible refine (ddiref02_Valid.calls false a0_1 a0_2 true _ A3.out).mono ?_); rintro e w52 ⟨rfl, hb⟩; refine ⟨_, rfl, ?_⟩; replace BK406 := (pB BK406 hb); replace BK407 := (pB BK407 hb); replace HB := (pS HB hb); (try clear hb); obtain ⟨hcz53_0, hcz53_1, hcz53_2, hfz53_0, hfz53_1, hfz53_2⟩ := pC3 BK406; obtain ⟨hcz54_0, hcz54_1, hcz54_2, hfz54_0, hfz54_1, hfz54_2⟩ := pC3 BK407))
    refine bodyPost_ret (results_ct rfl _ _ gb407 24 #[.bool false, .int .u64 0, .int .u64 0] (0, 0) _ rfl (pP (pP (pP (pM BK407)))) Tryz.underlying24 rfl (by kernel_rfl)) rfl ?_
    exact pR (pE HB)
   ·
    rw [if_neg c47] at H
    have c47b0 := decide_eq_false c47
    clear c47
    simp only [Option.some.injEq, Prod.mk.injEq] at H
    obtain ⟨rfl, rfl, rfl, rfl⟩ := H
    go_enter Tryz.func57, Tryz.ntmps57
    go_wp2_with (first | ((with_reducible refine gate_dst (N := 2) rfl ?_); refine boxA (N := 2) (cs := #[.bool false, .int .u64 a0_1, .int .u64 a0_2]) (t := 24) ?_; intro gb406 hg w55 hbox hb; have BK406 := Aside0.mk (hbox); have GW406 := (pZ HB hg); have GE406 := (pZ HB hg); replace HB := (pS HB hb); clear hb hbox hg) | ((with_reducible refine gate_dst (N := 4) rfl ?_); refine boxA (N := 4) (cs := #[.bool false, .int .u64 0, .int .u64 0]) (t := 24) ?_; intro gb407 hg w56 hbox hb; have BK407 := Aside0.mk (hbox); have GW407 := (pZ HB hg); have GE407 := (pZ HB hg); have NB406_407 := (pL BK406 hg); have NB407_406 := (pG BK406 hg); replace BK406 := (pB BK406 hb); replace HB := (pS HB hb); clear hb hbox hg; have hnb57 := NB406_407.out; have hnc57 := NB407_406.out; obtain ⟨hcz58_0, hcz58_1, hcz58_2, hfz58_0, hfz58_1, hfz58_2⟩ := pC3 BK406) | ((with_reducible refine gate_callee (f := 54) rfl ?_); refine goesA (some 8) Tryz.func54 #[.agg #[.bool false, .int .u64 a0_1, .int .u64 a0_2]] ?_; (with_reducible refine (ddiref02_Valid.calls false a0_1 a0_2 true _ A3.out).mono ?_); rintro e w59 ⟨rfl, hb⟩; refine ⟨_, rfl, ?_⟩; replace BK406 := (pB BK406 hb); replace BK407 := (pB BK407 hb); replace HB := (pS HB hb); (try clear hb); obtain ⟨hcz60_0, hcz60_1, hcz60_2, hfz60_0, hfz60_1, hfz60_2⟩ := pC3 BK406; obtain ⟨hcz61_0, hcz61_1, hcz61_2, hfz61_0, hfz61_1, hfz61_2⟩ := pC3 BK407))
    refine bodyPost_ret (results_ct rfl _ _ gb407 24 #[.bool false, .int .u64 0, .int .u64 (IntKind.u64.wrap (a0_2 + a1))] (0, 0) _ rfl (pP (pP (pP (pM BK407)))) Tryz.underlying24 rfl (by kernel_rfl)) rfl ?_
    exact pR (pE HB)
 ·
  replace c4 := Bool.eq_false_iff.mpr c4
  subst c4
  rw [if_neg (show ¬ (false = true) by decide)] at H
  simp only [Option.some.injEq, Prod.mk.injEq] at H
  obtain ⟨rfl, rfl, rfl, rfl⟩ := H
  go_enter Tryz.func57, Tryz.ntmps57
  go_wp2_with (first | ((with_reducible refine gate_dst (N := 2) rfl ?_); refine boxA (N := 2) (cs := #[.bool a0_0, .int .u64 a0_1, .int .u64 a0_2]) (t := 24) ?_; intro gb406 hg w62 hbox hb; have BK406 := Aside0.mk (hbox); have GW406 := (pZ HB hg); have GE406 := (pZ HB hg); replace HB := (pS HB hb); clear hb hbox hg) | ((with_reducible refine gate_dst (N := 4) rfl ?_); refine boxA (N := 4) (cs := #[.bool false, .int .u64 0, .int .u64 0]) (t := 24) ?_; intro gb407 hg w63 hbox hb; have BK407 := Aside0.mk (hbox); have GW407 := (pZ HB hg); have GE407 := (pZ HB hg); have NB406_407 := (pL BK406 hg); have NB407_406 := (pG BK406 hg); replace BK406 := (pB BK406 hb); replace HB := (pS HB hb); clear hb hbox hg; have hnb64 := NB406_407.out; have hnc64 := NB407_406.out; obtain ⟨hcz65_0, hcz65_1, hcz65_2, hfz65_0, hfz65_1, hfz65_2⟩ := pC3 BK406) | ((with_reducible refine gate_callee (f := 54) rfl ?_); refine goesA (some 8) Tryz.func54 #[.agg #[.bool a0_0, .int .u64 a0_1, .int .u64 a0_2]] ?_; (with_reducible refine (ddiref02_Valid.calls a0_0 a0_1 a0_2 false _ A3.out).mono ?_); rintro e w66 ⟨rfl, hb⟩; refine ⟨_, rfl, ?_⟩; replace BK406 := (pB BK406 hb); replace BK407 := (pB BK407 hb); replace HB := (pS HB hb); (try clear hb); obtain ⟨hcz67_0, hcz67_1, hcz67_2, hfz67_0, hfz67_1, hfz67_2⟩ := pC3 BK407))
  refine bodyPost_ret (results_ct rfl _ _ gb407 24 #[.bool false, .int .u64 0, .int .u64 0] (0, 0) _ rfl (pP (pP (pP (pM BK407)))) Tryz.underlying24 rfl (by kernel_rfl)) rfl ?_
  exact pR (pE HB)
end Go.Proofs.YteflcmmandlknaaGreatDoor.PA
