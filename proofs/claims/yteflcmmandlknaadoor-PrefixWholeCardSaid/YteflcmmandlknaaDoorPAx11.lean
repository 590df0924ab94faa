/- The Go functions in Lean, with the proofs that the code comes to these answers: printed by this session's program (wip/px) out of the seat's translation. Conditions: each theorem's own. -/
import Derived.Test.YteflcmmandlknaaDoorPAx0
import Derived.Test.YteflcmmandlknaaDoorPAx3
import Derived.Test.YteflcmmandlknaaDoorPAx10
namespace Go.Proofs.YteflcmmandlknaaDoor.PA
open Go.RowKit Go.Proofs.YteflcmmandlknaaDoorW.PrintWords Go.Proofs.YteflcmmandlknaaDoorW.PrintLast Go.Proofs.YteflcmmandlknaaDoorW.PrintMore
attribute [local go_sem] max2_int min2_int max_two min_two max_three min_three max_four min_four   -- for this text's walks alone
attribute [local go_sem ↓] Ext.isSome_setCell
open Press
set_option linter.unusedVariables false
set_option linter.unusedSimpArgs false

/-! ### prefix_Halves: function 22 -/
def prefix_Halves.f (k : Nat) (a0_0 : Bool) (a0_1 : Int) (a0_2 : Int) (a0_3 : Int) : Option (Bool × Int × Int × Int × Bool × Int × Int × Int × Bool) := (prefix_Part.f k a0_0 a0_1 a0_2 a0_3 (wrap64 (a0_3 + 1)) 0).bind fun bt206 => (if bt206.2.2.2.2 = true then ((prefix_Valid.f a0_0 a0_1 a0_2 a0_3).bind fun t212 => (if t212 = true then ((prefix_Part.f k a0_0 a0_1 a0_2 a0_3 (wrap64 (a0_3 + 1)) 1).bind fun bt213 => (some (bt206.1, bt206.2.1, bt206.2.2.1, bt206.2.2.2.1, bt213.1, bt213.2.1, bt213.2.2.1, bt213.2.2.2.1, bt213.2.2.2.2))) else (some (false, 0, 0, 0, false, 0, 0, 0, false)))) else (some (false, 0, 0, 0, false, 0, 0, 0, false)))
theorem prefix_Halves.mono : ∀ a0 a1 a2 a3 k, LeO (prefix_Halves.f k a0 a1 a2 a3) (prefix_Halves.f (k + 1) a0 a1 a2 a3) := by
 intro a0 a1 a2 a3 k
 unfold prefix_Halves.f
 repeat' first
  | (with_reducible exact prefix_Part.mono _ _ _ _ _ _ _)
  | (with_reducible exact LeO.refl _)
  | (with_reducible exact LeO.none _)
  | (with_reducible refine LeO.ite ?_ ?_)
  | (with_reducible refine LeO.bind ?_ (fun _ => ?_))
  | exact prefix_Part.mono _ _ _ _ _ _ _
  | exact LeO.none _
  | refine LeO.ite ?_ ?_
  | refine LeO.bind ?_ (fun _ => ?_)
set_option maxHeartbeats 40000000 in
set_option maxRecDepth 100000 in
theorem prefix_Halves.calls (k : Nat) (a0_0 : Bool) (a0_1 : Int) (a0_2 : Int) (a0_3 : Int) (r1 : Bool) (r2 : Int) (r3 : Int) (r4 : Int) (r5 : Bool) (r6 : Int) (r7 : Int) (r8 : Int) (r9 : Bool) (w : World) (h : prefix_Halves.f k a0_0 a0_1 a0_2 a0_3 = some (r1, r2, r3, r4, r5, r6, r7, r8, r9)) :
 Calls Tryd.prog 22 #[.agg #[.bool a0_0, .int .u64 a0_1, .int .u64 a0_2, .int .i64 a0_3]] w fun e w' => e = .returned (.tuple #[.agg #[.bool r1, .int .u64 r2, .int .u64 r3, .int .i64 r4], .agg #[.bool r5, .int .u64 r6, .int .u64 r7, .int .i64 r8], .bool r9]) ∧ Below w.heap.size w w' := by
 have hu26 := Tryd.underlying26
 have HB := Aside0.mk (Below.refl w.heap.size w)
 have H : ((prefix_Part.f k a0_0 a0_1 a0_2 a0_3 (wrap64 (a0_3 + 1)) 0).bind fun bt206 => (if bt206.2.2.2.2 = true then ((prefix_Valid.f a0_0 a0_1 a0_2 a0_3).bind fun t212 => (if t212 = true then ((prefix_Part.f k a0_0 a0_1 a0_2 a0_3 (wrap64 (a0_3 + 1)) 1).bind fun bt213 => (some (bt206.1, bt206.2.1, bt206.2.2.1, bt206.2.2.2.1, bt213.1, bt213.2.1, bt213.2.2.1, bt213.2.2.2.1, bt213.2.2.2.2))) else (some (false, 0, 0, 0, false, 0, 0, 0, false)))) else (some (false, 0, 0, 0, false, 0, 0, 0, false)))) = some (r1, r2, r3, r4, r5, r6, r7, r8, r9) := h
 clear h
 replace H := Option.bind_eq_some_iff.mp H
 obtain ⟨⟨t206, t207, t208, t209, t210⟩, A20, H⟩ := H
 replace H : (if t210 = true then ((prefix_Valid.f a0_0 a0_1 a0_2 a0_3).bind fun t212 => (if t212 = true then ((prefix_Part.f k a0_0 a0_1 a0_2 a0_3 (wrap64 (a0_3 + 1)) 1).bind fun bt213 => (some (t206, t207, t208, t209, bt213.1, bt213.2.1, bt213.2.2.1, bt213.2.2.2.1, bt213.2.2.2.2))) else (some (false, 0, 0, 0, false, 0, 0, 0, false)))) else (some (false, 0, 0, 0, false, 0, 0, 0, false))) = some (r1, r2, r3, r4, r5, r6, r7, r8, r9) := H
 have A2 := Aside0.mk A20
 clear A20
 by_cases c3 : t210 = true
 ·
  subst c3
  have H1 : ((prefix_Valid.f a0_0 a0_1 a0_2 a0_3).bind fun t212 => (if t212 = true then ((prefix_Part.f k a0_0 a0_1 a0_2 a0_3 (wrap64 (a0_3 + 1)) 1).bind fun bt213 => (some (t206, t207, t208, t209, bt213.1, bt213.2.1, bt213.2.2.1, bt213.2.2.2.1, bt213.2.2.2.2))) else (some (false, 0, 0, 0, false, 0, 0, 0, false)))) = some (r1, r2, r3, r4, r5, r6, r7, r8, r9) := by rw [if_pos rfl] at H; exact H
  clear H
  have H := H1
  clear H1
  replace H := Option.bind_eq_some_iff.mp H
  obtain ⟨t212, A40, H⟩ := H
  replace H : (if t212 = true then ((prefix_Part.f k a0_0 a0_1 a0_2 a0_3 (wrap64 (a0_3 + 1)) 1).bind fun bt213 => (some (t206, t207, t208, t209, bt213.1, bt213.2.1, bt213.2.2.1, bt213.2.2.2.1, bt213.2.2.2.2))) else (some (false, 0, 0, 0, false, 0, 0, 0, false))) = some (r1, r2, r3, r4, r5, r6, r7, r8, r9) := H
  have A4 := Aside0.mk A40
  clear A40
  by_cases c5 : t212 = true
  ·
   subst c5
   have H1 : ((prefix_Part.f k a0_0 a0_1 a0_2 a0_3 (wrap64 (a0_3 + 1)) 1).bind fun bt213 => (some (t206, t207, t208, t209, bt213.1, bt213.2.1, bt213.2.2.1, bt213.2.2.2.1, bt213.2.2.2.2))) = some (r1, r2, r3, r4, r5, r6, r7, r8, r9) := by rw [if_pos rfl] at H; exact H
   clear H
   have H := H1
   clear H1
   replace H := Option.bind_eq_some_iff.mp H
   obtain ⟨⟨t213, t214, t215, t216, t217⟩, A60, H⟩ := H
   replace H : (some (t206, t207, t208, t209, t213, t214, t215, t216, t217)) = some (r1, r2, r3, r4, r5, r6, r7, r8, r9) := H
   have A6 := Aside0.mk A60
   clear A60
   simp only [Option.some.injEq, Prod.mk.injEq] at H
   obtain ⟨rfl, rfl, rfl, rfl, rfl, rfl, rfl, rfl, rfl⟩ := H
   go_enter Tryd.func22, Tryd.ntmps22
   try go_wp2_with (first | ((with_reducible refine gate_dst (N := 1) rfl ?_); refine boxA (N := 1) (cs := #[.bool a0_0, .int .u64 a0_1, .int .u64 a0_2, .int .i64 a0_3]) (t := 26) ?_; intro gb203 hg w7 hbox hb; have BK203 := Aside0.mk (hbox); have GW203 := (pZ HB hg); have GE203 := (pZ HB hg); replace HB := (pS HB hb); clear hb hbox hg) | ((with_reducible refine gate_dst (N := 2) rfl ?_); refine boxA (N := 2) (cs := #[.bool false, .int .u64 0, .int .u64 0, .int .i64 0]) (t := 26) ?_; intro gb204 hg w8 hbox hb; have BK204 := Aside0.mk (hbox); have GW204 := (pZ HB hg); have GE204 := (pZ HB hg); have NB203_204 := (pL BK203 hg); have NB204_203 := (pG BK203 hg); replace BK203 := (pB BK203 hb); replace HB := (pS HB hb); clear hb hbox hg) | ((with_reducible refine gate_dst (N := 3) rfl ?_); refine boxA (N := 3) (cs := #[.bool false, .int .u64 0, .int .u64 0, .int .i64 0]) (t := 26) ?_; intro gb205 hg w9 hbox hb; have BK205 := Aside0.mk (hbox); have GW205 := (pZ HB hg); have GE205 := (pZ HB hg); have NB203_205 := (pL BK203 hg); have NB205_203 := (pG BK203 hg); have NB204_205 := (pL BK204 hg); have NB205_204 := (pG BK204 hg); replace BK203 := (pB BK203 hb); replace BK204 := (pB BK204 hb); replace HB := (pS HB hb); clear hb hbox hg; have hnb10 := NB203_204.out; have hnc10 := NB204_203.out; have hnb11 := NB203_205.out; have hnc11 := NB205_203.out; obtain ⟨hcz12_0, hcz12_1, hcz12_2, hcz12_3, hfz12_0, hfz12_1, hfz12_2, hfz12_3⟩ := pC4 BK203) | ((with_reducible refine gate_callee (f := 24) rfl ?_); refine goesA (some 13) Tryd.func24 #[.agg #[.bool a0_0, .int .u64 a0_1, .int .u64 a0_2, .int .i64 a0_3], .int .i64 (wrap64 (a0_3 + 1)), .int .u64 0] ?_; (with_reducible refine (prefix_Part.calls k a0_0 a0_1 a0_2 a0_3 (wrap64 (a0_3 + 1)) 0 t206 t207 t208 t209 true _ A2.out).mono ?_); rintro e w13 ⟨rfl, hb⟩; refine ⟨_, rfl, ?_⟩; replace BK203 := (pB BK203 hb); replace BK204 := (pB BK204 hb); replace BK205 := (pB BK205 hb); replace HB := (pS HB hb); (try clear hb)) | ((with_reducible refine gate_dst (N := 5) rfl ?_); refine boxA (N := 5) (cs := #[.bool false, .int .u64 0, .int .u64 0, .int .i64 0]) (t := 26) ?_; intro gb211 hg w14 hbox hb; have BK211 := Aside0.mk (hbox); have GW211 := (pZ HB hg); have GE211 := (pZ HB hg); have NB203_211 := (pL BK203 hg); have NB211_203 := (pG BK203 hg); have NB204_211 := (pL BK204 hg); have NB211_204 := (pG BK204 hg); have NB205_211 := (pL BK205 hg); have NB211_205 := (pG BK205 hg); replace BK203 := (pB BK203 hb); replace BK204 := (pB BK204 hb); replace BK205 := (pB BK205 hb); replace HB := (pS HB hb); clear hb hbox hg; have hnb15 := NB211_203.out; have hnc15 := NB203_211.out; have hnb16 := NB211_204.out; have hnc16 := NB204_211.out; have hnb17 := NB211_205.out; have hnc17 := NB205_211.out; obtain ⟨hcz18_0, hcz18_1, hcz18_2, hcz18_3, hfz18_0, hfz18_1, hfz18_2, hfz18_3⟩ := pC4 BK211; obtain ⟨hcz19_0, hcz19_1, hcz19_2, hcz19_3, hfz19_0, hfz19_1, hfz19_2, hfz19_3⟩ := pC4 BK203) | (go_at_call 9; (with_reducible refine (prefix_Valid.calls a0_0 a0_1 a0_2 a0_3 true _ A4.out).mono ?_); rintro e w20 ⟨rfl, hb⟩; replace BK203 := (pD hb (pK NB203_211 (pK NB203_211 (pK NB203_211 (pK NB203_211 (pM BK203)))))); replace BK204 := (pD hb (pK NB204_211 (pK NB204_211 (pK NB204_211 (pK NB204_211 (pM BK204)))))); replace BK205 := (pD hb (pK NB205_211 (pK NB205_211 (pK NB205_211 (pK NB205_211 (pM BK205)))))); replace BK211 := (pD hb (pP (pP (pP (pP (pM BK211)))))); replace HB := (pS HB hb); (try clear hb); obtain ⟨hcz21_0, hcz21_1, hcz21_2, hcz21_3, hfz21_0, hfz21_1, hfz21_2, hfz21_3⟩ := pC4 BK203) | ((with_reducible refine gate_callee (f := 24) rfl ?_); refine goesA (some 30) Tryd.func24 #[.agg #[.bool a0_0, .int .u64 a0_1, .int .u64 a0_2, .int .i64 a0_3], .int .i64 (wrap64 (a0_3 + 1)), .int .u64 1] ?_; (with_reducible refine (prefix_Part.calls k a0_0 a0_1 a0_2 a0_3 (wrap64 (a0_3 + 1)) 1 t213 t214 t215 t216 t217 _ A6.out).mono ?_); rintro e w22 ⟨rfl, hb⟩; refine ⟨_, rfl, ?_⟩; replace BK203 := (pB BK203 hb); replace BK204 := (pB BK204 hb); replace BK205 := (pB BK205 hb); replace BK211 := (pB BK211 hb); replace HB := (pS HB hb); (try clear hb)) | ((with_reducible refine gate_dst (N := 7) rfl ?_); refine boxA (N := 7) (cs := #[.bool false, .int .u64 0, .int .u64 0, .int .i64 0]) (t := 26) ?_; intro gb218 hg w23 hbox hb; have BK218 := Aside0.mk (hbox); have GW218 := (pZ HB hg); have GE218 := (pZ HB hg); have NB203_218 := (pL BK203 hg); have NB218_203 := (pG BK203 hg); have NB204_218 := (pL BK204 hg); have NB218_204 := (pG BK204 hg); have NB205_218 := (pL BK205 hg); have NB218_205 := (pG BK205 hg); have NB211_218 := (pL BK211 hg); have NB218_211 := (pG BK211 hg); replace BK203 := (pB BK203 hb); replace BK204 := (pB BK204 hb); replace BK205 := (pB BK205 hb); replace BK211 := (pB BK211 hb); replace HB := (pS HB hb); clear hb hbox hg; have hnb24 := NB218_203.out; have hnc24 := NB203_218.out; have hnb25 := NB218_204.out; have hnc25 := NB204_218.out; have hnb26 := NB218_205.out; have hnc26 := NB205_218.out; have hnb27 := NB218_211.out; have hnc27 := NB211_218.out; obtain ⟨hcz28_0, hcz28_1, hcz28_2, hcz28_3, hfz28_0, hfz28_1, hfz28_2, hfz28_3⟩ := pC4 BK218))
   have n0_ : Aside0 (((((w23.setCell ⟨gb218, 0, none⟩ (.bool t213)).setCell ⟨gb218, 1, none⟩ (.int .u64 t214)).setCell ⟨gb218, 2, none⟩ (.int .u64 t215)).setCell ⟨gb218, 3, none⟩ (.int .i64 t216)).heap[gb203]? = some (.cells #[.bool a0_0, .int .u64 a0_1, .int .u64 a0_2, .int .i64 a0_3] 26 (0, 0))) := ⟨by (with_reducible repeat (first | refine blk_drewN ?_ _ | refine blk_drew ?_ | refine blk_alloc ?_ _)); refine blk_far ?_ NB203_218.out _; (with_reducible repeat (first | refine blk_drewN ?_ _ | refine blk_drew ?_ | refine blk_alloc ?_ _)); refine blk_far ?_ NB203_218.out _; (with_reducible repeat (first | refine blk_drewN ?_ _ | refine blk_drew ?_ | refine blk_alloc ?_ _)); refine blk_far ?_ NB203_218.out _; (with_reducible repeat (first | refine blk_drewN ?_ _ | refine blk_drew ?_ | refine blk_alloc ?_ _)); refine blk_far ?_ NB203_218.out _; (with_reducible repeat (first | refine blk_drewN ?_ _ | refine blk_drew ?_ | refine blk_alloc ?_ _)); exact BK203.out⟩
   have n1_ : Aside0 (((((w23.setCell ⟨gb218, 0, none⟩ (.bool t213)).setCell ⟨gb218, 1, none⟩ (.int .u64 t214)).setCell ⟨gb218, 2, none⟩ (.int .u64 t215)).setCell ⟨gb218, 3, none⟩ (.int .i64 t216)).heap[gb204]? = some (.cells #[.bool false, .int .u64 0, .int .u64 0, .int .i64 0] 26 (0, 0))) := ⟨by (with_reducible repeat (first | refine blk_drewN ?_ _ | refine blk_drew ?_ | refine blk_alloc ?_ _)); refine blk_far ?_ NB204_218.out _; (with_reducible repeat (first | refine blk_drewN ?_ _ | refine blk_drew ?_ | refine blk_alloc ?_ _)); refine blk_far ?_ NB204_218.out _; (with_reducible repeat (first | refine blk_drewN ?_ _ | refine blk_drew ?_ | refine blk_alloc ?_ _)); refine blk_far ?_ NB204_218.out _; (with_reducible repeat (first | refine blk_drewN ?_ _ | refine blk_drew ?_ | refine blk_alloc ?_ _)); refine blk_far ?_ NB204_218.out _; (with_reducible repeat (first | refine blk_drewN ?_ _ | refine blk_drew ?_ | refine blk_alloc ?_ _)); exact BK204.out⟩
   have n2_ : Aside0 (((((w23.setCell ⟨gb218, 0, none⟩ (.bool t213)).setCell ⟨gb218, 1, none⟩ (.int .u64 t214)).setCell ⟨gb218, 2, none⟩ (.int .u64 t215)).setCell ⟨gb218, 3, none⟩ (.int .i64 t216)).heap[gb205]? = some (.cells #[.bool false, .int .u64 0, .int .u64 0, .int .i64 0] 26 (0, 0))) := ⟨by (with_reducible repeat (first | refine blk_drewN ?_ _ | refine blk_drew ?_ | refine blk_alloc ?_ _)); refine blk_far ?_ NB205_218.out _; (with_reducible repeat (first | refine blk_drewN ?_ _ | refine blk_drew ?_ | refine blk_alloc ?_ _)); refine blk_far ?_ NB205_218.out _; (with_reducible repeat (first | refine blk_drewN ?_ _ | refine blk_drew ?_ | refine blk_alloc ?_ _)); refine blk_far ?_ NB205_218.out _; (with_reducible repeat (first | refine blk_drewN ?_ _ | refine blk_drew ?_ | refine blk_alloc ?_ _)); refine blk_far ?_ NB205_218.out _; (with_reducible repeat (first | refine blk_drewN ?_ _ | refine blk_drew ?_ | refine blk_alloc ?_ _)); exact BK205.out⟩
   have n3_ : Aside0 (((((w23.setCell ⟨gb218, 0, none⟩ (.bool t213)).setCell ⟨gb218, 1, none⟩ (.int .u64 t214)).setCell ⟨gb218, 2, none⟩ (.int .u64 t215)).setCell ⟨gb218, 3, none⟩ (.int .i64 t216)).heap[gb211]? = some (.cells #[.bool t206, .int .u64 t207, .int .u64 t208, .int .i64 t209] 26 (0, 0))) := ⟨by (with_reducible repeat (first | refine blk_drewN ?_ _ | refine blk_drew ?_ | refine blk_alloc ?_ _)); refine blk_far ?_ NB211_218.out _; (with_reducible repeat (first | refine blk_drewN ?_ _ | refine blk_drew ?_ | refine blk_alloc ?_ _)); refine blk_far ?_ NB211_218.out _; (with_reducible repeat (first | refine blk_drewN ?_ _ | refine blk_drew ?_ | refine blk_alloc ?_ _)); refine blk_far ?_ NB211_218.out _; (with_reducible repeat (first | refine blk_drewN ?_ _ | refine blk_drew ?_ | refine blk_alloc ?_ _)); refine blk_far ?_ NB211_218.out _; (with_reducible repeat (first | refine blk_drewN ?_ _ | refine blk_drew ?_ | refine blk_alloc ?_ _)); exact BK211.out⟩
   have n4_ : Aside0 (((((w23.setCell ⟨gb218, 0, none⟩ (.bool t213)).setCell ⟨gb218, 1, none⟩ (.int .u64 t214)).setCell ⟨gb218, 2, none⟩ (.int .u64 t215)).setCell ⟨gb218, 3, none⟩ (.int .i64 t216)).heap[gb218]? = some (.cells #[.bool t213, .int .u64 t214, .int .u64 t215, .int .i64 t216] 26 (0, 0))) := ⟨by (with_reducible repeat (first | refine blk_drewN ?_ _ | refine blk_drew ?_ | refine blk_alloc ?_ _)); refine blk_put (cs := #[.bool t213, .int .u64 t214, .int .u64 t215, .int .i64 0]) ?_ 3 _ rfl; (with_reducible repeat (first | refine blk_drewN ?_ _ | refine blk_drew ?_ | refine blk_alloc ?_ _)); refine blk_put (cs := #[.bool t213, .int .u64 t214, .int .u64 0, .int .i64 0]) ?_ 2 _ rfl; (with_reducible repeat (first | refine blk_drewN ?_ _ | refine blk_drew ?_ | refine blk_alloc ?_ _)); refine blk_put (cs := #[.bool t213, .int .u64 0, .int .u64 0, .int .i64 0]) ?_ 1 _ rfl; (with_reducible repeat (first | refine blk_drewN ?_ _ | refine blk_drew ?_ | refine blk_alloc ?_ _)); refine blk_put (cs := #[.bool false, .int .u64 0, .int .u64 0, .int .i64 0]) ?_ 0 _ rfl; (with_reducible repeat (first | refine blk_drewN ?_ _ | refine blk_drew ?_ | refine blk_alloc ?_ _)); exact BK218.out⟩
   have n5_ : Aside0 (Below w.heap.size w ((((w23.setCell ⟨gb218, 0, none⟩ (.bool t213)).setCell ⟨gb218, 1, none⟩ (.int .u64 t214)).setCell ⟨gb218, 2, none⟩ (.int .u64 t215)).setCell ⟨gb218, 3, none⟩ (.int .i64 t216))) := ⟨pE HB⟩
   (try clear BK203)
   (try clear BK204)
   (try clear BK205)
   (try clear BK211)
   (try clear BK218)
   (try clear HB)
   generalize ((((w23.setCell ⟨gb218, 0, none⟩ (.bool t213)).setCell ⟨gb218, 1, none⟩ (.int .u64 t214)).setCell ⟨gb218, 2, none⟩ (.int .u64 t215)).setCell ⟨gb218, 3, none⟩ (.int .i64 t216)) = w29 at n0_ n1_ n2_ n3_ n4_ n5_ ⊢
   have BK203 := n0_
   have BK204 := n1_
   have BK205 := n2_
   have BK211 := n3_
   have BK218 := n4_
   have HB := n5_
   clear n0_ n1_ n2_ n3_ n4_ n5_
   replace BK203 := Aside0.mk (blk_drew BK203.out)
   replace BK204 := Aside0.mk (blk_drew BK204.out)
   replace BK205 := Aside0.mk (blk_drew BK205.out)
   replace BK211 := Aside0.mk (blk_drew BK211.out)
   replace BK218 := Aside0.mk (blk_drew BK218.out)
   replace HB := Aside0.mk (below_drew1 HB.out)
   refine start_ (n := 6) (S := fun w' => w'.cell? ⟨gb211, 0, none⟩ = some (.bool t206) ∧ w'.cell? ⟨gb211, 1, none⟩ = some (.int .u64 t207) ∧ w'.cell? ⟨gb211, 2, none⟩ = some (.int .u64 t208) ∧ w'.cell? ⟨gb211, 3, none⟩ = some (.int .i64 t209) ∧ w'.cell? ⟨gb218, 0, none⟩ = some (.bool t213) ∧ w'.cell? ⟨gb218, 1, none⟩ = some (.int .u64 t214) ∧ w'.cell? ⟨gb218, 2, none⟩ = some (.int .u64 t215) ∧ w'.cell? ⟨gb218, 3, none⟩ = some (.int .i64 t216)) (ds := []) (tk 6 0) (by kernel_rfl) rfl rfl ⟨(blk_cell BK211.out 0).trans rfl, (blk_cell BK211.out 1).trans rfl, (blk_cell BK211.out 2).trans rfl, (blk_cell BK211.out 3).trans rfl, (blk_cell BK218.out 0).trans rfl, (blk_cell BK218.out 1).trans rfl, (blk_cell BK218.out 2).trans rfl, (blk_cell BK218.out 3).trans rfl⟩ (fun hHeld => ?_)
   generalize w29.drew = w30 at BK203 BK204 BK205 BK211 BK218 HB hHeld ⊢
   refine pure_ (i := 2) (N := some 35) (v := ?_) (a' := ?_) (tr [0, 2, 1, 3]) rfl rfl (by kernel_rfl) (fun _ _ _ h => h) (Or.inl ⟨by rfl, ?_⟩) ?_ ?_
   rotate_left
   ·
    intro w'
    go_simp
    with_reducible rfl
   rotate_left
   ·
    simp only [Act.put, List.setIfInBounds_toArray, List.set_cons_zero, List.set_cons_succ, i64_w, i32_w]
    rfl
   refine take_ (i := 0) (N := some 33) (v := ?_) (a' := ?_) (tr [1, 1, 1, 3]) rfl rfl (by kernel_rfl) (fun _ _ _ h => h) (Or.inl ⟨by rfl, ?_⟩) hHeld ?_ ?_
   rotate_left
   ·
    rintro w' ⟨s0, s1, s2, s3, s4, s5, s6, s7⟩
    go_simp
    with_reducible rfl
   rotate_left
   ·
    simp only [Act.put, List.setIfInBounds_toArray, List.set_cons_zero, List.set_cons_succ, i64_w, i32_w]
    rfl
   refine take_ (i := 1) (N := some 34) (v := ?_) (a' := ?_) (tk 6 3) rfl rfl (by kernel_rfl) (fun _ _ _ h => h) (Or.inl ⟨by rfl, ?_⟩) hHeld ?_ ?_
   rotate_left
   ·
    rintro w' ⟨s0, s1, s2, s3, s4, s5, s6, s7⟩
    go_simp
    with_reducible rfl
   rotate_left
   ·
    simp only [Act.put, List.setIfInBounds_toArray, List.set_cons_zero, List.set_cons_succ, i64_w, i32_w]
    rfl
   refine one_ (i := 3) (N := none) (tk 6 4) rfl rfl (by kernel_rfl) (by decide) (fun K hK => ?_)
   have hs31 : w30.cell? ⟨gb204, 0, none⟩ = some (.bool false) := (blk_cell BK204.out 0).trans rfl
   have hfs31 := blk_frozen BK204.out 0
   have hns31_0 := NB203_204.out
   have hns31_2 := NB205_204.out
   have hns31_3 := NB211_204.out
   have hns31_4 := NB218_204.out
   have hms31_0 := NB204_203.out
   have hms31_2 := NB204_205.out
   have hms31_3 := NB204_211.out
   have hms31_4 := NB204_218.out
   have hs32 : w30.cell? ⟨gb204, 1, none⟩ = some (.int .u64 0) := (blk_cell BK204.out 1).trans rfl
   have hfs32 := blk_frozen BK204.out 1
   have hns32_0 := NB203_204.out
   have hns32_2 := NB205_204.out
   have hns32_3 := NB211_204.out
   have hns32_4 := NB218_204.out
   have hms32_0 := NB204_203.out
   have hms32_2 := NB204_205.out
   have hms32_3 := NB204_211.out
   have hms32_4 := NB204_218.out
   have hs33 : w30.cell? ⟨gb204, 2, none⟩ = some (.int .u64 0) := (blk_cell BK204.out 2).trans rfl
   have hfs33 := blk_frozen BK204.out 2
   have hns33_0 := NB203_204.out
   have hns33_2 := NB205_204.out
   have hns33_3 := NB211_204.out
   have hns33_4 := NB218_204.out
   have hms33_0 := NB204_203.out
   have hms33_2 := NB204_205.out
   have hms33_3 := NB204_211.out
   have hms33_4 := NB204_218.out
   have hs34 : w30.cell? ⟨gb204, 3, none⟩ = some (.int .i64 0) := (blk_cell BK204.out 3).trans rfl
   have hfs34 := blk_frozen BK204.out 3
   have hns34_0 := NB203_204.out
   have hns34_2 := NB205_204.out
   have hns34_3 := NB211_204.out
   have hns34_4 := NB218_204.out
   have hms34_0 := NB204_203.out
   have hms34_2 := NB204_205.out
   have hms34_3 := NB204_211.out
   have hms34_4 := NB204_218.out
   refine skip_ (w1 := ?_) (by rfl) rfl ?_ ?_
   rotate_left
   ·
    go_simp
    rfl
   refine hK.out _ _ ⟨((cell_far (p := ⟨gb204, _, none⟩) NB211_204.out _).trans (((cell_far (p := ⟨gb204, _, none⟩) NB211_204.out _).trans (((cell_far (p := ⟨gb204, _, none⟩) NB211_204.out _).trans (((cell_far (p := ⟨gb204, _, none⟩) NB211_204.out _).trans (hHeld.1)))))))), ((cell_far (p := ⟨gb204, _, none⟩) NB211_204.out _).trans (((cell_far (p := ⟨gb204, _, none⟩) NB211_204.out _).trans (((cell_far (p := ⟨gb204, _, none⟩) NB211_204.out _).trans (((cell_far (p := ⟨gb204, _, none⟩) NB211_204.out _).trans (hHeld.2.1)))))))), ((cell_far (p := ⟨gb204, _, none⟩) NB211_204.out _).trans (((cell_far (p := ⟨gb204, _, none⟩) NB211_204.out _).trans (((cell_far (p := ⟨gb204, _, none⟩) NB211_204.out _).trans (((cell_far (p := ⟨gb204, _, none⟩) NB211_204.out _).trans (hHeld.2.2.1)))))))), ((cell_far (p := ⟨gb204, _, none⟩) NB211_204.out _).trans (((cell_far (p := ⟨gb204, _, none⟩) NB211_204.out _).trans (((cell_far (p := ⟨gb204, _, none⟩) NB211_204.out _).trans (((cell_far (p := ⟨gb204, _, none⟩) NB211_204.out _).trans (hHeld.2.2.2.1)))))))), ((cell_far (p := ⟨gb204, _, none⟩) NB218_204.out _).trans (((cell_far (p := ⟨gb204, _, none⟩) NB218_204.out _).trans (((cell_far (p := ⟨gb204, _, none⟩) NB218_204.out _).trans (((cell_far (p := ⟨gb204, _, none⟩) NB218_204.out _).trans (hHeld.2.2.2.2.1)))))))), ((cell_far (p := ⟨gb204, _, none⟩) NB218_204.out _).trans (((cell_far (p := ⟨gb204, _, none⟩) NB218_204.out _).trans (((cell_far (p := ⟨gb204, _, none⟩) NB218_204.out _).trans (((cell_far (p := ⟨gb204, _, none⟩) NB218_204.out _).trans (hHeld.2.2.2.2.2.1)))))))), ((cell_far (p := ⟨gb204, _, none⟩) NB218_204.out _).trans (((cell_far (p := ⟨gb204, _, none⟩) NB218_204.out _).trans (((cell_far (p := ⟨gb204, _, none⟩) NB218_204.out _).trans (((cell_far (p := ⟨gb204, _, none⟩) NB218_204.out _).trans (hHeld.2.2.2.2.2.2.1)))))))), ((cell_far (p := ⟨gb204, _, none⟩) NB218_204.out _).trans (((cell_far (p := ⟨gb204, _, none⟩) NB218_204.out _).trans (((cell_far (p := ⟨gb204, _, none⟩) NB218_204.out _).trans (((cell_far (p := ⟨gb204, _, none⟩) NB218_204.out _).trans (hHeld.2.2.2.2.2.2.2))))))))⟩ (fun hHeld => ?_)
   clear hK K
   refine one_ (i := 4) (N := none) (tk 6 5) rfl rfl (by kernel_rfl) (by decide) (fun K hK => ?_)
   have hs35 : w30.cell? ⟨gb205, 0, none⟩ = some (.bool false) := (blk_cell BK205.out 0).trans rfl
   have hfs35 := blk_frozen BK205.out 0
   have hns35_0 := NB203_205.out
   have hns35_1 := NB204_205.out
   have hns35_3 := NB211_205.out
   have hns35_4 := NB218_205.out
   have hms35_0 := NB205_203.out
   have hms35_1 := NB205_204.out
   have hms35_3 := NB205_211.out
   have hms35_4 := NB205_218.out
   have hs36 : w30.cell? ⟨gb205, 1, none⟩ = some (.int .u64 0) := (blk_cell BK205.out 1).trans rfl
   have hfs36 := blk_frozen BK205.out 1
   have hns36_0 := NB203_205.out
   have hns36_1 := NB204_205.out
   have hns36_3 := NB211_205.out
   have hns36_4 := NB218_205.out
   have hms36_0 := NB205_203.out
   have hms36_1 := NB205_204.out
   have hms36_3 := NB205_211.out
   have hms36_4 := NB205_218.out
   have hs37 : w30.cell? ⟨gb205, 2, none⟩ = some (.int .u64 0) := (blk_cell BK205.out 2).trans rfl
   have hfs37 := blk_frozen BK205.out 2
   have hns37_0 := NB203_205.out
   have hns37_1 := NB204_205.out
   have hns37_3 := NB211_205.out
   have hns37_4 := NB218_205.out
   have hms37_0 := NB205_203.out
   have hms37_1 := NB205_204.out
   have hms37_3 := NB205_211.out
   have hms37_4 := NB205_218.out
   have hs38 : w30.cell? ⟨gb205, 3, none⟩ = some (.int .i64 0) := (blk_cell BK205.out 3).trans rfl
   have hfs38 := blk_frozen BK205.out 3
   have hns38_0 := NB203_205.out
   have hns38_1 := NB204_205.out
   have hns38_3 := NB211_205.out
   have hns38_4 := NB218_205.out
   have hms38_0 := NB205_203.out
   have hms38_1 := NB205_204.out
   have hms38_3 := NB205_211.out
   have hms38_4 := NB205_218.out
   refine skip_ (w1 := ?_) (by rfl) rfl ?_ ?_
   rotate_left
   ·
    go_simp
    rfl
   refine hK.out _ _ ⟨((cell_far (p := ⟨gb205, _, none⟩) NB211_205.out _).trans (((cell_far (p := ⟨gb205, _, none⟩) NB211_205.out _).trans (((cell_far (p := ⟨gb205, _, none⟩) NB211_205.out _).trans (((cell_far (p := ⟨gb205, _, none⟩) NB211_205.out _).trans (hHeld.1)))))))), ((cell_far (p := ⟨gb205, _, none⟩) NB211_205.out _).trans (((cell_far (p := ⟨gb205, _, none⟩) NB211_205.out _).trans (((cell_far (p := ⟨gb205, _, none⟩) NB211_205.out _).trans (((cell_far (p := ⟨gb205, _, none⟩) NB211_205.out _).trans (hHeld.2.1)))))))), ((cell_far (p := ⟨gb205, _, none⟩) NB211_205.out _).trans (((cell_far (p := ⟨gb205, _, none⟩) NB211_205.out _).trans (((cell_far (p := ⟨gb205, _, none⟩) NB211_205.out _).trans (((cell_far (p := ⟨gb205, _, none⟩) NB211_205.out _).trans (hHeld.2.2.1)))))))), ((cell_far (p := ⟨gb205, _, none⟩) NB211_205.out _).trans (((cell_far (p := ⟨gb205, _, none⟩) NB211_205.out _).trans (((cell_far (p := ⟨gb205, _, none⟩) NB211_205.out _).trans (((cell_far (p := ⟨gb205, _, none⟩) NB211_205.out _).trans (hHeld.2.2.2.1)))))))), ((cell_far (p := ⟨gb205, _, none⟩) NB218_205.out _).trans (((cell_far (p := ⟨gb205, _, none⟩) NB218_205.out _).trans (((cell_far (p := ⟨gb205, _, none⟩) NB218_205.out _).trans (((cell_far (p := ⟨gb205, _, none⟩) NB218_205.out _).trans (hHeld.2.2.2.2.1)))))))), ((cell_far (p := ⟨gb205, _, none⟩) NB218_205.out _).trans (((cell_far (p := ⟨gb205, _, none⟩) NB218_205.out _).trans (((cell_far (p := ⟨gb205, _, none⟩) NB218_205.out _).trans (((cell_far (p := ⟨gb205, _, none⟩) NB218_205.out _).trans (hHeld.2.2.2.2.2.1)))))))), ((cell_far (p := ⟨gb205, _, none⟩) NB218_205.out _).trans (((cell_far (p := ⟨gb205, _, none⟩) NB218_205.out _).trans (((cell_far (p := ⟨gb205, _, none⟩) NB218_205.out _).trans (((cell_far (p := ⟨gb205, _, none⟩) NB218_205.out _).trans (hHeld.2.2.2.2.2.2.1)))))))), ((cell_far (p := ⟨gb205, _, none⟩) NB218_205.out _).trans (((cell_far (p := ⟨gb205, _, none⟩) NB218_205.out _).trans (((cell_far (p := ⟨gb205, _, none⟩) NB218_205.out _).trans (((cell_far (p := ⟨gb205, _, none⟩) NB218_205.out _).trans (hHeld.2.2.2.2.2.2.2))))))))⟩ (fun hHeld => ?_)
   clear hK K
   refine pure_ (i := 5) (N := some 4) (v := ?_) (a' := ?_) (tk 6 6) rfl rfl (by kernel_rfl) (fun _ _ _ h => h) (Or.inl ⟨by rfl, ?_⟩) ?_ ?_
   rotate_left
   ·
    intro w'
    go_simp
    with_reducible rfl
   rotate_left
   ·
    simp only [Act.put, List.setIfInBounds_toArray, List.set_cons_zero, List.set_cons_succ, i64_w, i32_w]
    rfl
   refine done_ (by kernel_rfl) ?_
   try go_wp2
   refine bodyPost_ret (results_list (rs := [.cell 2 26, .cell 3 26, .tmp 4]) rfl (by simp) (.cell gb204 26 #[.bool t206, .int .u64 t207, .int .u64 t208, .int .i64 t209] (0, 0) _ rfl (pK NB204_205 (pK NB204_205 (pK NB204_205 (pK NB204_205 (pP (pP (pP (pP (pM BK204))))))))) Tryd.underlying26 rfl (by kernel_rfl) (.cell gb205 26 #[.bool t213, .int .u64 t214, .int .u64 t215, .int .i64 t216] (0, 0) _ rfl (pP (pP (pP (pP (pK NB205_204 (pK NB205_204 (pK NB205_204 (pK NB205_204 (pM BK205))))))))) Tryd.underlying26 rfl (by kernel_rfl) (.tmp .nil)))) rfl ?_
   exact pR (pE HB)
  ·
   replace c5 := Bool.eq_false_iff.mpr c5
   subst c5
   have H1 : (some (false, 0, 0, 0, false, 0, 0, 0, false)) = some (r1, r2, r3, r4, r5, r6, r7, r8, r9) := by rw [if_neg (show ¬ (false = true) by decide)] at H; exact H
   clear H
   have H := H1
   clear H1
   simp only [Option.some.injEq, Prod.mk.injEq] at H
   obtain ⟨rfl, rfl, rfl, rfl, rfl, rfl, rfl, rfl, rfl⟩ := H
   go_enter Tryd.func22, Tryd.ntmps22
   go_wp2_with (first | ((with_reducible refine gate_dst (N := 1) rfl ?_); refine boxA (N := 1) (cs := #[.bool a0_0, .int .u64 a0_1, .int .u64 a0_2, .int .i64 a0_3]) (t := 26) ?_; intro gb203 hg w39 hbox hb; have BK203 := Aside0.mk (hbox); have GW203 := (pZ HB hg); have GE203 := (pZ HB hg); replace HB := (pS HB hb); clear hb hbox hg) | ((with_reducible refine gate_dst (N := 2) rfl ?_); refine boxA (N := 2) (cs := #[.bool false, .int .u64 0, .int .u64 0, .int .i64 0]) (t := 26) ?_; intro gb204 hg w40 hbox hb; have BK204 := Aside0.mk (hbox); have GW204 := (pZ HB hg); have GE204 := (pZ HB hg); have NB203_204 := (pL BK203 hg); have NB204_203 := (pG BK203 hg); replace BK203 := (pB BK203 hb); replace HB := (pS HB hb); clear hb hbox hg) | ((with_reducible refine gate_dst (N := 3) rfl ?_); refine boxA (N := 3) (cs := #[.bool false, .int .u64 0, .int .u64 0, .int .i64 0]) (t := 26) ?_; intro gb205 hg w41 hbox hb; have BK205 := Aside0.mk (hbox); have GW205 := (pZ HB hg); have GE205 := (pZ HB hg); have NB203_205 := (pL BK203 hg); have NB205_203 := (pG BK203 hg); have NB204_205 := (pL BK204 hg); have NB205_204 := (pG BK204 hg); replace BK203 := (pB BK203 hb); replace BK204 := (pB BK204 hb); replace HB := (pS HB hb); clear hb hbox hg; have hnb42 := NB203_204.out; have hnc42 := NB204_203.out; have hnb43 := NB203_205.out; have hnc43 := NB205_203.out; obtain ⟨hcz44_0, hcz44_1, hcz44_2, hcz44_3, hfz44_0, hfz44_1, hfz44_2, hfz44_3⟩ := pC4 BK203) | ((with_reducible refine gate_callee (f := 24) rfl ?_); refine goesA (some 13) Tryd.func24 #[.agg #[.bool a0_0, .int .u64 a0_1, .int .u64 a0_2, .int .i64 a0_3], .int .i64 (wrap64 (a0_3 + 1)), .int .u64 0] ?_; (with_reducible refine (prefix_Part.calls k a0_0 a0_1 a0_2 a0_3 (wrap64 (a0_3 + 1)) 0 t206 t207 t208 t209 true _ A2.out).mono ?_); rintro e w45 ⟨rfl, hb⟩; refine ⟨_, rfl, ?_⟩; replace BK203 := (pB BK203 hb); replace BK204 := (pB BK204 hb); replace BK205 := (pB BK205 hb); replace HB := (pS HB hb); (try clear hb)) | ((with_reducible refine gate_dst (N := 5) rfl ?_); refine boxA (N := 5) (cs := #[.bool false, .int .u64 0, .int .u64 0, .int .i64 0]) (t := 26) ?_; intro gb211 hg w46 hbox hb; have BK211 := Aside0.mk (hbox); have GW211 := (pZ HB hg); have GE211 := (pZ HB hg); have NB203_211 := (pL BK203 hg); have NB211_203 := (pG BK203 hg); have NB204_211 := (pL BK204 hg); have NB211_204 := (pG BK204 hg); have NB205_211 := (pL BK205 hg); have NB211_205 := (pG BK205 hg); replace BK203 := (pB BK203 hb); replace BK204 := (pB BK204 hb); replace BK205 := (pB BK205 hb); replace HB := (pS HB hb); clear hb hbox hg; have hnb47 := NB211_203.out; have hnc47 := NB203_211.out; have hnb48 := NB211_204.out; have hnc48 := NB204_211.out; have hnb49 := NB211_205.out; have hnc49 := NB205_211.out; obtain ⟨hcz50_0, hcz50_1, hcz50_2, hcz50_3, hfz50_0, hfz50_1, hfz50_2, hfz50_3⟩ := pC4 BK211; obtain ⟨hcz51_0, hcz51_1, hcz51_2, hcz51_3, hfz51_0, hfz51_1, hfz51_2, hfz51_3⟩ := pC4 BK203) | (go_at_call 9; (with_reducible refine (prefix_Valid.calls a0_0 a0_1 a0_2 a0_3 false _ A4.out).mono ?_); rintro e w52 ⟨rfl, hb⟩; replace BK203 := (pD hb (pK NB203_211 (pK NB203_211 (pK NB203_211 (pK NB203_211 (pM BK203)))))); replace BK204 := (pD hb (pK NB204_211 (pK NB204_211 (pK NB204_211 (pK NB204_211 (pM BK204)))))); replace BK205 := (pD hb (pK NB205_211 (pK NB205_211 (pK NB205_211 (pK NB205_211 (pM BK205)))))); replace BK211 := (pD hb (pP (pP (pP (pP (pM BK211)))))); replace HB := (pS HB hb); (try clear hb); have hnb53 := NB204_205.out; have hnc53 := NB205_204.out; obtain ⟨hcz54_0, hcz54_1, hcz54_2, hcz54_3, hfz54_0, hfz54_1, hfz54_2, hfz54_3⟩ := pC4 BK204; obtain ⟨hcz55_0, hcz55_1, hcz55_2, hcz55_3, hfz55_0, hfz55_1, hfz55_2, hfz55_3⟩ := pC4 BK205) | ((with_reducible refine gate_store (t := 26) (p := 3) rfl ?_); refine store_event (t := 26) (p := 3) (v := ?vo_w56) (w1 := ((((((((w52.setCell ⟨gb204, 0, none⟩ (.bool false)).setCell ⟨gb204, 1, none⟩ (.int .u64 0)).setCell ⟨gb204, 2, none⟩ (.int .u64 0)).setCell ⟨gb204, 3, none⟩ (.int .i64 0)).setCell ⟨gb205, 0, none⟩ (.bool false)).setCell ⟨gb205, 1, none⟩ (.int .u64 0)).setCell ⟨gb205, 2, none⟩ (.int .u64 0)).setCell ⟨gb205, 3, none⟩ (.int .i64 0))) ?hg ?ho ?hn ?hr ?_; (case ho => rfl); (case hg => rfl); (case hn => rfl); (case hr => first | (exact Ext.run_store_chain 26 _ _ rfl _ _ _ _ rfl rfl (pK NB205_204 (pK NB205_204 (pK NB205_204 (pK NB205_204 (pM BK205))))) (by kernel_rfl) rfl rfl rfl) | (go_simp; done) | (go_simp; rfl)); intro w56 hw; replace BK203 : Aside0 (w56.heap[gb203]? = some (.cells #[.bool a0_0, .int .u64 a0_1, .int .u64 a0_2, .int .i64 a0_3] 26 (0, 0))) := (pW hw (pK NB203_205 (pK NB203_205 (pK NB203_205 (pK NB203_205 (pK NB203_204 (pK NB203_204 (pK NB203_204 (pK NB203_204 (pM BK203)))))))))); replace BK204 : Aside0 (w56.heap[gb204]? = some (.cells #[.bool false, .int .u64 0, .int .u64 0, .int .i64 0] 26 (0, 0))) := (pW hw (pK NB204_205 (pK NB204_205 (pK NB204_205 (pK NB204_205 (pP (pP (pP (pP (pM BK204)))))))))); replace BK205 : Aside0 (w56.heap[gb205]? = some (.cells #[.bool false, .int .u64 0, .int .u64 0, .int .i64 0] 26 (0, 0))) := (pW hw (pP (pP (pP (pP (pK NB205_204 (pK NB205_204 (pK NB205_204 (pK NB205_204 (pM BK205)))))))))); replace BK211 : Aside0 (w56.heap[gb211]? = some (.cells #[.bool t206, .int .u64 t207, .int .u64 t208, .int .i64 t209] 26 (0, 0))) := (pW hw (pK NB211_205 (pK NB211_205 (pK NB211_205 (pK NB211_205 (pK NB211_204 (pK NB211_204 (pK NB211_204 (pK NB211_204 (pM BK211)))))))))); replace HB : Aside0 (Below w.heap.size w w56) := ⟨(by rw [hw]; exact (by repeat (first | (with_reducible first | exact HB.out | apply below_alloc | apply pw_below_drewN | apply below_drew1 | refine below_set ?_ GE203.out | refine below_set ?_ GE204.out | refine below_set ?_ GE205.out | refine below_set ?_ GE211.out) | exact HB.out)))⟩; clear hw))
   refine bodyPost_ret (results_list (rs := [.cell 2 26, .cell 3 26, .tmp 4]) rfl (by simp) (.cell gb204 26 #[.bool false, .int .u64 0, .int .u64 0, .int .i64 0] (0, 0) _ rfl (pM BK204) Tryd.underlying26 rfl (by kernel_rfl) (.cell gb205 26 #[.bool false, .int .u64 0, .int .u64 0, .int .i64 0] (0, 0) _ rfl (pM BK205) Tryd.underlying26 rfl (by kernel_rfl) (.tmp .nil)))) rfl ?_
   exact pR (pE HB)
 ·
  replace c3 := Bool.eq_false_iff.mpr c3
  subst c3
  have H1 : (some (false, 0, 0, 0, false, 0, 0, 0, false)) = some (r1, r2, r3, r4, r5, r6, r7, r8, r9) := by rw [if_neg (show ¬ (false = true) by decide)] at H; exact H
  clear H
  have H := H1
  clear H1
  simp only [Option.some.injEq, Prod.mk.injEq] at H
  obtain ⟨rfl, rfl, rfl, rfl, rfl, rfl, rfl, rfl, rfl⟩ := H
  go_enter Tryd.func22, Tryd.ntmps22
  go_wp2_with (first | ((with_reducible refine gate_dst (N := 1) rfl ?_); refine boxA (N := 1) (cs := #[.bool a0_0, .int .u64 a0_1, .int .u64 a0_2, .int .i64 a0_3]) (t := 26) ?_; intro gb203 hg w57 hbox hb; have BK203 := Aside0.mk (hbox); have GW203 := (pZ HB hg); have GE203 := (pZ HB hg); replace HB := (pS HB hb); clear hb hbox hg) | ((with_reducible refine gate_dst (N := 2) rfl ?_); refine boxA (N := 2) (cs := #[.bool false, .int .u64 0, .int .u64 0, .int .i64 0]) (t := 26) ?_; intro gb204 hg w58 hbox hb; have BK204 := Aside0.mk (hbox); have GW204 := (pZ HB hg); have GE204 := (pZ HB hg); have NB203_204 := (pL BK203 hg); have NB204_203 := (pG BK203 hg); replace BK203 := (pB BK203 hb); replace HB := (pS HB hb); clear hb hbox hg) | ((with_reducible refine gate_dst (N := 3) rfl ?_); refine boxA (N := 3) (cs := #[.bool false, .int .u64 0, .int .u64 0, .int .i64 0]) (t := 26) ?_; intro gb205 hg w59 hbox hb; have BK205 := Aside0.mk (hbox); have GW205 := (pZ HB hg); have GE205 := (pZ HB hg); have NB203_205 := (pL BK203 hg); have NB205_203 := (pG BK203 hg); have NB204_205 := (pL BK204 hg); have NB205_204 := (pG BK204 hg); replace BK203 := (pB BK203 hb); replace BK204 := (pB BK204 hb); replace HB := (pS HB hb); clear hb hbox hg; have hnb60 := NB203_204.out; have hnc60 := NB204_203.out; have hnb61 := NB203_205.out; have hnc61 := NB205_203.out; obtain ⟨hcz62_0, hcz62_1, hcz62_2, hcz62_3, hfz62_0, hfz62_1, hfz62_2, hfz62_3⟩ := pC4 BK203) | ((with_reducible refine gate_callee (f := 24) rfl ?_); refine goesA (some 13) Tryd.func24 #[.agg #[.bool a0_0, .int .u64 a0_1, .int .u64 a0_2, .int .i64 a0_3], .int .i64 (wrap64 (a0_3 + 1)), .int .u64 0] ?_; (with_reducible refine (prefix_Part.calls k a0_0 a0_1 a0_2 a0_3 (wrap64 (a0_3 + 1)) 0 t206 t207 t208 t209 false _ A2.out).mono ?_); rintro e w63 ⟨rfl, hb⟩; refine ⟨_, rfl, ?_⟩; replace BK203 := (pB BK203 hb); replace BK204 := (pB BK204 hb); replace BK205 := (pB BK205 hb); replace HB := (pS HB hb); (try clear hb)) | ((with_reducible refine gate_dst (N := 5) rfl ?_); refine boxA (N := 5) (cs := #[.bool false, .int .u64 0, .int .u64 0, .int .i64 0]) (t := 26) ?_; intro gb211 hg w64 hbox hb; have BK211 := Aside0.mk (hbox); have GW211 := (pZ HB hg); have GE211 := (pZ HB hg); have NB203_211 := (pL BK203 hg); have NB211_203 := (pG BK203 hg); have NB204_211 := (pL BK204 hg); have NB211_204 := (pG BK204 hg); have NB205_211 := (pL BK205 hg); have NB211_205 := (pG BK205 hg); replace BK203 := (pB BK203 hb); replace BK204 := (pB BK204 hb); replace BK205 := (pB BK205 hb); replace HB := (pS HB hb); clear hb hbox hg; have hnb65 := NB211_203.out; have hnc65 := NB203_211.out; have hnb66 := NB211_204.out; have hnc66 := NB204_211.out; have hnb67 := NB211_205.out; have hnc67 := NB205_211.out; obtain ⟨hcz68_0, hcz68_1, hcz68_2, hcz68_3, hfz68_0, hfz68_1, hfz68_2, hfz68_3⟩ := pC4 BK211; have hnb69 := NB204_205.out; have hnc69 := NB205_204.out; obtain ⟨hcz70_0, hcz70_1, hcz70_2, hcz70_3, hfz70_0, hfz70_1, hfz70_2, hfz70_3⟩ := pC4 BK204) | ((with_reducible refine gate_store (t := 26) (p := 2) rfl ?_); refine store_event (t := 26) (p := 2) (v := ?vo_w71) (w1 := ((((((((w64.setCell ⟨gb211, 0, none⟩ (.bool t206)).setCell ⟨gb211, 1, none⟩ (.int .u64 t207)).setCell ⟨gb211, 2, none⟩ (.int .u64 t208)).setCell ⟨gb211, 3, none⟩ (.int .i64 t209)).setCell ⟨gb204, 0, none⟩ (.bool false)).setCell ⟨gb204, 1, none⟩ (.int .u64 0)).setCell ⟨gb204, 2, none⟩ (.int .u64 0)).setCell ⟨gb204, 3, none⟩ (.int .i64 0))) ?hg ?ho ?hn ?hr ?_; (case ho => rfl); (case hg => rfl); (case hn => rfl); (case hr => first | (exact Ext.run_store_chain 26 _ _ rfl _ _ _ _ rfl rfl (pK NB204_211 (pK NB204_211 (pK NB204_211 (pK NB204_211 (pM BK204))))) (by kernel_rfl) rfl rfl rfl) | (go_simp; done) | (go_simp; rfl)); intro w71 hw; replace BK203 : Aside0 (w71.heap[gb203]? = some (.cells #[.bool a0_0, .int .u64 a0_1, .int .u64 a0_2, .int .i64 a0_3] 26 (0, 0))) := (pW hw (pK NB203_204 (pK NB203_204 (pK NB203_204 (pK NB203_204 (pK NB203_211 (pK NB203_211 (pK NB203_211 (pK NB203_211 (pM BK203)))))))))); replace BK204 : Aside0 (w71.heap[gb204]? = some (.cells #[.bool false, .int .u64 0, .int .u64 0, .int .i64 0] 26 (0, 0))) := (pW hw (pP (pP (pP (pP (pK NB204_211 (pK NB204_211 (pK NB204_211 (pK NB204_211 (pM BK204)))))))))); replace BK205 : Aside0 (w71.heap[gb205]? = some (.cells #[.bool false, .int .u64 0, .int .u64 0, .int .i64 0] 26 (0, 0))) := (pW hw (pK NB205_204 (pK NB205_204 (pK NB205_204 (pK NB205_204 (pK NB205_211 (pK NB205_211 (pK NB205_211 (pK NB205_211 (pM BK205)))))))))); replace BK211 : Aside0 (w71.heap[gb211]? = some (.cells #[.bool t206, .int .u64 t207, .int .u64 t208, .int .i64 t209] 26 (0, 0))) := (pW hw (pK NB211_204 (pK NB211_204 (pK NB211_204 (pK NB211_204 (pP (pP (pP (pP (pM BK211)))))))))); replace HB : Aside0 (Below w.heap.size w w71) := ⟨(by rw [hw]; exact (by repeat (first | (with_reducible first | exact HB.out | apply below_alloc | apply pw_below_drewN | apply below_drew1 | refine below_set ?_ GE203.out | refine below_set ?_ GE204.out | refine below_set ?_ GE205.out | refine below_set ?_ GE211.out) | exact HB.out)))⟩; clear hw; obtain ⟨hcz72_0, hcz72_1, hcz72_2, hcz72_3, hfz72_0, hfz72_1, hfz72_2, hfz72_3⟩ := pC4 BK205))
  refine bodyPost_ret (results_list (rs := [.cell 2 26, .cell 3 26, .tmp 4]) rfl (by simp) (.cell gb204 26 #[.bool false, .int .u64 0, .int .u64 0, .int .i64 0] (0, 0) _ rfl (pK NB204_205 (pK NB204_205 (pK NB204_205 (pK NB204_205 (pM BK204))))) Tryd.underlying26 rfl (by kernel_rfl) (.cell gb205 26 #[.bool false, .int .u64 0, .int .u64 0, .int .i64 0] (0, 0) _ rfl (pP (pP (pP (pP (pM BK205))))) Tryd.underlying26 rfl (by kernel_rfl) (.tmp .nil)))) rfl ?_
  exact pR (pE HB)

/-! ### prefix_Size: function 23 -/
def prefix_Size.f (a0_0 : Bool) (a0_1 : Int) (a0_2 : Int) (a0_3 : Int) : Option (Int × Bool) := (prefix_Valid.f a0_0 a0_1 a0_2 a0_3).bind fun t220 => (if t220 = true then ((prefix_length.f a0_0 a0_1 a0_2).bind fun t221 => (if (wrap64 (t221 - a0_3)) ≥ 64 then (some (0, false)) else (if 0 ≤ (IntKind.u64.wrap (wrap64 (t221 - a0_3))) then (some (shl .u64 1 (IntKind.u64.wrap (wrap64 (t221 - a0_3))), true)) else (none)))) else (some (0, false)))
set_option maxHeartbeats 40000000 in
set_option maxRecDepth 100000 in
theorem prefix_Size.calls (a0_0 : Bool) (a0_1 : Int) (a0_2 : Int) (a0_3 : Int) (r1 : Int) (r2 : Bool) (w : World) (h : prefix_Size.f a0_0 a0_1 a0_2 a0_3 = some (r1, r2)) :
 Calls Tryd.prog 23 #[.agg #[.bool a0_0, .int .u64 a0_1, .int .u64 a0_2, .int .i64 a0_3]] w fun e w' => e = .returned (.tuple #[.int .u64 r1, .bool r2]) ∧ Below w.heap.size w w' := by
 have hu26 := Tryd.underlying26
 have hu24 := Tryd.underlying24
 have HB := Aside0.mk (Below.refl w.heap.size w)
 have H : ((prefix_Valid.f a0_0 a0_1 a0_2 a0_3).bind fun t220 => (if t220 = true then ((prefix_length.f a0_0 a0_1 a0_2).bind fun t221 => (if (wrap64 (t221 - a0_3)) ≥ 64 then (some (0, false)) else (if 0 ≤ (IntKind.u64.wrap (wrap64 (t221 - a0_3))) then (some (shl .u64 1 (IntKind.u64.wrap (wrap64 (t221 - a0_3))), true)) else (none)))) else (some (0, false)))) = some (r1, r2) := h
 clear h
 replace H := Option.bind_eq_some_iff.mp H
 obtain ⟨t220, A20, H⟩ := H
 replace H : (if t220 = true then ((prefix_length.f a0_0 a0_1 a0_2).bind fun t221 => (if (wrap64 (t221 - a0_3)) ≥ 64 then (some (0, false)) else (if 0 ≤ (IntKind.u64.wrap (wrap64 (t221 - a0_3))) then (some (shl .u64 1 (IntKind.u64.wrap (wrap64 (t221 - a0_3))), true)) else (none)))) else (some (0, false))) = some (r1, r2) := H
 have A2 := Aside0.mk A20
 clear A20
 by_cases c3 : t220 = true
 ·
  subst c3
  have H1 : ((prefix_length.f a0_0 a0_1 a0_2).bind fun t221 => (if (wrap64 (t221 - a0_3)) ≥ 64 then (some (0, false)) else (if 0 ≤ (IntKind.u64.wrap (wrap64 (t221 - a0_3))) then (some (shl .u64 1 (IntKind.u64.wrap (wrap64 (t221 - a0_3))), true)) else (none)))) = some (r1, r2) := by rw [if_pos rfl] at H; exact H
  clear H
  have H := H1
  clear H1
  replace H := Option.bind_eq_some_iff.mp H
  obtain ⟨t221, A40, H⟩ := H
  replace H : (if (wrap64 (t221 - a0_3)) ≥ 64 then (some (0, false)) else (if 0 ≤ (IntKind.u64.wrap (wrap64 (t221 - a0_3))) then (some (shl .u64 1 (IntKind.u64.wrap (wrap64 (t221 - a0_3))), true)) else (none))) = some (r1, r2) := H
  have A4 := Aside0.mk A40
  clear A40
  by_cases c5 : (wrap64 (t221 - a0_3)) ≥ 64
  ·
   rw [if_pos c5] at H
   have c5b0 : decide (64 ≤ (wrap64 (t221 - a0_3))) = true := decide_eq_true c5
   clear c5
   simp only [Option.some.injEq, Prod.mk.injEq] at H
   obtain ⟨rfl, rfl⟩ := H
   go_enter Tryd.func23, Tryd.ntmps23
   try go_wp2_with (first | ((with_reducible refine gate_dst (N := 1) rfl ?_); refine boxA (N := 1) (cs := #[.bool a0_0, .int .u64 a0_1, .int .u64 a0_2, .int .i64 a0_3]) (t := 26) ?_; intro gb219 hg w6 hbox hb; have BK219 := Aside0.mk (hbox); have GW219 := (pZ HB hg); have GE219 := (pZ HB hg); replace HB := (pS HB hb); clear hb hbox hg; obtain ⟨hcz7_0, hcz7_1, hcz7_2, hcz7_3, hfz7_0, hfz7_1, hfz7_2, hfz7_3⟩ := pC4 BK219) | ((with_reducible refine gate_callee (f := 9) rfl ?_); refine goesA (some 6) Tryd.func9 #[.agg #[.bool a0_0, .int .u64 a0_1, .int .u64 a0_2, .int .i64 a0_3]] ?_; (with_reducible refine (prefix_Valid.calls a0_0 a0_1 a0_2 a0_3 true _ A2.out).mono ?_); rintro e w8 ⟨rfl, hb⟩; refine ⟨_, rfl, ?_⟩; replace BK219 := (pB BK219 hb); replace HB := (pS HB hb); (try clear hb)))
   replace BK219 := Aside0.mk (blk_drew BK219.out)
   replace HB := Aside0.mk (below_drew1 HB.out)
   refine start_ (n := 7) (S := fun w' => w'.cell? ⟨gb219, 0, none⟩ = some (.bool a0_0) ∧ w'.cell? ⟨gb219, 1, none⟩ = some (.int .u64 a0_1) ∧ w'.cell? ⟨gb219, 2, none⟩ = some (.int .u64 a0_2) ∧ w'.cell? ⟨gb219, 3, none⟩ = some (.int .i64 a0_3)) (ds := []) (tk 7 0) (by kernel_rfl) rfl rfl ⟨(blk_cell BK219.out 0).trans rfl, (blk_cell BK219.out 1).trans rfl, (blk_cell BK219.out 2).trans rfl, (blk_cell BK219.out 3).trans rfl⟩ (fun hHeld => ?_)
   generalize w8.drew = w9 at BK219 HB hHeld ⊢
   refine pure_ (i := 0) (N := some 8) (v := ?_) (a' := ?_) (tk 7 1) rfl rfl (by kernel_rfl) (fun _ _ _ h => h) (Or.inl ⟨by rfl, ?_⟩) ?_ ?_
   rotate_left
   ·
    intro w'
    go_simp
    with_reducible rfl
   rotate_left
   ·
    simp only [Act.put, List.setIfInBounds_toArray, List.set_cons_zero, List.set_cons_succ, i64_w, i32_w]
    rfl
   refine pure_ (i := 3) (N := some 11) (v := ?_) (a' := ?_) (tr [1, 2, 1, 3]) rfl rfl (by kernel_rfl) (fun _ _ _ h => h) (Or.inl ⟨by rfl, ?_⟩) ?_ ?_
   rotate_left
   ·
    intro w'
    go_simp
    with_reducible rfl
   rotate_left
   ·
    simp only [Act.put, List.setIfInBounds_toArray, List.set_cons_zero, List.set_cons_succ, i64_w, i32_w]
    rfl
   refine take_ (i := 1) (N := some 9) (v := ?_) (a' := ?_) (tr [2, 1, 1, 3]) rfl rfl (by kernel_rfl) (fun _ _ _ h => h) (Or.inl ⟨by rfl, ?_⟩) hHeld ?_ ?_
   rotate_left
   ·
    rintro w' ⟨s0, s1, s2, s3⟩
    go_simp
    with_reducible rfl
   rotate_left
   ·
    simp only [Act.put, List.setIfInBounds_toArray, List.set_cons_zero, List.set_cons_succ, i64_w, i32_w]
    rfl
   refine take_ (i := 4) (N := some 12) (v := ?_) (a' := ?_) (tr [2, 1, 2, 2]) rfl rfl (by kernel_rfl) (fun _ _ _ h => h) (Or.inl ⟨by rfl, ?_⟩) hHeld ?_ ?_
   rotate_left
   ·
    rintro w' ⟨s0, s1, s2, s3⟩
    go_simp
    with_reducible rfl
   rotate_left
   ·
    simp only [Act.put, List.setIfInBounds_toArray, List.set_cons_zero, List.set_cons_succ, i64_w, i32_w]
    rfl
   refine one_ (i := 2) (N := some 10) (tk 7 5) rfl rfl (by kernel_rfl) (by decide) (fun K hK => ?_)
   refine goesR Tryd.func29 #[.agg #[.bool a0_0, .int .u64 a0_1, .int .u64 a0_2]] ?_
   with_reducible refine (prefix_length.calls a0_0 a0_1 a0_2 t221 _ A4.out).mono ?_
   rintro e w10 ⟨rfl, hb⟩
   refine ⟨_, rfl, ?_⟩
   replace BK219 := (pB BK219 hb)
   replace HB := (pS HB hb)
   (try clear hb)
   refine hK.out _ _ ⟨(blk_cell BK219.out 0).trans rfl, (blk_cell BK219.out 1).trans rfl, (blk_cell BK219.out 2).trans rfl, (blk_cell BK219.out 3).trans rfl⟩ (fun hHeld => ?_)
   clear hK K
   refine normA (N := some 10) ?_
   refine pure_ (i := 5) (N := some 13) (v := ?_) (a' := ?_) (tk 7 6) rfl rfl (by kernel_rfl) (fun _ _ _ h => h) (Or.inl ⟨by rfl, ?_⟩) ?_ ?_
   rotate_left
   ·
    intro w'
    go_simp
    with_reducible rfl
   rotate_left
   ·
    simp only [Act.put, List.setIfInBounds_toArray, List.set_cons_zero, List.set_cons_succ, i64_w, i32_w]
    rfl
   refine pure_ (i := 6) (N := some 4) (v := ?_) (a' := ?_) (tk 7 7) rfl rfl (by kernel_rfl) (fun _ _ _ h => h) (Or.inl ⟨by rfl, ?_⟩) ?_ ?_
   rotate_left
   ·
    intro w'
    go_simp
    with_reducible rfl
   rotate_left
   ·
    simp only [Act.put, List.setIfInBounds_toArray, List.set_cons_zero, List.set_cons_succ, i64_w, i32_w]
    rfl
   refine done_ (by kernel_rfl) ?_
   try go_wp2
   go_ret2
   exact pR (pE HB)
  ·
   rw [if_neg c5] at H
   have c5b0 : decide (64 ≤ (wrap64 (t221 - a0_3))) = false := decide_eq_false c5
   clear c5
   obtain ⟨ji11, hji11⟩ : ∃ j_ : Int, (IntKind.u64.wrap (wrap64 (t221 - a0_3))) = j_ := ⟨_, rfl⟩
   replace H : (if 0 ≤ (ji11) then (some (shl .u64 1 (ji11), true)) else (none)) = some (r1, r2) := by first | (rw [hji11] at H; exact H) | (simp only [hji11] at H ⊢; exact H)
   (try rw [hji11] at A2)
   (try rw [hji11] at A4)
   by_cases c12 : 0 ≤ (ji11)
   ·
    rw [if_pos c12] at H
    have c12b0 := eq_true c12
    have c12b1 : decide (0 ≤ (ji11)) = true := decide_eq_true c12
    clear c12
    obtain ⟨ji13, hji13⟩ : ∃ j_ : Int, (shl .u64 1 (ji11)) = j_ := ⟨_, rfl⟩
    (try rw [hji13] at hji11)
    replace H : (some (ji13, true)) = some (r1, r2) := by first | (rw [hji13] at H; exact H) | (simp only [hji13] at H ⊢; exact H)
    (try rw [hji13] at A2)
    (try rw [hji13] at A4)
    have hji13_ : (IntKind.u64.wrap (1 * 2 ^ min (ji11).toNat 64)) = ji13 := hji13
    have hji13z : (ji11) ≤ 64 → (IntKind.u64.wrap (1 * 2 ^ (ji11).toNat)) = ji13 := shl_small hji13
    have hji13u : (IntKind.u64.wrap (2 ^ min (ji11).toNat 64)) = ji13 := by have h_ := hji13_; rw [Int.one_mul] at h_; exact h_
    have hji13v : (ji11) ≤ 64 → (IntKind.u64.wrap (2 ^ (ji11).toNat)) = ji13 := fun hle_ => by have h_ := hji13z hle_; rw [Int.one_mul] at h_; exact h_
    simp only [Option.some.injEq, Prod.mk.injEq] at H
    obtain ⟨rfl, rfl⟩ := H
    go_enter Tryd.func23, Tryd.ntmps23
    try go_wp2_with (first | ((with_reducible refine gate_dst (N := 1) rfl ?_); refine boxA (N := 1) (cs := #[.bool a0_0, .int .u64 a0_1, .int .u64 a0_2, .int .i64 a0_3]) (t := 26) ?_; intro gb219 hg w14 hbox hb; have BK219 := Aside0.mk (hbox); have GW219 := (pZ HB hg); have GE219 := (pZ HB hg); replace HB := (pS HB hb); clear hb hbox hg; obtain ⟨hcz15_0, hcz15_1, hcz15_2, hcz15_3, hfz15_0, hfz15_1, hfz15_2, hfz15_3⟩ := pC4 BK219) | ((with_reducible refine gate_callee (f := 9) rfl ?_); refine goesA (some 6) Tryd.func9 #[.agg #[.bool a0_0, .int .u64 a0_1, .int .u64 a0_2, .int .i64 a0_3]] ?_; (with_reducible refine (prefix_Valid.calls a0_0 a0_1 a0_2 a0_3 true _ A2.out).mono ?_); rintro e w16 ⟨rfl, hb⟩; refine ⟨_, rfl, ?_⟩; replace BK219 := (pB BK219 hb); replace HB := (pS HB hb); (try clear hb)))
    replace BK219 := Aside0.mk (blk_drew BK219.out)
    replace HB := Aside0.mk (below_drew1 HB.out)
    refine start_ (n := 7) (S := fun w' => w'.cell? ⟨gb219, 0, none⟩ = some (.bool a0_0) ∧ w'.cell? ⟨gb219, 1, none⟩ = some (.int .u64 a0_1) ∧ w'.cell? ⟨gb219, 2, none⟩ = some (.int .u64 a0_2) ∧ w'.cell? ⟨gb219, 3, none⟩ = some (.int .i64 a0_3)) (ds := []) (tk 7 0) (by kernel_rfl) rfl rfl ⟨(blk_cell BK219.out 0).trans rfl, (blk_cell BK219.out 1).trans rfl, (blk_cell BK219.out 2).trans rfl, (blk_cell BK219.out 3).trans rfl⟩ (fun hHeld => ?_)
    generalize w16.drew = w17 at BK219 HB hHeld ⊢
    refine pure_ (i := 0) (N := some 8) (v := ?_) (a' := ?_) (tk 7 1) rfl rfl (by kernel_rfl) (fun _ _ _ h => h) (Or.inl ⟨by rfl, ?_⟩) ?_ ?_
    rotate_left
    ·
     intro w'
     go_simp
     with_reducible rfl
    rotate_left
    ·
     simp only [Act.put, List.setIfInBounds_toArray, List.set_cons_zero, List.set_cons_succ, i64_w, i32_w]
     rfl
    refine pure_ (i := 3) (N := some 11) (v := ?_) (a' := ?_) (tr [1, 2, 1, 3]) rfl rfl (by kernel_rfl) (fun _ _ _ h => h) (Or.inl ⟨by rfl, ?_⟩) ?_ ?_
    rotate_left
    ·
     intro w'
     go_simp
     with_reducible rfl
    rotate_left
    ·
     simp only [Act.put, List.setIfInBounds_toArray, List.set_cons_zero, List.set_cons_succ, i64_w, i32_w]
     rfl
    refine take_ (i := 1) (N := some 9) (v := ?_) (a' := ?_) (tr [2, 1, 1, 3]) rfl rfl (by kernel_rfl) (fun _ _ _ h => h) (Or.inl ⟨by rfl, ?_⟩) hHeld ?_ ?_
    rotate_left
    ·
     rintro w' ⟨s0, s1, s2, s3⟩
     go_simp
     with_reducible rfl
    rotate_left
    ·
     simp only [Act.put, List.setIfInBounds_toArray, List.set_cons_zero, List.set_cons_succ, i64_w, i32_w]
     rfl
    refine take_ (i := 4) (N := some 12) (v := ?_) (a' := ?_) (tr [2, 1, 2, 2]) rfl rfl (by kernel_rfl) (fun _ _ _ h => h) (Or.inl ⟨by rfl, ?_⟩) hHeld ?_ ?_
    rotate_left
    ·
     rintro w' ⟨s0, s1, s2, s3⟩
     go_simp
     with_reducible rfl
    rotate_left
    ·
     simp only [Act.put, List.setIfInBounds_toArray, List.set_cons_zero, List.set_cons_succ, i64_w, i32_w]
     rfl
    refine one_ (i := 2) (N := some 10) (tk 7 5) rfl rfl (by kernel_rfl) (by decide) (fun K hK => ?_)
    refine goesR Tryd.func29 #[.agg #[.bool a0_0, .int .u64 a0_1, .int .u64 a0_2]] ?_
    with_reducible refine (prefix_length.calls a0_0 a0_1 a0_2 t221 _ A4.out).mono ?_
    rintro e w18 ⟨rfl, hb⟩
    refine ⟨_, rfl, ?_⟩
    replace BK219 := (pB BK219 hb)
    replace HB := (pS HB hb)
    (try clear hb)
    refine hK.out _ _ ⟨(blk_cell BK219.out 0).trans rfl, (blk_cell BK219.out 1).trans rfl, (blk_cell BK219.out 2).trans rfl, (blk_cell BK219.out 3).trans rfl⟩ (fun hHeld => ?_)
    clear hK K
    refine normA (N := some 10) ?_
    refine pure_ (i := 5) (N := some 13) (v := ?_) (a' := ?_) (tk 7 6) rfl rfl (by kernel_rfl) (fun _ _ _ h => h) (Or.inl ⟨by rfl, ?_⟩) ?_ ?_
    rotate_left
    ·
     intro w'
     go_simp
     with_reducible rfl
    rotate_left
    ·
     simp only [Act.put, List.setIfInBounds_toArray, List.set_cons_zero, List.set_cons_succ, i64_w, i32_w]
     rfl
    refine pure_ (i := 6) (N := some 4) (v := ?_) (a' := ?_) (tk 7 7) rfl rfl (by kernel_rfl) (fun _ _ _ h => h) (Or.inl ⟨by rfl, ?_⟩) ?_ ?_
    rotate_left
    ·
     intro w'
     go_simp
     with_reducible rfl
    rotate_left
    ·
     simp only [Act.put, List.setIfInBounds_toArray, List.set_cons_zero, List.set_cons_succ, i64_w, i32_w]
     rfl
    refine done_ (by kernel_rfl) ?_
    try go_wp2
    go_ret2
    exact ⟨by first | rfl | (simp [errW_none, errW_some] <;> rfl) | (simp only [← hji11, ← hji13]; first | rfl | (simp [errW_none, errW_some] <;> rfl)) | (simp [*, errW_none, errW_some] <;> rfl), by repeat (first | (with_reducible first | exact HB.out | apply below_alloc | apply pw_below_drewN | apply below_drew1 | refine below_set ?_ GE219.out) | exact HB.out)⟩
   ·
    rw [if_neg c12] at H
    exact absurd H (by simp)
 ·
  replace c3 := Bool.eq_false_iff.mpr c3
  subst c3
  have H1 : (some (0, false)) = some (r1, r2) := by rw [if_neg (show ¬ (false = true) by decide)] at H; exact H
  clear H
  have H := H1
  clear H1
  simp only [Option.some.injEq, Prod.mk.injEq] at H
  obtain ⟨rfl, rfl⟩ := H
  go_enter Tryd.func23, Tryd.ntmps23
  go_wp2_with (first | ((with_reducible refine gate_dst (N := 1) rfl ?_); refine boxA (N := 1) (cs := #[.bool a0_0, .int .u64 a0_1, .int .u64 a0_2, .int .i64 a0_3]) (t := 26) ?_; intro gb219 hg w19 hbox hb; have BK219 := Aside0.mk (hbox); have GW219 := (pZ HB hg); have GE219 := (pZ HB hg); replace HB := (pS HB hb); clear hb hbox hg; obtain ⟨hcz20_0, hcz20_1, hcz20_2, hcz20_3, hfz20_0, hfz20_1, hfz20_2, hfz20_3⟩ := pC4 BK219) | ((with_reducible refine gate_callee (f := 9) rfl ?_); refine goesA (some 6) Tryd.func9 #[.agg #[.bool a0_0, .int .u64 a0_1, .int .u64 a0_2, .int .i64 a0_3]] ?_; (with_reducible refine (prefix_Valid.calls a0_0 a0_1 a0_2 a0_3 false _ A2.out).mono ?_); rintro e w21 ⟨rfl, hb⟩; refine ⟨_, rfl, ?_⟩; replace BK219 := (pB BK219 hb); replace HB := (pS HB hb); (try clear hb)))
  go_ret2
  exact pR (pE HB)

/-! ### prefix_Bounds: function 13 -/
def prefix_Bounds.f (a0_0 : Bool) (a0_1 : Int) (a0_2 : Int) (a0_3 : Int) : Option (Bool × Int × Int × Bool × Int × Int × Bool) := (prefix_Valid.f a0_0 a0_1 a0_2 a0_3).bind fun t224 => (if t224 = true then ((prefix_later.f a0_0 a0_3).bind fun bt225 => (some (a0_0, a0_1, a0_2, a0_0, Go.bits .or .u64 a0_1 bt225.1, Go.bits .or .u64 a0_2 bt225.2, true))) else (some (false, 0, 0, false, 0, 0, false)))
set_option maxHeartbeats 40000000 in
set_option maxRecDepth 100000 in
theorem prefix_Bounds.calls (a0_0 : Bool) (a0_1 : Int) (a0_2 : Int) (a0_3 : Int) (r1 : Bool) (r2 : Int) (r3 : Int) (r4 : Bool) (r5 : Int) (r6 : Int) (r7 : Bool) (w : World) (h : prefix_Bounds.f a0_0 a0_1 a0_2 a0_3 = some (r1, r2, r3, r4, r5, r6, r7)) :
 Calls Tryd.prog 13 #[.agg #[.bool a0_0, .int .u64 a0_1, .int .u64 a0_2, .int .i64 a0_3]] w fun e w' => e = .returned (.tuple #[.agg #[.bool r1, .int .u64 r2, .int .u64 r3, .bool r4, .int .u64 r5, .int .u64 r6], .bool r7]) ∧ Below w.heap.size w w' := by
 have hbl10 : Tryd.prog.built 36 [] = some #[(.bool false), (.int .u64 0), (.int .u64 0), (.bool false), (.int .u64 0), (.int .u64 0)] := by kernel_rfl
 have hbl35 : ∀ (x1_ : Bool) (x2_ : Int) (x3_ : Int) (x4_ : Bool) (x5_ : Int) (x6_ : Int), Tryd.prog.built 36 [(0, (.agg #[(.bool x1_), (.int .u64 x2_), (.int .u64 x3_)])), (1, (.agg #[(.bool x4_), (.int .u64 x5_), (.int .u64 x6_)]))] = some #[(.bool x1_), (.int .u64 x2_), (.int .u64 x3_), (.bool x4_), (.int .u64 x5_), (.int .u64 x6_)] := by intros; kernel_rfl
 have hu26 := Tryd.underlying26
 have hu36 := Tryd.underlying36
 have hu24 := Tryd.underlying24
 have HB := Aside0.mk (Below.refl w.heap.size w)
 have H : ((prefix_Valid.f a0_0 a0_1 a0_2 a0_3).bind fun t224 => (if t224 = true then ((prefix_later.f a0_0 a0_3).bind fun bt225 => (some (a0_0, a0_1, a0_2, a0_0, Go.bits .or .u64 a0_1 bt225.1, Go.bits .or .u64 a0_2 bt225.2, true))) else (some (false, 0, 0, false, 0, 0, false)))) = some (r1, r2, r3, r4, r5, r6, r7) := h
 clear h
 replace H := Option.bind_eq_some_iff.mp H
 obtain ⟨t224, A20, H⟩ := H
 replace H : (if t224 = true then ((prefix_later.f a0_0 a0_3).bind fun bt225 => (some (a0_0, a0_1, a0_2, a0_0, Go.bits .or .u64 a0_1 bt225.1, Go.bits .or .u64 a0_2 bt225.2, true))) else (some (false, 0, 0, false, 0, 0, false))) = some (r1, r2, r3, r4, r5, r6, r7) := H
 have A2 := Aside0.mk A20
 clear A20
 by_cases c3 : t224 = true
 ·
  subst c3
  have H1 : ((prefix_later.f a0_0 a0_3).bind fun bt225 => (some (a0_0, a0_1, a0_2, a0_0, Go.bits .or .u64 a0_1 bt225.1, Go.bits .or .u64 a0_2 bt225.2, true))) = some (r1, r2, r3, r4, r5, r6, r7) := by rw [if_pos rfl] at H; exact H
  clear H
  have H := H1
  clear H1
  replace H := Option.bind_eq_some_iff.mp H
  obtain ⟨⟨t225, t226⟩, A40, H⟩ := H
  replace H : (some (a0_0, a0_1, a0_2, a0_0, Go.bits .or .u64 a0_1 t225, Go.bits .or .u64 a0_2 t226, true)) = some (r1, r2, r3, r4, r5, r6, r7) := H
  have A4 := Aside0.mk A40
  clear A40
  simp only [Option.some.injEq, Prod.mk.injEq] at H
  obtain ⟨rfl, rfl, rfl, rfl, rfl, rfl, rfl⟩ := H
  go_enter Tryd.func13, Tryd.ntmps13
  go_wp2_with (first | ((with_reducible refine gate_dst (N := 10) rfl ?_); refine Ext.wpList_buildC ?hgd 36 _ ?ho ?hb ?_; (case hgd => rfl); (case ho => rfl); (case hb => ((try go_simp); exact hbl10))) | ((with_reducible refine gate_dst (N := 35) rfl ?_); refine Ext.wpList_buildC ?hgd 36 _ ?ho ?hb ?_; (case hgd => rfl); (case ho => rfl); (case hb => ((try go_simp); exact hbl35 _ _ _ _ _ _))) | ((with_reducible refine gate_dst (N := 1) rfl ?_); refine boxA (N := 1) (cs := #[.bool a0_0, .int .u64 a0_1, .int .u64 a0_2, .int .i64 a0_3]) (t := 26) ?_; intro gb222 hg w5 hbox hb; have BK222 := Aside0.mk (hbox); have GW222 := (pZ HB hg); have GE222 := (pZ HB hg); replace HB := (pS HB hb); clear hb hbox hg) | ((with_reducible refine gate_dst (N := 2) rfl ?_); refine boxA (N := 2) (cs := #[.bool false, .int .u64 0, .int .u64 0, .bool false, .int .u64 0, .int .u64 0]) (t := 36) ?_; intro gb223 hg w6 hbox hb; have BK223 := Aside0.mk (hbox); have GW223 := (pZ HB hg); have GE223 := (pZ HB hg); have NB222_223 := (pL BK222 hg); have NB223_222 := (pG BK222 hg); replace BK222 := (pB BK222 hb); replace HB := (pS HB hb); clear hb hbox hg; have hnb7 := NB222_223.out; have hnc7 := NB223_222.out; obtain ⟨hcz8_0, hcz8_1, hcz8_2, hcz8_3, hfz8_0, hfz8_1, hfz8_2, hfz8_3⟩ := pC4 BK222) | ((with_reducible refine gate_callee (f := 9) rfl ?_); refine goesA (some 8) Tryd.func9 #[.agg #[.bool a0_0, .int .u64 a0_1, .int .u64 a0_2, .int .i64 a0_3]] ?_; (with_reducible refine (prefix_Valid.calls a0_0 a0_1 a0_2 a0_3 true _ A2.out).mono ?_); rintro e w9 ⟨rfl, hb⟩; refine ⟨_, rfl, ?_⟩; replace BK222 := (pB BK222 hb); replace BK223 := (pB BK223 hb); replace HB := (pS HB hb); (try clear hb); obtain ⟨hcz10_0, hcz10_1, hcz10_2, hcz10_3, hfz10_0, hfz10_1, hfz10_2, hfz10_3⟩ := pC4 BK222) | ((with_reducible refine gate_callee (f := 30) rfl ?_); refine goesA (some 17) Tryd.func30 #[.bool a0_0, .int .i64 a0_3] ?_; (with_reducible refine (prefix_later.calls a0_0 a0_3 t225 t226 _ A4.out).mono ?_); rintro e w' ⟨rfl, ⟨nd, rfl⟩⟩; refine ⟨_, rfl, ?_⟩; (try (rw [drewN_self w9]; generalize hq_ : World.drewN w9 _ = w9; replace BK222 : Aside0 (w9.heap[gb222]? = some (.cells #[.bool a0_0, .int .u64 a0_1, .int .u64 a0_2, .int .i64 a0_3] 26 (0, 0))) := ⟨by rw [← hq_]; exact (pM BK222)⟩; replace BK223 : Aside0 (w9.heap[gb223]? = some (.cells #[.bool false, .int .u64 0, .int .u64 0, .bool false, .int .u64 0, .int .u64 0] 36 (0, 0))) := ⟨by rw [← hq_]; exact (pM BK223)⟩; replace HB : Aside0 (Below w.heap.size w w9) := ⟨by rw [← hq_]; exact (by repeat (first | (with_reducible first | exact HB.out | apply below_alloc | apply pw_below_drewN | apply below_drew1 | refine below_set ?_ GE222.out | refine below_set ?_ GE223.out) | exact HB.out))⟩; clear hq_)); obtain ⟨hcz11_0, hcz11_1, hcz11_2, hcz11_3, hfz11_0, hfz11_1, hfz11_2, hfz11_3⟩ := pC4 BK222) | ((with_reducible refine gate_dst (N := 6) rfl ?_); refine boxA (N := 6) (cs := #[.bool false, .int .u64 0, .int .u64 0]) (t := 24) ?_; intro gb227 hg w12 hbox hb; have BK227 := Aside0.mk (hbox); have GW227 := (pZ HB hg); have GE227 := (pZ HB hg); have NB222_227 := (pL BK222 hg); have NB227_222 := (pG BK222 hg); have NB223_227 := (pL BK223 hg); have NB227_223 := (pG BK223 hg); replace BK222 := (pB BK222 hb); replace BK223 := (pB BK223 hb); replace HB := (pS HB hb); clear hb hbox hg; have hnb13 := NB227_222.out; have hnc13 := NB222_227.out; have hnb14 := NB227_223.out; have hnc14 := NB223_227.out; obtain ⟨hcz15_0, hcz15_1, hcz15_2, hfz15_0, hfz15_1, hfz15_2⟩ := pC3 BK227; obtain ⟨hcz16_0, hcz16_1, hcz16_2, hcz16_3, hfz16_0, hfz16_1, hfz16_2, hfz16_3⟩ := pC4 BK222; obtain ⟨hcz17_0, hcz17_1, hcz17_2, hcz17_3, hcz17_4, hcz17_5, hfz17_0, hfz17_1, hfz17_2, hfz17_3, hfz17_4, hfz17_5⟩ := pC6 BK223) | ((with_reducible refine gate_store (t := 36) (p := 2) rfl ?_); refine store_event (t := 36) (p := 2) (v := ?vo_w18) (w1 := (((((((((((w12.setCell ⟨gb227, 0, none⟩ (.bool a0_0)).setCell ⟨gb227, 1, none⟩ (.int .u64 a0_1)).setCell ⟨gb227, 2, none⟩ (.int .u64 a0_2)).setCell ⟨gb227, 1, none⟩ (.int .u64 (Go.bits .or .u64 a0_1 t225))).setCell ⟨gb227, 2, none⟩ (.int .u64 (Go.bits .or .u64 a0_2 t226))).setCell ⟨gb223, 0, none⟩ (.bool a0_0)).setCell ⟨gb223, 1, none⟩ (.int .u64 a0_1)).setCell ⟨gb223, 2, none⟩ (.int .u64 a0_2)).setCell ⟨gb223, 3, none⟩ (.bool a0_0)).setCell ⟨gb223, 4, none⟩ (.int .u64 (Go.bits .or .u64 a0_1 t225))).setCell ⟨gb223, 5, none⟩ (.int .u64 (Go.bits .or .u64 a0_2 t226)))) ?hg ?ho ?hn ?hr ?_; (case ho => rfl); (case hg => rfl); (case hn => rfl); (case hr => first | (exact Ext.run_store_chain 36 _ _ rfl _ _ _ _ rfl rfl (pK NB223_227 (pK NB223_227 (pK NB223_227 (pK NB223_227 (pK NB223_227 (pM BK223)))))) (by kernel_rfl) rfl rfl rfl) | (go_simp; done) | (go_simp; rfl)); intro w18 hw; replace BK222 : Aside0 (w18.heap[gb222]? = some (.cells #[.bool a0_0, .int .u64 a0_1, .int .u64 a0_2, .int .i64 a0_3] 26 (0, 0))) := (pW hw (pK NB222_223 (pK NB222_223 (pK NB222_223 (pK NB222_223 (pK NB222_223 (pK NB222_223 (pK NB222_227 (pK NB222_227 (pK NB222_227 (pK NB222_227 (pK NB222_227 (pM BK222))))))))))))); replace BK223 : Aside0 (w18.heap[gb223]? = some (.cells #[.bool a0_0, .int .u64 a0_1, .int .u64 a0_2, .bool a0_0, .int .u64 (Go.bits .or .u64 a0_1 t225), .int .u64 (Go.bits .or .u64 a0_2 t226)] 36 (0, 0))) := (pW hw (pP (pP (pP (pP (pP (pP (pK NB223_227 (pK NB223_227 (pK NB223_227 (pK NB223_227 (pK NB223_227 (pM BK223))))))))))))); replace BK227 : Aside0 (w18.heap[gb227]? = some (.cells #[.bool a0_0, .int .u64 (Go.bits .or .u64 a0_1 t225), .int .u64 (Go.bits .or .u64 a0_2 t226)] 24 (0, 0))) := (pW hw (pK NB227_223 (pK NB227_223 (pK NB227_223 (pK NB227_223 (pK NB227_223 (pK NB227_223 (pP (pP (pP (pP (pP (pM BK227))))))))))))); replace HB : Aside0 (Below w.heap.size w w18) := ⟨(by rw [hw]; exact (by repeat (first | (with_reducible first | exact HB.out | apply below_alloc | apply pw_below_drewN | apply below_drew1 | refine below_set ?_ GE222.out | refine below_set ?_ GE223.out | refine below_set ?_ GE227.out) | exact HB.out)))⟩; clear hw))
  refine bodyPost_ret (results_ct rfl _ _ gb223 36 #[.bool a0_0, .int .u64 a0_1, .int .u64 a0_2, .bool a0_0, .int .u64 (Go.bits .or .u64 a0_1 t225), .int .u64 (Go.bits .or .u64 a0_2 t226)] (0, 0) _ rfl (pM BK223) Tryd.underlying36 rfl (by kernel_rfl)) rfl ?_
  exact pR (pE HB)
 ·
  replace c3 := Bool.eq_false_iff.mpr c3
  subst c3
  have H1 : (some (false, 0, 0, false, 0, 0, false)) = some (r1, r2, r3, r4, r5, r6, r7) := by rw [if_neg (show ¬ (false = true) by decide)] at H; exact H
  clear H
  have H := H1
  clear H1
  simp only [Option.some.injEq, Prod.mk.injEq] at H
  obtain ⟨rfl, rfl, rfl, rfl, rfl, rfl, rfl⟩ := H
  go_enter Tryd.func13, Tryd.ntmps13
  go_wp2_with (first | ((with_reducible refine gate_dst (N := 10) rfl ?_); refine Ext.wpList_buildC ?hgd 36 _ ?ho ?hb ?_; (case hgd => rfl); (case ho => rfl); (case hb => ((try go_simp); exact hbl10))) | ((with_reducible refine gate_dst (N := 35) rfl ?_); refine Ext.wpList_buildC ?hgd 36 _ ?ho ?hb ?_; (case hgd => rfl); (case ho => rfl); (case hb => ((try go_simp); exact hbl35 _ _ _ _ _ _))) | ((with_reducible refine gate_dst (N := 1) rfl ?_); refine boxA (N := 1) (cs := #[.bool a0_0, .int .u64 a0_1, .int .u64 a0_2, .int .i64 a0_3]) (t := 26) ?_; intro gb222 hg w19 hbox hb; have BK222 := Aside0.mk (hbox); have GW222 := (pZ HB hg); have GE222 := (pZ HB hg); replace HB := (pS HB hb); clear hb hbox hg) | ((with_reducible refine gate_dst (N := 2) rfl ?_); refine boxA (N := 2) (cs := #[.bool false, .int .u64 0, .int .u64 0, .bool false, .int .u64 0, .int .u64 0]) (t := 36) ?_; intro gb223 hg w20 hbox hb; have BK223 := Aside0.mk (hbox); have GW223 := (pZ HB hg); have GE223 := (pZ HB hg); have NB222_223 := (pL BK222 hg); have NB223_222 := (pG BK222 hg); replace BK222 := (pB BK222 hb); replace HB := (pS HB hb); clear hb hbox hg; have hnb21 := NB222_223.out; have hnc21 := NB223_222.out; obtain ⟨hcz22_0, hcz22_1, hcz22_2, hcz22_3, hfz22_0, hfz22_1, hfz22_2, hfz22_3⟩ := pC4 BK222) | ((with_reducible refine gate_callee (f := 9) rfl ?_); refine goesA (some 8) Tryd.func9 #[.agg #[.bool a0_0, .int .u64 a0_1, .int .u64 a0_2, .int .i64 a0_3]] ?_; (with_reducible refine (prefix_Valid.calls a0_0 a0_1 a0_2 a0_3 false _ A2.out).mono ?_); rintro e w23 ⟨rfl, hb⟩; refine ⟨_, rfl, ?_⟩; replace BK222 := (pB BK222 hb); replace BK223 := (pB BK223 hb); replace HB := (pS HB hb); (try clear hb); obtain ⟨hcz24_0, hcz24_1, hcz24_2, hcz24_3, hcz24_4, hcz24_5, hfz24_0, hfz24_1, hfz24_2, hfz24_3, hfz24_4, hfz24_5⟩ := pC6 BK223) | ((with_reducible refine gate_store (t := 36) (p := 2) rfl ?_); refine store_event (t := 36) (p := 2) (v := ?vo_w25) (w1 := ((((((w23.setCell ⟨gb223, 0, none⟩ (.bool false)).setCell ⟨gb223, 1, none⟩ (.int .u64 0)).setCell ⟨gb223, 2, none⟩ (.int .u64 0)).setCell ⟨gb223, 3, none⟩ (.bool false)).setCell ⟨gb223, 4, none⟩ (.int .u64 0)).setCell ⟨gb223, 5, none⟩ (.int .u64 0))) ?hg ?ho ?hn ?hr ?_; (case ho => rfl); (case hg => rfl); (case hn => rfl); (case hr => first | (exact Ext.run_store_chain 36 _ _ rfl _ _ _ _ rfl rfl (pM BK223) (by kernel_rfl) rfl rfl rfl) | (go_simp; done) | (go_simp; rfl)); intro w25 hw; replace BK222 : Aside0 (w25.heap[gb222]? = some (.cells #[.bool a0_0, .int .u64 a0_1, .int .u64 a0_2, .int .i64 a0_3] 26 (0, 0))) := (pW hw (pK NB222_223 (pK NB222_223 (pK NB222_223 (pK NB222_223 (pK NB222_223 (pK NB222_223 (pM BK222)))))))); replace BK223 : Aside0 (w25.heap[gb223]? = some (.cells #[.bool false, .int .u64 0, .int .u64 0, .bool false, .int .u64 0, .int .u64 0] 36 (0, 0))) := (pW hw (pP (pP (pP (pP (pP (pP (pM BK223)))))))); replace HB : Aside0 (Below w.heap.size w w25) := ⟨(by rw [hw]; exact (by repeat (first | (with_reducible first | exact HB.out | apply below_alloc | apply pw_below_drewN | apply below_drew1 | refine below_set ?_ GE222.out | refine below_set ?_ GE223.out) | exact HB.out)))⟩; clear hw))
  refine bodyPost_ret (results_ct rfl _ _ gb223 36 #[.bool false, .int .u64 0, .int .u64 0, .bool false, .int .u64 0, .int .u64 0] (0, 0) _ rfl (pM BK223) Tryd.underlying36 rfl (by kernel_rfl)) rfl ?_
  exact pR (pE HB)

-- NOT PRINTED: function 35 (bits_Add64)

/-! ### addr_Add: function 15 -/
def addr_Add.f (a0_0 : Bool) (a0_1 : Int) (a0_2 : Int) (a1 : Int) : Option (Bool × Int × Int × Bool) := (addr_Valid.f a0_0 a0_1 a0_2).bind fun t230 => (if t230 = true then (if (Ext.add64c a0_2 a1 0) ≤ 1 then (if (Ext.add64c a0_1 0 (Ext.add64c a0_2 a1 0)) = 0 then ((addr_Valid.f a0_0 (Ext.add64s a0_1 0 (Ext.add64c a0_2 a1 0)) (Ext.add64s a0_2 a1 0)).bind fun t232 => (if t232 = true then (some (a0_0, Ext.add64s a0_1 0 (Ext.add64c a0_2 a1 0), Ext.add64s a0_2 a1 0, true)) else (some (false, 0, 0, false)))) else (some (false, 0, 0, false))) else (none)) else (some (false, 0, 0, false)))
set_option maxHeartbeats 40000000 in
set_option maxRecDepth 100000 in
theorem addr_Add.calls (a0_0 : Bool) (a0_1 : Int) (a0_2 : Int) (a1 : Int) (r1 : Bool) (r2 : Int) (r3 : Int) (r4 : Bool) (w : World) (h : addr_Add.f a0_0 a0_1 a0_2 a1 = some (r1, r2, r3, r4)) :
 Calls Tryd.prog 15 #[.agg #[.bool a0_0, .int .u64 a0_1, .int .u64 a0_2], .int .u64 a1] w fun e w' => e = .returned (.tuple #[.agg #[.bool r1, .int .u64 r2, .int .u64 r3], .bool r4]) ∧ Below w.heap.size w w' := by
 have hu24 := Tryd.underlying24
 have hext35 := Ext.run_add64 (P := Tryd.prog) Tryd.func35 (by kernel_rfl) (by kernel_rfl) (by kernel_rfl) (by kernel_rfl)
 have HB := Aside0.mk (Below.refl w.heap.size w)
 have H : ((addr_Valid.f a0_0 a0_1 a0_2).bind fun t230 => (if t230 = true then (if (Ext.add64c a0_2 a1 0) ≤ 1 then (if (Ext.add64c a0_1 0 (Ext.add64c a0_2 a1 0)) = 0 then ((addr_Valid.f a0_0 (Ext.add64s a0_1 0 (Ext.add64c a0_2 a1 0)) (Ext.add64s a0_2 a1 0)).bind fun t232 => (if t232 = true then (some (a0_0, Ext.add64s a0_1 0 (Ext.add64c a0_2 a1 0), Ext.add64s a0_2 a1 0, true)) else (some (false, 0, 0, false)))) else (some (false, 0, 0, false))) else (none)) else (some (false, 0, 0, false)))) = some (r1, r2, r3, r4) := h
 clear h
 replace H := Option.bind_eq_some_iff.mp H
 obtain ⟨t230, A30, H⟩ := H
 replace H : (if t230 = true then (if (Ext.add64c a0_2 a1 0) ≤ 1 then (if (Ext.add64c a0_1 0 (Ext.add64c a0_2 a1 0)) = 0 then ((addr_Valid.f a0_0 (Ext.add64s a0_1 0 (Ext.add64c a0_2 a1 0)) (Ext.add64s a0_2 a1 0)).bind fun t232 => (if t232 = true then (some (a0_0, Ext.add64s a0_1 0 (Ext.add64c a0_2 a1 0), Ext.add64s a0_2 a1 0, true)) else (some (false, 0, 0, false)))) else (some (false, 0, 0, false))) else (none)) else (some (false, 0, 0, false))) = some (r1, r2, r3, r4) := H
 have A3 := Aside0.mk A30
 clear A30
 by_cases c4 : t230 = true
 ·
  subst c4
  have H1 : (if (Ext.add64c a0_2 a1 0) ≤ 1 then (if (Ext.add64c a0_1 0 (Ext.add64c a0_2 a1 0)) = 0 then ((addr_Valid.f a0_0 (Ext.add64s a0_1 0 (Ext.add64c a0_2 a1 0)) (Ext.add64s a0_2 a1 0)).bind fun t232 => (if t232 = true then (some (a0_0, Ext.add64s a0_1 0 (Ext.add64c a0_2 a1 0), Ext.add64s a0_2 a1 0, true)) else (some (false, 0, 0, false)))) else (some (false, 0, 0, false))) else (none)) = some (r1, r2, r3, r4) := by rw [if_pos rfl] at H; exact H
  clear H
  have H := H1
  clear H1
  by_cases c5 : (Ext.add64c a0_2 a1 0) ≤ 1
  ·
   rw [if_pos c5] at H
   have c5b0 := eq_true c5
   have c5b1 : decide ((Ext.add64c a0_2 a1 0) ≤ 1) = true := decide_eq_true c5
   clear c5
   by_cases c6 : (Ext.add64c a0_1 0 (Ext.add64c a0_2 a1 0)) = 0
   ·
    rw [if_pos c6] at H
    have c6b0 : ((Ext.add64c a0_1 0 (Ext.add64c a0_2 a1 0)) == 0) = true := beq_iff_eq.mpr c6
    have c6b1 : ((Ext.add64c a0_1 0 (Ext.add64c a0_2 a1 0)) != 0) = false := bne_eq_false_iff_eq.mpr c6
    clear c6
    replace H := Option.bind_eq_some_iff.mp H
    obtain ⟨t232, A70, H⟩ := H
    replace H : (if t232 = true then (some (a0_0, Ext.add64s a0_1 0 (Ext.add64c a0_2 a1 0), Ext.add64s a0_2 a1 0, true)) else (some (false, 0, 0, false))) = some (r1, r2, r3, r4) := H
    have A7 := Aside0.mk A70
    clear A70
    by_cases c8 : t232 = true
    ·
     subst c8
     have H1 : (some (a0_0, Ext.add64s a0_1 0 (Ext.add64c a0_2 a1 0), Ext.add64s a0_2 a1 0, true)) = some (r1, r2, r3, r4) := by rw [if_pos rfl] at H; exact H
     clear H
     have H := H1
     clear H1
     simp only [Option.some.injEq, Prod.mk.injEq] at H
     obtain ⟨rfl, rfl, rfl, rfl⟩ := H
     go_enter Tryd.func15, Tryd.ntmps15
     go_wp2_with (first | ((with_reducible refine gate_dst (N := 2) rfl ?_); refine boxA (N := 2) (cs := #[.bool a0_0, .int .u64 a0_1, .int .u64 a0_2]) (t := 24) ?_; intro gb228 hg w9 hbox hb; have BK228 := Aside0.mk (hbox); have GW228 := (pZ HB hg); have GE228 := (pZ HB hg); replace HB := (pS HB hb); clear hb hbox hg) | ((with_reducible refine gate_dst (N := 4) rfl ?_); refine boxA (N := 4) (cs := #[.bool false, .int .u64 0, .int .u64 0]) (t := 24) ?_; intro gb229 hg w10 hbox hb; have BK229 := Aside0.mk (hbox); have GW229 := (pZ HB hg); have GE229 := (pZ HB hg); have NB228_229 := (pL BK228 hg); have NB229_228 := (pG BK228 hg); replace BK228 := (pB BK228 hb); replace HB := (pS HB hb); clear hb hbox hg; have hnb11 := NB228_229.out; have hnc11 := NB229_228.out; obtain ⟨hcz12_0, hcz12_1, hcz12_2, hfz12_0, hfz12_1, hfz12_2⟩ := pC3 BK228) | ((with_reducible refine gate_callee (f := 18) rfl ?_); refine goesA (some 12) Tryd.func18 #[.agg #[.bool a0_0, .int .u64 a0_1, .int .u64 a0_2]] ?_; (with_reducible refine (addr_Valid.calls a0_0 a0_1 a0_2 true _ A3.out).mono ?_); rintro e w13 ⟨rfl, hb⟩; refine ⟨_, rfl, ?_⟩; replace BK228 := (pB BK228 hb); replace BK229 := (pB BK229 hb); replace HB := (pS HB hb); (try clear hb); obtain ⟨hcz14_0, hcz14_1, hcz14_2, hfz14_0, hfz14_1, hfz14_2⟩ := pC3 BK228) | ((with_reducible refine gate_dst (N := 10) rfl ?_); refine boxA (N := 10) (cs := #[.bool false, .int .u64 0, .int .u64 0]) (t := 24) ?_; intro gb231 hg w15 hbox hb; have BK231 := Aside0.mk (hbox); have GW231 := (pZ HB hg); have GE231 := (pZ HB hg); have NB228_231 := (pL BK228 hg); have NB231_228 := (pG BK228 hg); have NB229_231 := (pL BK229 hg); have NB231_229 := (pG BK229 hg); replace BK228 := (pB BK228 hb); replace BK229 := (pB BK229 hb); replace HB := (pS HB hb); clear hb hbox hg; have hnb16 := NB231_228.out; have hnc16 := NB228_231.out; have hnb17 := NB231_229.out; have hnc17 := NB229_231.out; obtain ⟨hcz18_0, hcz18_1, hcz18_2, hfz18_0, hfz18_1, hfz18_2⟩ := pC3 BK231) | (go_at_call 18; (with_reducible refine (addr_Valid.calls a0_0 (Ext.add64s a0_1 0 (Ext.add64c a0_2 a1 0)) (Ext.add64s a0_2 a1 0) true _ A7.out).mono ?_); rintro e w19 ⟨rfl, hb⟩; replace BK228 := (pD hb (pK NB228_231 (pK NB228_231 (pK NB228_231 (pM BK228))))); replace BK229 := (pD hb (pK NB229_231 (pK NB229_231 (pK NB229_231 (pM BK229))))); replace BK231 := (pD hb (pP (pP (pP (pM BK231))))); replace HB := (pS HB hb); (try clear hb); obtain ⟨hcz20_0, hcz20_1, hcz20_2, hfz20_0, hfz20_1, hfz20_2⟩ := pC3 BK231; obtain ⟨hcz21_0, hcz21_1, hcz21_2, hfz21_0, hfz21_1, hfz21_2⟩ := pC3 BK229))
     refine bodyPost_ret (results_ct rfl _ _ gb229 24 #[.bool a0_0, .int .u64 (Ext.add64s a0_1 0 (Ext.add64c a0_2 a1 0)), .int .u64 (Ext.add64s a0_2 a1 0)] (0, 0) _ rfl (pP (pP (pP (pM BK229)))) Tryd.underlying24 rfl (by kernel_rfl)) rfl ?_
     exact pR (pE HB)
    ·
     replace c8 := Bool.eq_false_iff.mpr c8
     subst c8
     have H1 : (some (false, 0, 0, false)) = some (r1, r2, r3, r4) := by rw [if_neg (show ¬ (false = true) by decide)] at H; exact H
     clear H
     have H := H1
     clear H1
     simp only [Option.some.injEq, Prod.mk.injEq] at H
     obtain ⟨rfl, rfl, rfl, rfl⟩ := H
     go_enter Tryd.func15, Tryd.ntmps15
     go_wp2_with (first | ((with_reducible refine gate_dst (N := 2) rfl ?_); refine boxA (N := 2) (cs := #[.bool a0_0, .int .u64 a0_1, .int .u64 a0_2]) (t := 24) ?_; intro gb228 hg w22 hbox hb; have BK228 := Aside0.mk (hbox); have GW228 := (pZ HB hg); have GE228 := (pZ HB hg); replace HB := (pS HB hb); clear hb hbox hg) | ((with_reducible refine gate_dst (N := 4) rfl ?_); refine boxA (N := 4) (cs := #[.bool false, .int .u64 0, .int .u64 0]) (t := 24) ?_; intro gb229 hg w23 hbox hb; have BK229 := Aside0.mk (hbox); have GW229 := (pZ HB hg); have GE229 := (pZ HB hg); have NB228_229 := (pL BK228 hg); have NB229_228 := (pG BK228 hg); replace BK228 := (pB BK228 hb); replace HB := (pS HB hb); clear hb hbox hg; have hnb24 := NB228_229.out; have hnc24 := NB229_228.out; obtain ⟨hcz25_0, hcz25_1, hcz25_2, hfz25_0, hfz25_1, hfz25_2⟩ := pC3 BK228) | ((with_reducible refine gate_callee (f := 18) rfl ?_); refine goesA (some 12) Tryd.func18 #[.agg #[.bool a0_0, .int .u64 a0_1, .int .u64 a0_2]] ?_; (with_reducible refine (addr_Valid.calls a0_0 a0_1 a0_2 true _ A3.out).mono ?_); rintro e w26 ⟨rfl, hb⟩; refine ⟨_, rfl, ?_⟩; replace BK228 := (pB BK228 hb); replace BK229 := (pB BK229 hb); replace HB := (pS HB hb); (try clear hb); obtain ⟨hcz27_0, hcz27_1, hcz27_2, hfz27_0, hfz27_1, hfz27_2⟩ := pC3 BK228) | ((with_reducible refine gate_dst (N := 10) rfl ?_); refine boxA (N := 10) (cs := #[.bool false, .int .u64 0, .int .u64 0]) (t := 24) ?_; intro gb231 hg w28 hbox hb; have BK231 := Aside0.mk (hbox); have GW231 := (pZ HB hg); have GE231 := (pZ HB hg); have NB228_231 := (pL BK228 hg); have NB231_228 := (pG BK228 hg); have NB229_231 := (pL BK229 hg); have NB231_229 := (pG BK229 hg); replace BK228 := (pB BK228 hb); replace BK229 := (pB BK229 hb); replace HB := (pS HB hb); clear hb hbox hg; have hnb29 := NB231_228.out; have hnc29 := NB228_231.out; have hnb30 := NB231_229.out; have hnc30 := NB229_231.out; obtain ⟨hcz31_0, hcz31_1, hcz31_2, hfz31_0, hfz31_1, hfz31_2⟩ := pC3 BK231) | (go_at_call 18; (with_reducible refine (addr_Valid.calls a0_0 (Ext.add64s a0_1 0 (Ext.add64c a0_2 a1 0)) (Ext.add64s a0_2 a1 0) false _ A7.out).mono ?_); rintro e w32 ⟨rfl, hb⟩; replace BK228 := (pD hb (pK NB228_231 (pK NB228_231 (pK NB228_231 (pM BK228))))); replace BK229 := (pD hb (pK NB229_231 (pK NB229_231 (pK NB229_231 (pM BK229))))); replace BK231 := (pD hb (pP (pP (pP (pM BK231))))); replace HB := (pS HB hb); (try clear hb); obtain ⟨hcz33_0, hcz33_1, hcz33_2, hfz33_0, hfz33_1, hfz33_2⟩ := pC3 BK229))
     refine bodyPost_ret (results_ct rfl _ _ gb229 24 #[.bool false, .int .u64 0, .int .u64 0] (0, 0) _ rfl (pP (pP (pP (pM BK229)))) Tryd.underlying24 rfl (by kernel_rfl)) rfl ?_
     exact pR (pE HB)
   ·
    rw [if_neg c6] at H
    have c6b0 : ((Ext.add64c a0_1 0 (Ext.add64c a0_2 a1 0)) == 0) = false := beq_eq_false_iff_ne.mpr c6
    have c6b1 : ((Ext.add64c a0_1 0 (Ext.add64c a0_2 a1 0)) != 0) = true := bne_iff_ne.mpr c6
    simp only [Option.some.injEq, Prod.mk.injEq] at H
    obtain ⟨rfl, rfl, rfl, rfl⟩ := H
    go_enter Tryd.func15, Tryd.ntmps15
    go_wp2_with (first | ((with_reducible refine gate_dst (N := 2) rfl ?_); refine boxA (N := 2) (cs := #[.bool a0_0, .int .u64 a0_1, .int .u64 a0_2]) (t := 24) ?_; intro gb228 hg w34 hbox hb; have BK228 := Aside0.mk (hbox); have GW228 := (pZ HB hg); have GE228 := (pZ HB hg); replace HB := (pS HB hb); clear hb hbox hg) | ((with_reducible refine gate_dst (N := 4) rfl ?_); refine boxA (N := 4) (cs := #[.bool false, .int .u64 0, .int .u64 0]) (t := 24) ?_; intro gb229 hg w35 hbox hb; have BK229 := Aside0.mk (hbox); have GW229 := (pZ HB hg); have GE229 := (pZ HB hg); have NB228_229 := (pL BK228 hg); have NB229_228 := (pG BK228 hg); replace BK228 := (pB BK228 hb); replace HB := (pS HB hb); clear hb hbox hg; have hnb36 := NB228_229.out; have hnc36 := NB229_228.out; obtain ⟨hcz37_0, hcz37_1, hcz37_2, hfz37_0, hfz37_1, hfz37_2⟩ := pC3 BK228) | ((with_reducible refine gate_callee (f := 18) rfl ?_); refine goesA (some 12) Tryd.func18 #[.agg #[.bool a0_0, .int .u64 a0_1, .int .u64 a0_2]] ?_; (with_reducible refine (addr_Valid.calls a0_0 a0_1 a0_2 true _ A3.out).mono ?_); rintro e w38 ⟨rfl, hb⟩; refine ⟨_, rfl, ?_⟩; replace BK228 := (pB BK228 hb); replace BK229 := (pB BK229 hb); replace HB := (pS HB hb); (try clear hb); obtain ⟨hcz39_0, hcz39_1, hcz39_2, hfz39_0, hfz39_1, hfz39_2⟩ := pC3 BK228) | ((with_reducible refine gate_dst (N := 10) rfl ?_); refine boxA (N := 10) (cs := #[.bool false, .int .u64 0, .int .u64 0]) (t := 24) ?_; intro gb231 hg w40 hbox hb; have BK231 := Aside0.mk (hbox); have GW231 := (pZ HB hg); have GE231 := (pZ HB hg); have NB228_231 := (pL BK228 hg); have NB231_228 := (pG BK228 hg); have NB229_231 := (pL BK229 hg); have NB231_229 := (pG BK229 hg); replace BK228 := (pB BK228 hb); replace BK229 := (pB BK229 hb); replace HB := (pS HB hb); clear hb hbox hg; have hnb41 := NB231_228.out; have hnc41 := NB228_231.out; have hnb42 := NB231_229.out; have hnc42 := NB229_231.out; obtain ⟨hcz43_0, hcz43_1, hcz43_2, hfz43_0, hfz43_1, hfz43_2⟩ := pC3 BK231; obtain ⟨hcz44_0, hcz44_1, hcz44_2, hfz44_0, hfz44_1, hfz44_2⟩ := pC3 BK229) | ((with_reducible refine gate_store (t := 24) (p := 4) rfl ?_); refine store_event (t := 24) (p := 4) (v := ?vo_w45) (w1 := ((((((w40.setCell ⟨gb231, 0, none⟩ (.bool a0_0)).setCell ⟨gb231, 1, none⟩ (.int .u64 (Ext.add64s a0_1 0 (Ext.add64c a0_2 a1 0)))).setCell ⟨gb231, 2, none⟩ (.int .u64 (Ext.add64s a0_2 a1 0))).setCell ⟨gb229, 0, none⟩ (.bool false)).setCell ⟨gb229, 1, none⟩ (.int .u64 0)).setCell ⟨gb229, 2, none⟩ (.int .u64 0))) ?hg ?ho ?hn ?hr ?_; (case ho => rfl); (case hg => rfl); (case hn => rfl); (case hr => first | (exact Ext.run_store_chain 24 _ _ rfl _ _ _ _ rfl rfl (pK NB229_231 (pK NB229_231 (pK NB229_231 (pM BK229)))) (by kernel_rfl) rfl rfl rfl) | (go_simp; done) | (go_simp; rfl)); intro w45 hw; replace BK228 : Aside0 (w45.heap[gb228]? = some (.cells #[.bool a0_0, .int .u64 a0_1, .int .u64 a0_2] 24 (0, 0))) := (pW hw (pK NB228_229 (pK NB228_229 (pK NB228_229 (pK NB228_231 (pK NB228_231 (pK NB228_231 (pM BK228)))))))); replace BK229 : Aside0 (w45.heap[gb229]? = some (.cells #[.bool false, .int .u64 0, .int .u64 0] 24 (0, 0))) := (pW hw (pP (pP (pP (pK NB229_231 (pK NB229_231 (pK NB229_231 (pM BK229)))))))); replace BK231 : Aside0 (w45.heap[gb231]? = some (.cells #[.bool a0_0, .int .u64 (Ext.add64s a0_1 0 (Ext.add64c a0_2 a1 0)), .int .u64 (Ext.add64s a0_2 a1 0)] 24 (0, 0))) := (pW hw (pK NB231_229 (pK NB231_229 (pK NB231_229 (pP (pP (pP (pM BK231)))))))); replace HB : Aside0 (Below w.heap.size w w45) := ⟨(by rw [hw]; exact (by repeat (first | (with_reducible first | exact HB.out | apply below_alloc | apply pw_below_drewN | apply below_drew1 | refine below_set ?_ GE228.out | refine below_set ?_ GE229.out | refine below_set ?_ GE231.out) | exact HB.out)))⟩; clear hw))
    refine bodyPost_ret (results_ct rfl _ _ gb229 24 #[.bool false, .int .u64 0, .int .u64 0] (0, 0) _ rfl (pM BK229) Tryd.underlying24 rfl (by kernel_rfl)) rfl ?_
    exact pR (pE HB)
  ·
   rw [if_neg c5] at H
   exact absurd H (by simp)
 ·
  replace c4 := Bool.eq_false_iff.mpr c4
  subst c4
  have H1 : (some (false, 0, 0, false)) = some (r1, r2, r3, r4) := by rw [if_neg (show ¬ (false = true) by decide)] at H; exact H
  clear H
  have H := H1
  clear H1
  simp only [Option.some.injEq, Prod.mk.injEq] at H
  obtain ⟨rfl, rfl, rfl, rfl⟩ := H
  go_enter Tryd.func15, Tryd.ntmps15
  go_wp2_with (first | ((with_reducible refine gate_dst (N := 2) rfl ?_); refine boxA (N := 2) (cs := #[.bool a0_0, .int .u64 a0_1, .int .u64 a0_2]) (t := 24) ?_; intro gb228 hg w46 hbox hb; have BK228 := Aside0.mk (hbox); have GW228 := (pZ HB hg); have GE228 := (pZ HB hg); replace HB := (pS HB hb); clear hb hbox hg) | ((with_reducible refine gate_dst (N := 4) rfl ?_); refine boxA (N := 4) (cs := #[.bool false, .int .u64 0, .int .u64 0]) (t := 24) ?_; intro gb229 hg w47 hbox hb; have BK229 := Aside0.mk (hbox); have GW229 := (pZ HB hg); have GE229 := (pZ HB hg); have NB228_229 := (pL BK228 hg); have NB229_228 := (pG BK228 hg); replace BK228 := (pB BK228 hb); replace HB := (pS HB hb); clear hb hbox hg; have hnb48 := NB228_229.out; have hnc48 := NB229_228.out; obtain ⟨hcz49_0, hcz49_1, hcz49_2, hfz49_0, hfz49_1, hfz49_2⟩ := pC3 BK228) | ((with_reducible refine gate_callee (f := 18) rfl ?_); refine goesA (some 12) Tryd.func18 #[.agg #[.bool a0_0, .int .u64 a0_1, .int .u64 a0_2]] ?_; (with_reducible refine (addr_Valid.calls a0_0 a0_1 a0_2 false _ A3.out).mono ?_); rintro e w50 ⟨rfl, hb⟩; refine ⟨_, rfl, ?_⟩; replace BK228 := (pB BK228 hb); replace BK229 := (pB BK229 hb); replace HB := (pS HB hb); (try clear hb); obtain ⟨hcz51_0, hcz51_1, hcz51_2, hfz51_0, hfz51_1, hfz51_2⟩ := pC3 BK229))
  refine bodyPost_ret (results_ct rfl _ _ gb229 24 #[.bool false, .int .u64 0, .int .u64 0] (0, 0) _ rfl (pP (pP (pP (pM BK229)))) Tryd.underlying24 rfl (by kernel_rfl)) rfl ?_
  exact pR (pE HB)

/-! ### addr_number: function 39 -/
def addr_number.f (a0 : Int) (a1 : Int) : Option (Int) := if a0 < a1 then (some (-1)) else (if a0 > a1 then (some 1) else (some 0))
set_option maxHeartbeats 40000000 in
set_option maxRecDepth 100000 in
theorem addr_number.calls (a0 : Int) (a1 : Int) (r : Int) (w : World) (h : addr_number.f a0 a1 = some r) :
 Calls Tryd.prog 39 #[.int .u64 a0, .int .u64 a1] w fun e w' => e = .returned (.int .i64 r) ∧ Drawn0 w w' := by
 have H : (if a0 < a1 then (some (-1)) else (if a0 > a1 then (some 1) else (some 0))) = some r := h
 clear h
 by_cases c3 : a0 < a1
 ·
  rw [if_pos c3] at H
  have c3b0 : decide (a0 < a1) = true := decide_eq_true c3
  clear c3
  obtain rfl := Option.some.inj H
  go_enter Tryd.func39, Tryd.ntmps39
  go_wp2
  go_ret
  exact ⟨by first | rfl | (simp; done) | (simp [*]; done) | ((try simp only [Bool.not_not]); (generalize ByteArray.toList _ = l_); cases l_ <;> rfl) | (simp; (generalize ByteArray.toList _ = l_); cases l_ <;> rfl), by repeat (first | exact Drawn0.refl _ | apply Drawn0.step)⟩
 ·
  rw [if_neg c3] at H
  have c3b0 : decide (a0 < a1) = false := decide_eq_false c3
  clear c3
  by_cases c4 : a0 > a1
  ·
   rw [if_pos c4] at H
   have c4b0 : decide (a1 < a0) = true := decide_eq_true c4
   clear c4
   obtain rfl := Option.some.inj H
   go_enter Tryd.func39, Tryd.ntmps39
   go_wp2
   go_ret
   exact ⟨by first | rfl | (simp; done) | (simp [*]; done) | ((try simp only [Bool.not_not]); (generalize ByteArray.toList _ = l_); cases l_ <;> rfl) | (simp; (generalize ByteArray.toList _ = l_); cases l_ <;> rfl), by repeat (first | exact Drawn0.refl _ | apply Drawn0.step)⟩
  ·
   rw [if_neg c4] at H
   have c4b0 : decide (a1 < a0) = false := decide_eq_false c4
   clear c4
   obtain rfl := Option.some.inj H
   go_enter Tryd.func39, Tryd.ntmps39
   go_wp2
   go_ret
   exact ⟨by first | rfl | (simp; done) | (simp [*]; done) | ((try simp only [Bool.not_not]); (generalize ByteArray.toList _ = l_); cases l_ <;> rfl) | (simp; (generalize ByteArray.toList _ = l_); cases l_ <;> rfl), by repeat (first | exact Drawn0.refl _ | apply Drawn0.step)⟩

/-! ### addr_Compare: function 26 -/
def addr_Compare.j0 : Nat → Bool → Bool → Int → Int → Bool → Int → Int → Option (Int)
 | 0, _, _, _, _, _, _, _ => none
 | k + 1, x5, x234000, x234001, x234002, x235000, x235001, x235002 => if x5 = true then (some (-1)) else (if (x234000 != x235000) = true then (some 1) else (if x234001 = x235001 then ((addr_number.f x234002 x235002).bind fun t235 => (some t235)) else ((addr_number.f x234001 x235001).bind fun t236 => (some t236))))
def addr_Compare.f (k : Nat) (a0_0 : Bool) (a0_1 : Int) (a0_2 : Int) (a1_0 : Bool) (a1_1 : Int) (a1_2 : Int) : Option (Int) := if (a0_0 != a1_0) = true then (addr_Compare.j0 k a1_0 a0_0 a0_1 a0_2 a1_0 a1_1 a1_2) else (addr_Compare.j0 k false a0_0 a0_1 a0_2 a1_0 a1_1 a1_2)
theorem addr_Compare.mono_l : ∀ k, (∀ y0 y1 y2 y3 y4 y5 y6, LeO (addr_Compare.j0 k y0 y1 y2 y3 y4 y5 y6) (addr_Compare.j0 (k + 1) y0 y1 y2 y3 y4 y5 y6))
 | 0 => fun _ _ _ _ _ _ _ r h => by simp [addr_Compare.j0] at h
 | k + 1 => by
  have ih0 := addr_Compare.mono_l k
  ·
   intro y0 y1 y2 y3 y4 y5 y6
   unfold addr_Compare.j0
   repeat' first
   | (with_reducible exact ih0 _ _ _ _ _ _ _)
   | (with_reducible exact LeO.refl _)
   | (with_reducible exact LeO.none _)
   | (with_reducible refine LeO.ite ?_ ?_)
   | (with_reducible refine LeO.bind ?_ (fun _ => ?_))
   | exact ih0 _ _ _ _ _ _ _
   | exact LeO.none _
   | refine LeO.ite ?_ ?_
   | refine LeO.bind ?_ (fun _ => ?_)
theorem addr_Compare.mono : ∀ a0 a1 a2 a3 a4 a5 k, LeO (addr_Compare.f k a0 a1 a2 a3 a4 a5) (addr_Compare.f (k + 1) a0 a1 a2 a3 a4 a5) := by
 intro a0 a1 a2 a3 a4 a5 k
 have ih0 := addr_Compare.mono_l k
 unfold addr_Compare.f
 repeat' first
  | (with_reducible exact ih0 _ _ _ _ _ _ _)
  | (with_reducible exact LeO.refl _)
  | (with_reducible exact LeO.none _)
  | (with_reducible refine LeO.ite ?_ ?_)
  | (with_reducible refine LeO.bind ?_ (fun _ => ?_))
  | exact ih0 _ _ _ _ _ _ _
  | exact LeO.none _
  | refine LeO.ite ?_ ?_
  | refine LeO.bind ?_ (fun _ => ?_)
set_option maxHeartbeats 40000000 in
set_option maxRecDepth 100000 in
theorem addr_Compare.calls (k : Nat) (a0_0 : Bool) (a0_1 : Int) (a0_2 : Int) (a1_0 : Bool) (a1_1 : Int) (a1_2 : Int) (r : Int) (w : World) (h : addr_Compare.f k a0_0 a0_1 a0_2 a1_0 a1_1 a1_2 = some r) :
 Calls Tryd.prog 26 #[.agg #[.bool a0_0, .int .u64 a0_1, .int .u64 a0_2], .agg #[.bool a1_0, .int .u64 a1_1, .int .u64 a1_2]] w fun e w' => e = .returned (.int .i64 r) ∧ Below w.heap.size w w' := by
 have hu24 := Tryd.underlying24
 have HB := Aside0.mk (Below.refl w.heap.size w)
 have H : (if (a0_0 != a1_0) = true then (addr_Compare.j0 k a1_0 a0_0 a0_1 a0_2 a1_0 a1_1 a1_2) else (addr_Compare.j0 k false a0_0 a0_1 a0_2 a1_0 a1_1 a1_2)) = some r := h
 clear h
 have HC3 := Aside0.mk H
 clear H
 go_enter Tryd.func26, Tryd.ntmps26
 go_upto_region 1 with (first | ((with_reducible refine gate_dst (N := 2) rfl ?_); refine boxA (N := 2) (cs := #[.bool a0_0, .int .u64 a0_1, .int .u64 a0_2]) (t := 24) ?_; intro gb233 hg w4 hbox hb; have BK233 := Aside0.mk (hbox); have GW233 := (pZ HB hg); have GE233 := (pZ HB hg); replace HB := (pS HB hb); clear hb hbox hg) | ((with_reducible refine gate_dst (N := 3) rfl ?_); refine boxA (N := 3) (cs := #[.bool a1_0, .int .u64 a1_1, .int .u64 a1_2]) (t := 24) ?_; intro gb234 hg w5 hbox hb; have BK234 := Aside0.mk (hbox); have GW234 := (pZ HB hg); have GE234 := (pZ HB hg); have NB233_234 := (pL BK233 hg); have NB234_233 := (pG BK233 hg); replace BK233 := (pB BK233 hb); replace HB := (pS HB hb); clear hb hbox hg))
 (try simp only [Act.put, List.setIfInBounds_toArray, List.set_cons_zero, List.set_cons_succ])
 go_cut [5] (fun v5 wc => ∃ (kq : Nat) (x5_2 : Bool), v5 = .bool x5_2 ∧ Aside0 (addr_Compare.j0 kq x5_2 a0_0 a0_1 a0_2 a1_0 a1_1 a1_2 = some r) ∧ Aside0 (kq ≤ k) ∧ Aside0 (wc.heap[gb233]? = some (.cells #[.bool a0_0, .int .u64 a0_1, .int .u64 a0_2] 24 (0, 0))) ∧ Aside0 (wc.heap[gb234]? = some (.cells #[.bool a1_0, .int .u64 a1_1, .int .u64 a1_2] 24 (0, 0))) ∧ Aside0 (Below w.heap.size w wc))
 case first =>
  have H := HC3.out
  clear HC3
  by_cases c6 : (a0_0 != a1_0) = true
  ·
   rw [if_pos c6] at H
   have c6b0 : (a0_0 != a1_0) = true := c6
   (try (have c6b1 : decide (a0_0 = a1_0) = false := by simpa using c6))
   (try (have c6b2 : (a0_0 == a1_0) = false := by simpa using c6))
   (try (have c6b3 : ¬ (a0_0 = a1_0) := by simpa using c6))
   clear c6
   (first | rw [c6b0] | (simp only [i64_w, i32_w]; rw [c6b0]) | skip)
   have H' := Aside0.mk H
   clear H
   have hnb7 := NB233_234.out
   have hnc7 := NB234_233.out
   obtain ⟨hcz8_0, hcz8_1, hcz8_2, hfz8_0, hfz8_1, hfz8_2⟩ := pC3 BK233
   obtain ⟨hcz9_0, hcz9_1, hcz9_2, hfz9_0, hfz9_1, hfz9_2⟩ := pC3 BK234
   go_wp2
   refine Met.intro ?_
   go_step
   (repeat apply Exists.intro)
   refine ⟨?rel, ?heq_⟩
   case heq_ => first | rfl | (rw [c6b0]) | (simp only [c6b0])
   case rel => exact ⟨_, (a1_0), pT, H', ⟨by first | omega | exact Nat.le_refl _⟩, ⟨pM BK233⟩, ⟨pM BK234⟩, ⟨pE HB⟩⟩
  ·
   rw [if_neg c6] at H
   have c6b0 : (a0_0 != a1_0) = false := by simpa using c6
   (try (have c6b1 : decide (a0_0 = a1_0) = true := by simpa using c6))
   (try (have c6b2 : (a0_0 == a1_0) = true := by simpa using c6))
   clear c6
   (first | rw [c6b0] | (simp only [i64_w, i32_w]; rw [c6b0]) | skip)
   have H' := Aside0.mk H
   clear H
   have hnb10 := NB233_234.out
   have hnc10 := NB234_233.out
   obtain ⟨hcz11_0, hcz11_1, hcz11_2, hfz11_0, hfz11_1, hfz11_2⟩ := pC3 BK233
   obtain ⟨hcz12_0, hcz12_1, hcz12_2, hfz12_0, hfz12_1, hfz12_2⟩ := pC3 BK234
   go_wp2
   refine Met.intro ?_
   go_step
   (repeat apply Exists.intro)
   refine ⟨?rel, ?heq_⟩
   case heq_ => first | rfl | (rw [c6b0]) | (simp only [c6b0])
   case rel => exact ⟨_, (false), pT, H', ⟨by first | omega | exact Nat.le_refl _⟩, ⟨pM BK233⟩, ⟨pM BK234⟩, ⟨pE HB⟩⟩
 case rest =>
  clear HC3
  try clear c1
  try clear c2
  try clear p2
  try clear c6
  try clear c6b0
  try clear c6b1
  try clear c6b2
  try clear c7
  try clear c10
  try clear hcz11_0 hcz11_1 hcz11_2
  try clear hcz12_0 hcz12_1 hcz12_2
  try clear hcz8_0 hcz8_1 hcz8_2
  try clear hcz9_0 hcz9_1 hcz9_2
  try clear hfz11_0 hfz11_1 hfz11_2
  try clear hfz12_0 hfz12_1 hfz12_2
  try clear hfz8_0 hfz8_1 hfz8_2
  try clear hfz9_0 hfz9_1 hfz9_2
  obtain ⟨kq, x5_2, rfl, HA, HJ2, BK233, BK234, HB⟩ := hcut
  cases kq with
  | zero => exact absurd HA.out (by simp [addr_Compare.j0])
  | succ kj2 =>
   have H := HA.out
   clear HA
   simp only [addr_Compare.j0] at H
   by_cases c13 : x5_2 = true
   ·
    subst c13
    rw [if_pos rfl] at H
    obtain rfl := Option.some.inj H
    go_wp2
    go_ret
    exact pR (pE HB)
   ·
    replace c13 := Bool.eq_false_iff.mpr c13
    subst c13
    rw [if_neg (show ¬ (false = true) by decide)] at H
    by_cases c14 : (a0_0 != a1_0) = true
    ·
     rw [if_pos c14] at H
     have c14b0 : (a0_0 != a1_0) = true := c14
     (try (have c14b1 : decide (a0_0 = a1_0) = false := by simpa using c14))
     (try (have c14b2 : (a0_0 == a1_0) = false := by simpa using c14))
     (try (have c14b3 : ¬ (a0_0 = a1_0) := by simpa using c14))
     clear c14
     obtain rfl := Option.some.inj H
     have hnb15 := NB233_234.out
     have hnc15 := NB234_233.out
     obtain ⟨hcz16_0, hcz16_1, hcz16_2, hfz16_0, hfz16_1, hfz16_2⟩ := pC3 BK233
     obtain ⟨hcz17_0, hcz17_1, hcz17_2, hfz17_0, hfz17_1, hfz17_2⟩ := pC3 BK234
     go_wp2
     go_ret
     exact pR (pE HB)
    ·
     rw [if_neg c14] at H
     have c14b0 : (a0_0 != a1_0) = false := by simpa using c14
     (try (have c14b1 : decide (a0_0 = a1_0) = true := by simpa using c14))
     (try (have c14b2 : (a0_0 == a1_0) = true := by simpa using c14))
     clear c14
     by_cases c18 : a0_1 = a1_1
     ·
      rw [if_pos c18] at H
      have c18b0 : (a0_1 == a1_1) = true := beq_iff_eq.mpr c18
      have c18b1 : (a0_1 != a1_1) = false := bne_eq_false_iff_eq.mpr c18
      clear c18
      replace H := Option.bind_eq_some_iff.mp H
      obtain ⟨t235, A190, H⟩ := H
      replace H : (some t235) = some r := H
      have A19 := Aside0.mk A190
      clear A190
      obtain rfl := Option.some.inj H
      have hnb20 := NB233_234.out
      have hnc20 := NB234_233.out
      obtain ⟨hcz21_0, hcz21_1, hcz21_2, hfz21_0, hfz21_1, hfz21_2⟩ := pC3 BK233
      obtain ⟨hcz22_0, hcz22_1, hcz22_2, hfz22_0, hfz22_1, hfz22_2⟩ := pC3 BK234
      go_wp2_with (first | ((with_reducible refine gate_callee (f := 39) rfl ?_); refine goesA (some 36) Tryd.func39 #[.int .u64 a0_2, .int .u64 a1_2] ?_; (with_reducible refine (addr_number.calls a0_2 a1_2 t235 _ A19.out).mono ?_); rintro e w' ⟨rfl, ⟨nd, rfl⟩⟩; refine ⟨_, rfl, ?_⟩))
      go_ret
      exact pR (pE HB)
     ·
      rw [if_neg c18] at H
      have c18b0 : (a0_1 == a1_1) = false := beq_eq_false_iff_ne.mpr c18
      have c18b1 : (a0_1 != a1_1) = true := bne_iff_ne.mpr c18
      replace H := Option.bind_eq_some_iff.mp H
      obtain ⟨t236, A230, H⟩ := H
      replace H : (some t236) = some r := H
      have A23 := Aside0.mk A230
      clear A230
      obtain rfl := Option.some.inj H
      have hnb24 := NB233_234.out
      have hnc24 := NB234_233.out
      obtain ⟨hcz25_0, hcz25_1, hcz25_2, hfz25_0, hfz25_1, hfz25_2⟩ := pC3 BK233
      obtain ⟨hcz26_0, hcz26_1, hcz26_2, hfz26_0, hfz26_1, hfz26_2⟩ := pC3 BK234
      go_wp2_with (first | ((with_reducible refine gate_callee (f := 39) rfl ?_); refine goesA (some 31) Tryd.func39 #[.int .u64 a0_1, .int .u64 a1_1] ?_; (with_reducible refine (addr_number.calls a0_1 a1_1 t236 _ A23.out).mono ?_); rintro e w' ⟨rfl, ⟨nd, rfl⟩⟩; refine ⟨_, rfl, ?_⟩))
      go_ret
      exact pR (pE HB)

/-! ### prefix_value: function 52 -/
def prefix_value.f (a0_0 : Bool) (a0_1 : Int) (a0_2 : Int) : Option (Int × Int) := some (a0_1, a0_2)
set_option maxHeartbeats 40000000 in
set_option maxRecDepth 100000 in
theorem prefix_value.calls (a0_0 : Bool) (a0_1 : Int) (a0_2 : Int) (r1 : Int) (r2 : Int) (w : World) (h : prefix_value.f a0_0 a0_1 a0_2 = some (r1, r2)) :
 Calls Tryd.prog 52 #[.agg #[.bool a0_0, .int .u64 a0_1, .int .u64 a0_2]] w fun e w' => e = .returned (.tuple #[.int .u64 r1, .int .u64 r2]) ∧ Below w.heap.size w w' := by
 have hu24 := Tryd.underlying24
 have HB := Aside0.mk (Below.refl w.heap.size w)
 have H : (some (a0_1, a0_2)) = some (r1, r2) := h
 clear h
 simp only [Option.some.injEq, Prod.mk.injEq] at H
 obtain ⟨rfl, rfl⟩ := H
 go_enter Tryd.func52, Tryd.ntmps52
 go_wp2_with (first | ((with_reducible refine gate_dst (N := 1) rfl ?_); refine boxA (N := 1) (cs := #[.bool a0_0, .int .u64 a0_1, .int .u64 a0_2]) (t := 24) ?_; intro gb237 hg w2 hbox hb; have BK237 := Aside0.mk (hbox); have GW237 := (pZ HB hg); have GE237 := (pZ HB hg); replace HB := (pS HB hb); clear hb hbox hg; obtain ⟨hcz3_0, hcz3_1, hcz3_2, hfz3_0, hfz3_1, hfz3_2⟩ := pC3 BK237))
 repeat (go_quiet (first | ((with_reducible refine gate_dst (N := 1) rfl ?_); refine boxA (N := 1) (cs := #[.bool a0_0, .int .u64 a0_1, .int .u64 a0_2]) (t := 24) ?_; intro gb237 hg w2 hbox hb; have BK237 := Aside0.mk (hbox); have GW237 := (pZ HB hg); have GE237 := (pZ HB hg); replace HB := (pS HB hb); clear hb hbox hg; obtain ⟨hcz3_0, hcz3_1, hcz3_2, hfz3_0, hfz3_1, hfz3_2⟩ := pC3 BK237)); try go_wp2_with (first | ((with_reducible refine gate_dst (N := 1) rfl ?_); refine boxA (N := 1) (cs := #[.bool a0_0, .int .u64 a0_1, .int .u64 a0_2]) (t := 24) ?_; intro gb237 hg w2 hbox hb; have BK237 := Aside0.mk (hbox); have GW237 := (pZ HB hg); have GE237 := (pZ HB hg); replace HB := (pS HB hb); clear hb hbox hg; obtain ⟨hcz3_0, hcz3_1, hcz3_2, hfz3_0, hfz3_1, hfz3_2⟩ := pC3 BK237)))
 go_ret2
 exact pR (pE HB)

end Go.Proofs.YteflcmmandlknaaDoor.PA
