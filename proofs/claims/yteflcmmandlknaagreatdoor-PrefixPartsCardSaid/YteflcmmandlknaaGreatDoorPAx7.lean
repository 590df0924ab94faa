/- The Go functions in Lean, with the proofs that the code comes to these answers: printed by this session's program (wip/px) out of the seat's translation. Conditions: each theorem's own. -/
import Derived.Test.YteflcmmandlknaaGreatDoorPAx0
import Derived.Test.YteflcmmandlknaaGreatDoorPAx4
import Derived.Test.YteflcmmandlknaaGreatDoorPAx6
namespace Go.Proofs.YteflcmmandlknaaGreatDoor.PA
open Go.RowKit Go.Proofs.YteflcmmandlknaaGreatDoorW.PrintWords Go.Proofs.YteflcmmandlknaaGreatDoorW.PrintLast Go.Proofs.YteflcmmandlknaaGreatDoorW.PrintMore
attribute [local go_sem] max2_int min2_int max_two min_two max_three min_three max_four min_four   -- for this text's walks alone
attribute [local go_sem ↓] Ext.isSome_setCell
open Press
set_option linter.unusedVariables false
set_option linter.unusedSimpArgs false
/-! ### prefix_Halves: function 12 -/
def prefix_Halves.f (k : Nat) (a0_0 : Bool) (a0_1 : Int) (a0_2 : Int) (a0_3 : Int) : Option (Bool × Int × Int × Int × Bool × Int × Int × Int × Bool) := (prefix_Part.f k a0_0 a0_1 a0_2 a0_3 (wrap64 (a0_3 + 1)) 0).bind fun bt146 => (if bt146.2.2.2.2 = true then ((prefix_Valid.f a0_0 a0_1 a0_2 a0_3).bind fun t152 => (if t152 = true then ((prefix_Part.f k a0_0 a0_1 a0_2 a0_3 (wrap64 (a0_3 + 1)) 1).bind fun bt153 => (some (bt146.1, bt146.2.1, bt146.2.2.1, bt146.2.2.2.1, bt153.1, bt153.2.1, bt153.2.2.1, bt153.2.2.2.1, bt153.2.2.2.2))) else (some (false, 0, 0, 0, false, 0, 0, 0, false)))) else (some (false, 0, 0, 0, false, 0, 0, 0, false)))
theorem prefix_Halves.mono : ∀ a0 a1 a2 a3 k, LeO (prefix_Halves.f k a0 a1 a2 a3) (prefix_Halves.f (k + 1) a0 a1 a2 a3) := by
 intro a0 a1 a2 a3 k
 unfold prefix_Halves.f
 repeat' with_reducible first | exact prefix_Part.mono _ _ _ _ _ _ _ | exact LeO.refl _ | exact LeO.none _ | refine LeO.ite ?_ ?_ | refine LeO.bind ?_ (fun _ => ?_)
set_option maxHeartbeats 40000000 in
set_option maxRecDepth 100000 in
theorem prefix_Halves.calls (k : Nat) (a0_0 : Bool) (a0_1 : Int) (a0_2 : Int) (a0_3 : Int) (r1 : Bool) (r2 : Int) (r3 : Int) (r4 : Int) (r5 : Bool) (r6 : Int) (r7 : Int) (r8 : Int) (r9 : Bool) (w : World) (h : prefix_Halves.f k a0_0 a0_1 a0_2 a0_3 = some (r1, r2, r3, r4, r5, r6, r7, r8, r9)) :
 Calls Tryz.prog 12 #[.agg #[.bool a0_0, .int .u64 a0_1, .int .u64 a0_2, .int .i64 a0_3]] w fun e w' => e = .returned (.tuple #[.agg #[.bool r1, .int .u64 r2, .int .u64 r3, .int .i64 r4], .agg #[.bool r5, .int .u64 r6, .int .u64 r7, .int .i64 r8], .bool r9]) ∧ Below w.heap.size w w' := by
 have hu26 := Tryz.underlying26
 have HB := Aside0.mk (Below.refl w.heap.size w)
 have H : ((prefix_Part.f k a0_0 a0_1 a0_2 a0_3 (wrap64 (a0_3 + 1)) 0).bind fun bt146 => (if bt146.2.2.2.2 = true then ((prefix_Valid.f a0_0 a0_1 a0_2 a0_3).bind fun t152 => (if t152 = true then ((prefix_Part.f k a0_0 a0_1 a0_2 a0_3 (wrap64 (a0_3 + 1)) 1).bind fun bt153 => (some (bt146.1, bt146.2.1, bt146.2.2.1, bt146.2.2.2.1, bt153.1, bt153.2.1, bt153.2.2.1, bt153.2.2.2.1, bt153.2.2.2.2))) else (some (false, 0, 0, 0, false, 0, 0, 0, false)))) else (some (false, 0, 0, 0, false, 0, 0, 0, false)))) = some (r1, r2, r3, r4, r5, r6, r7, r8, r9) := h
 clear h
 replace H := Option.bind_eq_some_iff.mp H
 obtain ⟨⟨t146, t147, t148, t149, t150⟩, A20, H⟩ := H
 replace H : (if t150 = true then ((prefix_Valid.f a0_0 a0_1 a0_2 a0_3).bind fun t152 => (if t152 = true then ((prefix_Part.f k a0_0 a0_1 a0_2 a0_3 (wrap64 (a0_3 + 1)) 1).bind fun bt153 => (some (t146, t147, t148, t149, bt153.1, bt153.2.1, bt153.2.2.1, bt153.2.2.2.1, bt153.2.2.2.2))) else (some (false, 0, 0, 0, false, 0, 0, 0, false)))) else (some (false, 0, 0, 0, false, 0, 0, 0, false))) = some (r1, r2, r3, r4, r5, r6, r7, r8, r9) := H
 have A2 := Aside0.mk A20
 clear A20
 by_cases c3 : t150 = true
 ·
  subst c3
  have H1 : ((prefix_Valid.f a0_0 a0_1 a0_2 a0_3).bind fun t152 => (if t152 = true then ((prefix_Part.f k a0_0 a0_1 a0_2 a0_3 (wrap64 (a0_3 + 1)) 1).bind fun bt153 => (some (t146, t147, t148, t149, bt153.1, bt153.2.1, bt153.2.2.1, bt153.2.2.2.1, bt153.2.2.2.2))) else (some (false, 0, 0, 0, false, 0, 0, 0, false)))) = some (r1, r2, r3, r4, r5, r6, r7, r8, r9) := by rw [if_pos rfl] at H; exact H
  clear H
  have H := H1
  clear H1
  replace H := Option.bind_eq_some_iff.mp H
  obtain ⟨t152, A40, H⟩ := H
  have A4 := Aside0.mk A40
  clear A40
  by_cases c5 : t152 = true
  ·
   subst c5
   have H1 : ((prefix_Part.f k a0_0 a0_1 a0_2 a0_3 (wrap64 (a0_3 + 1)) 1).bind fun bt153 => (some (t146, t147, t148, t149, bt153.1, bt153.2.1, bt153.2.2.1, bt153.2.2.2.1, bt153.2.2.2.2))) = some (r1, r2, r3, r4, r5, r6, r7, r8, r9) := by rw [if_pos rfl] at H; exact H
   clear H
   have H := H1
   clear H1
   replace H := Option.bind_eq_some_iff.mp H
   obtain ⟨⟨t153, t154, t155, t156, t157⟩, A60, H⟩ := H
   replace H : (some (t146, t147, t148, t149, t153, t154, t155, t156, t157)) = some (r1, r2, r3, r4, r5, r6, r7, r8, r9) := H
   have A6 := Aside0.mk A60
   clear A60
   simp only [Option.some.injEq, Prod.mk.injEq] at H
   obtain ⟨rfl, rfl, rfl, rfl, rfl, rfl, rfl, rfl, rfl⟩ := H
   go_enter Tryz.func12, Tryz.ntmps12
   try go_wp2_with (first | ((with_reducible refine gate_dst (N := 1) rfl ?_); refine boxA (N := 1) (cs := #[.bool a0_0, .int .u64 a0_1, .int .u64 a0_2, .int .i64 a0_3]) (t := 26) ?_; intro gb143 hg w7 hbox hb; have BK143 := Aside0.mk (hbox); have GE143 := (pZ HB hg); replace HB := (pS HB hb); clear hb hbox hg) | ((with_reducible refine gate_dst (N := 2) rfl ?_); refine boxA (N := 2) (cs := #[.bool false, .int .u64 0, .int .u64 0, .int .i64 0]) (t := 26) ?_; intro gb144 hg w8 hbox hb; have BK144 := Aside0.mk (hbox); have GE144 := (pZ HB hg); have NB143_144 := (pL BK143 hg); have NB144_143 := (pG BK143 hg); replace BK143 := (pB BK143 hb); replace HB := (pS HB hb); clear hb hbox hg) | ((with_reducible refine gate_dst (N := 3) rfl ?_); refine boxA (N := 3) (cs := #[.bool false, .int .u64 0, .int .u64 0, .int .i64 0]) (t := 26) ?_; intro gb145 hg w9 hbox hb; have BK145 := Aside0.mk (hbox); have GE145 := (pZ HB hg); have NB143_145 := (pL BK143 hg); have NB145_143 := (pG BK143 hg); have NB144_145 := (pL BK144 hg); have NB145_144 := (pG BK144 hg); replace BK143 := (pB BK143 hb); replace BK144 := (pB BK144 hb); replace HB := (pS HB hb); clear hb hbox hg; have hnb10 := NB143_144.out; have hnc10 := NB144_143.out; have hnb11 := NB143_145.out; have hnc11 := NB145_143.out; obtain ⟨hcz12_0, hcz12_1, hcz12_2, hcz12_3, hfz12_0, hfz12_1, hfz12_2, hfz12_3⟩ := pC4 BK143) | ((with_reducible refine gate_callee (f := 14) rfl ?_); refine goesA (some 13) Tryz.func14 #[.agg #[.bool a0_0, .int .u64 a0_1, .int .u64 a0_2, .int .i64 a0_3], .int .i64 (wrap64 (a0_3 + 1)), .int .u64 0] ?_; (with_reducible refine (prefix_Part.calls k a0_0 a0_1 a0_2 a0_3 (wrap64 (a0_3 + 1)) 0 t146 t147 t148 t149 true _ A2.out).mono ?_); rintro e w13 ⟨rfl, hb⟩; refine ⟨_, rfl, ?_⟩; replace BK143 := (pB BK143 hb); replace BK144 := (pB BK144 hb); replace BK145 := (pB BK145 hb); replace HB := (pS HB hb); (try clear hb)) | ((with_reducible refine gate_dst (N := 5) rfl ?_); refine boxA (N := 5) (cs := #[.bool false, .int .u64 0, .int .u64 0, .int .i64 0]) (t := 26) ?_; intro gb151 hg w14 hbox hb; have BK151 := Aside0.mk (hbox); have GE151 := (pZ HB hg); have NB143_151 := (pL BK143 hg); have NB151_143 := (pG BK143 hg); have NB144_151 := (pL BK144 hg); have NB151_144 := (pG BK144 hg); have NB145_151 := (pL BK145 hg); have NB151_145 := (pG BK145 hg); replace BK143 := (pB BK143 hb); replace BK144 := (pB BK144 hb); replace BK145 := (pB BK145 hb); replace HB := (pS HB hb); clear hb hbox hg; have hnb15 := NB151_143.out; have hnc15 := NB143_151.out; have hnb16 := NB151_144.out; have hnc16 := NB144_151.out; have hnb17 := NB151_145.out; have hnc17 := NB145_151.out; obtain ⟨hcz18_0, hcz18_1, hcz18_2, hcz18_3, hfz18_0, hfz18_1, hfz18_2, hfz18_3⟩ := pC4 BK151; obtain ⟨hcz19_0, hcz19_1, hcz19_2, hcz19_3, hfz19_0, hfz19_1, hfz19_2, hfz19_3⟩ := pC4 BK143) | (go_at_call 26; (with_reducible refine (prefix_Valid.calls a0_0 a0_1 a0_2 a0_3 true _ A4.out).mono ?_); rintro e w20 ⟨rfl, hb⟩; replace BK143 := (pD hb (pK NB143_151 (pK NB143_151 (pK NB143_151 (pK NB143_151 (pM BK143)))))); replace BK144 := (pD hb (pK NB144_151 (pK NB144_151 (pK NB144_151 (pK NB144_151 (pM BK144)))))); replace BK145 := (pD hb (pK NB145_151 (pK NB145_151 (pK NB145_151 (pK NB145_151 (pM BK145)))))); replace BK151 := (pD hb (pP (pP (pP (pP (pM BK151)))))); replace HB := (pS HB hb); (try clear hb); obtain ⟨hcz21_0, hcz21_1, hcz21_2, hcz21_3, hfz21_0, hfz21_1, hfz21_2, hfz21_3⟩ := pC4 BK143) | ((with_reducible refine gate_callee (f := 14) rfl ?_); refine goesA (some 30) Tryz.func14 #[.agg #[.bool a0_0, .int .u64 a0_1, .int .u64 a0_2, .int .i64 a0_3], .int .i64 (wrap64 (a0_3 + 1)), .int .u64 1] ?_; (with_reducible refine (prefix_Part.calls k a0_0 a0_1 a0_2 a0_3 (wrap64 (a0_3 + 1)) 1 t153 t154 t155 t156 t157 _ A6.out).mono ?_); rintro e w22 ⟨rfl, hb⟩; refine ⟨_, rfl, ?_⟩; replace BK143 := (pB BK143 hb); replace BK144 := (pB BK144 hb); replace BK145 := (pB BK145 hb); replace BK151 := (pB BK151 hb); replace HB := (pS HB hb); (try clear hb)) | ((with_reducible refine gate_dst (N := 7) rfl ?_); refine boxA (N := 7) (cs := #[.bool false, .int .u64 0, .int .u64 0, .int .i64 0]) (t := 26) ?_; intro gb158 hg w23 hbox hb; have BK158 := Aside0.mk (hbox); have GE158 := (pZ HB hg); have NB143_158 := (pL BK143 hg); have NB158_143 := (pG BK143 hg); have NB144_158 := (pL BK144 hg); have NB158_144 := (pG BK144 hg); have NB145_158 := (pL BK145 hg); have NB158_145 := (pG BK145 hg); have NB151_158 := (pL BK151 hg); have NB158_151 := (pG BK151 hg); replace BK143 := (pB BK143 hb); replace BK144 := (pB BK144 hb); replace BK145 := (pB BK145 hb); replace BK151 := (pB BK151 hb); replace HB := (pS HB hb); clear hb hbox hg; have hnb24 := NB158_143.out; have hnc24 := NB143_158.out; have hnb25 := NB158_144.out; have hnc25 := NB144_158.out; have hnb26 := NB158_145.out; have hnc26 := NB145_158.out; have hnb27 := NB158_151.out; have hnc27 := NB151_158.out; obtain ⟨hcz28_0, hcz28_1, hcz28_2, hcz28_3, hfz28_0, hfz28_1, hfz28_2, hfz28_3⟩ := pC4 BK158))
   have n0_ : Aside0 (((((w23.setCell ⟨gb158, 0, none⟩ (.bool t153)).setCell ⟨gb158, 1, none⟩ (.int .u64 t154)).setCell ⟨gb158, 2, none⟩ (.int .u64 t155)).setCell ⟨gb158, 3, none⟩ (.int .i64 t156)).heap[gb143]? = some (.cells #[.bool a0_0, .int .u64 a0_1, .int .u64 a0_2, .int .i64 a0_3] 26 (0, 0))) := ⟨by (with_reducible repeat (first | refine blk_drewN ?_ _ | refine blk_drew ?_ | refine blk_alloc ?_ _)); refine blk_far ?_ NB143_158.out _; (with_reducible repeat (first | refine blk_drewN ?_ _ | refine blk_drew ?_ | refine blk_alloc ?_ _)); refine blk_far ?_ NB143_158.out _; (with_reducible repeat (first | refine blk_drewN ?_ _ | refine blk_drew ?_ | refine blk_alloc ?_ _)); refine blk_far ?_ NB143_158.out _; (with_reducible repeat (first | refine blk_drewN ?_ _ | refine blk_drew ?_ | refine blk_alloc ?_ _)); refine blk_far ?_ NB143_158.out _; (with_reducible repeat (first | refine blk_drewN ?_ _ | refine blk_drew ?_ | refine blk_alloc ?_ _)); exact BK143.out⟩
   have n1_ : Aside0 (((((w23.setCell ⟨gb158, 0, none⟩ (.bool t153)).setCell ⟨gb158, 1, none⟩ (.int .u64 t154)).setCell ⟨gb158, 2, none⟩ (.int .u64 t155)).setCell ⟨gb158, 3, none⟩ (.int .i64 t156)).heap[gb144]? = some (.cells #[.bool false, .int .u64 0, .int .u64 0, .int .i64 0] 26 (0, 0))) := ⟨by (with_reducible repeat (first | refine blk_drewN ?_ _ | refine blk_drew ?_ | refine blk_alloc ?_ _)); refine blk_far ?_ NB144_158.out _; (with_reducible repeat (first | refine blk_drewN ?_ _ | refine blk_drew ?_ | refine blk_alloc ?_ _)); refine blk_far ?_ NB144_158.out _; (with_reducible repeat (first | refine blk_drewN ?_ _ | refine blk_drew ?_ | refine blk_alloc ?_ _)); refine blk_far ?_ NB144_158.out _; (with_reducible repeat (first | refine blk_drewN ?_ _ | refine blk_drew ?_ | refine blk_alloc ?_ _)); refine blk_far ?_ NB144_158.out _; (with_reducible repeat (first | refine blk_drewN ?_ _ | refine blk_drew ?_ | refine blk_alloc ?_ _)); exact BK144.out⟩
   have n2_ : Aside0 (((((w23.setCell ⟨gb158, 0, none⟩ (.bool t153)).setCell ⟨gb158, 1, none⟩ (.int .u64 t154)).setCell ⟨gb158, 2, none⟩ (.int .u64 t155)).setCell ⟨gb158, 3, none⟩ (.int .i64 t156)).heap[gb145]? = some (.cells #[.bool false, .int .u64 0, .int .u64 0, .int .i64 0] 26 (0, 0))) := ⟨by (with_reducible repeat (first | refine blk_drewN ?_ _ | refine blk_drew ?_ | refine blk_alloc ?_ _)); refine blk_far ?_ NB145_158.out _; (with_reducible repeat (first | refine blk_drewN ?_ _ | refine blk_drew ?_ | refine blk_alloc ?_ _)); refine blk_far ?_ NB145_158.out _; (with_reducible repeat (first | refine blk_drewN ?_ _ | refine blk_drew ?_ | refine blk_alloc ?_ _)); refine blk_far ?_ NB145_158.out _; (with_reducible repeat (first | refine blk_drewN ?_ _ | refine blk_drew ?_ | refine blk_alloc ?_ _)); refine blk_far ?_ NB145_158.out _; (with_reducible repeat (first | refine blk_drewN ?_ _ | refine blk_drew ?_ | refine blk_alloc ?_ _)); exact BK145.out⟩
   have n3_ : Aside0 (((((w23.setCell ⟨gb158, 0, none⟩ (.bool t153)).setCell ⟨gb158, 1, none⟩ (.int .u64 t154)).setCell ⟨gb158, 2, none⟩ (.int .u64 t155)).setCell ⟨gb158, 3, none⟩ (.int .i64 t156)).heap[gb151]? = some (.cells #[.bool t146, .int .u64 t147, .int .u64 t148, .int .i64 t149] 26 (0, 0))) := ⟨by (with_reducible repeat (first | refine blk_drewN ?_ _ | refine blk_drew ?_ | refine blk_alloc ?_ _)); refine blk_far ?_ NB151_158.out _; (with_reducible repeat (first | refine blk_drewN ?_ _ | refine blk_drew ?_ | refine blk_alloc ?_ _)); refine blk_far ?_ NB151_158.out _; (with_reducible repeat (first | refine blk_drewN ?_ _ | refine blk_drew ?_ | refine blk_alloc ?_ _)); refine blk_far ?_ NB151_158.out _; (with_reducible repeat (first | refine blk_drewN ?_ _ | refine blk_drew ?_ | refine blk_alloc ?_ _)); refine blk_far ?_ NB151_158.out _; (with_reducible repeat (first | refine blk_drewN ?_ _ | refine blk_drew ?_ | refine blk_alloc ?_ _)); exact BK151.out⟩
   have n4_ : Aside0 (((((w23.setCell ⟨gb158, 0, none⟩ (.bool t153)).setCell ⟨gb158, 1, none⟩ (.int .u64 t154)).setCell ⟨gb158, 2, none⟩ (.int .u64 t155)).setCell ⟨gb158, 3, none⟩ (.int .i64 t156)).heap[gb158]? = some (.cells #[.bool t153, .int .u64 t154, .int .u64 t155, .int .i64 t156] 26 (0, 0))) := ⟨by (with_reducible repeat (first | refine blk_drewN ?_ _ | refine blk_drew ?_ | refine blk_alloc ?_ _)); refine blk_put (cs := #[.bool t153, .int .u64 t154, .int .u64 t155, .int .i64 0]) ?_ 3 _ rfl; (with_reducible repeat (first | refine blk_drewN ?_ _ | refine blk_drew ?_ | refine blk_alloc ?_ _)); refine blk_put (cs := #[.bool t153, .int .u64 t154, .int .u64 0, .int .i64 0]) ?_ 2 _ rfl; (with_reducible repeat (first | refine blk_drewN ?_ _ | refine blk_drew ?_ | refine blk_alloc ?_ _)); refine blk_put (cs := #[.bool t153, .int .u64 0, .int .u64 0, .int .i64 0]) ?_ 1 _ rfl; (with_reducible repeat (first | refine blk_drewN ?_ _ | refine blk_drew ?_ | refine blk_alloc ?_ _)); refine blk_put (cs := #[.bool false, .int .u64 0, .int .u64 0, .int .i64 0]) ?_ 0 _ rfl; (with_reducible repeat (first | refine blk_drewN ?_ _ | refine blk_drew ?_ | refine blk_alloc ?_ _)); exact BK158.out⟩
   have n5_ : Aside0 (Below w.heap.size w ((((w23.setCell ⟨gb158, 0, none⟩ (.bool t153)).setCell ⟨gb158, 1, none⟩ (.int .u64 t154)).setCell ⟨gb158, 2, none⟩ (.int .u64 t155)).setCell ⟨gb158, 3, none⟩ (.int .i64 t156))) := ⟨pE HB⟩
   (try clear BK143)
   (try clear BK144)
   (try clear BK145)
   (try clear BK151)
   (try clear BK158)
   (try clear HB)
   generalize ((((w23.setCell ⟨gb158, 0, none⟩ (.bool t153)).setCell ⟨gb158, 1, none⟩ (.int .u64 t154)).setCell ⟨gb158, 2, none⟩ (.int .u64 t155)).setCell ⟨gb158, 3, none⟩ (.int .i64 t156)) = w29 at n0_ n1_ n2_ n3_ n4_ n5_ ⊢
   have BK143 := n0_
   have BK144 := n1_
   have BK145 := n2_
   have BK151 := n3_
   have BK158 := n4_
   have HB := n5_
   clear n0_ n1_ n2_ n3_ n4_ n5_
   replace BK143 := Aside0.mk (blk_drew BK143.out)
   replace BK144 := Aside0.mk (blk_drew BK144.out)
   replace BK145 := Aside0.mk (blk_drew BK145.out)
   replace BK151 := Aside0.mk (blk_drew BK151.out)
   replace BK158 := Aside0.mk (blk_drew BK158.out)
   replace HB := Aside0.mk (below_drew1 HB.out)
   refine start_ (n := 6) (S := fun w' => w'.cell? ⟨gb151, 0, none⟩ = some (.bool t146) ∧ w'.cell? ⟨gb151, 1, none⟩ = some (.int .u64 t147) ∧ w'.cell? ⟨gb151, 2, none⟩ = some (.int .u64 t148) ∧ w'.cell? ⟨gb151, 3, none⟩ = some (.int .i64 t149) ∧ w'.cell? ⟨gb158, 0, none⟩ = some (.bool t153) ∧ w'.cell? ⟨gb158, 1, none⟩ = some (.int .u64 t154) ∧ w'.cell? ⟨gb158, 2, none⟩ = some (.int .u64 t155) ∧ w'.cell? ⟨gb158, 3, none⟩ = some (.int .i64 t156)) (ds := []) (tk 6 0) (by kernel_rfl) rfl rfl ⟨bC BK151 0, bC BK151 1, bC BK151 2, bC BK151 3, bC BK158 0, bC BK158 1, bC BK158 2, bC BK158 3⟩ (fun hHeld => ?_)
   generalize w29.drew = w30 at BK143 BK144 BK145 BK151 BK158 HB hHeld ⊢
   refine pure_ (i := 2) (N := some 35) (v := ?_) (a' := ?_) (tr [0, 2, 1, 3]) rfl rfl (by kernel_rfl) (fun _ _ _ h => h) (Or.inl ⟨by rfl, ?_⟩) ?_ ?_
   rotate_left
   ·
    intro w'
    go_simp
    with_reducible rfl
   rotate_left
   ·
    simp only [Act.put, List.setIfInBounds_toArray, List.set_cons_zero, List.set_cons_succ, i64_w, i32_w]
    rfl
   refine take_ (i := 0) (N := some 33) (v := ?_) (a' := ?_) (tr [1, 1, 1, 3]) rfl rfl (by kernel_rfl) (fun _ _ _ h => h) (Or.inl ⟨by rfl, ?_⟩) hHeld ?_ ?_
   rotate_left
   ·
    rintro w' ⟨s0, s1, s2, s3, s4, s5, s6, s7⟩
    go_simp
    with_reducible rfl
   rotate_left
   ·
    simp only [Act.put, List.setIfInBounds_toArray, List.set_cons_zero, List.set_cons_succ, i64_w, i32_w]
    rfl
   refine take_ (i := 1) (N := some 34) (v := ?_) (a' := ?_) (tk 6 3) rfl rfl (by kernel_rfl) (fun _ _ _ h => h) (Or.inl ⟨by rfl, ?_⟩) hHeld ?_ ?_
   rotate_left
   ·
    rintro w' ⟨s0, s1, s2, s3, s4, s5, s6, s7⟩
    go_simp
    with_reducible rfl
   rotate_left
   ·
    simp only [Act.put, List.setIfInBounds_toArray, List.set_cons_zero, List.set_cons_succ, i64_w, i32_w]
    rfl
   refine one_ (i := 3) (N := none) (tk 6 4) rfl rfl (by kernel_rfl) (by decide) (fun K hK => ?_)
   have hs31 : w30.cell? ⟨gb144, 0, none⟩ = some (.bool false) := bC BK144 0
   have hfs31 := blk_frozen BK144.out 0
   have hns31_0 := NB143_144.out
   have hns31_2 := NB145_144.out
   have hns31_3 := NB151_144.out
   have hns31_4 := NB158_144.out
   have hms31_0 := NB144_143.out
   have hms31_2 := NB144_145.out
   have hms31_3 := NB144_151.out
   have hms31_4 := NB144_158.out
   have hs32 : w30.cell? ⟨gb144, 1, none⟩ = some (.int .u64 0) := bC BK144 1
   have hfs32 := blk_frozen BK144.out 1
   have hns32_0 := NB143_144.out
   have hns32_2 := NB145_144.out
   have hns32_3 := NB151_144.out
   have hns32_4 := NB158_144.out
   have hms32_0 := NB144_143.out
   have hms32_2 := NB144_145.out
   have hms32_3 := NB144_151.out
   have hms32_4 := NB144_158.out
   have hs33 : w30.cell? ⟨gb144, 2, none⟩ = some (.int .u64 0) := bC BK144 2
   have hfs33 := blk_frozen BK144.out 2
   have hns33_0 := NB143_144.out
   have hns33_2 := NB145_144.out
   have hns33_3 := NB151_144.out
   have hns33_4 := NB158_144.out
   have hms33_0 := NB144_143.out
   have hms33_2 := NB144_145.out
   have hms33_3 := NB144_151.out
   have hms33_4 := NB144_158.out
   have hs34 : w30.cell? ⟨gb144, 3, none⟩ = some (.int .i64 0) := bC BK144 3
   have hfs34 := blk_frozen BK144.out 3
   have hns34_0 := NB143_144.out
   have hns34_2 := NB145_144.out
   have hns34_3 := NB151_144.out
   have hns34_4 := NB158_144.out
   have hms34_0 := NB144_143.out
   have hms34_2 := NB144_145.out
   have hms34_3 := NB144_151.out
   have hms34_4 := NB144_158.out
   refine skip_ (w1 := ?_) (by rfl) rfl ?_ ?_
   rotate_left
   ·
    go_simp
    rfl
   refine hK.out _ _ ⟨((cell_far (p := ⟨gb144, _, none⟩) NB151_144.out _).trans (((cell_far (p := ⟨gb144, _, none⟩) NB151_144.out _).trans (((cell_far (p := ⟨gb144, _, none⟩) NB151_144.out _).trans (((cell_far (p := ⟨gb144, _, none⟩) NB151_144.out _).trans (hHeld.1)))))))), ((cell_far (p := ⟨gb144, _, none⟩) NB151_144.out _).trans (((cell_far (p := ⟨gb144, _, none⟩) NB151_144.out _).trans (((cell_far (p := ⟨gb144, _, none⟩) NB151_144.out _).trans (((cell_far (p := ⟨gb144, _, none⟩) NB151_144.out _).trans (hHeld.2.1)))))))), ((cell_far (p := ⟨gb144, _, none⟩) NB151_144.out _).trans (((cell_far (p := ⟨gb144, _, none⟩) NB151_144.out _).trans (((cell_far (p := ⟨gb144, _, none⟩) NB151_144.out _).trans (((cell_far (p := ⟨gb144, _, none⟩) NB151_144.out _).trans (hHeld.2.2.1)))))))), ((cell_far (p := ⟨gb144, _, none⟩) NB151_144.out _).trans (((cell_far (p := ⟨gb144, _, none⟩) NB151_144.out _).trans (((cell_far (p := ⟨gb144, _, none⟩) NB151_144.out _).trans (((cell_far (p := ⟨gb144, _, none⟩) NB151_144.out _).trans (hHeld.2.2.2.1)))))))), ((cell_far (p := ⟨gb144, _, none⟩) NB158_144.out _).trans (((cell_far (p := ⟨gb144, _, none⟩) NB158_144.out _).trans (((cell_far (p := ⟨gb144, _, none⟩) NB158_144.out _).trans (((cell_far (p := ⟨gb144, _, none⟩) NB158_144.out _).trans (hHeld.2.2.2.2.1)))))))), ((cell_far (p := ⟨gb144, _, none⟩) NB158_144.out _).trans (((cell_far (p := ⟨gb144, _, none⟩) NB158_144.out _).trans (((cell_far (p := ⟨gb144, _, none⟩) NB158_144.out _).trans (((cell_far (p := ⟨gb144, _, none⟩) NB158_144.out _).trans (hHeld.2.2.2.2.2.1)))))))), ((cell_far (p := ⟨gb144, _, none⟩) NB158_144.out _).trans (((cell_far (p := ⟨gb144, _, none⟩) NB158_144.out _).trans (((cell_far (p := ⟨gb144, _, none⟩) NB158_144.out _).trans (((cell_far (p := ⟨gb144, _, none⟩) NB158_144.out _).trans (hHeld.2.2.2.2.2.2.1)))))))), ((cell_far (p := ⟨gb144, _, none⟩) NB158_144.out _).trans (((cell_far (p := ⟨gb144, _, none⟩) NB158_144.out _).trans (((cell_far (p := ⟨gb144, _, none⟩) NB158_144.out _).trans (((cell_far (p := ⟨gb144, _, none⟩) NB158_144.out _).trans (hHeld.2.2.2.2.2.2.2))))))))⟩ (fun hHeld => ?_)
   clear hK K
   refine one_ (i := 4) (N := none) (tk 6 5) rfl rfl (by kernel_rfl) (by decide) (fun K hK => ?_)
   have hs35 : w30.cell? ⟨gb145, 0, none⟩ = some (.bool false) := bC BK145 0
   have hfs35 := blk_frozen BK145.out 0
   have hns35_0 := NB143_145.out
   have hns35_1 := NB144_145.out
   have hns35_3 := NB151_145.out
   have hns35_4 := NB158_145.out
   have hms35_0 := NB145_143.out
   have hms35_1 := NB145_144.out
   have hms35_3 := NB145_151.out
   have hms35_4 := NB145_158.out
   have hs36 : w30.cell? ⟨gb145, 1, none⟩ = some (.int .u64 0) := bC BK145 1
   have hfs36 := blk_frozen BK145.out 1
   have hns36_0 := NB143_145.out
   have hns36_1 := NB144_145.out
   have hns36_3 := NB151_145.out
   have hns36_4 := NB158_145.out
   have hms36_0 := NB145_143.out
   have hms36_1 := NB145_144.out
   have hms36_3 := NB145_151.out
   have hms36_4 := NB145_158.out
   have hs37 : w30.cell? ⟨gb145, 2, none⟩ = some (.int .u64 0) := bC BK145 2
   have hfs37 := blk_frozen BK145.out 2
   have hns37_0 := NB143_145.out
   have hns37_1 := NB144_145.out
   have hns37_3 := NB151_145.out
   have hns37_4 := NB158_145.out
   have hms37_0 := NB145_143.out
   have hms37_1 := NB145_144.out
   have hms37_3 := NB145_151.out
   have hms37_4 := NB145_158.out
   have hs38 : w30.cell? ⟨gb145, 3, none⟩ = some (.int .i64 0) := bC BK145 3
   have hfs38 := blk_frozen BK145.out 3
   have hns38_0 := NB143_145.out
   have hns38_1 := NB144_145.out
   have hns38_3 := NB151_145.out
   have hns38_4 := NB158_145.out
   have hms38_0 := NB145_143.out
   have hms38_1 := NB145_144.out
   have hms38_3 := NB145_151.out
   have hms38_4 := NB145_158.out
   refine skip_ (w1 := ?_) (by rfl) rfl ?_ ?_
   rotate_left
   ·
    go_simp
    rfl
   refine hK.out _ _ ⟨((cell_far (p := ⟨gb145, _, none⟩) NB151_145.out _).trans (((cell_far (p := ⟨gb145, _, none⟩) NB151_145.out _).trans (((cell_far (p := ⟨gb145, _, none⟩) NB151_145.out _).trans (((cell_far (p := ⟨gb145, _, none⟩) NB151_145.out _).trans (hHeld.1)))))))), ((cell_far (p := ⟨gb145, _, none⟩) NB151_145.out _).trans (((cell_far (p := ⟨gb145, _, none⟩) NB151_145.out _).trans (((cell_far (p := ⟨gb145, _, none⟩) NB151_145.out _).trans (((cell_far (p := ⟨gb145, _, none⟩) NB151_145.out _).trans (hHeld.2.1)))))))), ((cell_far (p := ⟨gb145, _, none⟩) NB151_145.out _).trans (((cell_far (p := ⟨gb145, _, none⟩) NB151_145.out _).trans (((cell_far (p := ⟨gb145, _, none⟩) NB151_145.out _).trans (((cell_far (p := ⟨gb145, _, none⟩) NB151_145.out _).trans (hHeld.2.2.1)))))))), ((cell_far (p := ⟨gb145, _, none⟩) NB151_145.out _).trans (((cell_far (p := ⟨gb145, _, none⟩) NB151_145.out _).trans (((cell_far (p := ⟨gb145, _, none⟩) NB151_145.out _).trans (((cell_far (p := ⟨gb145, _, none⟩) NB151_145.out _).trans (hHeld.2.2.2.1)))))))), ((cell_far (p := ⟨gb145, _, none⟩) NB158_145.out _).trans (((cell_far (p := ⟨gb145, _, none⟩) NB158_145.out _).trans (((cell_far (p := ⟨gb145, _, none⟩) NB158_145.out _).trans (((cell_far (p := ⟨gb145, _, none⟩) NB158_145.out _).trans (hHeld.2.2.2.2.1)))))))), ((cell_far (p := ⟨gb145, _, none⟩) NB158_145.out _).trans (((cell_far (p := ⟨gb145, _, none⟩) NB158_145.out _).trans (((cell_far (p := ⟨gb145, _, none⟩) NB158_145.out _).trans (((cell_far (p := ⟨gb145, _, none⟩) NB158_145.out _).trans (hHeld.2.2.2.2.2.1)))))))), ((cell_far (p := ⟨gb145, _, none⟩) NB158_145.out _).trans (((cell_far (p := ⟨gb145, _, none⟩) NB158_145.out _).trans (((cell_far (p := ⟨gb145, _, none⟩) NB158_145.out _).trans (((cell_far (p := ⟨gb145, _, none⟩) NB158_145.out _).trans (hHeld.2.2.2.2.2.2.1)))))))), ((cell_far (p := ⟨gb145, _, none⟩) NB158_145.out _).trans (((cell_far (p := ⟨gb145, _, none⟩) NB158_145.out _).trans (((cell_far (p := ⟨gb145, _, none⟩) NB158_145.out _).trans (((cell_far (p := ⟨gb145, _, none⟩) NB158_145.out _).trans (hHeld.2.2.2.2.2.2.2))))))))⟩ (fun hHeld => ?_)
   clear hK K
   refine pure_ (i := 5) (N := some 4) (v := ?_) (a' := ?_) (tk 6 6) rfl rfl (by kernel_rfl) (fun _ _ _ h => h) (Or.inl ⟨by rfl, ?_⟩) ?_ ?_
   rotate_left
   ·
    intro w'
    go_simp
    with_reducible rfl
   rotate_left
   ·
    simp only [Act.put, List.setIfInBounds_toArray, List.set_cons_zero, List.set_cons_succ, i64_w, i32_w]
    rfl
   refine done_ (by kernel_rfl) ?_
   try go_wp2
   refine bodyPost_ret (results_list (rs := [.cell 2 26, .cell 3 26, .tmp 4]) rfl (by simp) (.cell gb144 26 #[.bool t146, .int .u64 t147, .int .u64 t148, .int .i64 t149] (0, 0) _ rfl (pK NB144_145 (pK NB144_145 (pK NB144_145 (pK NB144_145 (pP (pP (pP (pP (pM BK144))))))))) Tryz.underlying26 rfl (by kernel_rfl) (.cell gb145 26 #[.bool t153, .int .u64 t154, .int .u64 t155, .int .i64 t156] (0, 0) _ rfl (pP (pP (pP (pP (pK NB145_144 (pK NB145_144 (pK NB145_144 (pK NB145_144 (pM BK145))))))))) Tryz.underlying26 rfl (by kernel_rfl) (.tmp .nil)))) rfl ?_
   exact pR (pE HB)
  ·
   replace c5 := Bool.eq_false_iff.mpr c5
   subst c5
   rw [if_neg (show ¬ (false = true) by decide)] at H
   simp only [Option.some.injEq, Prod.mk.injEq] at H
   obtain ⟨rfl, rfl, rfl, rfl, rfl, rfl, rfl, rfl, rfl⟩ := H
   go_enter Tryz.func12, Tryz.ntmps12
   go_wp2_with (first | ((with_reducible refine gate_dst (N := 1) rfl ?_); refine boxA (N := 1) (cs := #[.bool a0_0, .int .u64 a0_1, .int .u64 a0_2, .int .i64 a0_3]) (t := 26) ?_; intro gb143 hg w39 hbox hb; have BK143 := Aside0.mk (hbox); have GE143 := (pZ HB hg); replace HB := (pS HB hb); clear hb hbox hg) | ((with_reducible refine gate_dst (N := 2) rfl ?_); refine boxA (N := 2) (cs := #[.bool false, .int .u64 0, .int .u64 0, .int .i64 0]) (t := 26) ?_; intro gb144 hg w40 hbox hb; have BK144 := Aside0.mk (hbox); have GE144 := (pZ HB hg); have NB143_144 := (pL BK143 hg); have NB144_143 := (pG BK143 hg); replace BK143 := (pB BK143 hb); replace HB := (pS HB hb); clear hb hbox hg) | ((with_reducible refine gate_dst (N := 3) rfl ?_); refine boxA (N := 3) (cs := #[.bool false, .int .u64 0, .int .u64 0, .int .i64 0]) (t := 26) ?_; intro gb145 hg w41 hbox hb; have BK145 := Aside0.mk (hbox); have GE145 := (pZ HB hg); have NB143_145 := (pL BK143 hg); have NB145_143 := (pG BK143 hg); have NB144_145 := (pL BK144 hg); have NB145_144 := (pG BK144 hg); replace BK143 := (pB BK143 hb); replace BK144 := (pB BK144 hb); replace HB := (pS HB hb); clear hb hbox hg; have hnb42 := NB143_144.out; have hnc42 := NB144_143.out; have hnb43 := NB143_145.out; have hnc43 := NB145_143.out; obtain ⟨hcz44_0, hcz44_1, hcz44_2, hcz44_3, hfz44_0, hfz44_1, hfz44_2, hfz44_3⟩ := pC4 BK143) | ((with_reducible refine gate_callee (f := 14) rfl ?_); refine goesA (some 13) Tryz.func14 #[.agg #[.bool a0_0, .int .u64 a0_1, .int .u64 a0_2, .int .i64 a0_3], .int .i64 (wrap64 (a0_3 + 1)), .int .u64 0] ?_; (with_reducible refine (prefix_Part.calls k a0_0 a0_1 a0_2 a0_3 (wrap64 (a0_3 + 1)) 0 t146 t147 t148 t149 true _ A2.out).mono ?_); rintro e w45 ⟨rfl, hb⟩; refine ⟨_, rfl, ?_⟩; replace BK143 := (pB BK143 hb); replace BK144 := (pB BK144 hb); replace BK145 := (pB BK145 hb); replace HB := (pS HB hb); (try clear hb)) | ((with_reducible refine gate_dst (N := 5) rfl ?_); refine boxA (N := 5) (cs := #[.bool false, .int .u64 0, .int .u64 0, .int .i64 0]) (t := 26) ?_; intro gb151 hg w46 hbox hb; have BK151 := Aside0.mk (hbox); have GE151 := (pZ HB hg); have NB143_151 := (pL BK143 hg); have NB151_143 := (pG BK143 hg); have NB144_151 := (pL BK144 hg); have NB151_144 := (pG BK144 hg); have NB145_151 := (pL BK145 hg); have NB151_145 := (pG BK145 hg); replace BK143 := (pB BK143 hb); replace BK144 := (pB BK144 hb); replace BK145 := (pB BK145 hb); replace HB := (pS HB hb); clear hb hbox hg; have hnb47 := NB151_143.out; have hnc47 := NB143_151.out; have hnb48 := NB151_144.out; have hnc48 := NB144_151.out; have hnb49 := NB151_145.out; have hnc49 := NB145_151.out; obtain ⟨hcz50_0, hcz50_1, hcz50_2, hcz50_3, hfz50_0, hfz50_1, hfz50_2, hfz50_3⟩ := pC4 BK151; obtain ⟨hcz51_0, hcz51_1, hcz51_2, hcz51_3, hfz51_0, hfz51_1, hfz51_2, hfz51_3⟩ := pC4 BK143) | (go_at_call 26; (with_reducible refine (prefix_Valid.calls a0_0 a0_1 a0_2 a0_3 false _ A4.out).mono ?_); rintro e w52 ⟨rfl, hb⟩; replace BK143 := (pD hb (pK NB143_151 (pK NB143_151 (pK NB143_151 (pK NB143_151 (pM BK143)))))); replace BK144 := (pD hb (pK NB144_151 (pK NB144_151 (pK NB144_151 (pK NB144_151 (pM BK144)))))); replace BK145 := (pD hb (pK NB145_151 (pK NB145_151 (pK NB145_151 (pK NB145_151 (pM BK145)))))); replace BK151 := (pD hb (pP (pP (pP (pP (pM BK151)))))); replace HB := (pS HB hb); (try clear hb); have hnb53 := NB144_145.out; have hnc53 := NB145_144.out; obtain ⟨hcz54_0, hcz54_1, hcz54_2, hcz54_3, hfz54_0, hfz54_1, hfz54_2, hfz54_3⟩ := pC4 BK144; obtain ⟨hcz55_0, hcz55_1, hcz55_2, hcz55_3, hfz55_0, hfz55_1, hfz55_2, hfz55_3⟩ := pC4 BK145) | ((with_reducible refine gate_store (t := 26) (p := 3) rfl ?_); refine store_event (t := 26) (p := 3) (v := ?vo_w56) (w1 := ((((((((w52.setCell ⟨gb144, 0, none⟩ (.bool false)).setCell ⟨gb144, 1, none⟩ (.int .u64 0)).setCell ⟨gb144, 2, none⟩ (.int .u64 0)).setCell ⟨gb144, 3, none⟩ (.int .i64 0)).setCell ⟨gb145, 0, none⟩ (.bool false)).setCell ⟨gb145, 1, none⟩ (.int .u64 0)).setCell ⟨gb145, 2, none⟩ (.int .u64 0)).setCell ⟨gb145, 3, none⟩ (.int .i64 0))) ?hg ?ho ?hn ?hr ?_; (case ho => rfl); (case hg => rfl); (case hn => rfl); (case hr => first | (exact Ext.run_store_chain 26 _ _ rfl _ _ _ _ rfl rfl (pK NB145_144 (pK NB145_144 (pK NB145_144 (pK NB145_144 (pM BK145))))) (by kernel_rfl) rfl rfl rfl) | (go_simp; done) | (go_simp; rfl)); intro w56 hw; replace BK143 : Aside0 (w56.heap[gb143]? = some (.cells #[.bool a0_0, .int .u64 a0_1, .int .u64 a0_2, .int .i64 a0_3] 26 (0, 0))) := (pW hw (pK NB143_145 (pK NB143_145 (pK NB143_145 (pK NB143_145 (pK NB143_144 (pK NB143_144 (pK NB143_144 (pK NB143_144 (pM BK143)))))))))); replace BK144 : Aside0 (w56.heap[gb144]? = some (.cells #[.bool false, .int .u64 0, .int .u64 0, .int .i64 0] 26 (0, 0))) := (pW hw (pK NB144_145 (pK NB144_145 (pK NB144_145 (pK NB144_145 (pP (pP (pP (pP (pM BK144)))))))))); replace BK145 : Aside0 (w56.heap[gb145]? = some (.cells #[.bool false, .int .u64 0, .int .u64 0, .int .i64 0] 26 (0, 0))) := (pW hw (pP (pP (pP (pP (pK NB145_144 (pK NB145_144 (pK NB145_144 (pK NB145_144 (pM BK145)))))))))); replace BK151 : Aside0 (w56.heap[gb151]? = some (.cells #[.bool t146, .int .u64 t147, .int .u64 t148, .int .i64 t149] 26 (0, 0))) := (pW hw (pK NB151_145 (pK NB151_145 (pK NB151_145 (pK NB151_145 (pK NB151_144 (pK NB151_144 (pK NB151_144 (pK NB151_144 (pM BK151)))))))))); replace HB : Aside0 (Below w.heap.size w w56) := ⟨(by rw [hw]; exact (by repeat (first | (with_reducible first | exact HB.out | apply below_alloc | apply pw_below_drewN | apply below_drew1 | refine below_set ?_ GE143.out | refine below_set ?_ GE144.out | refine below_set ?_ GE145.out | refine below_set ?_ GE151.out) | exact HB.out)))⟩; clear hw))
   refine bodyPost_ret (results_list (rs := [.cell 2 26, .cell 3 26, .tmp 4]) rfl (by simp) (.cell gb144 26 #[.bool false, .int .u64 0, .int .u64 0, .int .i64 0] (0, 0) _ rfl (pM BK144) Tryz.underlying26 rfl (by kernel_rfl) (.cell gb145 26 #[.bool false, .int .u64 0, .int .u64 0, .int .i64 0] (0, 0) _ rfl (pM BK145) Tryz.underlying26 rfl (by kernel_rfl) (.tmp .nil)))) rfl ?_
   exact pR (pE HB)
 ·
  replace c3 := Bool.eq_false_iff.mpr c3
  subst c3
  rw [if_neg (show ¬ (false = true) by decide)] at H
  simp only [Option.some.injEq, Prod.mk.injEq] at H
  obtain ⟨rfl, rfl, rfl, rfl, rfl, rfl, rfl, rfl, rfl⟩ := H
  go_enter Tryz.func12, Tryz.ntmps12
  go_wp2_with (first | ((with_reducible refine gate_dst (N := 1) rfl ?_); refine boxA (N := 1) (cs := #[.bool a0_0, .int .u64 a0_1, .int .u64 a0_2, .int .i64 a0_3]) (t := 26) ?_; intro gb143 hg w57 hbox hb; have BK143 := Aside0.mk (hbox); have GE143 := (pZ HB hg); replace HB := (pS HB hb); clear hb hbox hg) | ((with_reducible refine gate_dst (N := 2) rfl ?_); refine boxA (N := 2) (cs := #[.bool false, .int .u64 0, .int .u64 0, .int .i64 0]) (t := 26) ?_; intro gb144 hg w58 hbox hb; have BK144 := Aside0.mk (hbox); have GE144 := (pZ HB hg); have NB143_144 := (pL BK143 hg); have NB144_143 := (pG BK143 hg); replace BK143 := (pB BK143 hb); replace HB := (pS HB hb); clear hb hbox hg) | ((with_reducible refine gate_dst (N := 3) rfl ?_); refine boxA (N := 3) (cs := #[.bool false, .int .u64 0, .int .u64 0, .int .i64 0]) (t := 26) ?_; intro gb145 hg w59 hbox hb; have BK145 := Aside0.mk (hbox); have GE145 := (pZ HB hg); have NB143_145 := (pL BK143 hg); have NB145_143 := (pG BK143 hg); have NB144_145 := (pL BK144 hg); have NB145_144 := (pG BK144 hg); replace BK143 := (pB BK143 hb); replace BK144 := (pB BK144 hb); replace HB := (pS HB hb); clear hb hbox hg; have hnb60 := NB143_144.out; have hnc60 := NB144_143.out; have hnb61 := NB143_145.out; have hnc61 := NB145_143.out; obtain ⟨hcz62_0, hcz62_1, hcz62_2, hcz62_3, hfz62_0, hfz62_1, hfz62_2, hfz62_3⟩ := pC4 BK143) | ((with_reducible refine gate_callee (f := 14) rfl ?_); refine goesA (some 13) Tryz.func14 #[.agg #[.bool a0_0, .int .u64 a0_1, .int .u64 a0_2, .int .i64 a0_3], .int .i64 (wrap64 (a0_3 + 1)), .int .u64 0] ?_; (with_reducible refine (prefix_Part.calls k a0_0 a0_1 a0_2 a0_3 (wrap64 (a0_3 + 1)) 0 t146 t147 t148 t149 false _ A2.out).mono ?_); rintro e w63 ⟨rfl, hb⟩; refine ⟨_, rfl, ?_⟩; replace BK143 := (pB BK143 hb); replace BK144 := (pB BK144 hb); replace BK145 := (pB BK145 hb); replace HB := (pS HB hb); (try clear hb)) | ((with_reducible refine gate_dst (N := 5) rfl ?_); refine boxA (N := 5) (cs := #[.bool false, .int .u64 0, .int .u64 0, .int .i64 0]) (t := 26) ?_; intro gb151 hg w64 hbox hb; have BK151 := Aside0.mk (hbox); have GE151 := (pZ HB hg); have NB143_151 := (pL BK143 hg); have NB151_143 := (pG BK143 hg); have NB144_151 := (pL BK144 hg); have NB151_144 := (pG BK144 hg); have NB145_151 := (pL BK145 hg); have NB151_145 := (pG BK145 hg); replace BK143 := (pB BK143 hb); replace BK144 := (pB BK144 hb); replace BK145 := (pB BK145 hb); replace HB := (pS HB hb); clear hb hbox hg; have hnb65 := NB151_143.out; have hnc65 := NB143_151.out; have hnb66 := NB151_144.out; have hnc66 := NB144_151.out; have hnb67 := NB151_145.out; have hnc67 := NB145_151.out; obtain ⟨hcz68_0, hcz68_1, hcz68_2, hcz68_3, hfz68_0, hfz68_1, hfz68_2, hfz68_3⟩ := pC4 BK151; have hnb69 := NB144_145.out; have hnc69 := NB145_144.out; obtain ⟨hcz70_0, hcz70_1, hcz70_2, hcz70_3, hfz70_0, hfz70_1, hfz70_2, hfz70_3⟩ := pC4 BK144) | ((with_reducible refine gate_store (t := 26) (p := 2) rfl ?_); refine store_event (t := 26) (p := 2) (v := ?vo_w71) (w1 := ((((((((w64.setCell ⟨gb151, 0, none⟩ (.bool t146)).setCell ⟨gb151, 1, none⟩ (.int .u64 t147)).setCell ⟨gb151, 2, none⟩ (.int .u64 t148)).setCell ⟨gb151, 3, none⟩ (.int .i64 t149)).setCell ⟨gb144, 0, none⟩ (.bool false)).setCell ⟨gb144, 1, none⟩ (.int .u64 0)).setCell ⟨gb144, 2, none⟩ (.int .u64 0)).setCell ⟨gb144, 3, none⟩ (.int .i64 0))) ?hg ?ho ?hn ?hr ?_; (case ho => rfl); (case hg => rfl); (case hn => rfl); (case hr => first | (exact Ext.run_store_chain 26 _ _ rfl _ _ _ _ rfl rfl (pK NB144_151 (pK NB144_151 (pK NB144_151 (pK NB144_151 (pM BK144))))) (by kernel_rfl) rfl rfl rfl) | (go_simp; done) | (go_simp; rfl)); intro w71 hw; replace BK143 : Aside0 (w71.heap[gb143]? = some (.cells #[.bool a0_0, .int .u64 a0_1, .int .u64 a0_2, .int .i64 a0_3] 26 (0, 0))) := (pW hw (pK NB143_144 (pK NB143_144 (pK NB143_144 (pK NB143_144 (pK NB143_151 (pK NB143_151 (pK NB143_151 (pK NB143_151 (pM BK143)))))))))); replace BK144 : Aside0 (w71.heap[gb144]? = some (.cells #[.bool false, .int .u64 0, .int .u64 0, .int .i64 0] 26 (0, 0))) := (pW hw (pP (pP (pP (pP (pK NB144_151 (pK NB144_151 (pK NB144_151 (pK NB144_151 (pM BK144)))))))))); replace BK145 : Aside0 (w71.heap[gb145]? = some (.cells #[.bool false, .int .u64 0, .int .u64 0, .int .i64 0] 26 (0, 0))) := (pW hw (pK NB145_144 (pK NB145_144 (pK NB145_144 (pK NB145_144 (pK NB145_151 (pK NB145_151 (pK NB145_151 (pK NB145_151 (pM BK145)))))))))); replace BK151 : Aside0 (w71.heap[gb151]? = some (.cells #[.bool t146, .int .u64 t147, .int .u64 t148, .int .i64 t149] 26 (0, 0))) := (pW hw (pK NB151_144 (pK NB151_144 (pK NB151_144 (pK NB151_144 (pP (pP (pP (pP (pM BK151)))))))))); replace HB : Aside0 (Below w.heap.size w w71) := ⟨(by rw [hw]; exact (by repeat (first | (with_reducible first | exact HB.out | apply below_alloc | apply pw_below_drewN | apply below_drew1 | refine below_set ?_ GE143.out | refine below_set ?_ GE144.out | refine below_set ?_ GE145.out | refine below_set ?_ GE151.out) | exact HB.out)))⟩; clear hw; obtain ⟨hcz72_0, hcz72_1, hcz72_2, hcz72_3, hfz72_0, hfz72_1, hfz72_2, hfz72_3⟩ := pC4 BK145))
  refine bodyPost_ret (results_list (rs := [.cell 2 26, .cell 3 26, .tmp 4]) rfl (by simp) (.cell gb144 26 #[.bool false, .int .u64 0, .int .u64 0, .int .i64 0] (0, 0) _ rfl (pK NB144_145 (pK NB144_145 (pK NB144_145 (pK NB144_145 (pM BK144))))) Tryz.underlying26 rfl (by kernel_rfl) (.cell gb145 26 #[.bool false, .int .u64 0, .int .u64 0, .int .i64 0] (0, 0) _ rfl (pP (pP (pP (pP (pM BK145))))) Tryz.underlying26 rfl (by kernel_rfl) (.tmp .nil)))) rfl ?_
  exact pR (pE HB)

/-! ### prefix_Size: function 16 -/
def prefix_Size.f (a0_0 : Bool) (a0_1 : Int) (a0_2 : Int) (a0_3 : Int) : Option (Int × Bool) := (prefix_Valid.f a0_0 a0_1 a0_2 a0_3).bind fun t160 => (if t160 = true then ((prefix_length.f a0_0 a0_1 a0_2).bind fun t161 => (if (wrap64 (t161 - a0_3)) ≥ 64 then (some (0, false)) else (if 0 ≤ (IntKind.u64.wrap (wrap64 (t161 - a0_3))) then (some (shl .u64 1 (IntKind.u64.wrap (wrap64 (t161 - a0_3))), true)) else (none)))) else (some (0, false)))
set_option maxHeartbeats 40000000 in
set_option maxRecDepth 100000 in
theorem prefix_Size.calls (a0_0 : Bool) (a0_1 : Int) (a0_2 : Int) (a0_3 : Int) (r1 : Int) (r2 : Bool) (w : World) (h : prefix_Size.f a0_0 a0_1 a0_2 a0_3 = some (r1, r2)) :
 Calls Tryz.prog 16 #[.agg #[.bool a0_0, .int .u64 a0_1, .int .u64 a0_2, .int .i64 a0_3]] w fun e w' => e = .returned (.tuple #[.int .u64 r1, .bool r2]) ∧ Below w.heap.size w w' := by
 have hu26 := Tryz.underlying26
 have hu24 := Tryz.underlying24
 have HB := Aside0.mk (Below.refl w.heap.size w)
 have H : ((prefix_Valid.f a0_0 a0_1 a0_2 a0_3).bind fun t160 => (if t160 = true then ((prefix_length.f a0_0 a0_1 a0_2).bind fun t161 => (if (wrap64 (t161 - a0_3)) ≥ 64 then (some (0, false)) else (if 0 ≤ (IntKind.u64.wrap (wrap64 (t161 - a0_3))) then (some (shl .u64 1 (IntKind.u64.wrap (wrap64 (t161 - a0_3))), true)) else (none)))) else (some (0, false)))) = some (r1, r2) := h
 clear h
 replace H := Option.bind_eq_some_iff.mp H
 obtain ⟨t160, A20, H⟩ := H
 have A2 := Aside0.mk A20
 clear A20
 by_cases c3 : t160 = true
 ·
  subst c3
  have H1 : ((prefix_length.f a0_0 a0_1 a0_2).bind fun t161 => (if (wrap64 (t161 - a0_3)) ≥ 64 then (some (0, false)) else (if 0 ≤ (IntKind.u64.wrap (wrap64 (t161 - a0_3))) then (some (shl .u64 1 (IntKind.u64.wrap (wrap64 (t161 - a0_3))), true)) else (none)))) = some (r1, r2) := by rw [if_pos rfl] at H; exact H
  clear H
  have H := H1
  clear H1
  replace H := Option.bind_eq_some_iff.mp H
  obtain ⟨t161, A40, H⟩ := H
  have A4 := Aside0.mk A40
  clear A40
  by_cases c5 : (wrap64 (t161 - a0_3)) ≥ 64
  ·
   rw [if_pos c5] at H
   have c5b0 := decide_eq_true c5
   clear c5
   simp only [Option.some.injEq, Prod.mk.injEq] at H
   obtain ⟨rfl, rfl⟩ := H
   go_enter Tryz.func16, Tryz.ntmps16
   try go_wp2_with (first | ((with_reducible refine gate_dst (N := 1) rfl ?_); refine boxA (N := 1) (cs := #[.bool a0_0, .int .u64 a0_1, .int .u64 a0_2, .int .i64 a0_3]) (t := 26) ?_; intro gb159 hg w6 hbox hb; have BK159 := Aside0.mk (hbox); have GE159 := (pZ HB hg); replace HB := (pS HB hb); clear hb hbox hg; obtain ⟨hcz7_0, hcz7_1, hcz7_2, hcz7_3, hfz7_0, hfz7_1, hfz7_2, hfz7_3⟩ := pC4 BK159) | ((with_reducible refine gate_callee (f := 26) rfl ?_); refine goesA (some 6) Tryz.func26 #[.agg #[.bool a0_0, .int .u64 a0_1, .int .u64 a0_2, .int .i64 a0_3]] ?_; (with_reducible refine (prefix_Valid.calls a0_0 a0_1 a0_2 a0_3 true _ A2.out).mono ?_); rintro e w8 ⟨rfl, hb⟩; refine ⟨_, rfl, ?_⟩; replace BK159 := (pB BK159 hb); replace HB := (pS HB hb); (try clear hb)))
   replace BK159 := Aside0.mk (blk_drew BK159.out)
   replace HB := Aside0.mk (below_drew1 HB.out)
   refine start_ (n := 7) (S := fun w' => w'.cell? ⟨gb159, 0, none⟩ = some (.bool a0_0) ∧ w'.cell? ⟨gb159, 1, none⟩ = some (.int .u64 a0_1) ∧ w'.cell? ⟨gb159, 2, none⟩ = some (.int .u64 a0_2) ∧ w'.cell? ⟨gb159, 3, none⟩ = some (.int .i64 a0_3)) (ds := []) (tk 7 0) (by kernel_rfl) rfl rfl ⟨bC BK159 0, bC BK159 1, bC BK159 2, bC BK159 3⟩ (fun hHeld => ?_)
   generalize w8.drew = w9 at BK159 HB hHeld ⊢
   refine pure_ (i := 0) (N := some 8) (v := ?_) (a' := ?_) (tk 7 1) rfl rfl (by kernel_rfl) (fun _ _ _ h => h) (Or.inl ⟨by rfl, ?_⟩) ?_ ?_
   rotate_left
   ·
    intro w'
    go_simp
    with_reducible rfl
   rotate_left
   ·
    simp only [Act.put, List.setIfInBounds_toArray, List.set_cons_zero, List.set_cons_succ, i64_w, i32_w]
    rfl
   refine pure_ (i := 3) (N := some 11) (v := ?_) (a' := ?_) (tr [1, 2, 1, 3]) rfl rfl (by kernel_rfl) (fun _ _ _ h => h) (Or.inl ⟨by rfl, ?_⟩) ?_ ?_
   rotate_left
   ·
    intro w'
    go_simp
    with_reducible rfl
   rotate_left
   ·
    simp only [Act.put, List.setIfInBounds_toArray, List.set_cons_zero, List.set_cons_succ, i64_w, i32_w]
    rfl
   refine take_ (i := 1) (N := some 9) (v := ?_) (a' := ?_) (tr [2, 1, 1, 3]) rfl rfl (by kernel_rfl) (fun _ _ _ h => h) (Or.inl ⟨by rfl, ?_⟩) hHeld ?_ ?_
   rotate_left
   ·
    rintro w' ⟨s0, s1, s2, s3⟩
    go_simp
    with_reducible rfl
   rotate_left
   ·
    simp only [Act.put, List.setIfInBounds_toArray, List.set_cons_zero, List.set_cons_succ, i64_w, i32_w]
    rfl
   refine take_ (i := 4) (N := some 12) (v := ?_) (a' := ?_) (tr [2, 1, 2, 2]) rfl rfl (by kernel_rfl) (fun _ _ _ h => h) (Or.inl ⟨by rfl, ?_⟩) hHeld ?_ ?_
   rotate_left
   ·
    rintro w' ⟨s0, s1, s2, s3⟩
    go_simp
    with_reducible rfl
   rotate_left
   ·
    simp only [Act.put, List.setIfInBounds_toArray, List.set_cons_zero, List.set_cons_succ, i64_w, i32_w]
    rfl
   refine one_ (i := 2) (N := some 10) (tk 7 5) rfl rfl (by kernel_rfl) (by decide) (fun K hK => ?_)
   refine goesR Tryz.func46 #[.agg #[.bool a0_0, .int .u64 a0_1, .int .u64 a0_2]] ?_
   with_reducible refine (prefix_length.calls a0_0 a0_1 a0_2 t161 _ A4.out).mono ?_
   rintro e w10 ⟨rfl, hb⟩
   refine ⟨_, rfl, ?_⟩
   replace BK159 := (pB BK159 hb)
   replace HB := (pS HB hb)
   (try clear hb)
   refine hK.out _ _ ⟨bC BK159 0, bC BK159 1, bC BK159 2, bC BK159 3⟩ (fun hHeld => ?_)
   clear hK K
   refine normA (N := some 10) ?_
   refine pure_ (i := 5) (N := some 13) (v := ?_) (a' := ?_) (tk 7 6) rfl rfl (by kernel_rfl) (fun _ _ _ h => h) (Or.inl ⟨by rfl, ?_⟩) ?_ ?_
   rotate_left
   ·
    intro w'
    go_simp
    with_reducible rfl
   rotate_left
   ·
    simp only [Act.put, List.setIfInBounds_toArray, List.set_cons_zero, List.set_cons_succ, i64_w, i32_w]
    rfl
   refine pure_ (i := 6) (N := some 4) (v := ?_) (a' := ?_) (tk 7 7) rfl rfl (by kernel_rfl) (fun _ _ _ h => h) (Or.inl ⟨by rfl, ?_⟩) ?_ ?_
   rotate_left
   ·
    intro w'
    go_simp
    with_reducible rfl
   rotate_left
   ·
    simp only [Act.put, List.setIfInBounds_toArray, List.set_cons_zero, List.set_cons_succ, i64_w, i32_w]
    rfl
   refine done_ (by kernel_rfl) ?_
   try go_wp2
   go_ret2
   exact pR (pE HB)
  ·
   rw [if_neg c5] at H
   have c5b0 := decide_eq_false c5
   clear c5
   obtain ⟨ji11, hji11⟩ : ∃ j_ : Int, (IntKind.u64.wrap (wrap64 (t161 - a0_3))) = j_ := ⟨_, rfl⟩
   replace H : (if 0 ≤ (ji11) then (some (shl .u64 1 (ji11), true)) else (none)) = some (r1, r2) := by first | (rw [hji11] at H; exact H) | (simp only [hji11] at H ⊢; exact H)
   (try rw [hji11] at A2)
   (try rw [hji11] at A4)
   by_cases c12 : 0 ≤ (ji11)
   ·
    rw [if_pos c12] at H
    have c12b0 := eq_true c12
    have c12b1 := decide_eq_true c12
    clear c12
    obtain ⟨ji13, hji13⟩ : ∃ j_ : Int, (shl .u64 1 (ji11)) = j_ := ⟨_, rfl⟩
    (try rw [hji13] at hji11)
    replace H : (some (ji13, true)) = some (r1, r2) := by first | (rw [hji13] at H; exact H) | (simp only [hji13] at H ⊢; exact H)
    (try rw [hji13] at A2)
    (try rw [hji13] at A4)
    have hji13_ : (IntKind.u64.wrap (1 * 2 ^ min (ji11).toNat 64)) = ji13 := hji13
    have hji13z : (ji11) ≤ 64 → (IntKind.u64.wrap (1 * 2 ^ (ji11).toNat)) = ji13 := shl_small hji13
    have hji13u : (IntKind.u64.wrap (2 ^ min (ji11).toNat 64)) = ji13 := by have h_ := hji13_; rw [Int.one_mul] at h_; exact h_
    have hji13v : (ji11) ≤ 64 → (IntKind.u64.wrap (2 ^ (ji11).toNat)) = ji13 := fun hle_ => by have h_ := hji13z hle_; rw [Int.one_mul] at h_; exact h_
    simp only [Option.some.injEq, Prod.mk.injEq] at H
    obtain ⟨rfl, rfl⟩ := H
    go_enter Tryz.func16, Tryz.ntmps16
    try go_wp2_with (first | ((with_reducible refine gate_dst (N := 1) rfl ?_); refine boxA (N := 1) (cs := #[.bool a0_0, .int .u64 a0_1, .int .u64 a0_2, .int .i64 a0_3]) (t := 26) ?_; intro gb159 hg w14 hbox hb; have BK159 := Aside0.mk (hbox); have GE159 := (pZ HB hg); replace HB := (pS HB hb); clear hb hbox hg; obtain ⟨hcz15_0, hcz15_1, hcz15_2, hcz15_3, hfz15_0, hfz15_1, hfz15_2, hfz15_3⟩ := pC4 BK159) | ((with_reducible refine gate_callee (f := 26) rfl ?_); refine goesA (some 6) Tryz.func26 #[.agg #[.bool a0_0, .int .u64 a0_1, .int .u64 a0_2, .int .i64 a0_3]] ?_; (with_reducible refine (prefix_Valid.calls a0_0 a0_1 a0_2 a0_3 true _ A2.out).mono ?_); rintro e w16 ⟨rfl, hb⟩; refine ⟨_, rfl, ?_⟩; replace BK159 := (pB BK159 hb); replace HB := (pS HB hb); (try clear hb)))
    replace BK159 := Aside0.mk (blk_drew BK159.out)
    replace HB := Aside0.mk (below_drew1 HB.out)
    refine start_ (n := 7) (S := fun w' => w'.cell? ⟨gb159, 0, none⟩ = some (.bool a0_0) ∧ w'.cell? ⟨gb159, 1, none⟩ = some (.int .u64 a0_1) ∧ w'.cell? ⟨gb159, 2, none⟩ = some (.int .u64 a0_2) ∧ w'.cell? ⟨gb159, 3, none⟩ = some (.int .i64 a0_3)) (ds := []) (tk 7 0) (by kernel_rfl) rfl rfl ⟨bC BK159 0, bC BK159 1, bC BK159 2, bC BK159 3⟩ (fun hHeld => ?_)
    generalize w16.drew = w17 at BK159 HB hHeld ⊢
    refine pure_ (i := 0) (N := some 8) (v := ?_) (a' := ?_) (tk 7 1) rfl rfl (by kernel_rfl) (fun _ _ _ h => h) (Or.inl ⟨by rfl, ?_⟩) ?_ ?_
    rotate_left
    ·
     intro w'
     go_simp
     with_reducible rfl
    rotate_left
    ·
     simp only [Act.put, List.setIfInBounds_toArray, List.set_cons_zero, List.set_cons_succ, i64_w, i32_w]
     rfl
    refine pure_ (i := 3) (N := some 11) (v := ?_) (a' := ?_) (tr [1, 2, 1, 3]) rfl rfl (by kernel_rfl) (fun _ _ _ h => h) (Or.inl ⟨by rfl, ?_⟩) ?_ ?_
    rotate_left
    ·
     intro w'
     go_simp
     with_reducible rfl
    rotate_left
    ·
     simp only [Act.put, List.setIfInBounds_toArray, List.set_cons_zero, List.set_cons_succ, i64_w, i32_w]
     rfl
    refine take_ (i := 1) (N := some 9) (v := ?_) (a' := ?_) (tr [2, 1, 1, 3]) rfl rfl (by kernel_rfl) (fun _ _ _ h => h) (Or.inl ⟨by rfl, ?_⟩) hHeld ?_ ?_
    rotate_left
    ·
     rintro w' ⟨s0, s1, s2, s3⟩
     go_simp
     with_reducible rfl
    rotate_left
    ·
     simp only [Act.put, List.setIfInBounds_toArray, List.set_cons_zero, List.set_cons_succ, i64_w, i32_w]
     rfl
    refine take_ (i := 4) (N := some 12) (v := ?_) (a' := ?_) (tr [2, 1, 2, 2]) rfl rfl (by kernel_rfl) (fun _ _ _ h => h) (Or.inl ⟨by rfl, ?_⟩) hHeld ?_ ?_
    rotate_left
    ·
     rintro w' ⟨s0, s1, s2, s3⟩
     go_simp
     with_reducible rfl
    rotate_left
    ·
     simp only [Act.put, List.setIfInBounds_toArray, List.set_cons_zero, List.set_cons_succ, i64_w, i32_w]
     rfl
    refine one_ (i := 2) (N := some 10) (tk 7 5) rfl rfl (by kernel_rfl) (by decide) (fun K hK => ?_)
    refine goesR Tryz.func46 #[.agg #[.bool a0_0, .int .u64 a0_1, .int .u64 a0_2]] ?_
    with_reducible refine (prefix_length.calls a0_0 a0_1 a0_2 t161 _ A4.out).mono ?_
    rintro e w18 ⟨rfl, hb⟩
    refine ⟨_, rfl, ?_⟩
    replace BK159 := (pB BK159 hb)
    replace HB := (pS HB hb)
    (try clear hb)
    refine hK.out _ _ ⟨bC BK159 0, bC BK159 1, bC BK159 2, bC BK159 3⟩ (fun hHeld => ?_)
    clear hK K
    refine normA (N := some 10) ?_
    refine pure_ (i := 5) (N := some 13) (v := ?_) (a' := ?_) (tk 7 6) rfl rfl (by kernel_rfl) (fun _ _ _ h => h) (Or.inl ⟨by rfl, ?_⟩) ?_ ?_
    rotate_left
    ·
     intro w'
     go_simp
     with_reducible rfl
    rotate_left
    ·
     simp only [Act.put, List.setIfInBounds_toArray, List.set_cons_zero, List.set_cons_succ, i64_w, i32_w]
     rfl
    refine pure_ (i := 6) (N := some 4) (v := ?_) (a' := ?_) (tk 7 7) rfl rfl (by kernel_rfl) (fun _ _ _ h => h) (Or.inl ⟨by rfl, ?_⟩) ?_ ?_
    rotate_left
    ·
     intro w'
     go_simp
     with_reducible rfl
    rotate_left
    ·
     simp only [Act.put, List.setIfInBounds_toArray, List.set_cons_zero, List.set_cons_succ, i64_w, i32_w]
     rfl
    refine done_ (by kernel_rfl) ?_
    try go_wp2
    go_ret2
    exact ⟨by first | rfl | (simp [errW_none, errW_some] <;> rfl) | (simp only [← hji11, ← hji13]; first | rfl | (simp [errW_none, errW_some] <;> rfl)) | (simp [*, errW_none, errW_some] <;> rfl), by repeat (first | (with_reducible first | exact HB.out | apply below_alloc | apply pw_below_drewN | apply below_drew1 | refine below_set ?_ GE159.out) | exact HB.out)⟩
   ·
    rw [if_neg c12] at H
    exact absurd H (by simp)
 ·
  replace c3 := Bool.eq_false_iff.mpr c3
  subst c3
  rw [if_neg (show ¬ (false = true) by decide)] at H
  simp only [Option.some.injEq, Prod.mk.injEq] at H
  obtain ⟨rfl, rfl⟩ := H
  go_enter Tryz.func16, Tryz.ntmps16
  go_wp2_with (first | ((with_reducible refine gate_dst (N := 1) rfl ?_); refine boxA (N := 1) (cs := #[.bool a0_0, .int .u64 a0_1, .int .u64 a0_2, .int .i64 a0_3]) (t := 26) ?_; intro gb159 hg w19 hbox hb; have BK159 := Aside0.mk (hbox); have GE159 := (pZ HB hg); replace HB := (pS HB hb); clear hb hbox hg; obtain ⟨hcz20_0, hcz20_1, hcz20_2, hcz20_3, hfz20_0, hfz20_1, hfz20_2, hfz20_3⟩ := pC4 BK159) | ((with_reducible refine gate_callee (f := 26) rfl ?_); refine goesA (some 6) Tryz.func26 #[.agg #[.bool a0_0, .int .u64 a0_1, .int .u64 a0_2, .int .i64 a0_3]] ?_; (with_reducible refine (prefix_Valid.calls a0_0 a0_1 a0_2 a0_3 false _ A2.out).mono ?_); rintro e w21 ⟨rfl, hb⟩; refine ⟨_, rfl, ?_⟩; replace BK159 := (pB BK159 hb); replace HB := (pS HB hb); (try clear hb)))
  go_ret2
  exact pR (pE HB)

/-! ### addr_bytes: function 98 -/
def addr_bytes.l0 : Nat → Int → List Int → Int → Int → Option (List Int)
 | 0, _, _, _, _ => none
 | k + 1, x0, x3, x7, x8 => if x8 < x7 then (if 0 ≤ (wrap64 (56 - (wrap64 (8 * x8)))) then (if 0 ≤ x8 then (if x8 < (x3.length : Int) then (addr_bytes.l0 k x0 (x3.set (x8 : Int).toNat ((shr .u64 x0 (wrap64 (56 - (wrap64 (8 * x8))))) % 256)) x7 (wrap64 (x8 + 1))) else (none)) else (none)) else (none)) else (some x3)
def addr_bytes.f (k : Nat) (a0 : Int) : Option (List Int) := if 8 ≤ 281474976710656 then ((some (List.replicate 8 0 : List Int)).bind fun y162 => (addr_bytes.l0 k a0 y162 (y162.length : Int) 0)) else (none)
theorem addr_bytes.mono_l : ∀ k, (∀ y0 y1 y2 y3, LeO (addr_bytes.l0 k y0 y1 y2 y3) (addr_bytes.l0 (k + 1) y0 y1 y2 y3))
 | 0 => fun _ _ _ _ r h => by simp [addr_bytes.l0] at h
 | k + 1 => by
  have ih0 := addr_bytes.mono_l k
  ·
   intro y0 y1 y2 y3
   unfold addr_bytes.l0
   repeat' with_reducible first | exact ih0 _ _ _ _ | exact LeO.refl _ | exact LeO.none _ | refine LeO.ite ?_ ?_ | refine LeO.bind ?_ (fun _ => ?_)
theorem addr_bytes.mono : ∀ a0 k, LeO (addr_bytes.f k a0) (addr_bytes.f (k + 1) a0) := by
 intro a0 k
 have ih0 := addr_bytes.mono_l k
 unfold addr_bytes.f
 repeat' with_reducible first | exact ih0 _ _ _ _ | exact LeO.refl _ | exact LeO.none _ | refine LeO.ite ?_ ?_ | refine LeO.bind ?_ (fun _ => ?_)
set_option maxHeartbeats 40000000 in
set_option maxRecDepth 100000 in
theorem addr_bytes.calls (k : Nat) (a0 : Int) (r : List Int) (w : World) (h : addr_bytes.f k a0 = some r) :
 Calls Tryz.prog 98 #[.int .u64 a0] w fun e w' => ∃ v0_ : Value, e = .returned (v0_) ∧ Kd.R (Kd.int .u8) 5 w' w.heap.size (fun _ => True) v0_ r ∧ Below w.heap.size w w' := by
 have HB := Aside0.mk (Below.refl w.heap.size w)
 have H : (if 8 ≤ 281474976710656 then ((some (List.replicate 8 0 : List Int)).bind fun y162 => (addr_bytes.l0 k a0 y162 (y162.length : Int) 0)) else (none)) = some r := h
 clear h
 by_cases c2 : 8 ≤ 281474976710656
 ·
  rw [if_pos c2] at H
  have c2b0 := eq_true c2
  have c2b1 := decide_eq_true c2
  clear c2
  obtain ⟨y162, hy162⟩ : ∃ y_ : List Int, y_ = (List.replicate 8 0) := ⟨_, rfl⟩
  replace H : (addr_bytes.l0 k a0 y162 (y162.length : Int) 0) = some r := by first | (rw [hy162]; with_reducible exact H) | (have H2_ := (Option.bind_some _ _).symm.trans H; rw [hy162]; with_reducible exact H2_) | (have H2_ := (Option.bind_some _ _).symm.trans H; with_reducible exact H2_) | with_reducible exact H | (rw [hy162]; exact H) | exact H
  have Ny162 := Aside0.mk hy162
  clear hy162
  have H' := Aside0.mk H
  clear H
  go_enter Tryz.func98, Tryz.ntmps98
  go_wp2_with (first | ((with_reducible refine gate_dst (N := 5) rfl ?_); refine Kd.R_make (Kd.int .u8) _ 5 rfl (N := 5) rfl 103 _ _ rfl 8 rfl rfl Tryz.underlying103 (.int .u8 0) 1 info5 rfl (by decide) (by omega) 0 (ok := fun _ => True) (okp := fun _ => True) rfl (fun _ hk => hk) trivial (by omega) (by omega) (Below.refl _ _) (Nat.le_refl _) ?_; intro v163 w3 ho4 hb hg_ hnew_; clear hg_ hnew_; (first | rw [← Ny162.out] at ho4 | (simp only [Int.reduceToNat] at ho4; rw [← Ny162.out] at ho4)); have HO164 := Aside0.mk (Kd.R_lower ho4 (below_size (by repeat (first | (with_reducible first | exact HB.out | apply below_alloc | apply pw_below_drewN | apply below_drew1) | exact HB.out)))); replace HB := (pS HB hb); clear hb ho4; obtain ⟨Ao5, co5, eo5⟩ := Kd.R_slice HO164.out; subst eo5))
  go_loopg [8] k (fun kq v8 w' => ∃ (x3_1 : List Int) (x8_1 : Int), v8 = .int .i64 x8_1 ∧ Aside0 (addr_bytes.l0 kq a0 x3_1 (y162.length : Int) x8_1 = some r) ∧ Aside0 (kq ≤ k) ∧ Aside0 (Kd.R (Kd.int .u8) 5 w' w.heap.size (fun _ => True) (.slice Ao5 y162.length co5) x3_1) ∧ Aside0 (Below w.heap.size w w'))
  case atStart => exact ⟨(y162), (0), pT, H', ⟨Nat.le_refl _⟩, ⟨by (with_reducible repeat (first | apply Kd.R_alloc | apply Kd.R_drewN | apply Kd.R_drew)); exact HO164.out⟩, ⟨pE HB⟩⟩
  case round =>
   clear H'
   try clear c2
   try clear c2b0
   try clear c2b1
   obtain ⟨x3_1, x8_1, rfl, HA, HK1, HO_3, HB⟩ := hrel
   have hl3_1 := (Kd.R_reads' HO_3.out).1
   rw [hl3_1] at HO_3
   (try simp only [hl3_1])
   cases gk with
   | zero => exact absurd HA.out (by simp [addr_bytes.l0])
   | succ k1 =>
    have H := HA.out
    clear HA
    simp only [addr_bytes.l0] at H
    by_cases c6 : x8_1 < (y162.length : Int)
    ·
     rw [if_pos c6] at H
     have c6b0 := decide_eq_true c6
     have c6b0_hl3_1 := c6b0
     (try rw [hl3_1] at c6b0_hl3_1)
     clear c6
     obtain ⟨ji7, hji7⟩ : ∃ j_ : Int, (wrap64 (56 - (wrap64 (8 * x8_1)))) = j_ := ⟨_, rfl⟩
     replace H : (if 0 ≤ (ji7) then (if 0 ≤ x8_1 then (if x8_1 < (x3_1.length : Int) then (addr_bytes.l0 k1 a0 (x3_1.set (x8_1 : Int).toNat ((shr .u64 a0 (ji7)) % 256)) (y162.length : Int) (wrap64 (x8_1 + 1))) else (none)) else (none)) else (none)) = some r := by first | (rw [hji7] at H; exact H) | (simp only [hji7] at H ⊢; exact H)
     have hji7w : (IntKind.i64.wrap (56 - (wrap64 (8 * x8_1)))) = ji7 := (i64_w _).trans hji7
     by_cases c8 : 0 ≤ (ji7)
     ·
      rw [if_pos c8] at H
      have c8b0 := eq_true c8
      have c8b1 := decide_eq_true c8
      clear c8
      obtain ⟨ji9, hji9⟩ : ∃ j_ : Int, (shr .u64 a0 (ji7)) = j_ := ⟨_, rfl⟩
      (try rw [hji9] at hji7)
      replace H : (if 0 ≤ x8_1 then (if x8_1 < (x3_1.length : Int) then (addr_bytes.l0 k1 a0 (x3_1.set (x8_1 : Int).toNat ((ji9) % 256)) (y162.length : Int) (wrap64 (x8_1 + 1))) else (none)) else (none)) = some r := by first | (rw [hji9] at H; exact H) | (simp only [hji9] at H ⊢; exact H)
      have hji9_ : (a0 / 2 ^ min (ji7).toNat 64) = ji9 := hji9
      have hji9z : (ji7) ≤ 64 → (a0 / 2 ^ (ji7).toNat) = ji9 := shr_small hji9
      by_cases c10 : 0 ≤ x8_1
      ·
       rw [if_pos c10] at H
       have c10b0 := decide_eq_true c10
       clear c10
       by_cases c11 : x8_1 < (x3_1.length : Int)
       ·
        rw [if_pos c11] at H
        have c11b0 := decide_eq_true c11
        have c11b0_hl3_1 := c11b0
        (try rw [hl3_1] at c11b0_hl3_1)
        clear c11
        obtain ⟨y165, hy165⟩ : ∃ y_ : List Int, y_ = (x3_1.set (x8_1 : Int).toNat ((ji9) % 256)) := ⟨_, rfl⟩
        replace H : (addr_bytes.l0 k1 a0 y165 (y162.length : Int) (wrap64 (x8_1 + 1))) = some r := by first | (rw [hy165]; with_reducible exact H) | (have H2_ := (Option.bind_some _ _).symm.trans H; rw [hy165]; with_reducible exact H2_) | (have H2_ := (Option.bind_some _ _).symm.trans H; with_reducible exact H2_) | with_reducible exact H | (rw [hy165]; exact H) | exact H
        have Ny165 := Aside0.mk hy165
        clear hy165
        have H' := Aside0.mk H
        clear H
        have p12 : 0 ≤ (x8_1 : Int) := oD
        have q12 : (x8_1 : Int) < ((x3_1.length : Int) : Int) := oD
        obtain ⟨go12, co12, eo12, gb12, gl12, cl12, HG12⟩ := Kd.R_form HO_3.out (by omega)
        (first | cases eo12 | (injection eo12 with ea_ en_ ec_; (first | subst ea_ | (injection ea_ with ea_; subst ea_)); subst ec_; clear en_))
        have GB12 := Aside0.mk gb12
        have GG12 := Aside0.mk HG12
        clear gb12 gl12 HG12
        obtain ⟨hx12_0, hf12_0⟩ := Kd.R_celln 0 HO_3.out (x8_1 : Int) p12 q12
        replace p12 := eq_true p12
        replace q12 := eq_true q12
        have HP13 := Kd.R_putg HO_3.out (x8_1 : Int) ((ji9) % 256)
        go_wp2_with (first | ((with_reducible refine gate_store (t := 5) (p := 19) rfl ?_); refine store_event (t := 5) (p := 19) (v := ?vo_w14) (w1 := (wr.setCell ⟨go12, (x8_1 : Int).toNat, none⟩ (.int .u8 ((ji9) % 256)))) ?hg ?ho ?hn ?hr ?_; (case ho => rfl); (case hg => rfl); (case hn => rfl); (case hr => first | (go_simp; done) | (go_simp; rfl)); intro w14 hw; have hg : wr.grownBy w14 (some go12) := (by rw [hw]; exact HP13.2); have hp_ : Kd.R (Kd.int .u8) 5 w14 w.heap.size (fun _ => True) (.slice (some ⟨go12, 0, none⟩) x3_1.length co5) y165 := (by rw [hw, Ny165.out]; exact HP13.1); clear HP13; replace HO_3 := Aside0.mk (hp_); replace HB := Aside0.mk ((by rw [hw]; exact below_set (HB.out) GB12.out : Below w.heap.size w w14)); clear hg hw hp_))
        (try simp only [← hl3_1])
        go_roundg k1
        case measure => have := HK1.out; omega
        case rel => exact ⟨(y165), (wrap64 (x8_1 + 1)), pT, (by first | exact H' | (simp only [hji7, hji9]; exact H') | (simp only [hji7, hji9] at H' ⊢; exact H')), ⟨by have := HK1.out; omega⟩, ⟨by (try simp only [hl3_1]); (with_reducible repeat (first | apply Kd.R_alloc | apply Kd.R_drewN | apply Kd.R_drew)); exact HO_3.out⟩, ⟨pE HB⟩⟩
       ·
        rw [if_neg c11] at H
        exact absurd H (by simp)
      ·
       rw [if_neg c10] at H
       exact absurd H (by simp)
     ·
      rw [if_neg c8] at H
      exact absurd H (by simp)
    ·
     rw [if_neg c6] at H
     have c6b0 := decide_eq_false c6
     have c6b0_hl3_1 := c6b0
     (try rw [hl3_1] at c6b0_hl3_1)
     clear c6
     obtain rfl := Option.some.inj H
     go_wp2
     go_ret
     exact ⟨_, by first | rfl | (simp [errW_none, errW_some] <;> rfl) | (simp [*, errW_none, errW_some] <;> rfl), by (with_reducible repeat (first | apply Kd.R_alloc | apply Kd.R_drewN | apply Kd.R_drew)); exact HO_3.out, by repeat (first | (with_reducible first | exact HB.out | apply below_alloc | apply pw_below_drewN | apply below_drew1) | exact HB.out)⟩
 ·
  rw [if_neg c2] at H
  exact absurd H (by simp)

/-! ### addr_Wire: function 69 -/
def addr_Wire.f (k : Nat) (a0_0 : Bool) (a0_1 : Int) (a0_2 : Int) : Option (ByteArray × Int) := (addr_Valid.f a0_0 a0_1 a0_2).bind fun t167 => (if t167 = true then (if a0_0 = true then ((addr_bytes.f k a0_1).bind fun t168 => ((addr_bytes.f k a0_2).bind fun t171 => (if (strOfNums t168).size + (strOfNums t171).size ≤ 9223372036854775807 then (some ((strOfNums t168) ++ (strOfNums t171), 0)) else (none)))) else ((addr_bytes.f k a0_2).bind fun t174 => (if 4 ≤ (t174.length : Int) then (some (strOfNums (t174.drop 4), 0)) else (none)))) else (some ((⟨#[]⟩ : ByteArray), 3)))
theorem addr_Wire.mono : ∀ a0 a1 a2 k, LeO (addr_Wire.f k a0 a1 a2) (addr_Wire.f (k + 1) a0 a1 a2) := by
 intro a0 a1 a2 k
 unfold addr_Wire.f
 repeat' with_reducible first | exact addr_bytes.mono _ _ | exact LeO.refl _ | exact LeO.none _ | refine LeO.ite ?_ ?_ | refine LeO.bind ?_ (fun _ => ?_)
def addr_Wire.T5 : Bool × List (List Nat × List Nat) := (true, [([], []), ([0], [0]), ([1], [1]), ([2], [2]), ([], []), ([4], [4]), ([5, 2], [5]), ([6], [6]), ([3, 7], [3, 7]), ([8, 6, 0, 1, 2, 3, 4, 5, 6, 7, 8], [8]), ([9, 0, 1, 2, 3, 4, 5, 6, 7, 8, 9], [])])
def addr_Wire.B5 : List Nat := [0, 1, 3, 7, 0, 16, 55, 119, 255, 511, 1023]
theorem addr_Wire.tab5 : rtab .any (opsOf Tryz.f69 5) = addr_Wire.T5 := by kernel_rfl
theorem addr_Wire.bits5 : waitsOk addr_Wire.T5.2 addr_Wire.B5 = true := by kernel_rfl
set_option maxHeartbeats 40000000 in
set_option maxRecDepth 100000 in
theorem addr_Wire.calls (k : Nat) (a0_0 : Bool) (a0_1 : Int) (a0_2 : Int) (r1 : ByteArray) (r2 : Int) (w : World) (h : addr_Wire.f k a0_0 a0_1 a0_2 = some (r1, r2)) :
 Calls Tryz.prog 69 #[.agg #[.bool a0_0, .int .u64 a0_1, .int .u64 a0_2]] w fun e w' => e = .returned (.tuple #[.string r1, .int .i64 r2]) ∧ Below w.heap.size w w' := by
 have hu24 := Tryz.underlying24
 have HB := Aside0.mk (Below.refl w.heap.size w)
 have H : ((addr_Valid.f a0_0 a0_1 a0_2).bind fun t167 => (if t167 = true then (if a0_0 = true then ((addr_bytes.f k a0_1).bind fun t168 => ((addr_bytes.f k a0_2).bind fun t171 => (if (strOfNums t168).size + (strOfNums t171).size ≤ 9223372036854775807 then (some ((strOfNums t168) ++ (strOfNums t171), 0)) else (none)))) else ((addr_bytes.f k a0_2).bind fun t174 => (if 4 ≤ (t174.length : Int) then (some (strOfNums (t174.drop 4), 0)) else (none)))) else (some ((⟨#[]⟩ : ByteArray), 3)))) = some (r1, r2) := h
 clear h
 replace H := Option.bind_eq_some_iff.mp H
 obtain ⟨t167, A20, H⟩ := H
 have A2 := Aside0.mk A20
 clear A20
 by_cases c3 : t167 = true
 ·
  subst c3
  have H1 : (if a0_0 = true then ((addr_bytes.f k a0_1).bind fun t168 => ((addr_bytes.f k a0_2).bind fun t171 => (if (strOfNums t168).size + (strOfNums t171).size ≤ 9223372036854775807 then (some ((strOfNums t168) ++ (strOfNums t171), 0)) else (none)))) else ((addr_bytes.f k a0_2).bind fun t174 => (if 4 ≤ (t174.length : Int) then (some (strOfNums (t174.drop 4), 0)) else (none)))) = some (r1, r2) := by rw [if_pos rfl] at H; exact H
  clear H
  have H := H1
  clear H1
  by_cases c4 : a0_0 = true
  ·
   subst c4
   have H1 : ((addr_bytes.f k a0_1).bind fun t168 => ((addr_bytes.f k a0_2).bind fun t171 => (if (strOfNums t168).size + (strOfNums t171).size ≤ 9223372036854775807 then (some ((strOfNums t168) ++ (strOfNums t171), 0)) else (none)))) = some (r1, r2) := by rw [if_pos rfl] at H; exact H
   clear H
   have H := H1
   clear H1
   replace H := Option.bind_eq_some_iff.mp H
   obtain ⟨t168, A50, H⟩ := H
   have A5 := Aside0.mk A50
   clear A50
   replace H := Option.bind_eq_some_iff.mp H
   obtain ⟨t171, A60, H⟩ := H
   have A6 := Aside0.mk A60
   clear A60
   by_cases c7 : (strOfNums t168).size + (strOfNums t171).size ≤ 9223372036854775807
   ·
    rw [if_pos c7] at H
    have c7b0 := eq_true c7
    have c7b1 := decide_eq_true c7
    try have c7b2 : (9223372036854775807 < (strOfNums t168).size + (strOfNums t171).size) = False := eq_false (Nat.not_lt.2 c7)
    simp only [Option.some.injEq, Prod.mk.injEq] at H
    obtain ⟨rfl, rfl⟩ := H
    go_enter Tryz.func69, Tryz.ntmps69
    try go_wp2_with (first | ((with_reducible refine gate_dst (N := 1) rfl ?_); refine boxA (N := 1) (cs := #[.bool true, .int .u64 a0_1, .int .u64 a0_2]) (t := 24) ?_; intro gb166 hg w8 hbox hb; have BK166 := Aside0.mk (hbox); have GE166 := (pZ HB hg); replace HB := (pS HB hb); clear hb hbox hg; obtain ⟨hcz9_0, hcz9_1, hcz9_2, hfz9_0, hfz9_1, hfz9_2⟩ := pC3 BK166) | ((with_reducible refine gate_callee (f := 50) rfl ?_); refine goesA (some 6) Tryz.func50 #[.agg #[.bool true, .int .u64 a0_1, .int .u64 a0_2]] ?_; (with_reducible refine (addr_Valid.calls true a0_1 a0_2 true _ A2.out).mono ?_); rintro e w10 ⟨rfl, hb⟩; refine ⟨_, rfl, ?_⟩; replace BK166 := (pB BK166 hb); replace HB := (pS HB hb); (try clear hb); (try clear hk); obtain ⟨hcz11_0, hcz11_1, hcz11_2, hfz11_0, hfz11_1, hfz11_2⟩ := pC3 BK166))
    replace BK166 := Aside0.mk (blk_drew BK166.out)
    replace HB := Aside0.mk (below_drew1 HB.out)
    refine start_ (n := 11) (S := fun w' => w'.cell? ⟨gb166, 0, none⟩ = some (.bool true) ∧ w'.cell? ⟨gb166, 1, none⟩ = some (.int .u64 a0_1) ∧ w'.cell? ⟨gb166, 2, none⟩ = some (.int .u64 a0_2)) (ds := []) (tk 11 0) (by kernel_rfl) rfl rfl ⟨bC BK166 0, bC BK166 1, bC BK166 2⟩ (fun hHeld => ?_); refine with_tabW addr_Wire.tab5 addr_Wire.bits5 (fun HT_ HW_ => ?_)
    generalize w10.drew = w12 at BK166 HB hHeld ⊢
    refine pureA (i := 0) (some 17) HT_ (tk 11 1) ?_
    refine pureA (i := 4) (some 21) HT_ (tr [1, 3, 1, 6]) ?_
    refine takeA (i := 1) (some 18) HT_ HW_ (tr [2, 2, 1, 6]) hHeld ?_
    refine takeA (i := 5) (some 22) HT_ HW_ (tr [2, 2, 2, 5]) hHeld ?_
    refine one_ (i := 2) (N := some 19) (tr [3, 1, 2, 5]) rfl rfl (one_of HT_.out (by kernel_rfl)) (by decide) (fun K hK => ?_)
    refine goesR Tryz.func98 #[.int .u64 a0_1] ?_
    with_reducible refine (addr_bytes.calls k a0_1 t168 _ A5.out).mono ?_
    rintro e w13 ⟨v169, rfl, ho0, hb⟩
    refine ⟨_, rfl, ?_⟩
    have HO170 := Aside0.mk (Kd.R_lower ho0 (below_size (by repeat (first | (with_reducible first | exact HB.out | apply below_alloc | apply pw_below_drewN | apply below_drew1 | refine below_set ?_ GE166.out) | exact HB.out))))
    replace BK166 := (pB BK166 hb)
    replace HB := (pS HB hb)
    (try clear hb)
    (try clear hk)
    (try clear ho0)
    refine hK.out _ _ ⟨bC BK166 0, bC BK166 1, bC BK166 2⟩ (fun hHeld => ?_)
    clear hK K
    refine normA (N := some 19) ?_
    refine join_ (σ := Value) 3 (tk 11 8) (fun s_ => [(20, .string (strOfNums t168)), (23, s_), (24, .string (strOfNums t171))]) (fun s_ w' => (w'.cell? ⟨gb166, 0, none⟩ = some (.bool true) ∧ w'.cell? ⟨gb166, 1, none⟩ = some (.int .u64 a0_1) ∧ w'.cell? ⟨gb166, 2, none⟩ = some (.int .u64 a0_2)) ∧ (Kd.R (Kd.int .u8) 5 w' w.heap.size (fun k_ => some k_ ≠ (s_ : Value).ownBlock) v169 t168) ∧ (Kd.R (Kd.int .u8) 5 w' w.heap.size (fun k_ => some k_ ≠ (v169 : Value).ownBlock) s_ t171) ∧ (w'.heap[gb166]? = some (.cells #[.bool true, .int .u64 a0_1, .int .u64 a0_2] 24 (0, 0))) ∧ (Below w.heap.size w w')) ?_ ?_
    rotate_left
    ·
     intro hCont
     refine two_ (i := 3) (j := 6) (Ni := some 20) (Nj := some 23) (tk 11 6) (tr [3, 1, 3, 4]) rfl rfl rfl rfl (two_of HT_.out (by kernel_rfl)) (by decide) (by decide) (fun K hK => ?_) (fun K hK => ?_)
     ·
      skip
      have hcv14 := own_string (P := Tryz.prog) Tryz.underlying103 Tryz.underlying5 Tryz.underlying9 (Kd.own_of_R HO170.out)
      refine value_ (w1 := ?_) (v := ?_) (by rfl) rfl ?_ ?_
      rotate_left 2
      ·
       go_simp
       constructor
       ·
        rfl
       ·
        rfl
      clear hcv14
      refine hK.out _ _ ⟨bC BK166 0, bC BK166 1, bC BK166 2⟩ (fun hHeld => ?_)
      clear hK K
      refine normA (N := some 20) ?_
      refine one_ (i := 6) (N := some 23) (tk 11 7) rfl rfl (one_of HT_.out (by kernel_rfl)) (by decide) (fun K hK => ?_)
      refine goesR Tryz.func98 #[.int .u64 a0_2] ?_
      with_reducible refine (addr_bytes.calls k a0_2 t171 _ A6.out).mono ?_
      rintro e w15 ⟨v172, rfl, ho0, hb⟩
      refine ⟨_, rfl, ?_⟩
      have HO173 := Aside0.mk (Kd.R_lower (Kd.R_new' ho0 (Kd.R_lt (by (with_reducible repeat (first | apply Kd.R_alloc | apply Kd.R_drewN | apply Kd.R_drew)); exact HO170.out))) (below_size (by repeat (first | (with_reducible first | exact HB.out | apply below_alloc | apply pw_below_drewN | apply below_drew1 | refine below_set ?_ GE166.out) | exact HB.out))))
      replace HO170 := Aside0.mk (Kd.R_elder' (by (with_reducible repeat (first | apply Kd.R_alloc | apply Kd.R_drewN | apply Kd.R_drew)); exact HO170.out) (Kd.R_base ho0) hb)
      replace BK166 := (pB BK166 hb)
      replace HB := (pS HB hb)
      (try clear hb)
      (try clear hk)
      (try clear ho0)
      refine hK.out _ _ ⟨bC BK166 0, bC BK166 1, bC BK166 2⟩ (fun hHeld => ?_)
      clear hK K
      refine normA (N := some 23) ?_
      refine one_ (i := 7) (N := some 24) (tk 11 8) rfl rfl (one_of HT_.out (by kernel_rfl)) (by decide) (fun K hK => ?_)
      have hcv16 := own_string (P := Tryz.prog) Tryz.underlying103 Tryz.underlying5 Tryz.underlying9 (Kd.own_of_R HO173.out)
      refine value_ (w1 := ?_) (v := ?_) (by rfl) rfl ?_ ?_
      rotate_left 2
      ·
       go_simp
       constructor
       ·
        rfl
       ·
        rfl
      clear hcv16
      refine hK.out _ _ ⟨bC BK166 0, bC BK166 1, bC BK166 2⟩ (fun hHeld => ?_)
      clear hK K
      refine normA (N := some 24) ?_
      exact norm_ (by simp only [putAll, Act.put, List.setIfInBounds_toArray, List.set_cons_zero, List.set_cons_succ]) (hCont (v172) _ ⟨hHeld, (by (with_reducible repeat (first | apply Kd.R_alloc | apply Kd.R_drewN | apply Kd.R_drew)); exact Kd.R_mono HO170.out (fun _ hk => hk.2)), (by (with_reducible repeat (first | apply Kd.R_alloc | apply Kd.R_drewN | apply Kd.R_drew)); exact Kd.R_mono HO173.out (fun _ hk => hk.2)), (pM BK166), (by repeat (first | (with_reducible first | exact HB.out | apply below_alloc | apply pw_below_drewN | apply below_drew1 | refine below_set ?_ GE166.out) | exact HB.out))⟩)
     ·
      skip
      refine goesR Tryz.func98 #[.int .u64 a0_2] ?_
      with_reducible refine (addr_bytes.calls k a0_2 t171 _ A6.out).mono ?_
      rintro e w14 ⟨v172, rfl, ho0, hb⟩
      refine ⟨_, rfl, ?_⟩
      have HO173 := Aside0.mk (Kd.R_lower (Kd.R_new' ho0 (Kd.R_lt (by (with_reducible repeat (first | apply Kd.R_alloc | apply Kd.R_drewN | apply Kd.R_drew)); exact HO170.out))) (below_size (by repeat (first | (with_reducible first | exact HB.out | apply below_alloc | apply pw_below_drewN | apply below_drew1 | refine below_set ?_ GE166.out) | exact HB.out))))
      replace HO170 := Aside0.mk (Kd.R_elder' (by (with_reducible repeat (first | apply Kd.R_alloc | apply Kd.R_drewN | apply Kd.R_drew)); exact HO170.out) (Kd.R_base ho0) hb)
      replace BK166 := (pB BK166 hb)
      replace HB := (pS HB hb)
      (try clear hb)
      (try clear hk)
      (try clear ho0)
      refine hK.out _ _ ⟨bC BK166 0, bC BK166 1, bC BK166 2⟩ (fun hHeld => ?_)
      clear hK K
      refine normA (N := some 23) ?_
      refine two_ (i := 3) (j := 7) (Ni := some 20) (Nj := some 24) (tk 11 7) (tr [3, 1, 4, 3]) rfl rfl rfl rfl (two_of HT_.out (by kernel_rfl)) (by decide) (by decide) (fun K hK => ?_) (fun K hK => ?_)
      ·
       skip
       have hcv15 := own_string (P := Tryz.prog) Tryz.underlying103 Tryz.underlying5 Tryz.underlying9 (Kd.own_of_R HO170.out)
       refine value_ (w1 := ?_) (v := ?_) (by rfl) rfl ?_ ?_
       rotate_left 2
       ·
        go_simp
        constructor
        ·
         rfl
        ·
         rfl
       clear hcv15
       refine hK.out _ _ ⟨bC BK166 0, bC BK166 1, bC BK166 2⟩ (fun hHeld => ?_)
       clear hK K
       refine normA (N := some 20) ?_
       refine one_ (i := 7) (N := some 24) (tk 11 8) rfl rfl (one_of HT_.out (by kernel_rfl)) (by decide) (fun K hK => ?_)
       have hcv16 := own_string (P := Tryz.prog) Tryz.underlying103 Tryz.underlying5 Tryz.underlying9 (Kd.own_of_R HO173.out)
       refine value_ (w1 := ?_) (v := ?_) (by rfl) rfl ?_ ?_
       rotate_left 2
       ·
        go_simp
        constructor
        ·
         rfl
        ·
         rfl
       clear hcv16
       refine hK.out _ _ ⟨bC BK166 0, bC BK166 1, bC BK166 2⟩ (fun hHeld => ?_)
       clear hK K
       refine normA (N := some 24) ?_
       exact norm_ (by simp only [putAll, Act.put, List.setIfInBounds_toArray, List.set_cons_zero, List.set_cons_succ]) (hCont (v172) _ ⟨hHeld, (by (with_reducible repeat (first | apply Kd.R_alloc | apply Kd.R_drewN | apply Kd.R_drew)); exact Kd.R_mono HO170.out (fun _ hk => hk.2)), (by (with_reducible repeat (first | apply Kd.R_alloc | apply Kd.R_drewN | apply Kd.R_drew)); exact Kd.R_mono HO173.out (fun _ hk => hk.2)), (pM BK166), (by repeat (first | (with_reducible first | exact HB.out | apply below_alloc | apply pw_below_drewN | apply below_drew1 | refine below_set ?_ GE166.out) | exact HB.out))⟩)
      ·
       skip
       have hcv15 := own_string (P := Tryz.prog) Tryz.underlying103 Tryz.underlying5 Tryz.underlying9 (Kd.own_of_R HO173.out)
       refine value_ (w1 := ?_) (v := ?_) (by rfl) rfl ?_ ?_
       rotate_left 2
       ·
        go_simp
        constructor
        ·
         rfl
        ·
         rfl
       clear hcv15
       refine hK.out _ _ ⟨bC BK166 0, bC BK166 1, bC BK166 2⟩ (fun hHeld => ?_)
       clear hK K
       refine normA (N := some 24) ?_
       refine one_ (i := 3) (N := some 20) (tk 11 8) rfl rfl (one_of HT_.out (by kernel_rfl)) (by decide) (fun K hK => ?_)
       have hcv16 := own_string (P := Tryz.prog) Tryz.underlying103 Tryz.underlying5 Tryz.underlying9 (Kd.own_of_R HO170.out)
       refine value_ (w1 := ?_) (v := ?_) (by rfl) rfl ?_ ?_
       rotate_left 2
       ·
        go_simp
        constructor
        ·
         rfl
        ·
         rfl
       clear hcv16
       refine hK.out _ _ ⟨bC BK166 0, bC BK166 1, bC BK166 2⟩ (fun hHeld => ?_)
       clear hK K
       refine normA (N := some 20) ?_
       exact norm_ (by simp only [putAll, Act.put, List.setIfInBounds_toArray, List.set_cons_zero, List.set_cons_succ]) (hCont (v172) _ ⟨hHeld, (by (with_reducible repeat (first | apply Kd.R_alloc | apply Kd.R_drewN | apply Kd.R_drew)); exact Kd.R_mono HO170.out (fun _ hk => hk.2)), (by (with_reducible repeat (first | apply Kd.R_alloc | apply Kd.R_drewN | apply Kd.R_drew)); exact Kd.R_mono HO173.out (fun _ hk => hk.2)), (pM BK166), (by repeat (first | (with_reducible first | exact HB.out | apply below_alloc | apply pw_below_drewN | apply below_drew1 | refine below_set ?_ GE166.out) | exact HB.out))⟩)
    rintro v172 w17 ⟨hS_, h0_, h1_, h2_, h3_⟩
    have HO170 : Aside0 (Kd.R (Kd.int .u8) 5 w17 w.heap.size (fun k_ => some k_ ≠ (v172 : Value).ownBlock) v169 t168) := ⟨h0_⟩
    have HO173 : Aside0 (Kd.R (Kd.int .u8) 5 w17 w.heap.size (fun k_ => some k_ ≠ (v169 : Value).ownBlock) v172 t171) := ⟨h1_⟩
    replace BK166 : Aside0 (w17.heap[gb166]? = some (.cells #[.bool true, .int .u64 a0_1, .int .u64 a0_2] 24 (0, 0))) := ⟨h2_⟩
    replace HB : Aside0 (Below w.heap.size w w17) := ⟨h3_⟩
    clear h0_ h1_ h2_ h3_
    have hHeld : w17.cell? ⟨gb166, 0, none⟩ = some (.bool true) ∧ w17.cell? ⟨gb166, 1, none⟩ = some (.int .u64 a0_1) ∧ w17.cell? ⟨gb166, 2, none⟩ = some (.int .u64 a0_2) := hS_
    refine norm_ (a' := ?_) ?_ ?_
    rotate_left
    ·
     simp only [putAll, Act.put, List.setIfInBounds_toArray, List.set_cons_zero, List.set_cons_succ]
     rfl
    refine pureA (i := 8) (some 25) HT_ (tk 11 9) ?_
    refine pureA (i := 9) (some 2) HT_ (tk 11 10) ?_
    refine pureA (i := 10) (some 3) HT_ (tk 11 11) ?_
    refine done_ (done_of HT_.out (by kernel_rfl)) ?_
    try go_wp2
    go_ret2
    exact pR (pE HB)
   ·
    rw [if_neg c7] at H
    exact absurd H (by simp)
  ·
   replace c4 := Bool.eq_false_iff.mpr c4
   subst c4
   rw [if_neg (show ¬ (false = true) by decide)] at H
   replace H := Option.bind_eq_some_iff.mp H
   obtain ⟨t174, A180, H⟩ := H
   have A18 := Aside0.mk A180
   clear A180
   by_cases c19 : 4 ≤ (t174.length : Int)
   ·
    rw [if_pos c19] at H
    have c19b0 := eq_true c19
    have c19b1 := decide_eq_true c19
    clear c19
    obtain ⟨y177, hy177⟩ : ∃ y_ : List Int, y_ = (t174.drop 4) := ⟨_, rfl⟩
    replace H : (some (strOfNums y177, 0)) = some (r1, r2) := by first | (rw [hy177]; with_reducible exact H) | (have H2_ := (Option.bind_some _ _).symm.trans H; rw [hy177]; with_reducible exact H2_) | (have H2_ := (Option.bind_some _ _).symm.trans H; with_reducible exact H2_) | with_reducible exact H | (rw [hy177]; exact H) | exact H
    have Ny177 := Aside0.mk hy177
    clear hy177
    simp only [Option.some.injEq, Prod.mk.injEq] at H
    obtain ⟨rfl, rfl⟩ := H
    go_enter Tryz.func69, Tryz.ntmps69
    go_wp2_with (first | ((with_reducible refine gate_dst (N := 1) rfl ?_); refine boxA (N := 1) (cs := #[.bool false, .int .u64 a0_1, .int .u64 a0_2]) (t := 24) ?_; intro gb166 hg w20 hbox hb; have BK166 := Aside0.mk (hbox); have GE166 := (pZ HB hg); replace HB := (pS HB hb); clear hb hbox hg; obtain ⟨hcz21_0, hcz21_1, hcz21_2, hfz21_0, hfz21_1, hfz21_2⟩ := pC3 BK166) | ((with_reducible refine gate_callee (f := 50) rfl ?_); refine goesA (some 6) Tryz.func50 #[.agg #[.bool false, .int .u64 a0_1, .int .u64 a0_2]] ?_; (with_reducible refine (addr_Valid.calls false a0_1 a0_2 true _ A2.out).mono ?_); rintro e w22 ⟨rfl, hb⟩; refine ⟨_, rfl, ?_⟩; replace BK166 := (pB BK166 hb); replace HB := (pS HB hb); (try clear hb); (try clear hk); obtain ⟨hcz23_0, hcz23_1, hcz23_2, hfz23_0, hfz23_1, hfz23_2⟩ := pC3 BK166) | ((with_reducible refine gate_callee (f := 98) rfl ?_); refine goesA (some 14) Tryz.func98 #[.int .u64 a0_2] ?_; (with_reducible refine (addr_bytes.calls k a0_2 t174 _ A18.out).mono ?_); rintro e w24 ⟨v175, rfl, ho0, hb⟩; refine ⟨_, rfl, ?_⟩; have HO176 := Aside0.mk (Kd.R_lower ho0 (below_size (by repeat (first | (with_reducible first | exact HB.out | apply below_alloc | apply pw_below_drewN | apply below_drew1 | refine below_set ?_ GE166.out) | exact HB.out)))); replace BK166 := (pB BK166 hb); replace HB := (pS HB hb); (try clear hb); (try clear hk); (try clear ho0); obtain ⟨Ao26, co26, eo26⟩ := Kd.R_slice HO176.out; subst eo26; have q25 : (4 : Int) ≤ ((t174.length : Int) : Int) := oD; obtain ⟨i025, hi025, _, hsz25, _⟩ := info_parts info5; have hroom25 : t174.length ≤ co26 := (Kd.R_reads' HO176.out).2.1; have hC25 : Kd.C (Kd.int .u8) _ Ao26 t174.length t174 := (Kd.R_reads' HO176.out).2.2; have hcut25 := cut_from (P := Tryz.prog) 103 5 .i64 Tryz.underlying103 hi025 1 hsz25 Ao26 t174.length co26 4 (by omega) q25; have hr25 := Kd.C_drop (m := (4 : Int).toNat) (c := co26) hC25 (by omega) hroom25; obtain ⟨A25, hA25⟩ : ∃ A1, A1 = (if co26 = (4 : Int).toNat then Ao26 else (Ao26 : Option Addr).map (·.add ((4 : Int).toNat * 1))) := ⟨_, rfl⟩; obtain ⟨c25, hc25⟩ : ∃ c1, c1 = co26 - (4 : Int).toNat := ⟨_, rfl⟩; have hy25 : y177.length = t174.length - (4 : Int).toNat := (by rw [Ny177.out, List.length_drop] <;> omega); rw [show (t174).drop (4 : Int).toNat = y177 from Ny177.out.symm] at hr25; replace hr25 : Kd.C (Kd.int .u8) _ A25 y177.length y177 := (by rw [hA25]; exact hr25); rw [← hy25, ← hA25, ← hc25] at hcut25; have HR180 := Aside0.mk hr25; have HC180 := Aside0.mk (show y177.length ≤ c25 from by rw [hy25, hc25]; exact Nat.sub_le_sub_right hroom25 _); clear hr25 hC25 hroom25 hi025 hsz25 hc25; have KY25 := Aside0.mk hy25; have KA25 := Aside0.mk hA25; clear hy25 hA25; have KL25 := Aside0.mk (show 4 ≤ t174.length from by omega); replace q25 := eq_true q25; have hcv27 := Kd.C_string (P := Tryz.prog) (A := A25) (c := c25) Tryz.underlying103 Tryz.underlying5 Tryz.underlying9 (by repeat (first | (with_reducible exact HR180.out) | (with_reducible refine Kd.C_alloc ?_ _) | (with_reducible refine Kd.C_drewN ?_ _) | (with_reducible refine Kd.C_drew ?_) | exact HR180.out))))
    go_ret2
    exact pR (pE HB)
   ·
    rw [if_neg c19] at H
    exact absurd H (by simp)
 ·
  replace c3 := Bool.eq_false_iff.mpr c3
  subst c3
  rw [if_neg (show ¬ (false = true) by decide)] at H
  simp only [Option.some.injEq, Prod.mk.injEq] at H
  obtain ⟨rfl, rfl⟩ := H
  go_enter Tryz.func69, Tryz.ntmps69
  go_wp2_with (first | ((with_reducible refine gate_dst (N := 1) rfl ?_); refine boxA (N := 1) (cs := #[.bool a0_0, .int .u64 a0_1, .int .u64 a0_2]) (t := 24) ?_; intro gb166 hg w28 hbox hb; have BK166 := Aside0.mk (hbox); have GE166 := (pZ HB hg); replace HB := (pS HB hb); clear hb hbox hg; obtain ⟨hcz29_0, hcz29_1, hcz29_2, hfz29_0, hfz29_1, hfz29_2⟩ := pC3 BK166) | ((with_reducible refine gate_callee (f := 50) rfl ?_); refine goesA (some 6) Tryz.func50 #[.agg #[.bool a0_0, .int .u64 a0_1, .int .u64 a0_2]] ?_; (with_reducible refine (addr_Valid.calls a0_0 a0_1 a0_2 false _ A2.out).mono ?_); rintro e w30 ⟨rfl, hb⟩; refine ⟨_, rfl, ?_⟩; replace BK166 := (pB BK166 hb); replace HB := (pS HB hb); (try clear hb); (try clear hk)))
  go_ret2
  exact pR (pE HB)
end Go.Proofs.YteflcmmandlknaaGreatDoor.PA
