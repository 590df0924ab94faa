/- The Go functions in Lean, with the proofs that the code comes to these answers: printed by this session's program (wip/px) out of the seat's translation. Conditions: each theorem's own. -/
import Derived.Test.YteflcmmandlknaaGreatDoorPAx0
import Derived.Test.YteflcmmandlknaaGreatDoorPAx1
import Derived.Test.YteflcmmandlknaaGreatDoorPAx4
import Derived.Test.YteflcmmandlknaaGreatDoorPAx8
import Derived.Test.YteflcmmandlknaaGreatDoorPAx9
namespace Go.Proofs.YteflcmmandlknaaGreatDoor.PA
open Go.RowKit Go.Proofs.YteflcmmandlknaaGreatDoorW.PrintWords Go.Proofs.YteflcmmandlknaaGreatDoorW.PrintLast Go.Proofs.YteflcmmandlknaaGreatDoorW.PrintMore
attribute [local go_sem] max2_int min2_int max_two min_two max_three min_three max_four min_four   -- for this text's walks alone
attribute [local go_sem ↓] Ext.isSome_setCell
open Press
set_option linter.unusedVariables false
set_option linter.unusedSimpArgs false
attribute [local go_sem high] eqA24
/-! ### prefix_Cover: function 20 -/
mutual
def prefix_Cover.j0 : Nat → Bool → Bool → Int → Int → Bool → Int → Int → Option ((List (S26)))
 | 0, _, _, _, _, _, _, _ => none
 | k + 1, x37, x259000, x259001, x259002, x259003, x259004, x259005 => if x37 = true then (some ([] : List (S26))) else (prefix_Cover.l0 k ([] : List (S26)) x259000 x259001 x259002 x259003 x259004 x259005 x259000 x259001 x259002)
def prefix_Cover.l0 : Nat → List (S26) → Bool → Int → Int → Bool → Int → Int → Bool → Int → Int → Option ((List (S26)))
 | 0, _, _, _, _, _, _, _, _, _, _ => none
 | k + 1, x3, x259000, x259001, x259002, x259003, x259004, x259005, x263000, x263001, x263002 => (prefix_length.f x263000 x263001 x263002).bind fun t263 => ((prefix_zeros.f x263000 x263001 x263002).bind fun t264 => ((prefix_Bounds.f x263000 x263001 x263002 (wrap64 (t263 - t264))).bind fun bt266 => (prefix_Cover.l1 k x3 x259000 x259001 x259002 x259003 x259004 x259005 x263000 x263001 x263002 (wrap64 (t263 - t264)) bt266.1 bt266.2.1 bt266.2.2.1 bt266.2.2.2.1 bt266.2.2.2.2.1 bt266.2.2.2.2.2.1)))
def prefix_Cover.l1 : Nat → List (S26) → Bool → Int → Int → Bool → Int → Int → Bool → Int → Int → Int → Bool → Int → Int → Bool → Int → Int → Option ((List (S26)))
 | 0, _, _, _, _, _, _, _, _, _, _, _, _, _, _, _, _, _ => none
 | k + 1, x3, x259000, x259001, x259002, x259003, x259004, x259005, x266000, x266001, x266002, x266003, x274000, x274001, x274002, x274003, x274004, x274005 => (addr_Compare.f k x274003 x274004 x274005 x259003 x259004 x259005).bind fun t274 => (if t274 > 0 then ((prefix_Bounds.f x266000 x266001 x266002 (wrap64 (x266003 + 1))).bind fun bt275 => (prefix_Cover.l1 k x3 x259000 x259001 x259002 x259003 x259004 x259005 x266000 x266001 x266002 (wrap64 (x266003 + 1)) bt275.1 bt275.2.1 bt275.2.2.1 bt275.2.2.2.1 bt275.2.2.2.2.1 bt275.2.2.2.2.2.1)) else (if x3.length < 4398046511104 then ((some (x3 ++ [(⟨(⟨x266000, x266001, x266002⟩ : S24), x266003⟩ : S26)] : List (S26))).bind fun y282 => (if (x274003 == x259003 && (x274004 == x259004 && (x274005 == x259005))) = true then (some y282) else ((addr_Add.f x274003 x274004 x274005 1).bind fun bt285 => (if bt285.2.2.2 = true then (prefix_Cover.l0 k y282 x259000 x259001 x259002 x259003 x259004 x259005 bt285.1 bt285.2.1 bt285.2.2.1) else (some y282))))) else (none)))
end
def prefix_Cover.f (k : Nat) (a0_0 : Bool) (a0_1 : Int) (a0_2 : Int) (a0_3 : Bool) (a0_4 : Int) (a0_5 : Int) : Option ((List (S26))) := (addr_Valid.f a0_0 a0_1 a0_2).bind fun t259 => (if t259 = true then ((addr_Valid.f a0_3 a0_4 a0_5).bind fun t260 => (if t260 = true then (if (a0_0 != a0_3) = true then (prefix_Cover.j0 k true a0_0 a0_1 a0_2 a0_3 a0_4 a0_5) else ((addr_Compare.f k a0_0 a0_1 a0_2 a0_3 a0_4 a0_5).bind fun t261 => (prefix_Cover.j0 k (decide (t261 > 0)) a0_0 a0_1 a0_2 a0_3 a0_4 a0_5))) else (prefix_Cover.j0 k true a0_0 a0_1 a0_2 a0_3 a0_4 a0_5))) else (prefix_Cover.j0 k true a0_0 a0_1 a0_2 a0_3 a0_4 a0_5))
theorem prefix_Cover.mono_l : ∀ k, (∀ y0 y1 y2 y3 y4 y5 y6, LeO (prefix_Cover.j0 k y0 y1 y2 y3 y4 y5 y6) (prefix_Cover.j0 (k + 1) y0 y1 y2 y3 y4 y5 y6)) ∧ (∀ y0 y1 y2 y3 y4 y5 y6 y7 y8 y9, LeO (prefix_Cover.l0 k y0 y1 y2 y3 y4 y5 y6 y7 y8 y9) (prefix_Cover.l0 (k + 1) y0 y1 y2 y3 y4 y5 y6 y7 y8 y9)) ∧ (∀ y0 y1 y2 y3 y4 y5 y6 y7 y8 y9 y10 y11 y12 y13 y14 y15 y16, LeO (prefix_Cover.l1 k y0 y1 y2 y3 y4 y5 y6 y7 y8 y9 y10 y11 y12 y13 y14 y15 y16) (prefix_Cover.l1 (k + 1) y0 y1 y2 y3 y4 y5 y6 y7 y8 y9 y10 y11 y12 y13 y14 y15 y16))
 | 0 => ⟨fun _ _ _ _ _ _ _ r h => by simp [prefix_Cover.j0] at h, fun _ _ _ _ _ _ _ _ _ _ r h => by simp [prefix_Cover.l0] at h, fun _ _ _ _ _ _ _ _ _ _ _ _ _ _ _ _ _ r h => by simp [prefix_Cover.l1] at h⟩
 | k + 1 => by
  obtain ⟨ih0, ih1, ih2⟩ := prefix_Cover.mono_l k
  refine ⟨?_, ?_, ?_⟩
  ·
   intro y0 y1 y2 y3 y4 y5 y6
   unfold prefix_Cover.j0
   repeat' with_reducible first | exact ih0 _ _ _ _ _ _ _ | exact ih1 _ _ _ _ _ _ _ _ _ _ | exact ih2 _ _ _ _ _ _ _ _ _ _ _ _ _ _ _ _ _ | exact addr_Compare.mono _ _ _ _ _ _ _ | exact LeO.refl _ | exact LeO.none _ | refine LeO.ite ?_ ?_ | refine LeO.bind ?_ (fun _ => ?_)
  ·
   intro y0 y1 y2 y3 y4 y5 y6 y7 y8 y9
   unfold prefix_Cover.l0
   repeat' with_reducible first | exact ih0 _ _ _ _ _ _ _ | exact ih1 _ _ _ _ _ _ _ _ _ _ | exact ih2 _ _ _ _ _ _ _ _ _ _ _ _ _ _ _ _ _ | exact addr_Compare.mono _ _ _ _ _ _ _ | exact LeO.refl _ | exact LeO.none _ | refine LeO.ite ?_ ?_ | refine LeO.bind ?_ (fun _ => ?_)
  ·
   intro y0 y1 y2 y3 y4 y5 y6 y7 y8 y9 y10 y11 y12 y13 y14 y15 y16
   unfold prefix_Cover.l1
   repeat' with_reducible first | exact ih0 _ _ _ _ _ _ _ | exact ih1 _ _ _ _ _ _ _ _ _ _ | exact ih2 _ _ _ _ _ _ _ _ _ _ _ _ _ _ _ _ _ | exact addr_Compare.mono _ _ _ _ _ _ _ | exact LeO.refl _ | exact LeO.none _ | refine LeO.ite ?_ ?_ | refine LeO.bind ?_ (fun _ => ?_)
theorem prefix_Cover.mono : ∀ a0 a1 a2 a3 a4 a5 k, LeO (prefix_Cover.f k a0 a1 a2 a3 a4 a5) (prefix_Cover.f (k + 1) a0 a1 a2 a3 a4 a5) := by
 intro a0 a1 a2 a3 a4 a5 k
 obtain ⟨ih0, ih1, ih2⟩ := prefix_Cover.mono_l k
 unfold prefix_Cover.f
 repeat' with_reducible first | exact ih0 _ _ _ _ _ _ _ | exact ih1 _ _ _ _ _ _ _ _ _ _ | exact ih2 _ _ _ _ _ _ _ _ _ _ _ _ _ _ _ _ _ | exact addr_Compare.mono _ _ _ _ _ _ _ | exact LeO.refl _ | exact LeO.none _ | refine LeO.ite ?_ ?_ | refine LeO.bind ?_ (fun _ => ?_)
set_option maxHeartbeats 40000000 in
set_option maxRecDepth 100000 in
theorem prefix_Cover.calls (k : Nat) (a0_0 : Bool) (a0_1 : Int) (a0_2 : Int) (a0_3 : Bool) (a0_4 : Int) (a0_5 : Int) (r : List (S26)) (w : World) (hLD : Laid w) (h : prefix_Cover.f k a0_0 a0_1 a0_2 a0_3 a0_4 a0_5 = some r) :
 Calls Tryz.prog 20 #[.agg #[.bool a0_0, .int .u64 a0_1, .int .u64 a0_2, .bool a0_3, .int .u64 a0_4, .int .u64 a0_5]] w fun e w' => ∃ v0_ : Value, e = .returned (v0_) ∧ Kd.R k26 26 w' w.heap.size (fun _ => True) v0_ r ∧ Below w.heap.size w w' := by
 have hu33 := Tryz.underlying33
 have hu24 := Tryz.underlying24
 have hu26 := Tryz.underlying26
 have HLD := Aside0.mk hLD
 clear hLD
 have HB := Aside0.mk (Below.refl w.heap.size w)
 have H : ((addr_Valid.f a0_0 a0_1 a0_2).bind fun t259 => (if t259 = true then ((addr_Valid.f a0_3 a0_4 a0_5).bind fun t260 => (if t260 = true then (if (a0_0 != a0_3) = true then (prefix_Cover.j0 k true a0_0 a0_1 a0_2 a0_3 a0_4 a0_5) else ((addr_Compare.f k a0_0 a0_1 a0_2 a0_3 a0_4 a0_5).bind fun t261 => (prefix_Cover.j0 k (decide (t261 > 0)) a0_0 a0_1 a0_2 a0_3 a0_4 a0_5))) else (prefix_Cover.j0 k true a0_0 a0_1 a0_2 a0_3 a0_4 a0_5))) else (prefix_Cover.j0 k true a0_0 a0_1 a0_2 a0_3 a0_4 a0_5))) = some r := h
 clear h
 have HC2 := Aside0.mk H
 clear H
 go_enter Tryz.func20, Tryz.ntmps20
 go_upto_region 1 with (first | ((with_reducible refine gate_dst (N := 1) rfl ?_); refine boxA (N := 1) (cs := #[.bool a0_0, .int .u64 a0_1, .int .u64 a0_2, .bool a0_3, .int .u64 a0_4, .int .u64 a0_5]) (t := 33) ?_; intro gb258 hg w3 hbox hb; have BK258 := Aside0.mk (hbox); have GE258 := (pZ HB hg); replace HB := (pS HB hb); clear hb hbox hg))
 (try simp only [Act.put, List.setIfInBounds_toArray, List.set_cons_zero, List.set_cons_succ])
 go_cut [37] (fun v37 wc => ∃ (kq : Nat) (x37_1 : Bool), v37 = .bool x37_1 ∧ Aside0 (prefix_Cover.j0 kq x37_1 a0_0 a0_1 a0_2 a0_3 a0_4 a0_5 = some r) ∧ Aside0 (kq ≤ k) ∧ Aside0 (wc.heap[gb258]? = some (.cells #[.bool a0_0, .int .u64 a0_1, .int .u64 a0_2, .bool a0_3, .int .u64 a0_4, .int .u64 a0_5] 33 (0, 0))) ∧ Aside0 (Below w.heap.size w wc))
 case first =>
  have H := HC2.out
  clear HC2
  replace H := Option.bind_eq_some_iff.mp H
  obtain ⟨t259, A40, H⟩ := H
  have A4 := Aside0.mk A40
  clear A40
  by_cases c5 : t259 = true
  ·
   subst c5
   rw [if_pos rfl] at H
   replace H := Option.bind_eq_some_iff.mp H
   obtain ⟨t260, A60, H⟩ := H
   have A6 := Aside0.mk A60
   clear A60
   by_cases c7 : t260 = true
   ·
    subst c7
    rw [if_pos rfl] at H
    by_cases c8 : (a0_0 != a0_3) = true
    ·
     rw [if_pos c8] at H
     have c8b0 : (a0_0 != a0_3) = true := c8
     (try (have c8b1 : decide (a0_0 = a0_3) = false := by simpa using c8))
     (try (have c8b2 : (a0_0 == a0_3) = false := by simpa using c8))
     (try (have c8b3 : ¬ (a0_0 = a0_3) := by simpa using c8))
     clear c8
     (first | rw [c8b0] | (simp only [i64_w, i32_w]; rw [c8b0]) | skip)
     have H' := Aside0.mk H
     clear H
     obtain ⟨hcz9_0, hcz9_1, hcz9_2, hcz9_3, hcz9_4, hcz9_5, hfz9_0, hfz9_1, hfz9_2, hfz9_3, hfz9_4, hfz9_5⟩ := pC6 BK258
     go_wp2_with (first | ((with_reducible refine gate_callee (f := 50) rfl ?_); refine goesA (some 13) Tryz.func50 #[.agg #[.bool a0_0, .int .u64 a0_1, .int .u64 a0_2]] ?_; (with_reducible refine (addr_Valid.calls a0_0 a0_1 a0_2 true _ A4.out).mono ?_); rintro e w10 ⟨rfl, hb⟩; refine ⟨_, rfl, ?_⟩; replace BK258 := (pB BK258 hb); replace HB := (pS HB hb); (try clear hb); (try clear hk); obtain ⟨hcz11_0, hcz11_1, hcz11_2, hcz11_3, hcz11_4, hcz11_5, hfz11_0, hfz11_1, hfz11_2, hfz11_3, hfz11_4, hfz11_5⟩ := pC6 BK258) | (go_at_call 50; (with_reducible refine (addr_Valid.calls a0_3 a0_4 a0_5 true _ A6.out).mono ?_); rintro e w12 ⟨rfl, hb⟩; replace BK258 := (pB BK258 hb); replace HB := (pS HB hb); (try clear hb); (try clear hk); obtain ⟨hcz13_0, hcz13_1, hcz13_2, hcz13_3, hcz13_4, hcz13_5, hfz13_0, hfz13_1, hfz13_2, hfz13_3, hfz13_4, hfz13_5⟩ := pC6 BK258))
     refine Met.intro ?_
     go_step
     (repeat apply Exists.intro)
     refine ⟨?rel, ?heq_⟩
     case heq_ => first | rfl | (rw [c8b0]) | (simp only [c8b0])
     case rel => exact ⟨_, (true), pT, H', ⟨by first | omega | exact Nat.le_refl _⟩, ⟨pM BK258⟩, ⟨pE HB⟩⟩
    ·
     rw [if_neg c8] at H
     have c8b0 : (a0_0 != a0_3) = false := by simpa using c8
     (try (have c8b1 : decide (a0_0 = a0_3) = true := by simpa using c8))
     (try (have c8b2 : (a0_0 == a0_3) = true := by simpa using c8))
     clear c8
     (first | rw [c8b0] | (simp only [i64_w, i32_w]; rw [c8b0]) | skip)
     replace H := Option.bind_eq_some_iff.mp H
     obtain ⟨t261, A140, H⟩ := H
     have A14 := Aside0.mk A140
     clear A140
     have H' := Aside0.mk H
     clear H
     obtain ⟨hcz15_0, hcz15_1, hcz15_2, hcz15_3, hcz15_4, hcz15_5, hfz15_0, hfz15_1, hfz15_2, hfz15_3, hfz15_4, hfz15_5⟩ := pC6 BK258
     go_wp2_with (first | ((with_reducible refine gate_callee (f := 50) rfl ?_); refine goesA (some 13) Tryz.func50 #[.agg #[.bool a0_0, .int .u64 a0_1, .int .u64 a0_2]] ?_; (with_reducible refine (addr_Valid.calls a0_0 a0_1 a0_2 true _ A4.out).mono ?_); rintro e w16 ⟨rfl, hb⟩; refine ⟨_, rfl, ?_⟩; replace BK258 := (pB BK258 hb); replace HB := (pS HB hb); (try clear hb); (try clear hk); obtain ⟨hcz17_0, hcz17_1, hcz17_2, hcz17_3, hcz17_4, hcz17_5, hfz17_0, hfz17_1, hfz17_2, hfz17_3, hfz17_4, hfz17_5⟩ := pC6 BK258) | (go_at_call 50; (with_reducible refine (addr_Valid.calls a0_3 a0_4 a0_5 true _ A6.out).mono ?_); rintro e w18 ⟨rfl, hb⟩; replace BK258 := (pB BK258 hb); replace HB := (pS HB hb); (try clear hb); (try clear hk); obtain ⟨hcz19_0, hcz19_1, hcz19_2, hcz19_3, hcz19_4, hcz19_5, hfz19_0, hfz19_1, hfz19_2, hfz19_3, hfz19_4, hfz19_5⟩ := pC6 BK258) | (go_at_call 51; (with_reducible refine (addr_Compare.calls k a0_0 a0_1 a0_2 a0_3 a0_4 a0_5 t261 _ A14.out).mono ?_); rintro e w20 ⟨rfl, hb⟩; replace BK258 := (pB BK258 hb); replace HB := (pS HB hb); (try clear hb); (try clear hk)))
     refine Met.intro ?_
     go_step
     (repeat apply Exists.intro)
     refine ⟨?rel, ?heq_⟩
     case heq_ => first | rfl | (rw [c8b0]) | (simp only [c8b0])
     case rel => exact ⟨_, (decide (t261 > 0)), pT, H', ⟨by first | omega | exact Nat.le_refl _⟩, ⟨pM BK258⟩, ⟨pE HB⟩⟩
   ·
    replace c7 := Bool.eq_false_iff.mpr c7
    subst c7
    rw [if_neg (show ¬ (false = true) by decide)] at H
    have H' := Aside0.mk H
    clear H
    obtain ⟨hcz21_0, hcz21_1, hcz21_2, hcz21_3, hcz21_4, hcz21_5, hfz21_0, hfz21_1, hfz21_2, hfz21_3, hfz21_4, hfz21_5⟩ := pC6 BK258
    go_wp2_with (first | ((with_reducible refine gate_callee (f := 50) rfl ?_); refine goesA (some 13) Tryz.func50 #[.agg #[.bool a0_0, .int .u64 a0_1, .int .u64 a0_2]] ?_; (with_reducible refine (addr_Valid.calls a0_0 a0_1 a0_2 true _ A4.out).mono ?_); rintro e w22 ⟨rfl, hb⟩; refine ⟨_, rfl, ?_⟩; replace BK258 := (pB BK258 hb); replace HB := (pS HB hb); (try clear hb); (try clear hk); obtain ⟨hcz23_0, hcz23_1, hcz23_2, hcz23_3, hcz23_4, hcz23_5, hfz23_0, hfz23_1, hfz23_2, hfz23_3, hfz23_4, hfz23_5⟩ := pC6 BK258) | (go_at_call 50; (with_reducible refine (addr_Valid.calls a0_3 a0_4 a0_5 false _ A6.out).mono ?_); rintro e w24 ⟨rfl, hb⟩; replace BK258 := (pB BK258 hb); replace HB := (pS HB hb); (try clear hb); (try clear hk)))
    go_meet
    case rel => exact ⟨_, (true), pT, H', ⟨by first | omega | exact Nat.le_refl _⟩, ⟨pM BK258⟩, ⟨pE HB⟩⟩
  ·
   replace c5 := Bool.eq_false_iff.mpr c5
   subst c5
   rw [if_neg (show ¬ (false = true) by decide)] at H
   have H' := Aside0.mk H
   clear H
   obtain ⟨hcz25_0, hcz25_1, hcz25_2, hcz25_3, hcz25_4, hcz25_5, hfz25_0, hfz25_1, hfz25_2, hfz25_3, hfz25_4, hfz25_5⟩ := pC6 BK258
   go_wp2_with (first | ((with_reducible refine gate_callee (f := 50) rfl ?_); refine goesA (some 13) Tryz.func50 #[.agg #[.bool a0_0, .int .u64 a0_1, .int .u64 a0_2]] ?_; (with_reducible refine (addr_Valid.calls a0_0 a0_1 a0_2 false _ A4.out).mono ?_); rintro e w26 ⟨rfl, hb⟩; refine ⟨_, rfl, ?_⟩; replace BK258 := (pB BK258 hb); replace HB := (pS HB hb); (try clear hb); (try clear hk)))
   go_meet
   case rel => exact ⟨_, (true), pT, H', ⟨by first | omega | exact Nat.le_refl _⟩, ⟨pM BK258⟩, ⟨pE HB⟩⟩
 case rest =>
  clear HC2
  obtain ⟨kq, x37_1, rfl, HA, HJ1, BK258, HB⟩ := hcut
  cases kq with
  | zero => exact absurd HA.out (by simp [prefix_Cover.j0])
  | succ kj1 =>
   have H := HA.out
   clear HA
   simp only [prefix_Cover.j0] at H
   by_cases c27 : x37_1 = true
   ·
    subst c27
    rw [if_pos rfl] at H
    obtain rfl := Option.some.inj H
    go_wp2
    go_ret
    exact ⟨_, by first | rfl | (simp [errW_none, errW_some] <;> rfl) | (simp [*, errW_none, errW_some] <;> rfl), by first | exact Kd.R_nil _ _ _ _ _ | exact Kd.N_nil _ _ _ _ _ | exact Kd.V_nil _ _ _ _ _ | exact Kd.Q_nil _ _ _ _ _ | exact Kd.S_nil _ _ _ _ _, by repeat (first | (with_reducible first | exact HB.out | apply below_alloc | apply pw_below_drewN | apply below_drew1 | refine below_set ?_ GE258.out) | exact HB.out)⟩
   ·
    replace c27 := Bool.eq_false_iff.mpr c27
    subst c27
    rw [if_neg (show ¬ (false = true) by decide)] at H
    have H' := Aside0.mk H
    clear H
    obtain ⟨hcz28_0, hcz28_1, hcz28_2, hcz28_3, hcz28_4, hcz28_5, hfz28_0, hfz28_1, hfz28_2, hfz28_3, hfz28_4, hfz28_5⟩ := pC6 BK258
    go_wp2_with (first | ((with_reducible refine gate_dst (N := 4) rfl ?_); refine boxA (N := 4) (cs := #[.bool false, .int .u64 0, .int .u64 0]) (t := 24) ?_; intro gb262 hg w29 hbox hb; have BK262 := Aside0.mk (hbox); have GW262 := (pZ HB hg); have GE262 := (pZ HB hg); have NB258_262 := (pL BK258 hg); have NB262_258 := (pG BK258 hg); replace BK258 := (pB BK258 hb); replace HB := (pS HB hb); clear hb hbox hg; have hnb30 := NB262_258.out; have hnc30 := NB258_262.out; obtain ⟨hcz31_0, hcz31_1, hcz31_2, hfz31_0, hfz31_1, hfz31_2⟩ := pC3 BK262))
    go_loopg [3, 4] kj1 (fun kq v3 v4 w' => ∃ (x3_2 : List (S26)) (b0 : Bool) (b1 b2 : Int) (gc : Nat), v4 = .pointer (some ⟨gc, 0, none⟩) ∧ Aside0 (prefix_Cover.l0 kq x3_2 a0_0 a0_1 a0_2 a0_3 a0_4 a0_5 b0 b1 b2 = some r) ∧ Aside0 (kq ≤ kj1) ∧ Aside0 (Kd.R k26 26 w' w.heap.size (fun _ => True) v3 x3_2) ∧ Aside0 (w'.heap[gb258]? = some (.cells #[.bool a0_0, .int .u64 a0_1, .int .u64 a0_2, .bool a0_3, .int .u64 a0_4, .int .u64 a0_5] 33 (0, 0))) ∧ Aside0 (w'.heap[gc]? = some (.cells #[.bool b0, .int .u64 b1, .int .u64 b2] 24 (0, 0))) ∧ Aside0 (Below w.heap.size w w') ∧ Aside0 (gb258 ≠ gc) ∧ Aside0 (gc ≠ gb258) ∧ Aside0 (w.heap.size ≤ gc))
    case atStart => exact ⟨(([] : List (S26))), a0_0, a0_1, a0_2, gb262, rfl, H', ⟨Nat.le_refl _⟩, ⟨by first | exact Kd.R_nil _ _ _ _ _ | exact Kd.N_nil _ _ _ _ _ | exact Kd.V_nil _ _ _ _ _ | exact Kd.Q_nil _ _ _ _ _ | exact Kd.S_nil _ _ _ _ _⟩, ⟨by (with_reducible repeat (first | refine blk_drewN ?_ _ | refine blk_drew ?_ | refine blk_alloc ?_ _)); refine blk_far ?_ NB258_262.out _; (with_reducible repeat (first | refine blk_drewN ?_ _ | refine blk_drew ?_ | refine blk_alloc ?_ _)); refine blk_far ?_ NB258_262.out _; (with_reducible repeat (first | refine blk_drewN ?_ _ | refine blk_drew ?_ | refine blk_alloc ?_ _)); refine blk_far ?_ NB258_262.out _; (with_reducible repeat (first | refine blk_drewN ?_ _ | refine blk_drew ?_ | refine blk_alloc ?_ _)); exact BK258.out⟩, ⟨by (with_reducible repeat (first | refine blk_drewN ?_ _ | refine blk_drew ?_ | refine blk_alloc ?_ _)); refine blk_put (cs := #[.bool a0_0, .int .u64 a0_1, .int .u64 0]) ?_ 2 _ rfl; (with_reducible repeat (first | refine blk_drewN ?_ _ | refine blk_drew ?_ | refine blk_alloc ?_ _)); refine blk_put (cs := #[.bool a0_0, .int .u64 0, .int .u64 0]) ?_ 1 _ rfl; (with_reducible repeat (first | refine blk_drewN ?_ _ | refine blk_drew ?_ | refine blk_alloc ?_ _)); refine blk_put (cs := #[.bool false, .int .u64 0, .int .u64 0]) ?_ 0 _ rfl; (with_reducible repeat (first | refine blk_drewN ?_ _ | refine blk_drew ?_ | refine blk_alloc ?_ _)); exact BK262.out⟩, ⟨pE HB⟩, NB258_262, NB262_258, GE262⟩
    case round =>
     clear H'
     try clear c27
     try clear hcz28_0 hcz28_1 hcz28_2 hcz28_3 hcz28_4 hcz28_5
     try clear hcz31_0 hcz31_1 hcz31_2
     try clear hfz28_0 hfz28_1 hfz28_2 hfz28_3 hfz28_4 hfz28_5
     try clear hfz31_0 hfz31_1 hfz31_2
     obtain ⟨x3_2, b0, b1, b2, gb262, rfl, HA, HK2, HO_3, BK258, BK262, HB, NB258_262, NB262_258, GE262⟩ := hrel
     have GW262 := GE262
     cases gk with
     | zero => exact absurd HA.out (by simp [prefix_Cover.l0])
     | succ k2 =>
      have H := HA.out
      clear HA
      simp only [prefix_Cover.l0] at H
      replace H := Option.bind_eq_some_iff.mp H
      obtain ⟨t263, A320, H⟩ := H
      have A32 := Aside0.mk A320
      clear A320
      replace H := Option.bind_eq_some_iff.mp H
      obtain ⟨t264, A330, H⟩ := H
      have A33 := Aside0.mk A330
      clear A330
      replace H := Option.bind_eq_some_iff.mp H
      obtain ⟨⟨t266, t267, t268, t269, t270, t271, t272⟩, A340, H⟩ := H
      replace H : (prefix_Cover.l1 k2 x3_2 a0_0 a0_1 a0_2 a0_3 a0_4 a0_5 b0 b1 b2 (wrap64 (t263 - t264)) t266 t267 t268 t269 t270 t271) = some r := H
      have A34 := Aside0.mk A340
      clear A340
      have H' := Aside0.mk H
      clear H
      try go_wp2
      replace HO_3 := Aside0.mk (Kd.R_drew HO_3.out)
      replace BK258 := Aside0.mk (blk_drew BK258.out)
      replace BK262 := Aside0.mk (blk_drew BK262.out)
      replace HB := Aside0.mk (below_drew1 HB.out)
      refine start_ (n := 6) (S := fun w' => w'.cell? ⟨gb262, 0, none⟩ = some (.bool b0) ∧ w'.cell? ⟨gb262, 1, none⟩ = some (.int .u64 b1) ∧ w'.cell? ⟨gb262, 2, none⟩ = some (.int .u64 b2)) (ds := []) (tk 6 0) (by kernel_rfl) rfl rfl ⟨(blk_cell BK262.out 0).trans rfl, (blk_cell BK262.out 1).trans rfl, (blk_cell BK262.out 2).trans rfl⟩ (fun hHeld => ?_)
      generalize wr.drew = w35 at HO_3 BK258 BK262 HB hHeld ⊢
      refine take_ (i := 0) (N := some 40) (v := ?_) (a' := ?_) (tk 6 1) rfl rfl (by kernel_rfl) (fun _ _ _ h => h) (Or.inl ⟨by rfl, ?_⟩) hHeld ?_ ?_
      rotate_left
      ·
       rintro w' ⟨s0, s1, s2⟩
       go_simp
       with_reducible rfl
      rotate_left
      ·
       simp only [Act.put, List.setIfInBounds_toArray, List.set_cons_zero, List.set_cons_succ, i64_w, i32_w]
       rfl
      refine take_ (i := 2) (N := some 42) (v := ?_) (a' := ?_) (tr [1, 1, 1, 3]) rfl rfl (by kernel_rfl) (fun _ _ _ h => h) (Or.inl ⟨by rfl, ?_⟩) hHeld ?_ ?_
      rotate_left
      ·
       rintro w' ⟨s0, s1, s2⟩
       go_simp
       with_reducible rfl
      rotate_left
      ·
       simp only [Act.put, List.setIfInBounds_toArray, List.set_cons_zero, List.set_cons_succ, i64_w, i32_w]
       rfl
      refine one_ (i := 1) (N := some 41) (tk 6 3) rfl rfl (by kernel_rfl) (by decide) (fun K hK => ?_)
      refine goesR Tryz.func46 #[.agg #[.bool b0, .int .u64 b1, .int .u64 b2]] ?_
      with_reducible refine (prefix_length.calls b0 b1 b2 t263 _ A32.out).mono ?_
      rintro e w36 ⟨rfl, hb⟩
      refine ⟨_, rfl, ?_⟩
      replace HO_3 := Aside0.mk (Kd.R_below (by (with_reducible repeat (first | apply Kd.R_alloc | apply Kd.R_drewN | apply Kd.R_drew)); exact HO_3.out) hb)
      replace BK258 := (pB BK258 hb)
      replace BK262 := (pB BK262 hb)
      replace HB := (pS HB hb)
      (try clear hb)
      (try clear hk)
      refine hK.out _ _ ⟨(blk_cell BK262.out 0).trans rfl, (blk_cell BK262.out 1).trans rfl, (blk_cell BK262.out 2).trans rfl⟩ (fun hHeld => ?_)
      clear hK K
      refine normA (N := some 41) ?_
      refine one_ (i := 3) (N := some 43) (tk 6 4) rfl rfl (by kernel_rfl) (by decide) (fun K hK => ?_)
      refine goesR Tryz.func52 #[.agg #[.bool b0, .int .u64 b1, .int .u64 b2]] ?_
      with_reducible refine (prefix_zeros.calls b0 b1 b2 t264 _ ?side1 A33.out).mono ?_
      (case side1 => exact Laid.below HLD.out (pE HB))
      rintro e w37 ⟨rfl, hb⟩
      refine ⟨_, rfl, ?_⟩
      replace HO_3 := Aside0.mk (Kd.R_below (by (with_reducible repeat (first | apply Kd.R_alloc | apply Kd.R_drewN | apply Kd.R_drew)); exact HO_3.out) hb)
      replace BK258 := (pB BK258 hb)
      replace BK262 := (pB BK262 hb)
      replace HB := (pS HB hb)
      (try clear hb)
      (try clear hk)
      refine hK.out _ _ ⟨(blk_cell BK262.out 0).trans rfl, (blk_cell BK262.out 1).trans rfl, (blk_cell BK262.out 2).trans rfl⟩ (fun hHeld => ?_)
      clear hK K
      refine normA (N := some 43) ?_
      refine pure_ (i := 4) (N := some 44) (v := ?_) (a' := ?_) (tk 6 5) rfl rfl (by kernel_rfl) (fun _ _ _ h => h) (Or.inl ⟨by rfl, ?_⟩) ?_ ?_
      rotate_left
      ·
       intro w'
       go_simp
       with_reducible rfl
      rotate_left
      ·
       simp only [Act.put, List.setIfInBounds_toArray, List.set_cons_zero, List.set_cons_succ, i64_w, i32_w]
       rfl
      refine pure_ (i := 5) (N := some 5) (v := ?_) (a' := ?_) (tk 6 6) rfl rfl (by kernel_rfl) (fun _ _ _ h => h) (Or.inl ⟨by rfl, ?_⟩) ?_ ?_
      rotate_left
      ·
       intro w'
       go_simp
       with_reducible rfl
      rotate_left
      ·
       simp only [Act.put, List.setIfInBounds_toArray, List.set_cons_zero, List.set_cons_succ, i64_w, i32_w]
       rfl
      refine done_ (by kernel_rfl) ?_
      have hnb38 := NB262_258.out
      have hnc38 := NB258_262.out
      obtain ⟨hcz39_0, hcz39_1, hcz39_2, hfz39_0, hfz39_1, hfz39_2⟩ := pC3 BK262
      try go_wp2_with (first | ((with_reducible refine gate_dst (N := 6) rfl ?_); refine boxA (N := 6) (cs := #[.bool false, .int .u64 0, .int .u64 0, .int .i64 0]) (t := 26) ?_; intro gb265 hg w40 hbox hb; have BK265 := Aside0.mk (hbox); have GE265 := (pZ HB hg); have NB258_265 := (pL BK258 hg); have NB265_258 := (pG BK258 hg); have NB262_265 := (pL BK262 hg); have NB265_262 := (pG BK262 hg); replace HO_3 := Aside0.mk (Kd.R_below (Kd.R_elderB (by (with_reducible repeat (first | apply Kd.R_alloc | apply Kd.R_drewN | apply Kd.R_drew)); exact HO_3.out) gb265 (Nat.le_of_eq hg.symm)) hb); replace BK258 := (pB BK258 hb); replace BK262 := (pB BK262 hb); replace HB := (pS HB hb); clear hb hbox hg; have hnb41 := NB265_258.out; have hnc41 := NB258_265.out; have hnb42 := NB265_262.out; have hnc42 := NB262_265.out; obtain ⟨hcz43_0, hcz43_1, hcz43_2, hcz43_3, hfz43_0, hfz43_1, hfz43_2, hfz43_3⟩ := pC4 BK265) | ((with_reducible refine gate_callee (f := 10) rfl ?_); refine goesA (some 50) Tryz.func10 #[.agg #[.bool b0, .int .u64 b1, .int .u64 b2, .int .i64 (wrap64 (t263 - t264))]] ?_; (with_reducible refine (prefix_Bounds.calls b0 b1 b2 (wrap64 (t263 - t264)) t266 t267 t268 t269 t270 t271 t272 _ A34.out).mono ?_); rintro e w44 ⟨rfl, hb⟩; refine ⟨_, rfl, ?_⟩; replace HO_3 := Aside0.mk (Kd.R_below (by (with_reducible repeat (first | apply Kd.R_alloc | apply Kd.R_drewN | apply Kd.R_drew)); exact (Kd.R_mono (Kd.R_far (p := ⟨gb265, 3, none⟩) (Kd.R_far (p := ⟨gb265, 2, none⟩) (Kd.R_far (p := ⟨gb265, 1, none⟩) (Kd.R_far (p := ⟨gb265, 0, none⟩) (Kd.R_mono HO_3.out (fun k_ hk => (⟨hk, hk.2⟩ : _ ∧ k_ ≠ gb265))) (fun _ hk => hk.2) (.bool b0)) (fun _ hk => hk.2) (.int .u64 b1)) (fun _ hk => hk.2) (.int .u64 b2)) (fun _ hk => hk.2) (.int .i64 (wrap64 (t263 - t264)))) (fun _ h_ => h_.1))) hb); replace BK258 := (pD hb (pK NB258_265 (pK NB258_265 (pK NB258_265 (pK NB258_265 (pM BK258)))))); replace BK262 := (pD hb (pK NB262_265 (pK NB262_265 (pK NB262_265 (pK NB262_265 (pM BK262)))))); replace BK265 := (pD hb (pP (pP (pP (pP (pM BK265)))))); replace HB := (pS HB hb); (try clear hb); (try clear hk)) | ((with_reducible refine gate_dst (N := 7) rfl ?_); refine boxA (N := 7) (cs := #[.bool false, .int .u64 0, .int .u64 0, .bool false, .int .u64 0, .int .u64 0]) (t := 33) ?_; intro gb273 hg w45 hbox hb; have BK273 := Aside0.mk (hbox); have GE273 := (pZ HB hg); have NB258_273 := (pL BK258 hg); have NB273_258 := (pG BK258 hg); have NB262_273 := (pL BK262 hg); have NB273_262 := (pG BK262 hg); have NB265_273 := (pL BK265 hg); have NB273_265 := (pG BK265 hg); replace HO_3 := Aside0.mk (Kd.R_below (by (with_reducible repeat (first | apply Kd.R_alloc | apply Kd.R_drewN | apply Kd.R_drew)); exact HO_3.out) hb); replace BK258 := (pB BK258 hb); replace BK262 := (pB BK262 hb); replace BK265 := (pB BK265 hb); replace HB := (pS HB hb); clear hb hbox hg; have hnb46 := NB273_258.out; have hnc46 := NB258_273.out; have hnb47 := NB273_262.out; have hnc47 := NB262_273.out; have hnb48 := NB273_265.out; have hnc48 := NB265_273.out; obtain ⟨hcz49_0, hcz49_1, hcz49_2, hcz49_3, hcz49_4, hcz49_5, hfz49_0, hfz49_1, hfz49_2, hfz49_3, hfz49_4, hfz49_5⟩ := pC6 BK273) | ((with_reducible refine gate_store (t := 33) (p := 7) rfl ?_); refine store_event (t := 33) (p := 7) (v := ?vo_w50) (w1 := ((((((w45.setCell ⟨gb273, 0, none⟩ (.bool t266)).setCell ⟨gb273, 1, none⟩ (.int .u64 t267)).setCell ⟨gb273, 2, none⟩ (.int .u64 t268)).setCell ⟨gb273, 3, none⟩ (.bool t269)).setCell ⟨gb273, 4, none⟩ (.int .u64 t270)).setCell ⟨gb273, 5, none⟩ (.int .u64 t271))) ?hg ?ho ?hn ?hr ?_; (case ho => rfl); (case hg => rfl); (case hn => rfl); (case hr => first | (exact Ext.run_store_chain 33 _ _ rfl _ _ _ _ rfl rfl (pM BK273) (by kernel_rfl) rfl rfl rfl) | (go_simp; done) | (go_simp; rfl)); intro w50 hw; replace HO_3 : Aside0 (Kd.R k26 26 w50 w.heap.size (fun k_ => k_ ≠ gb265) u3 x3_2) := ⟨(by rw [hw]; exact (by (with_reducible repeat (first | apply Kd.R_alloc | apply Kd.R_drewN | apply Kd.R_drew)); exact Kd.R_mono (Kd.R_far (p := ⟨gb273, 5, none⟩) (Kd.R_far (p := ⟨gb273, 4, none⟩) (Kd.R_far (p := ⟨gb273, 3, none⟩) (Kd.R_far (p := ⟨gb273, 2, none⟩) (Kd.R_far (p := ⟨gb273, 1, none⟩) (Kd.R_far (p := ⟨gb273, 0, none⟩) (Kd.R_types HO_3.out BK273.out (by decide)) (fun _ hk => hk.2) (.bool t266)) (fun _ hk => hk.2) (.int .u64 t267)) (fun _ hk => hk.2) (.int .u64 t268)) (fun _ hk => hk.2) (.bool t269)) (fun _ hk => hk.2) (.int .u64 t270)) (fun _ hk => hk.2) (.int .u64 t271)) (fun _ hk => hk.1.2)))⟩; replace BK258 : Aside0 (w50.heap[gb258]? = some (.cells #[.bool a0_0, .int .u64 a0_1, .int .u64 a0_2, .bool a0_3, .int .u64 a0_4, .int .u64 a0_5] 33 (0, 0))) := (pW hw (pK NB258_273 (pK NB258_273 (pK NB258_273 (pK NB258_273 (pK NB258_273 (pK NB258_273 (pM BK258)))))))); replace BK262 : Aside0 (w50.heap[gb262]? = some (.cells #[.bool b0, .int .u64 b1, .int .u64 b2] 24 (0, 0))) := (pW hw (pK NB262_273 (pK NB262_273 (pK NB262_273 (pK NB262_273 (pK NB262_273 (pK NB262_273 (pM BK262)))))))); replace BK265 : Aside0 (w50.heap[gb265]? = some (.cells #[.bool b0, .int .u64 b1, .int .u64 b2, .int .i64 (wrap64 (t263 - t264))] 26 (0, 0))) := (pW hw (pK NB265_273 (pK NB265_273 (pK NB265_273 (pK NB265_273 (pK NB265_273 (pK NB265_273 (pM BK265)))))))); replace BK273 : Aside0 (w50.heap[gb273]? = some (.cells #[.bool t266, .int .u64 t267, .int .u64 t268, .bool t269, .int .u64 t270, .int .u64 t271] 33 (0, 0))) := (pW hw (pP (pP (pP (pP (pP (pP (pM BK273)))))))); replace HB : Aside0 (Below w.heap.size w w50) := ⟨(by rw [hw]; exact (by repeat (first | (with_reducible first | exact HB.out | apply below_alloc | apply pw_below_drewN | apply below_drew1 | refine below_set ?_ GE258.out | refine below_set ?_ GE262.out | refine below_set ?_ GE265.out | refine below_set ?_ GE273.out) | exact HB.out)))⟩; clear hw))
      go_loopg [] k2 (fun kq w' => ∃ (x266003_3 : Int) (x274000_3 : Bool) (x274001_3 : Int) (x274002_3 : Int) (x274003_3 : Bool) (x274004_3 : Int) (x274005_3 : Int), Aside0 (prefix_Cover.l1 kq x3_2 a0_0 a0_1 a0_2 a0_3 a0_4 a0_5 b0 b1 b2 x266003_3 x274000_3 x274001_3 x274002_3 x274003_3 x274004_3 x274005_3 = some r) ∧ Aside0 (kq ≤ k2) ∧ Aside0 (Kd.R k26 26 w' w.heap.size (fun k_ => k_ ≠ gb265) u3 x3_2) ∧ Aside0 (w'.heap[gb258]? = some (.cells #[.bool a0_0, .int .u64 a0_1, .int .u64 a0_2, .bool a0_3, .int .u64 a0_4, .int .u64 a0_5] 33 (0, 0))) ∧ Aside0 (w'.heap[gb262]? = some (.cells #[.bool b0, .int .u64 b1, .int .u64 b2] 24 (0, 0))) ∧ Aside0 (w'.heap[gb265]? = some (.cells #[.bool b0, .int .u64 b1, .int .u64 b2, .int .i64 x266003_3] 26 (0, 0))) ∧ Aside0 (w'.heap[gb273]? = some (.cells #[.bool x274000_3, .int .u64 x274001_3, .int .u64 x274002_3, .bool x274003_3, .int .u64 x274004_3, .int .u64 x274005_3] 33 (0, 0))) ∧ Aside0 (Below w.heap.size w w'))
      case atStart => exact ⟨(wrap64 (t263 - t264)), (t266), (t267), (t268), (t269), (t270), (t271), H', ⟨Nat.le_refl _⟩, ⟨by (with_reducible repeat (first | apply Kd.R_alloc | apply Kd.R_drewN | apply Kd.R_drew)); exact HO_3.out⟩, ⟨pM BK258⟩, ⟨pM BK262⟩, ⟨pM BK265⟩, ⟨pM BK273⟩, ⟨pE HB⟩⟩
      case round =>
       clear H'
       try clear c27
       try clear hcz28_0 hcz28_1 hcz28_2 hcz28_3 hcz28_4 hcz28_5
       try clear hcz31_0 hcz31_1 hcz31_2
       try clear hcz39_0 hcz39_1 hcz39_2
       try clear hcz43_0 hcz43_1 hcz43_2 hcz43_3
       try clear hcz49_0 hcz49_1 hcz49_2 hcz49_3 hcz49_4 hcz49_5
       try clear hfz28_0 hfz28_1 hfz28_2 hfz28_3 hfz28_4 hfz28_5
       try clear hfz31_0 hfz31_1 hfz31_2
       try clear hfz39_0 hfz39_1 hfz39_2
       try clear hfz43_0 hfz43_1 hfz43_2 hfz43_3
       try clear hfz49_0 hfz49_1 hfz49_2 hfz49_3 hfz49_4 hfz49_5
       obtain ⟨x266003_3, x274000_3, x274001_3, x274002_3, x274003_3, x274004_3, x274005_3, HA, HK3, HO_3, BK258, BK262, BK265, BK273, HB⟩ := hrel
       cases gk with
       | zero => exact absurd HA.out (by simp [prefix_Cover.l1])
       | succ k3 =>
        have H := HA.out
        clear HA
        simp only [prefix_Cover.l1] at H
        replace H := Option.bind_eq_some_iff.mp H
        obtain ⟨t274, A510, H⟩ := H
        have A51 := Aside0.mk A510
        clear A510
        by_cases c52 : t274 > 0
        ·
         rw [if_pos c52] at H
         have c52b0 := decide_eq_true c52
         clear c52
         replace H := Option.bind_eq_some_iff.mp H
         obtain ⟨⟨t275, t276, t277, t278, t279, t280, t281⟩, A530, H⟩ := H
         replace H : (prefix_Cover.l1 k3 x3_2 a0_0 a0_1 a0_2 a0_3 a0_4 a0_5 b0 b1 b2 (wrap64 (x266003_3 + 1)) t275 t276 t277 t278 t279 t280) = some r := H
         have A53 := Aside0.mk A530
         clear A530
         have H' := Aside0.mk H
         clear H
         have hnb54 := NB273_258.out
         have hnc54 := NB258_273.out
         have hnb55 := NB273_262.out
         have hnc55 := NB262_273.out
         have hnb56 := NB273_265.out
         have hnc56 := NB265_273.out
         obtain ⟨hcz57_0, hcz57_1, hcz57_2, hcz57_3, hcz57_4, hcz57_5, hfz57_0, hfz57_1, hfz57_2, hfz57_3, hfz57_4, hfz57_5⟩ := pC6 BK273
         have hnb58 := NB258_262.out
         have hnc58 := NB262_258.out
         have hnb59 := NB258_265.out
         have hnc59 := NB265_258.out
         obtain ⟨hcz60_0, hcz60_1, hcz60_2, hcz60_3, hcz60_4, hcz60_5, hfz60_0, hfz60_1, hfz60_2, hfz60_3, hfz60_4, hfz60_5⟩ := pC6 BK258
         go_wp2_with (first | ((with_reducible refine gate_callee (f := 51) rfl ?_); refine goesA (some 57) Tryz.func51 #[.agg #[.bool x274003_3, .int .u64 x274004_3, .int .u64 x274005_3], .agg #[.bool a0_3, .int .u64 a0_4, .int .u64 a0_5]] ?_; (with_reducible refine (addr_Compare.calls k3 x274003_3 x274004_3 x274005_3 a0_3 a0_4 a0_5 t274 _ A51.out).mono ?_); rintro e w61 ⟨rfl, hb⟩; refine ⟨_, rfl, ?_⟩; replace HO_3 := Aside0.mk (Kd.R_below (by (with_reducible repeat (first | apply Kd.R_alloc | apply Kd.R_drewN | apply Kd.R_drew)); exact HO_3.out) hb); replace BK258 := (pB BK258 hb); replace BK262 := (pB BK262 hb); replace BK265 := (pB BK265 hb); replace BK273 := (pB BK273 hb); replace HB := (pS HB hb); (try clear hb); (try clear hk); have hnb62 := NB265_262.out; have hnc62 := NB262_265.out; obtain ⟨hcz63_0, hcz63_1, hcz63_2, hcz63_3, hfz63_0, hfz63_1, hfz63_2, hfz63_3⟩ := pC4 BK265) | ((with_reducible refine gate_callee (f := 10) rfl ?_); refine goesA (some 65) Tryz.func10 #[.agg #[.bool b0, .int .u64 b1, .int .u64 b2, .int .i64 (wrap64 (x266003_3 + 1))]] ?_; (with_reducible refine (prefix_Bounds.calls b0 b1 b2 (wrap64 (x266003_3 + 1)) t275 t276 t277 t278 t279 t280 t281 _ A53.out).mono ?_); rintro e w64 ⟨rfl, hb⟩; refine ⟨_, rfl, ?_⟩; replace HO_3 := Aside0.mk (Kd.R_below (by (with_reducible repeat (first | apply Kd.R_alloc | apply Kd.R_drewN | apply Kd.R_drew)); exact (Kd.R_mono (Kd.R_far (p := ⟨gb265, 3, none⟩) (Kd.R_mono HO_3.out (fun k_ hk => (⟨hk, hk⟩ : _ ∧ k_ ≠ gb265))) (fun _ hk => hk.2) (.int .i64 (wrap64 (x266003_3 + 1)))) (fun _ h_ => h_.1))) hb); replace BK258 := (pD hb (pK NB258_265 (pM BK258))); replace BK262 := (pD hb (pK NB262_265 (pM BK262))); replace BK265 := (pD hb (pP (pM BK265))); replace BK273 := (pD hb (pK NB273_265 (pM BK273))); replace HB := (pS HB hb); (try clear hb); (try clear hk); obtain ⟨hcz65_0, hcz65_1, hcz65_2, hcz65_3, hcz65_4, hcz65_5, hfz65_0, hfz65_1, hfz65_2, hfz65_3, hfz65_4, hfz65_5⟩ := pC6 BK273) | ((with_reducible refine gate_store (t := 33) (p := 7) rfl ?_); refine store_event (t := 33) (p := 7) (v := ?vo_w66) (w1 := ((((((w64.setCell ⟨gb273, 0, none⟩ (.bool t275)).setCell ⟨gb273, 1, none⟩ (.int .u64 t276)).setCell ⟨gb273, 2, none⟩ (.int .u64 t277)).setCell ⟨gb273, 3, none⟩ (.bool t278)).setCell ⟨gb273, 4, none⟩ (.int .u64 t279)).setCell ⟨gb273, 5, none⟩ (.int .u64 t280))) ?hg ?ho ?hn ?hr ?_; (case ho => rfl); (case hg => rfl); (case hn => rfl); (case hr => first | (exact Ext.run_store_chain 33 _ _ rfl _ _ _ _ rfl rfl (pM BK273) (by kernel_rfl) rfl rfl rfl) | (go_simp; done) | (go_simp; rfl)); intro w66 hw; replace HO_3 : Aside0 (Kd.R k26 26 w66 w.heap.size (fun k_ => k_ ≠ gb265) u3 x3_2) := ⟨(by rw [hw]; exact (by (with_reducible repeat (first | apply Kd.R_alloc | apply Kd.R_drewN | apply Kd.R_drew)); exact Kd.R_mono (Kd.R_far (p := ⟨gb273, 5, none⟩) (Kd.R_far (p := ⟨gb273, 4, none⟩) (Kd.R_far (p := ⟨gb273, 3, none⟩) (Kd.R_far (p := ⟨gb273, 2, none⟩) (Kd.R_far (p := ⟨gb273, 1, none⟩) (Kd.R_far (p := ⟨gb273, 0, none⟩) (Kd.R_types HO_3.out BK273.out (by decide)) (fun _ hk => hk.2) (.bool t275)) (fun _ hk => hk.2) (.int .u64 t276)) (fun _ hk => hk.2) (.int .u64 t277)) (fun _ hk => hk.2) (.bool t278)) (fun _ hk => hk.2) (.int .u64 t279)) (fun _ hk => hk.2) (.int .u64 t280)) (fun _ hk => hk.1)))⟩; replace BK258 : Aside0 (w66.heap[gb258]? = some (.cells #[.bool a0_0, .int .u64 a0_1, .int .u64 a0_2, .bool a0_3, .int .u64 a0_4, .int .u64 a0_5] 33 (0, 0))) := (pW hw (pK NB258_273 (pK NB258_273 (pK NB258_273 (pK NB258_273 (pK NB258_273 (pK NB258_273 (pM BK258)))))))); replace BK262 : Aside0 (w66.heap[gb262]? = some (.cells #[.bool b0, .int .u64 b1, .int .u64 b2] 24 (0, 0))) := (pW hw (pK NB262_273 (pK NB262_273 (pK NB262_273 (pK NB262_273 (pK NB262_273 (pK NB262_273 (pM BK262)))))))); replace BK265 : Aside0 (w66.heap[gb265]? = some (.cells #[.bool b0, .int .u64 b1, .int .u64 b2, .int .i64 (wrap64 (x266003_3 + 1))] 26 (0, 0))) := (pW hw (pK NB265_273 (pK NB265_273 (pK NB265_273 (pK NB265_273 (pK NB265_273 (pK NB265_273 (pM BK265)))))))); replace BK273 : Aside0 (w66.heap[gb273]? = some (.cells #[.bool t275, .int .u64 t276, .int .u64 t277, .bool t278, .int .u64 t279, .int .u64 t280] 33 (0, 0))) := (pW hw (pP (pP (pP (pP (pP (pP (pM BK273)))))))); replace HB : Aside0 (Below w.heap.size w w66) := ⟨(by rw [hw]; exact (by repeat (first | (with_reducible first | exact HB.out | apply below_alloc | apply pw_below_drewN | apply below_drew1 | refine below_set ?_ GE258.out | refine below_set ?_ GE262.out | refine below_set ?_ GE265.out | refine below_set ?_ GE273.out) | exact HB.out)))⟩; clear hw))
         go_roundg k3
         case measure => have := HJ1.out; have := HK2.out; have := HK3.out; omega
         case rel => exact ⟨(wrap64 (x266003_3 + 1)), (t275), (t276), (t277), (t278), (t279), (t280), H', ⟨by have := HJ1.out; have := HK2.out; have := HK3.out; omega⟩, ⟨by (with_reducible repeat (first | apply Kd.R_alloc | apply Kd.R_drewN | apply Kd.R_drew)); exact HO_3.out⟩, ⟨pM BK258⟩, ⟨pM BK262⟩, ⟨pM BK265⟩, ⟨pM BK273⟩, ⟨pE HB⟩⟩
        ·
         rw [if_neg c52] at H
         have c52b0 := decide_eq_false c52
         clear c52
         by_cases c67 : x3_2.length < 4398046511104
         ·
          rw [if_pos c67] at H
          have LMc67 := Aside0.mk c67
          clear c67
          obtain ⟨y282, hy282⟩ : ∃ y_ : List (S26), y_ = (x3_2 ++ [(⟨(⟨b0, b1, b2⟩ : S24), x266003_3⟩ : S26)]) := ⟨_, rfl⟩
          replace H : (if (x274003_3 == a0_3 && (x274004_3 == a0_4 && (x274005_3 == a0_5))) = true then (some y282) else ((addr_Add.f x274003_3 x274004_3 x274005_3 1).bind fun bt285 => (if bt285.2.2.2 = true then (prefix_Cover.l0 k3 y282 a0_0 a0_1 a0_2 a0_3 a0_4 a0_5 bt285.1 bt285.2.1 bt285.2.2.1) else (some y282)))) = some r := by first | (rw [hy282]; with_reducible exact H) | (have H2_ := (Option.bind_some _ _).symm.trans H; rw [hy282]; with_reducible exact H2_) | (have H2_ := (Option.bind_some _ _).symm.trans H; with_reducible exact H2_) | with_reducible exact H | (rw [hy282]; exact H) | exact H
          have Ny282 := Aside0.mk hy282
          clear hy282
          by_cases c68 : (x274003_3 == a0_3 && (x274004_3 == a0_4 && (x274005_3 == a0_5))) = true
          ·
           rw [if_pos c68] at H
           have c68b0 : (x274003_3 == a0_3 && (x274004_3 == a0_4 && (x274005_3 == a0_5))) = true := c68
           (try (have c68b1 : decide (x274003_3 = a0_3 && (x274004_3 == a0_4 && (x274005_3 == a0_5))) = true := by simpa using c68))
           (try (have c68b2 : (x274003_3 == a0_3 && (x274004_3 == a0_4 && (x274005_3 == a0_5))) = true := by simpa using c68))
           clear c68
           obtain rfl := Option.some.inj H
           have hnb69 := NB273_258.out
           have hnc69 := NB258_273.out
           have hnb70 := NB273_262.out
           have hnc70 := NB262_273.out
           have hnb71 := NB273_265.out
           have hnc71 := NB265_273.out
           obtain ⟨hcz72_0, hcz72_1, hcz72_2, hcz72_3, hcz72_4, hcz72_5, hfz72_0, hfz72_1, hfz72_2, hfz72_3, hfz72_4, hfz72_5⟩ := pC6 BK273
           have hnb73 := NB258_262.out
           have hnc73 := NB262_258.out
           have hnb74 := NB258_265.out
           have hnc74 := NB265_258.out
           obtain ⟨hcz75_0, hcz75_1, hcz75_2, hcz75_3, hcz75_4, hcz75_5, hfz75_0, hfz75_1, hfz75_2, hfz75_3, hfz75_4, hfz75_5⟩ := pC6 BK258
           go_wp2_with (first | ((with_reducible refine gate_callee (f := 51) rfl ?_); refine goesA (some 57) Tryz.func51 #[.agg #[.bool x274003_3, .int .u64 x274004_3, .int .u64 x274005_3], .agg #[.bool a0_3, .int .u64 a0_4, .int .u64 a0_5]] ?_; (with_reducible refine (addr_Compare.calls k3 x274003_3 x274004_3 x274005_3 a0_3 a0_4 a0_5 t274 _ A51.out).mono ?_); rintro e w76 ⟨rfl, hb⟩; refine ⟨_, rfl, ?_⟩; replace HO_3 := Aside0.mk (Kd.R_below (by (with_reducible repeat (first | apply Kd.R_alloc | apply Kd.R_drewN | apply Kd.R_drew)); exact HO_3.out) hb); replace BK258 := (pB BK258 hb); replace BK262 := (pB BK262 hb); replace BK265 := (pB BK265 hb); replace BK273 := (pB BK273 hb); replace HB := (pS HB hb); (try clear hb); (try clear hk); have hnb77 := NB265_262.out; have hnc77 := NB262_265.out; obtain ⟨hcz78_0, hcz78_1, hcz78_2, hcz78_3, hfz78_0, hfz78_1, hfz78_2, hfz78_3⟩ := pC4 BK265) | ((with_reducible refine gate_builtin (b := .append) (xs := #[.tmp 68, .tmp 70]) rfl ?_); at_builtin; refine Kd.R_append k26 (w0 := w) w.heap.size rfl (.tmp 68) (.tmp 70) 45 26 (.agg #[(.bool false), (.int .u64 0), (.int .u64 0), (.int .i64 0)]) 32 rfl Tryz.underlying45 info26 rfl (by decide) (by omega) u3 x3_2 (⟨(⟨b0, b1, b2⟩ : S24), x266003_3⟩ : S26) [.bool b0, .int .u64 b1, .int .u64 b2, .int .i64 x266003_3] (fun k_ => k_ ≠ gb265) (fun _ => False) rfl rfl ?aP (fun _ hk => hk.elim) ?aF ?aO ?aB ?aS ?aL ?_; (case aP => exact k26_mkM _ _ _ (⟨(⟨b0, b1, b2⟩ : S24), x266003_3⟩ : S26)); (case aB => exact (by repeat (first | (with_reducible first | exact HB.out | apply below_alloc | apply pw_below_drewN | apply below_drew1 | refine below_set ?_ GE258.out | refine below_set ?_ GE262.out | refine below_set ?_ GE265.out | refine below_set ?_ GE273.out) | exact HB.out))); (case aF => exact (fun k_ hk => Kd.freshB (g := gb265) (o := .cells #[.bool b0, .int .u64 b1, .int .u64 b2, .int .i64 x266003_3] 26 (0, 0)) (pM BK265) k_ hk)); (case aO => exact (by (with_reducible repeat (first | apply Kd.R_alloc | apply Kd.R_drewN | apply Kd.R_drew)); exact HO_3.out)); (case aS => exact (below_size (by repeat (first | (with_reducible first | exact HB.out | apply below_alloc | apply pw_below_drewN | apply below_drew1 | refine below_set ?_ GE258.out | refine below_set ?_ GE262.out | refine below_set ?_ GE265.out | refine below_set ?_ GE273.out) | exact HB.out)))); (case aL => have := LMc67.out; omega); intro v283 w79 ho hb hg hat; rw [← Ny282.out] at ho; have HO284 := Aside0.mk (ho); replace BK258 := Aside0.mk (blk_grown (g := gb258) (o := .cells #[.bool a0_0, .int .u64 a0_1, .int .u64 a0_2, .bool a0_3, .int .u64 a0_4, .int .u64 a0_5] 33 (0, 0)) (pM BK258) hg (Kd.R_ne HO_3.out BK258.out (by decide))); replace BK262 := Aside0.mk (blk_grown (g := gb262) (o := .cells #[.bool b0, .int .u64 b1, .int .u64 b2] 24 (0, 0)) (pM BK262) hg (Kd.R_ne HO_3.out BK262.out (by decide))); replace BK265 := Aside0.mk (blk_grown (g := gb265) (o := .cells #[.bool b0, .int .u64 b1, .int .u64 b2, .int .i64 x266003_3] 26 (0, 0)) (pM BK265) hg (Kd.R_away HO_3.out (fun _ hk => hk))); replace BK273 := Aside0.mk (blk_grown (g := gb273) (o := .cells #[.bool x274000_3, .int .u64 x274001_3, .int .u64 x274002_3, .bool x274003_3, .int .u64 x274004_3, .int .u64 x274005_3] 33 (0, 0)) (pM BK273) hg (Kd.R_ne HO_3.out BK273.out (by decide))); replace HB := Aside0.mk (hb); clear HO_3; clear ho hb hg hat; obtain ⟨hcz80_0, hcz80_1, hcz80_2, hcz80_3, hcz80_4, hcz80_5, hfz80_0, hfz80_1, hfz80_2, hfz80_3, hfz80_4, hfz80_5⟩ := pC6 BK273; obtain ⟨hcz81_0, hcz81_1, hcz81_2, hcz81_3, hcz81_4, hcz81_5, hfz81_0, hfz81_1, hfz81_2, hfz81_3, hfz81_4, hfz81_5⟩ := pC6 BK258))
           go_ret
           exact ⟨_, by first | rfl | (simp [errW_none, errW_some] <;> rfl) | (simp [*, errW_none, errW_some] <;> rfl), by (with_reducible repeat (first | apply Kd.R_alloc | apply Kd.R_drewN | apply Kd.R_drew)); exact Kd.R_mono HO284.out (fun _ hk => trivial), by repeat (first | (with_reducible first | exact HB.out | apply below_alloc | apply pw_below_drewN | apply below_drew1 | refine below_set ?_ GE258.out | refine below_set ?_ GE262.out | refine below_set ?_ GE265.out | refine below_set ?_ GE273.out) | exact HB.out)⟩
          ·
           rw [if_neg c68] at H
           have c68b0 : (x274003_3 == a0_3 && (x274004_3 == a0_4 && (x274005_3 == a0_5))) = false := by simpa using c68
           (try (have c68b1 : decide (x274003_3 = a0_3 && (x274004_3 == a0_4 && (x274005_3 == a0_5))) = false := by simpa using c68))
           (try (have c68b2 : (x274003_3 == a0_3 && (x274004_3 == a0_4 && (x274005_3 == a0_5))) = false := by simpa using c68))
           (try (have c68b3 : ¬ (x274003_3 = a0_3 && (x274004_3 == a0_4 && (x274005_3 == a0_5))) := by simpa using c68))
           clear c68
           replace H := Option.bind_eq_some_iff.mp H
           obtain ⟨⟨t285, t286, t287, t288⟩, A820, H⟩ := H
           replace H : (if t288 = true then (prefix_Cover.l0 k3 y282 a0_0 a0_1 a0_2 a0_3 a0_4 a0_5 t285 t286 t287) else (some y282)) = some r := H
           have A82 := Aside0.mk A820
           clear A820
           by_cases c83 : t288 = true
           ·
            subst c83
            rw [if_pos rfl] at H
            have H' := Aside0.mk H
            clear H
            have hnb84 := NB273_258.out
            have hnc84 := NB258_273.out
            have hnb85 := NB273_262.out
            have hnc85 := NB262_273.out
            have hnb86 := NB273_265.out
            have hnc86 := NB265_273.out
            obtain ⟨hcz87_0, hcz87_1, hcz87_2, hcz87_3, hcz87_4, hcz87_5, hfz87_0, hfz87_1, hfz87_2, hfz87_3, hfz87_4, hfz87_5⟩ := pC6 BK273
            have hnb88 := NB258_262.out
            have hnc88 := NB262_258.out
            have hnb89 := NB258_265.out
            have hnc89 := NB265_258.out
            obtain ⟨hcz90_0, hcz90_1, hcz90_2, hcz90_3, hcz90_4, hcz90_5, hfz90_0, hfz90_1, hfz90_2, hfz90_3, hfz90_4, hfz90_5⟩ := pC6 BK258
            go_wp2_with (first | ((with_reducible refine gate_callee (f := 51) rfl ?_); refine goesA (some 57) Tryz.func51 #[.agg #[.bool x274003_3, .int .u64 x274004_3, .int .u64 x274005_3], .agg #[.bool a0_3, .int .u64 a0_4, .int .u64 a0_5]] ?_; (with_reducible refine (addr_Compare.calls k3 x274003_3 x274004_3 x274005_3 a0_3 a0_4 a0_5 t274 _ A51.out).mono ?_); rintro e w91 ⟨rfl, hb⟩; refine ⟨_, rfl, ?_⟩; replace HO_3 := Aside0.mk (Kd.R_below (by (with_reducible repeat (first | apply Kd.R_alloc | apply Kd.R_drewN | apply Kd.R_drew)); exact HO_3.out) hb); replace BK258 := (pB BK258 hb); replace BK262 := (pB BK262 hb); replace BK265 := (pB BK265 hb); replace BK273 := (pB BK273 hb); replace HB := (pS HB hb); (try clear hb); (try clear hk); have hnb92 := NB265_262.out; have hnc92 := NB262_265.out; obtain ⟨hcz93_0, hcz93_1, hcz93_2, hcz93_3, hfz93_0, hfz93_1, hfz93_2, hfz93_3⟩ := pC4 BK265) | ((with_reducible refine gate_builtin (b := .append) (xs := #[.tmp 68, .tmp 70]) rfl ?_); at_builtin; refine Kd.R_append k26 (w0 := w) w.heap.size rfl (.tmp 68) (.tmp 70) 45 26 (.agg #[(.bool false), (.int .u64 0), (.int .u64 0), (.int .i64 0)]) 32 rfl Tryz.underlying45 info26 rfl (by decide) (by omega) u3 x3_2 (⟨(⟨b0, b1, b2⟩ : S24), x266003_3⟩ : S26) [.bool b0, .int .u64 b1, .int .u64 b2, .int .i64 x266003_3] (fun k_ => k_ ≠ gb265) (fun _ => False) rfl rfl ?aP (fun _ hk => hk.elim) ?aF ?aO ?aB ?aS ?aL ?_; (case aP => exact k26_mkM _ _ _ (⟨(⟨b0, b1, b2⟩ : S24), x266003_3⟩ : S26)); (case aB => exact (by repeat (first | (with_reducible first | exact HB.out | apply below_alloc | apply pw_below_drewN | apply below_drew1 | refine below_set ?_ GE258.out | refine below_set ?_ GE262.out | refine below_set ?_ GE265.out | refine below_set ?_ GE273.out) | exact HB.out))); (case aF => exact (fun k_ hk => Kd.freshB (g := gb265) (o := .cells #[.bool b0, .int .u64 b1, .int .u64 b2, .int .i64 x266003_3] 26 (0, 0)) (pM BK265) k_ hk)); (case aO => exact (by (with_reducible repeat (first | apply Kd.R_alloc | apply Kd.R_drewN | apply Kd.R_drew)); exact HO_3.out)); (case aS => exact (below_size (by repeat (first | (with_reducible first | exact HB.out | apply below_alloc | apply pw_below_drewN | apply below_drew1 | refine below_set ?_ GE258.out | refine below_set ?_ GE262.out | refine below_set ?_ GE265.out | refine below_set ?_ GE273.out) | exact HB.out)))); (case aL => have := LMc67.out; omega); intro v283 w94 ho hb hg hat; rw [← Ny282.out] at ho; have HO284 := Aside0.mk (ho); replace BK258 := Aside0.mk (blk_grown (g := gb258) (o := .cells #[.bool a0_0, .int .u64 a0_1, .int .u64 a0_2, .bool a0_3, .int .u64 a0_4, .int .u64 a0_5] 33 (0, 0)) (pM BK258) hg (Kd.R_ne HO_3.out BK258.out (by decide))); replace BK262 := Aside0.mk (blk_grown (g := gb262) (o := .cells #[.bool b0, .int .u64 b1, .int .u64 b2] 24 (0, 0)) (pM BK262) hg (Kd.R_ne HO_3.out BK262.out (by decide))); replace BK265 := Aside0.mk (blk_grown (g := gb265) (o := .cells #[.bool b0, .int .u64 b1, .int .u64 b2, .int .i64 x266003_3] 26 (0, 0)) (pM BK265) hg (Kd.R_away HO_3.out (fun _ hk => hk))); replace BK273 := Aside0.mk (blk_grown (g := gb273) (o := .cells #[.bool x274000_3, .int .u64 x274001_3, .int .u64 x274002_3, .bool x274003_3, .int .u64 x274004_3, .int .u64 x274005_3] 33 (0, 0)) (pM BK273) hg (Kd.R_ne HO_3.out BK273.out (by decide))); replace HB := Aside0.mk (hb); clear HO_3; clear ho hb hg hat; obtain ⟨hcz95_0, hcz95_1, hcz95_2, hcz95_3, hcz95_4, hcz95_5, hfz95_0, hfz95_1, hfz95_2, hfz95_3, hfz95_4, hfz95_5⟩ := pC6 BK273; obtain ⟨hcz96_0, hcz96_1, hcz96_2, hcz96_3, hcz96_4, hcz96_5, hfz96_0, hfz96_1, hfz96_2, hfz96_3, hfz96_4, hfz96_5⟩ := pC6 BK258) | ((with_reducible refine gate_callee (f := 53) rfl ?_); refine goesA (some 81) Tryz.func53 #[.agg #[.bool x274003_3, .int .u64 x274004_3, .int .u64 x274005_3], .int .u64 1] ?_; (with_reducible refine (addr_Add.calls x274003_3 x274004_3 x274005_3 1 t285 t286 t287 true _ A82.out).mono ?_); rintro e w97 ⟨rfl, hb⟩; refine ⟨_, rfl, ?_⟩; replace HO284 := Aside0.mk (Kd.R_below (by (with_reducible repeat (first | apply Kd.R_alloc | apply Kd.R_drewN | apply Kd.R_drew)); exact HO284.out) hb); replace BK258 := (pB BK258 hb); replace BK262 := (pB BK262 hb); replace BK265 := (pB BK265 hb); replace BK273 := (pB BK273 hb); replace HB := (pS HB hb); (try clear hb); (try clear hk)) | ((with_reducible refine gate_dst (N := 9) rfl ?_); refine boxA (N := 9) (cs := #[.bool false, .int .u64 0, .int .u64 0]) (t := 24) ?_; intro gb289 hg w98 hbox hb; have BK289 := Aside0.mk (hbox); have GW289 := (pZ HB hg); have GE289 := (pZ HB hg); have NB258_289 := (pL BK258 hg); have NB289_258 := (pG BK258 hg); have NB262_289 := (pL BK262 hg); have NB289_262 := (pG BK262 hg); have NB265_289 := (pL BK265 hg); have NB289_265 := (pG BK265 hg); have NB273_289 := (pL BK273 hg); have NB289_273 := (pG BK273 hg); replace HO284 := Aside0.mk (Kd.R_below (by (with_reducible repeat (first | apply Kd.R_alloc | apply Kd.R_drewN | apply Kd.R_drew)); exact HO284.out) hb); replace BK258 := (pB BK258 hb); replace BK262 := (pB BK262 hb); replace BK265 := (pB BK265 hb); replace BK273 := (pB BK273 hb); replace HB := (pS HB hb); clear hb hbox hg; have hnb99 := NB289_258.out; have hnc99 := NB258_289.out; have hnb100 := NB289_262.out; have hnc100 := NB262_289.out; have hnb101 := NB289_265.out; have hnc101 := NB265_289.out; have hnb102 := NB289_273.out; have hnc102 := NB273_289.out; obtain ⟨hcz103_0, hcz103_1, hcz103_2, hfz103_0, hfz103_1, hfz103_2⟩ := pC3 BK289; obtain ⟨hcz104_0, hcz104_1, hcz104_2, hfz104_0, hfz104_1, hfz104_2⟩ := pC3 BK262) | ((with_reducible refine gate_store (t := 24) (p := 4) rfl ?_); refine store_event (t := 24) (p := 4) (v := ?vo_w105) (w1 := ((((((w98.setCell ⟨gb289, 0, none⟩ (.bool t285)).setCell ⟨gb289, 1, none⟩ (.int .u64 t286)).setCell ⟨gb289, 2, none⟩ (.int .u64 t287)).setCell ⟨gb262, 0, none⟩ (.bool t285)).setCell ⟨gb262, 1, none⟩ (.int .u64 t286)).setCell ⟨gb262, 2, none⟩ (.int .u64 t287))) ?hg ?ho ?hn ?hr ?_; (case ho => rfl); (case hg => rfl); (case hn => rfl); (case hr => first | (exact Ext.run_store_chain 24 _ _ rfl _ _ _ _ rfl rfl (pK NB262_289 (pK NB262_289 (pK NB262_289 (pM BK262)))) (by kernel_rfl) rfl rfl rfl) | (go_simp; done) | (go_simp; rfl)); intro w105 hw; replace HO284 : Aside0 (Kd.R k26 26 w105 w.heap.size (fun k_ => k_ ≠ gb265) v283 y282) := ⟨(by rw [hw]; exact (by (with_reducible repeat (first | apply Kd.R_alloc | apply Kd.R_drewN | apply Kd.R_drew)); exact Kd.R_mono (Kd.R_far (p := ⟨gb262, 2, none⟩) (Kd.R_far (p := ⟨gb262, 1, none⟩) (Kd.R_far (p := ⟨gb262, 0, none⟩) (Kd.R_far (p := ⟨gb289, 2, none⟩) (Kd.R_far (p := ⟨gb289, 1, none⟩) (Kd.R_far (p := ⟨gb289, 0, none⟩) (Kd.R_types (Kd.R_types HO284.out BK289.out (by decide)) BK262.out (by decide)) (fun _ hk => hk.1.2) (.bool t285)) (fun _ hk => hk.1.2) (.int .u64 t286)) (fun _ hk => hk.1.2) (.int .u64 t287)) (fun _ hk => hk.2) (.bool t285)) (fun _ hk => hk.2) (.int .u64 t286)) (fun _ hk => hk.2) (.int .u64 t287)) (fun _ hk => hk.1.1)))⟩; replace BK258 : Aside0 (w105.heap[gb258]? = some (.cells #[.bool a0_0, .int .u64 a0_1, .int .u64 a0_2, .bool a0_3, .int .u64 a0_4, .int .u64 a0_5] 33 (0, 0))) := (pW hw (pK NB258_262 (pK NB258_262 (pK NB258_262 (pK NB258_289 (pK NB258_289 (pK NB258_289 (pM BK258)))))))); replace BK262 : Aside0 (w105.heap[gb262]? = some (.cells #[.bool t285, .int .u64 t286, .int .u64 t287] 24 (0, 0))) := (pW hw (pP (pP (pP (pK NB262_289 (pK NB262_289 (pK NB262_289 (pM BK262)))))))); replace BK265 : Aside0 (w105.heap[gb265]? = some (.cells #[.bool b0, .int .u64 b1, .int .u64 b2, .int .i64 x266003_3] 26 (0, 0))) := (pW hw (pK NB265_262 (pK NB265_262 (pK NB265_262 (pK NB265_289 (pK NB265_289 (pK NB265_289 (pM BK265)))))))); replace BK273 : Aside0 (w105.heap[gb273]? = some (.cells #[.bool x274000_3, .int .u64 x274001_3, .int .u64 x274002_3, .bool x274003_3, .int .u64 x274004_3, .int .u64 x274005_3] 33 (0, 0))) := (pW hw (pK NB273_262 (pK NB273_262 (pK NB273_262 (pK NB273_289 (pK NB273_289 (pK NB273_289 (pM BK273)))))))); replace BK289 : Aside0 (w105.heap[gb289]? = some (.cells #[.bool t285, .int .u64 t286, .int .u64 t287] 24 (0, 0))) := (pW hw (pK NB289_262 (pK NB289_262 (pK NB289_262 (pP (pP (pP (pM BK289)))))))); replace HB : Aside0 (Below w.heap.size w w105) := ⟨(by rw [hw]; exact (by repeat (first | (with_reducible first | exact HB.out | apply below_alloc | apply pw_below_drewN | apply below_drew1 | refine below_set ?_ GE258.out | refine below_set ?_ GE262.out | refine below_set ?_ GE265.out | refine below_set ?_ GE273.out | refine below_set ?_ GE289.out) | exact HB.out)))⟩; clear hw; obtain ⟨hcz106_0, hcz106_1, hcz106_2, hfz106_0, hfz106_1, hfz106_2⟩ := pC3 BK262) | ((with_reducible refine gate_dst (N := 4) rfl ?_); refine boxA (N := 4) (cs := #[.bool false, .int .u64 0, .int .u64 0]) (t := 24) ?_; intro gb290 hg w107 hbox hb; have BK290 := Aside0.mk (hbox); have GE290 := (pZ HB hg); have NB258_290 := (pL BK258 hg); have NB290_258 := (pG BK258 hg); have NB262_290 := (pL BK262 hg); have NB290_262 := (pG BK262 hg); have NB265_290 := (pL BK265 hg); have NB290_265 := (pG BK265 hg); have NB273_290 := (pL BK273 hg); have NB290_273 := (pG BK273 hg); have NB289_290 := (pL BK289 hg); have NB290_289 := (pG BK289 hg); replace HO284 := Aside0.mk (Kd.R_below (by (with_reducible repeat (first | apply Kd.R_alloc | apply Kd.R_drewN | apply Kd.R_drew)); exact HO284.out) hb); replace BK258 := (pB BK258 hb); replace BK262 := (pB BK262 hb); replace BK265 := (pB BK265 hb); replace BK273 := (pB BK273 hb); replace BK289 := (pB BK289 hb); replace HB := (pS HB hb); clear hb hbox hg; have hnb108 := NB290_258.out; have hnc108 := NB258_290.out; have hnb109 := NB290_262.out; have hnc109 := NB262_290.out; have hnb110 := NB290_265.out; have hnc110 := NB265_290.out; have hnb111 := NB290_273.out; have hnc111 := NB273_290.out; have hnb112 := NB290_289.out; have hnc112 := NB289_290.out; obtain ⟨hcz113_0, hcz113_1, hcz113_2, hfz113_0, hfz113_1, hfz113_2⟩ := pC3 BK290))
            go_roundg k3
            case measure => have := HJ1.out; have := HK2.out; have := HK3.out; omega
            case rel => exact ⟨(y282), t285, t286, t287, gb290, rfl, H', ⟨by have := HJ1.out; have := HK2.out; have := HK3.out; omega⟩, ⟨by (with_reducible repeat (first | apply Kd.R_alloc | apply Kd.R_drewN | apply Kd.R_drew)); exact Kd.R_mono (Kd.R_far (p := ⟨gb290, 2, none⟩) (Kd.R_far (p := ⟨gb290, 1, none⟩) (Kd.R_far (p := ⟨gb290, 0, none⟩) (Kd.R_types HO284.out BK290.out (by decide)) (fun _ hk => hk.2) (.bool t285)) (fun _ hk => hk.2) (.int .u64 t286)) (fun _ hk => hk.2) (.int .u64 t287)) (fun _ hk => trivial)⟩, ⟨by (with_reducible repeat (first | refine blk_drewN ?_ _ | refine blk_drew ?_ | refine blk_alloc ?_ _)); refine blk_far ?_ NB258_290.out _; (with_reducible repeat (first | refine blk_drewN ?_ _ | refine blk_drew ?_ | refine blk_alloc ?_ _)); refine blk_far ?_ NB258_290.out _; (with_reducible repeat (first | refine blk_drewN ?_ _ | refine blk_drew ?_ | refine blk_alloc ?_ _)); refine blk_far ?_ NB258_290.out _; (with_reducible repeat (first | refine blk_drewN ?_ _ | refine blk_drew ?_ | refine blk_alloc ?_ _)); exact BK258.out⟩, ⟨by (with_reducible repeat (first | refine blk_drewN ?_ _ | refine blk_drew ?_ | refine blk_alloc ?_ _)); refine blk_put (cs := #[.bool t285, .int .u64 t286, .int .u64 0]) ?_ 2 _ rfl; (with_reducible repeat (first | refine blk_drewN ?_ _ | refine blk_drew ?_ | refine blk_alloc ?_ _)); refine blk_put (cs := #[.bool t285, .int .u64 0, .int .u64 0]) ?_ 1 _ rfl; (with_reducible repeat (first | refine blk_drewN ?_ _ | refine blk_drew ?_ | refine blk_alloc ?_ _)); refine blk_put (cs := #[.bool false, .int .u64 0, .int .u64 0]) ?_ 0 _ rfl; (with_reducible repeat (first | refine blk_drewN ?_ _ | refine blk_drew ?_ | refine blk_alloc ?_ _)); exact BK290.out⟩, ⟨pE HB⟩, NB258_290, NB290_258, GE290⟩
           ·
            replace c83 := Bool.eq_false_iff.mpr c83
            subst c83
            rw [if_neg (show ¬ (false = true) by decide)] at H
            obtain rfl := Option.some.inj H
            have hnb114 := NB273_258.out
            have hnc114 := NB258_273.out
            have hnb115 := NB273_262.out
            have hnc115 := NB262_273.out
            have hnb116 := NB273_265.out
            have hnc116 := NB265_273.out
            obtain ⟨hcz117_0, hcz117_1, hcz117_2, hcz117_3, hcz117_4, hcz117_5, hfz117_0, hfz117_1, hfz117_2, hfz117_3, hfz117_4, hfz117_5⟩ := pC6 BK273
            have hnb118 := NB258_262.out
            have hnc118 := NB262_258.out
            have hnb119 := NB258_265.out
            have hnc119 := NB265_258.out
            obtain ⟨hcz120_0, hcz120_1, hcz120_2, hcz120_3, hcz120_4, hcz120_5, hfz120_0, hfz120_1, hfz120_2, hfz120_3, hfz120_4, hfz120_5⟩ := pC6 BK258
            go_wp2_with (first | ((with_reducible refine gate_callee (f := 51) rfl ?_); refine goesA (some 57) Tryz.func51 #[.agg #[.bool x274003_3, .int .u64 x274004_3, .int .u64 x274005_3], .agg #[.bool a0_3, .int .u64 a0_4, .int .u64 a0_5]] ?_; (with_reducible refine (addr_Compare.calls k3 x274003_3 x274004_3 x274005_3 a0_3 a0_4 a0_5 t274 _ A51.out).mono ?_); rintro e w121 ⟨rfl, hb⟩; refine ⟨_, rfl, ?_⟩; replace HO_3 := Aside0.mk (Kd.R_below (by (with_reducible repeat (first | apply Kd.R_alloc | apply Kd.R_drewN | apply Kd.R_drew)); exact HO_3.out) hb); replace BK258 := (pB BK258 hb); replace BK262 := (pB BK262 hb); replace BK265 := (pB BK265 hb); replace BK273 := (pB BK273 hb); replace HB := (pS HB hb); (try clear hb); (try clear hk); have hnb122 := NB265_262.out; have hnc122 := NB262_265.out; obtain ⟨hcz123_0, hcz123_1, hcz123_2, hcz123_3, hfz123_0, hfz123_1, hfz123_2, hfz123_3⟩ := pC4 BK265) | ((with_reducible refine gate_builtin (b := .append) (xs := #[.tmp 68, .tmp 70]) rfl ?_); at_builtin; refine Kd.R_append k26 (w0 := w) w.heap.size rfl (.tmp 68) (.tmp 70) 45 26 (.agg #[(.bool false), (.int .u64 0), (.int .u64 0), (.int .i64 0)]) 32 rfl Tryz.underlying45 info26 rfl (by decide) (by omega) u3 x3_2 (⟨(⟨b0, b1, b2⟩ : S24), x266003_3⟩ : S26) [.bool b0, .int .u64 b1, .int .u64 b2, .int .i64 x266003_3] (fun k_ => k_ ≠ gb265) (fun _ => False) rfl rfl ?aP (fun _ hk => hk.elim) ?aF ?aO ?aB ?aS ?aL ?_; (case aP => exact k26_mkM _ _ _ (⟨(⟨b0, b1, b2⟩ : S24), x266003_3⟩ : S26)); (case aB => exact (by repeat (first | (with_reducible first | exact HB.out | apply below_alloc | apply pw_below_drewN | apply below_drew1 | refine below_set ?_ GE258.out | refine below_set ?_ GE262.out | refine below_set ?_ GE265.out | refine below_set ?_ GE273.out) | exact HB.out))); (case aF => exact (fun k_ hk => Kd.freshB (g := gb265) (o := .cells #[.bool b0, .int .u64 b1, .int .u64 b2, .int .i64 x266003_3] 26 (0, 0)) (pM BK265) k_ hk)); (case aO => exact (by (with_reducible repeat (first | apply Kd.R_alloc | apply Kd.R_drewN | apply Kd.R_drew)); exact HO_3.out)); (case aS => exact (below_size (by repeat (first | (with_reducible first | exact HB.out | apply below_alloc | apply pw_below_drewN | apply below_drew1 | refine below_set ?_ GE258.out | refine below_set ?_ GE262.out | refine below_set ?_ GE265.out | refine below_set ?_ GE273.out) | exact HB.out)))); (case aL => have := LMc67.out; omega); intro v283 w124 ho hb hg hat; rw [← Ny282.out] at ho; have HO284 := Aside0.mk (ho); replace BK258 := Aside0.mk (blk_grown (g := gb258) (o := .cells #[.bool a0_0, .int .u64 a0_1, .int .u64 a0_2, .bool a0_3, .int .u64 a0_4, .int .u64 a0_5] 33 (0, 0)) (pM BK258) hg (Kd.R_ne HO_3.out BK258.out (by decide))); replace BK262 := Aside0.mk (blk_grown (g := gb262) (o := .cells #[.bool b0, .int .u64 b1, .int .u64 b2] 24 (0, 0)) (pM BK262) hg (Kd.R_ne HO_3.out BK262.out (by decide))); replace BK265 := Aside0.mk (blk_grown (g := gb265) (o := .cells #[.bool b0, .int .u64 b1, .int .u64 b2, .int .i64 x266003_3] 26 (0, 0)) (pM BK265) hg (Kd.R_away HO_3.out (fun _ hk => hk))); replace BK273 := Aside0.mk (blk_grown (g := gb273) (o := .cells #[.bool x274000_3, .int .u64 x274001_3, .int .u64 x274002_3, .bool x274003_3, .int .u64 x274004_3, .int .u64 x274005_3] 33 (0, 0)) (pM BK273) hg (Kd.R_ne HO_3.out BK273.out (by decide))); replace HB := Aside0.mk (hb); clear HO_3; clear ho hb hg hat; obtain ⟨hcz125_0, hcz125_1, hcz125_2, hcz125_3, hcz125_4, hcz125_5, hfz125_0, hfz125_1, hfz125_2, hfz125_3, hfz125_4, hfz125_5⟩ := pC6 BK273; obtain ⟨hcz126_0, hcz126_1, hcz126_2, hcz126_3, hcz126_4, hcz126_5, hfz126_0, hfz126_1, hfz126_2, hfz126_3, hfz126_4, hfz126_5⟩ := pC6 BK258) | ((with_reducible refine gate_callee (f := 53) rfl ?_); refine goesA (some 81) Tryz.func53 #[.agg #[.bool x274003_3, .int .u64 x274004_3, .int .u64 x274005_3], .int .u64 1] ?_; (with_reducible refine (addr_Add.calls x274003_3 x274004_3 x274005_3 1 t285 t286 t287 false _ A82.out).mono ?_); rintro e w127 ⟨rfl, hb⟩; refine ⟨_, rfl, ?_⟩; replace HO284 := Aside0.mk (Kd.R_below (by (with_reducible repeat (first | apply Kd.R_alloc | apply Kd.R_drewN | apply Kd.R_drew)); exact HO284.out) hb); replace BK258 := (pB BK258 hb); replace BK262 := (pB BK262 hb); replace BK265 := (pB BK265 hb); replace BK273 := (pB BK273 hb); replace HB := (pS HB hb); (try clear hb); (try clear hk)) | ((with_reducible refine gate_dst (N := 9) rfl ?_); refine boxA (N := 9) (cs := #[.bool false, .int .u64 0, .int .u64 0]) (t := 24) ?_; intro gb289 hg w128 hbox hb; have BK289 := Aside0.mk (hbox); have GW289 := (pZ HB hg); have GE289 := (pZ HB hg); have NB258_289 := (pL BK258 hg); have NB289_258 := (pG BK258 hg); have NB262_289 := (pL BK262 hg); have NB289_262 := (pG BK262 hg); have NB265_289 := (pL BK265 hg); have NB289_265 := (pG BK265 hg); have NB273_289 := (pL BK273 hg); have NB289_273 := (pG BK273 hg); replace HO284 := Aside0.mk (Kd.R_below (by (with_reducible repeat (first | apply Kd.R_alloc | apply Kd.R_drewN | apply Kd.R_drew)); exact HO284.out) hb); replace BK258 := (pB BK258 hb); replace BK262 := (pB BK262 hb); replace BK265 := (pB BK265 hb); replace BK273 := (pB BK273 hb); replace HB := (pS HB hb); clear hb hbox hg; have hnb129 := NB289_258.out; have hnc129 := NB258_289.out; have hnb130 := NB289_262.out; have hnc130 := NB262_289.out; have hnb131 := NB289_265.out; have hnc131 := NB265_289.out; have hnb132 := NB289_273.out; have hnc132 := NB273_289.out; obtain ⟨hcz133_0, hcz133_1, hcz133_2, hfz133_0, hfz133_1, hfz133_2⟩ := pC3 BK289))
            go_ret
            exact ⟨_, by first | rfl | (simp [errW_none, errW_some] <;> rfl) | (simp [*, errW_none, errW_some] <;> rfl), by (with_reducible repeat (first | apply Kd.R_alloc | apply Kd.R_drewN | apply Kd.R_drew)); exact Kd.R_mono (Kd.R_far (p := ⟨gb289, 2, none⟩) (Kd.R_far (p := ⟨gb289, 1, none⟩) (Kd.R_far (p := ⟨gb289, 0, none⟩) (Kd.R_types HO284.out BK289.out (by decide)) (fun _ hk => hk.2) (.bool t285)) (fun _ hk => hk.2) (.int .u64 t286)) (fun _ hk => hk.2) (.int .u64 t287)) (fun _ hk => trivial), by repeat (first | (with_reducible first | exact HB.out | apply below_alloc | apply pw_below_drewN | apply below_drew1 | refine below_set ?_ GE258.out | refine below_set ?_ GE262.out | refine below_set ?_ GE265.out | refine below_set ?_ GE273.out | refine below_set ?_ GE289.out) | exact HB.out)⟩
         ·
          rw [if_neg c67] at H
          exact absurd H (by simp)

/-! ### strings_Join: function 78 (given) -/
def strings_Join.f (l0 : List ByteArray) (a1 : ByteArray) : Option ByteArray := if l0.length ≤ 140737488355328 then (if (Lib.join (l0.map (·.data.toList)) a1.data.toList).length ≤ 140737488355328 then some (⟨(Lib.join (l0.map (·.data.toList)) a1.data.toList).toArray⟩ : ByteArray) else none) else none
theorem cell_spot {w : World} {a : Addr} {v : Value} (h : w.cell? a = some v) : a.spot = none ∧ a.block < w.heap.size := by
  unfold World.cell? at h
  cases hb : w.heap[a.block]? with
  | none => rw [hb] at h; cases h
  | some o =>
    rw [hb] at h
    have hlt := (Array.getElem?_eq_some_iff.1 hb).1
    cases o with
    | cells c t x =>
      cases hs : a.spot with
      | none => exact ⟨rfl, hlt⟩
      | some s => rw [hs] at h; simp at h
    | _ => cases h
theorem strings_Join.calls (A0 : Option Addr) (c0 : Nat) (l0 : List ByteArray) (a1 : ByteArray) (r : ByteArray) (w : World) (hr0 : Kd.C Kd.string w A0 l0.length l0) (hc0 : l0.length ≤ c0) (h : strings_Join.f l0 a1 = some r) :
    Calls Tryz.prog 78 #[.slice A0 l0.length c0, .string a1] w fun e w' => e = .returned (.string r) ∧ Below w.heap.size w w' := by
  unfold strings_Join.f at h
  by_cases h0 : l0.length ≤ 140737488355328
  · rw [if_pos h0] at h
    by_cases h1 : (Lib.join (l0.map (·.data.toList)) a1.data.toList).length ≤ 140737488355328
    · rw [if_pos h1] at h
      obtain rfl := Option.some.inj h
      cases l0 with
      | nil =>
        refine (Tryz.strings_Join_none A0 c0 a1 w).mono ?_
        rintro e w' ⟨rfl, rfl⟩
        exact ⟨rfl, Below.refl _ _⟩
      | cons x t =>
        obtain ⟨ad, rfl, hc⟩ := hr0.2.2 (by simp)
        have hcell : ∀ (j : Nat) p, (x :: t)[j]? = some p → w.cell? (ad.add j) = some (.string p) := by
          intro j p hp
          obtain ⟨c, _, hr, hcell⟩ := hc j p hp
          have := hcell 0 (.string p) (by rw [show c = [Value.string p] from hr]; rfl)
          simpa [Kd.string, Kd.scalar] using this
        obtain ⟨hsp, hlt⟩ := cell_spot (hcell 0 x rfl)
        obtain ⟨bk, o, sp⟩ := ad
        have hsp' : sp = none := by simpa [Addr.add] using hsp
        subst hsp'
        have hlt' : bk < w.heap.size := by simpa [Addr.add] using hlt
        refine (Tryz.strings_Join bk o c0 (x :: t) a1 w (fun j p hp => ?_) hlt' h0 hc0 h1).mono ?_
        · have := hcell j p hp
          rwa [Lib.add_plain] at this
        · rintro e w' ⟨rfl, hb⟩
          exact ⟨rfl, hb⟩
    · rw [if_neg h1] at h; cases h
  · rw [if_neg h0] at h; cases h

/-! ### addr_text: function 81 -/
def addr_text.l0 : Nat → List Int → List ByteArray → Int → Int → Option (ByteArray)
 | 0, _, _, _, _ => none
 | k + 1, x0, x3, x9, x10 => if x10 < x9 then (if 0 ≤ x10 then (if x10 < (x0.length : Int) then ((strconv_FormatUint.f (IntKind.u64.wrap (rd x0 x10)) 16).bind fun t295 => (if x10 < (x3.length : Int) then (addr_text.l0 k x0 (x3.set (x10 : Int).toNat t295) x9 (wrap64 (x10 + 1))) else (none))) else (none)) else (none)) else ((strings_Join.f x3 (⟨#[58]⟩ : ByteArray)).bind fun t297 => (some t297))
def addr_text.f (k : Nat) (l0 : List Int) : Option (ByteArray) := if 0 ≤ (l0.length : Int) then (if ((l0.length : Int) : Int).toNat ≤ 17592186044416 then ((some (List.replicate ((l0.length : Int) : Int).toNat (⟨#[]⟩ : ByteArray) : List ByteArray)).bind fun y291 => (addr_text.l0 k l0 y291 (y291.length : Int) 0)) else (none)) else (none)
theorem addr_text.mono_l : ∀ k, (∀ y0 y1 y2 y3, LeO (addr_text.l0 k y0 y1 y2 y3) (addr_text.l0 (k + 1) y0 y1 y2 y3))
 | 0 => fun _ _ _ _ r h => by simp [addr_text.l0] at h
 | k + 1 => by
  have ih0 := addr_text.mono_l k
  ·
   intro y0 y1 y2 y3
   unfold addr_text.l0
   repeat' with_reducible first | exact ih0 _ _ _ _ | exact LeO.refl _ | exact LeO.none _ | refine LeO.ite ?_ ?_ | refine LeO.bind ?_ (fun _ => ?_)
theorem addr_text.mono : ∀ a0 k, LeO (addr_text.f k a0) (addr_text.f (k + 1) a0) := by
 intro a0 k
 have ih0 := addr_text.mono_l k
 unfold addr_text.f
 repeat' with_reducible first | exact ih0 _ _ _ _ | exact LeO.refl _ | exact LeO.none _ | refine LeO.ite ?_ ?_ | refine LeO.bind ?_ (fun _ => ?_)
set_option maxHeartbeats 40000000 in
set_option maxRecDepth 100000 in
theorem addr_text.calls (k : Nat) (A0 : Option Addr) (c0 : Nat) (l0 : List Int) (r : ByteArray) (w : World) (hr0 : Kd.C (Kd.int .u16) w A0 l0.length l0) (hc0 : l0.length ≤ c0) (hLD : Laid w) (h : addr_text.f k l0 = some r) :
 Calls Tryz.prog 81 #[.slice A0 l0.length c0] w fun e w' => e = .returned (.string r) ∧ Below w.heap.size w w' := by
 have HLD := Aside0.mk hLD
 clear hLD
 have HR0 := Aside0.mk hr0
 have HC0 := Aside0.mk hc0
 clear hr0 hc0
 have HB := Aside0.mk (Below.refl w.heap.size w)
 have H : (if 0 ≤ (l0.length : Int) then (if ((l0.length : Int) : Int).toNat ≤ 17592186044416 then ((some (List.replicate ((l0.length : Int) : Int).toNat (⟨#[]⟩ : ByteArray) : List ByteArray)).bind fun y291 => (addr_text.l0 k l0 y291 (y291.length : Int) 0)) else (none)) else (none)) = some r := h
 clear h
 by_cases c2 : 0 ≤ (l0.length : Int)
 ·
  rw [if_pos c2] at H
  have c2b0 := eq_true c2
  have c2b1 := decide_eq_true c2
  clear c2
  by_cases c3 : ((l0.length : Int) : Int).toNat ≤ 17592186044416
  ·
   rw [if_pos c3] at H
   have c3b0 := eq_true c3
   have c3b1 := decide_eq_true c3
   clear c3
   obtain ⟨y291, hy291⟩ : ∃ y_ : List ByteArray, y_ = (List.replicate ((l0.length : Int) : Int).toNat (⟨#[]⟩ : ByteArray)) := ⟨_, rfl⟩
   replace H : (addr_text.l0 k l0 y291 (y291.length : Int) 0) = some r := by first | (rw [hy291]; with_reducible exact H) | (have H2_ := (Option.bind_some _ _).symm.trans H; rw [hy291]; with_reducible exact H2_) | (have H2_ := (Option.bind_some _ _).symm.trans H; with_reducible exact H2_) | with_reducible exact H | (rw [hy291]; exact H) | exact H
   have Ny291 := Aside0.mk hy291
   clear hy291
   have H' := Aside0.mk H
   clear H
   go_enter Tryz.func81, Tryz.ntmps81
   go_wp2_with (first | ((with_reducible refine gate_dst (N := 7) rfl ?_); refine Kd.R_make Kd.string _ 9 rfl (N := 7) rfl 91 _ _ rfl (l0.length : Int) rfl rfl Tryz.underlying91 (.string ⟨#[]⟩) 16 info9 rfl (by decide) (by omega) (⟨#[]⟩ : ByteArray) (ok := fun _ => True) (okp := fun _ => True) rfl (fun _ hk => hk) trivial (of_decide_eq_true (by first | (with_reducible assumption) | assumption)) (Nat.le_trans (Nat.mul_le_mul_right _ (of_decide_eq_true (by first | (with_reducible assumption) | assumption) : (l0.length : Int).toNat ≤ 17592186044416)) (by omega)) (Below.refl _ _) (Nat.le_refl _) ?_; intro v292 w4 ho5 hb hg_ hnew_; clear hg_ hnew_; (first | rw [← Ny291.out] at ho5 | (simp only [Int.reduceToNat] at ho5; rw [← Ny291.out] at ho5)); have HO293 := Aside0.mk (Kd.R_lower ho5 (below_size (by repeat (first | (with_reducible first | exact HB.out | apply below_alloc | apply pw_below_drewN | apply below_drew1) | exact HB.out)))); replace HB := (pS HB hb); clear hb ho5; obtain ⟨Ao6, co6, eo6⟩ := Kd.R_slice HO293.out; subst eo6))
   go_loopg [10] k (fun kq v10 w' => ∃ (x3_1 : List ByteArray) (x10_1 : Int), v10 = .int .i64 x10_1 ∧ Aside0 (addr_text.l0 kq l0 x3_1 (y291.length : Int) x10_1 = some r) ∧ Aside0 (kq ≤ k) ∧ Aside0 (Kd.R Kd.string 9 w' w.heap.size (fun _ => True) (.slice Ao6 y291.length co6) x3_1) ∧ Aside0 (Below w.heap.size w w'))
   case atStart => exact ⟨(y291), (0), pT, H', ⟨Nat.le_refl _⟩, ⟨by (with_reducible repeat (first | apply Kd.R_alloc | apply Kd.R_drewN | apply Kd.R_drew)); exact HO293.out⟩, ⟨pE HB⟩⟩
   case round =>
    clear H'
    try clear c2
    try clear c2b0
    try clear c2b1
    try clear c3
    try clear c3b0
    try clear c3b1
    obtain ⟨x3_1, x10_1, rfl, HA, HK1, HO_3, HB⟩ := hrel
    have hl3_1 := (Kd.R_reads' HO_3.out).1
    rw [hl3_1] at HO_3
    (try simp only [hl3_1])
    cases gk with
    | zero => exact absurd HA.out (by simp [addr_text.l0])
    | succ k1 =>
     have H := HA.out
     clear HA
     simp only [addr_text.l0] at H
     by_cases c7 : x10_1 < (y291.length : Int)
     ·
      rw [if_pos c7] at H
      have c7b0 := decide_eq_true c7
      have c7b0_hl3_1 := c7b0
      (try rw [hl3_1] at c7b0_hl3_1)
      clear c7
      by_cases c8 : 0 ≤ x10_1
      ·
       rw [if_pos c8] at H
       have c8b0 := decide_eq_true c8
       clear c8
       by_cases c9 : x10_1 < (l0.length : Int)
       ·
        rw [if_pos c9] at H
        have c9b0 := decide_eq_true c9
        have c9b0_hl3_1 := c9b0
        (try rw [hl3_1] at c9b0_hl3_1)
        clear c9
        replace H := Option.bind_eq_some_iff.mp H
        obtain ⟨t295, A100, H⟩ := H
        have A10 := Aside0.mk A100
        clear A100
        by_cases c11 : x10_1 < (x3_1.length : Int)
        ·
         rw [if_pos c11] at H
         have c11b0 := decide_eq_true c11
         have c11b0_hl3_1 := c11b0
         (try rw [hl3_1] at c11b0_hl3_1)
         clear c11
         obtain ⟨y296, hy296⟩ : ∃ y_ : List ByteArray, y_ = (x3_1.set (x10_1 : Int).toNat t295) := ⟨_, rfl⟩
         replace H : (addr_text.l0 k1 l0 y296 (y291.length : Int) (wrap64 (x10_1 + 1))) = some r := by first | (rw [hy296]; with_reducible exact H) | (have H2_ := (Option.bind_some _ _).symm.trans H; rw [hy296]; with_reducible exact H2_) | (have H2_ := (Option.bind_some _ _).symm.trans H; with_reducible exact H2_) | with_reducible exact H | (rw [hy296]; exact H) | exact H
         have Ny296 := Aside0.mk hy296
         clear hy296
         have H' := Aside0.mk H
         clear H
         have p294 : 0 ≤ (x10_1 : Int) := of_decide_eq_true (by first | (with_reducible assumption) | assumption)
         have q294 : x10_1 < (l0.length : Int) := of_decide_eq_true (by first | (with_reducible assumption) | assumption)
         obtain ⟨ad294, e294, hx294_0⟩ := Kd.at_int HR0.out x10_1 p294 q294
         cases e294
         replace hx294_0 := (HB.out.cell (World.block_lt_of_cell? w _ hx294_0)).trans hx294_0
         replace p294 := eq_true p294
         replace q294 := eq_true q294
         go_wp2_with (first | ((with_reducible refine gate_callee (f := 70) rfl ?_); refine goesA (some 20) Tryz.func70 #[.int .u64 (IntKind.u64.wrap (rd l0 x10_1)), .int .i64 16] ?_; (with_reducible refine (strconv_FormatUint.calls (IntKind.u64.wrap (rd l0 x10_1)) 16 t295 _ ?side1 A10.out).mono ?_); (case side1 => exact Laid.below HLD.out (pE HB)); rintro e w13 ⟨rfl, hb⟩; refine ⟨_, rfl, ?_⟩; replace HO_3 := Aside0.mk (Kd.R_below (by (with_reducible repeat (first | apply Kd.R_alloc | apply Kd.R_drewN | apply Kd.R_drew)); exact HO_3.out) hb); replace HB := (pS HB hb); (try clear hb); (try clear hk); have p12 : 0 ≤ (x10_1 : Int) := of_decide_eq_true (by first | (with_reducible assumption) | assumption); have q12 : (x10_1 : Int) < ((x3_1.length : Int) : Int) := of_decide_eq_true (by first | (with_reducible assumption) | assumption); obtain ⟨go12, co12, eo12, gb12, gl12, cl12, HG12⟩ := Kd.R_form HO_3.out (by omega); (first | cases eo12 | (injection eo12 with ea_ en_ ec_; (first | subst ea_ | (injection ea_ with ea_; subst ea_)); subst ec_; clear en_)); have GB12 := Aside0.mk gb12; have GG12 := Aside0.mk HG12; clear gb12 gl12 HG12; obtain ⟨hx12_0, hf12_0⟩ := Kd.R_celln (⟨#[]⟩ : ByteArray) HO_3.out (x10_1 : Int) p12 q12; replace p12 := eq_true p12; replace q12 := eq_true q12; obtain ⟨hy14_, hz14_⟩ := Kd.R_celln (⟨#[]⟩ : ByteArray) HO_3.out (x10_1 : Int) (of_decide_eq_true (by first | (with_reducible assumption) | assumption)) (of_decide_eq_true (by first | (with_reducible assumption) | assumption)); have HP14 := Kd.R_putg HO_3.out (x10_1 : Int) t295) | ((with_reducible refine gate_store (t := 9) (p := 21) rfl ?_); refine store_event (t := 9) (p := 21) (v := ?vo_w15) (w1 := (w13.setCell ⟨go12, (x10_1 : Int).toNat, none⟩ (.string t295))) ?hg ?ho ?hn ?hr ?_; (case ho => rfl); (case hg => rfl); (case hn => rfl); (case hr => first | (go_simp; done) | (go_simp; rfl)); intro w15 hw; have hg : w13.grownBy w15 (some go12) := (by rw [hw]; exact HP14.2); have hp_ : Kd.R Kd.string 9 w15 w.heap.size (fun _ => True) (.slice (some ⟨go12, 0, none⟩) x3_1.length co6) y296 := (by rw [hw, Ny296.out]; exact HP14.1); clear HP14; replace HO_3 := Aside0.mk (hp_); replace HB := Aside0.mk ((by rw [hw]; exact below_set (HB.out) GB12.out : Below w.heap.size w w15)); clear hg hw hp_))
         (try simp only [← hl3_1])
         go_roundg k1
         case measure => have := HK1.out; omega
         case rel => exact ⟨(y296), (wrap64 (x10_1 + 1)), pT, H', ⟨by have := HK1.out; omega⟩, ⟨by (try simp only [hl3_1]); (with_reducible repeat (first | apply Kd.R_alloc | apply Kd.R_drewN | apply Kd.R_drew)); exact HO_3.out⟩, ⟨pE HB⟩⟩
        ·
         rw [if_neg c11] at H
         exact absurd H (by simp)
       ·
        rw [if_neg c9] at H
        exact absurd H (by simp)
      ·
       rw [if_neg c8] at H
       exact absurd H (by simp)
     ·
      rw [if_neg c7] at H
      have c7b0 := decide_eq_false c7
      have c7b0_hl3_1 := c7b0
      (try rw [hl3_1] at c7b0_hl3_1)
      clear c7
      replace H := Option.bind_eq_some_iff.mp H
      obtain ⟨t297, A160, H⟩ := H
      have A16 := Aside0.mk A160
      clear A160
      obtain rfl := Option.some.inj H
      go_wp2_with (first | ((with_reducible refine gate_callee (f := 78) rfl ?_); refine goesA (some 24) Tryz.func78 #[.slice Ao6 x3_1.length co6, .string (⟨#[58]⟩ : ByteArray)] ?_; (with_reducible refine (strings_Join.calls _ _ x3_1 (⟨#[58]⟩ : ByteArray) t297 _ ?side1 ?side2 A16.out).mono ?_); (case side1 => repeat (first | exact (Kd.R_reads' HO_3.out).2.2 | (with_reducible refine Kd.C_alloc ?_ _) | (with_reducible refine Kd.C_drewN ?_ _) | (with_reducible refine Kd.C_drew ?_))); (case side2 => exact (Kd.R_reads' HO_3.out).2.1); rintro e w17 ⟨rfl, hb⟩; refine ⟨_, rfl, ?_⟩; replace HO_3 := Aside0.mk (Kd.R_below (by (with_reducible repeat (first | apply Kd.R_alloc | apply Kd.R_drewN | apply Kd.R_drew)); exact HO_3.out) hb); replace HB := (pS HB hb); (try clear hb); (try clear hk)))
      go_ret
      exact pR (pE HB)
  ·
   rw [if_neg c3] at H
   exact absurd H (by simp)
 ·
  rw [if_neg c2] at H
  exact absurd H (by simp)
end Go.Proofs.YteflcmmandlknaaGreatDoor.PA
