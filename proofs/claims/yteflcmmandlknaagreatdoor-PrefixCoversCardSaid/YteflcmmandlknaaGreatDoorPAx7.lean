/- The Go functions in Lean, with the proofs that the code comes to these answers: printed by this session's program (wip/px) out of the seat's translation. Conditions: each theorem's own. -/
import Derived.Test.YteflcmmandlknaaGreatDoorPAx0
import Derived.Test.YteflcmmandlknaaGreatDoorPAx4
namespace Go.Proofs.YteflcmmandlknaaGreatDoor.PA
open Go.RowKit Go.Proofs.YteflcmmandlknaaGreatDoorW.PrintWords Go.Proofs.YteflcmmandlknaaGreatDoorW.PrintLast Go.Proofs.YteflcmmandlknaaGreatDoorW.PrintMore
attribute [local go_sem] max2_int min2_int max_two min_two max_three min_three max_four min_four   -- for this text's walks alone
attribute [local go_sem ↓] Ext.isSome_setCell
open Press
set_option linter.unusedVariables false
set_option linter.unusedSimpArgs false
/-! ### prefix_Part: function 14 -/
mutual
def prefix_Part.j0 : Nat → Int → Int → Bool → Bool → Int → Int → Int → Option (Bool × Int × Int × Int × Bool)
 | 0, _, _, _, _, _, _, _ => none
 | k + 1, x1, x2, x28, x176000, x176001, x176002, x176003 => if x28 = true then (some (false, 0, 0, 0, false)) else (if (wrap64 (x1 - x176003)) < 64 then (if 0 ≤ (IntKind.u64.wrap (wrap64 (x1 - x176003))) then (prefix_Part.j1 k x1 x2 ((shr .u64 x2 (IntKind.u64.wrap (wrap64 (x1 - x176003)))) != 0) x176000 x176001 x176002 x176003) else (none)) else (prefix_Part.j1 k x1 x2 false x176000 x176001 x176002 x176003))
def prefix_Part.j1 : Nat → Int → Int → Bool → Bool → Int → Int → Int → Option (Bool × Int × Int × Int × Bool)
 | 0, _, _, _, _, _, _, _ => none
 | k + 1, x1, x2, x42, x176000, x176001, x176002, x176003 => if x42 = true then (some (false, 0, 0, 0, false)) else ((prefix_length.f x176000 x176001 x176002).bind fun t179 => (if (IntKind.u64.wrap (wrap64 (t179 - x1))) ≥ 64 then (if 0 ≤ (IntKind.u64.wrap ((IntKind.u64.wrap (wrap64 (t179 - x1))) - 64)) then (some (x176000, Go.bits .or .u64 x176001 (shl .u64 x2 (IntKind.u64.wrap ((IntKind.u64.wrap (wrap64 (t179 - x1))) - 64))), Go.bits .or .u64 x176002 0, x1, true)) else (none)) else (if (IntKind.u64.wrap (wrap64 (t179 - x1))) > 0 then (if 0 ≤ (IntKind.u64.wrap (64 - (IntKind.u64.wrap (wrap64 (t179 - x1))))) then (if 0 ≤ (IntKind.u64.wrap (wrap64 (t179 - x1))) then (some (x176000, Go.bits .or .u64 x176001 (shr .u64 x2 (IntKind.u64.wrap (64 - (IntKind.u64.wrap (wrap64 (t179 - x1)))))), Go.bits .or .u64 x176002 (shl .u64 x2 (IntKind.u64.wrap (wrap64 (t179 - x1)))), x1, true)) else (none)) else (none)) else (some (x176000, Go.bits .or .u64 x176001 0, Go.bits .or .u64 x176002 x2, x1, true)))))
end
def prefix_Part.f (k : Nat) (a0_0 : Bool) (a0_1 : Int) (a0_2 : Int) (a0_3 : Int) (a1 : Int) (a2 : Int) : Option (Bool × Int × Int × Int × Bool) := (prefix_Valid.f a0_0 a0_1 a0_2 a0_3).bind fun t177 => (if t177 = true then (if a1 < a0_3 then (prefix_Part.j0 k a1 a2 true a0_0 a0_1 a0_2 a0_3) else ((prefix_length.f a0_0 a0_1 a0_2).bind fun t178 => (prefix_Part.j0 k a1 a2 (decide (a1 > t178)) a0_0 a0_1 a0_2 a0_3))) else (prefix_Part.j0 k a1 a2 true a0_0 a0_1 a0_2 a0_3))
theorem prefix_Part.mono_l : ∀ k, (∀ y0 y1 y2 y3 y4 y5 y6, LeO (prefix_Part.j0 k y0 y1 y2 y3 y4 y5 y6) (prefix_Part.j0 (k + 1) y0 y1 y2 y3 y4 y5 y6)) ∧ (∀ y0 y1 y2 y3 y4 y5 y6, LeO (prefix_Part.j1 k y0 y1 y2 y3 y4 y5 y6) (prefix_Part.j1 (k + 1) y0 y1 y2 y3 y4 y5 y6))
 | 0 => ⟨fun _ _ _ _ _ _ _ r h => by simp [prefix_Part.j0] at h, fun _ _ _ _ _ _ _ r h => by simp [prefix_Part.j1] at h⟩
 | k + 1 => by
  obtain ⟨ih0, ih1⟩ := prefix_Part.mono_l k
  refine ⟨?_, ?_⟩
  ·
   intro y0 y1 y2 y3 y4 y5 y6
   unfold prefix_Part.j0
   repeat' with_reducible first | exact ih0 _ _ _ _ _ _ _ | exact ih1 _ _ _ _ _ _ _ | exact LeO.refl _ | exact LeO.none _ | refine LeO.ite ?_ ?_ | refine LeO.bind ?_ (fun _ => ?_)
  ·
   intro y0 y1 y2 y3 y4 y5 y6
   unfold prefix_Part.j1
   repeat' with_reducible first | exact ih0 _ _ _ _ _ _ _ | exact ih1 _ _ _ _ _ _ _ | exact LeO.refl _ | exact LeO.none _ | refine LeO.ite ?_ ?_ | refine LeO.bind ?_ (fun _ => ?_)
theorem prefix_Part.mono : ∀ a0 a1 a2 a3 a4 a5 k, LeO (prefix_Part.f k a0 a1 a2 a3 a4 a5) (prefix_Part.f (k + 1) a0 a1 a2 a3 a4 a5) := by
 intro a0 a1 a2 a3 a4 a5 k
 obtain ⟨ih0, ih1⟩ := prefix_Part.mono_l k
 unfold prefix_Part.f
 repeat' with_reducible first | exact ih0 _ _ _ _ _ _ _ | exact ih1 _ _ _ _ _ _ _ | exact LeO.refl _ | exact LeO.none _ | refine LeO.ite ?_ ?_ | refine LeO.bind ?_ (fun _ => ?_)
set_option maxHeartbeats 40000000 in
set_option maxRecDepth 100000 in
theorem prefix_Part.calls (k : Nat) (a0_0 : Bool) (a0_1 : Int) (a0_2 : Int) (a0_3 : Int) (a1 : Int) (a2 : Int) (r1 : Bool) (r2 : Int) (r3 : Int) (r4 : Int) (r5 : Bool) (w : World) (h : prefix_Part.f k a0_0 a0_1 a0_2 a0_3 a1 a2 = some (r1, r2, r3, r4, r5)) :
 Calls Tryz.prog 14 #[.agg #[.bool a0_0, .int .u64 a0_1, .int .u64 a0_2, .int .i64 a0_3], .int .i64 a1, .int .u64 a2] w fun e w' => e = .returned (.tuple #[.agg #[.bool r1, .int .u64 r2, .int .u64 r3, .int .i64 r4], .bool r5]) ∧ Below w.heap.size w w' := by
 have hu26 := Tryz.underlying26
 have hu24 := Tryz.underlying24
 have HB := Aside0.mk (Below.refl w.heap.size w)
 have H : ((prefix_Valid.f a0_0 a0_1 a0_2 a0_3).bind fun t177 => (if t177 = true then (if a1 < a0_3 then (prefix_Part.j0 k a1 a2 true a0_0 a0_1 a0_2 a0_3) else ((prefix_length.f a0_0 a0_1 a0_2).bind fun t178 => (prefix_Part.j0 k a1 a2 (decide (a1 > t178)) a0_0 a0_1 a0_2 a0_3))) else (prefix_Part.j0 k a1 a2 true a0_0 a0_1 a0_2 a0_3))) = some (r1, r2, r3, r4, r5) := h
 clear h
 have HC4 := Aside0.mk H
 clear H
 go_enter Tryz.func14, Tryz.ntmps14
 go_upto_region 1 with (first | ((with_reducible refine gate_dst (N := 3) rfl ?_); refine boxA (N := 3) (cs := #[.bool a0_0, .int .u64 a0_1, .int .u64 a0_2, .int .i64 a0_3]) (t := 26) ?_; intro gb175 hg w5 hbox hb; have BK175 := Aside0.mk (hbox); have GE175 := (pZ HB hg); replace HB := (pS HB hb); clear hb hbox hg) | ((with_reducible refine gate_dst (N := 6) rfl ?_); refine boxA (N := 6) (cs := #[.bool false, .int .u64 0, .int .u64 0, .int .i64 0]) (t := 26) ?_; intro gb176 hg w6 hbox hb; have BK176 := Aside0.mk (hbox); have GE176 := (pZ HB hg); have NB175_176 := (pL BK175 hg); have NB176_175 := (pG BK175 hg); replace BK175 := (pB BK175 hb); replace HB := (pS HB hb); clear hb hbox hg))
 (try simp only [Act.put, List.setIfInBounds_toArray, List.set_cons_zero, List.set_cons_succ])
 go_cut [28] (fun v28 wc => ∃ (kq : Nat) (x28_3 : Bool), v28 = .bool x28_3 ∧ Aside0 (prefix_Part.j0 kq a1 a2 x28_3 a0_0 a0_1 a0_2 a0_3 = some (r1, r2, r3, r4, r5)) ∧ Aside0 (kq ≤ k) ∧ Aside0 (wc.heap[gb175]? = some (.cells #[.bool a0_0, .int .u64 a0_1, .int .u64 a0_2, .int .i64 a0_3] 26 (0, 0))) ∧ Aside0 (wc.heap[gb176]? = some (.cells #[.bool false, .int .u64 0, .int .u64 0, .int .i64 0] 26 (0, 0))) ∧ Aside0 (Below w.heap.size w wc))
 case first =>
  have H := HC4.out
  clear HC4
  replace H := Option.bind_eq_some_iff.mp H
  obtain ⟨t177, A70, H⟩ := H
  have A7 := Aside0.mk A70
  clear A70
  by_cases c8 : t177 = true
  ·
   subst c8
   have H1 : (if a1 < a0_3 then (prefix_Part.j0 k a1 a2 true a0_0 a0_1 a0_2 a0_3) else ((prefix_length.f a0_0 a0_1 a0_2).bind fun t178 => (prefix_Part.j0 k a1 a2 (decide (a1 > t178)) a0_0 a0_1 a0_2 a0_3))) = some (r1, r2, r3, r4, r5) := by rw [if_pos rfl] at H; exact H
   clear H
   have H := H1
   clear H1
   by_cases c9 : a1 < a0_3
   ·
    rw [if_pos c9] at H
    have c9b0 := decide_eq_true c9
    clear c9
    (first | rw [c9b0] | (simp only [i64_w, i32_w]; rw [c9b0]) | skip)
    have H' := Aside0.mk H
    clear H
    have hnb10 := NB175_176.out
    have hnc10 := NB176_175.out
    obtain ⟨hcz11_0, hcz11_1, hcz11_2, hcz11_3, hfz11_0, hfz11_1, hfz11_2, hfz11_3⟩ := pC4 BK175
    go_wp2_with (first | ((with_reducible refine gate_callee (f := 26) rfl ?_); refine goesA (some 14) Tryz.func26 #[.agg #[.bool a0_0, .int .u64 a0_1, .int .u64 a0_2, .int .i64 a0_3]] ?_; (with_reducible refine (prefix_Valid.calls a0_0 a0_1 a0_2 a0_3 true _ A7.out).mono ?_); rintro e w12 ⟨rfl, hb⟩; refine ⟨_, rfl, ?_⟩; replace BK175 := (pB BK175 hb); replace BK176 := (pB BK176 hb); replace HB := (pS HB hb); (try clear hb); obtain ⟨hcz13_0, hcz13_1, hcz13_2, hcz13_3, hfz13_0, hfz13_1, hfz13_2, hfz13_3⟩ := pC4 BK175))
    refine Met.intro ?_
    go_step
    (repeat apply Exists.intro)
    refine ⟨?rel, ?heq_⟩
    case heq_ => first | rfl | (rw [c9b0]) | (simp only [c9b0])
    case rel => exact ⟨_, (true), pT, H', ⟨by first | omega | exact Nat.le_refl _⟩, ⟨pM BK175⟩, ⟨pM BK176⟩, ⟨pE HB⟩⟩
   ·
    rw [if_neg c9] at H
    have c9b0 := decide_eq_false c9
    clear c9
    (first | rw [c9b0] | (simp only [i64_w, i32_w]; rw [c9b0]) | skip)
    replace H := Option.bind_eq_some_iff.mp H
    obtain ⟨t178, A140, H⟩ := H
    have A14 := Aside0.mk A140
    clear A140
    have H' := Aside0.mk H
    clear H
    have hnb15 := NB175_176.out
    have hnc15 := NB176_175.out
    obtain ⟨hcz16_0, hcz16_1, hcz16_2, hcz16_3, hfz16_0, hfz16_1, hfz16_2, hfz16_3⟩ := pC4 BK175
    go_wp2_with (first | ((with_reducible refine gate_callee (f := 26) rfl ?_); refine goesA (some 14) Tryz.func26 #[.agg #[.bool a0_0, .int .u64 a0_1, .int .u64 a0_2, .int .i64 a0_3]] ?_; (with_reducible refine (prefix_Valid.calls a0_0 a0_1 a0_2 a0_3 true _ A7.out).mono ?_); rintro e w17 ⟨rfl, hb⟩; refine ⟨_, rfl, ?_⟩; replace BK175 := (pB BK175 hb); replace BK176 := (pB BK176 hb); replace HB := (pS HB hb); (try clear hb); obtain ⟨hcz18_0, hcz18_1, hcz18_2, hcz18_3, hfz18_0, hfz18_1, hfz18_2, hfz18_3⟩ := pC4 BK175) | (go_at_call 46; (with_reducible refine (prefix_length.calls a0_0 a0_1 a0_2 t178 _ A14.out).mono ?_); rintro e w19 ⟨rfl, hb⟩; replace BK175 := (pB BK175 hb); replace BK176 := (pB BK176 hb); replace HB := (pS HB hb); (try clear hb)))
    refine Met.intro ?_
    go_step
    (repeat apply Exists.intro)
    refine ⟨?rel, ?heq_⟩
    case heq_ => first | rfl | (rw [c9b0]) | (simp only [c9b0])
    case rel => exact ⟨_, (decide (a1 > t178)), pT, H', ⟨by first | omega | exact Nat.le_refl _⟩, ⟨pM BK175⟩, ⟨pM BK176⟩, ⟨pE HB⟩⟩
  ·
   replace c8 := Bool.eq_false_iff.mpr c8
   subst c8
   rw [if_neg (show ¬ (false = true) by decide)] at H
   have H' := Aside0.mk H
   clear H
   have hnb20 := NB175_176.out
   have hnc20 := NB176_175.out
   obtain ⟨hcz21_0, hcz21_1, hcz21_2, hcz21_3, hfz21_0, hfz21_1, hfz21_2, hfz21_3⟩ := pC4 BK175
   go_wp2_with (first | ((with_reducible refine gate_callee (f := 26) rfl ?_); refine goesA (some 14) Tryz.func26 #[.agg #[.bool a0_0, .int .u64 a0_1, .int .u64 a0_2, .int .i64 a0_3]] ?_; (with_reducible refine (prefix_Valid.calls a0_0 a0_1 a0_2 a0_3 false _ A7.out).mono ?_); rintro e w22 ⟨rfl, hb⟩; refine ⟨_, rfl, ?_⟩; replace BK175 := (pB BK175 hb); replace BK176 := (pB BK176 hb); replace HB := (pS HB hb); (try clear hb)))
   go_meet
   case rel => exact ⟨_, (true), pT, H', ⟨by first | omega | exact Nat.le_refl _⟩, ⟨pM BK175⟩, ⟨pM BK176⟩, ⟨pE HB⟩⟩
 case rest =>
  clear HC4
  obtain ⟨kq, x28_3, rfl, HA, HJ3, BK175, BK176, HB⟩ := hcut
  cases kq with
  | zero => exact absurd HA.out (by simp [prefix_Part.j0])
  | succ kj3 =>
   have H := HA.out
   clear HA
   simp only [prefix_Part.j0] at H
   by_cases c23 : x28_3 = true
   ·
    subst c23
    have H1 : (some (false, 0, 0, 0, false)) = some (r1, r2, r3, r4, r5) := by rw [if_pos rfl] at H; exact H
    clear H
    have H := H1
    clear H1
    simp only [Option.some.injEq, Prod.mk.injEq] at H
    obtain ⟨rfl, rfl, rfl, rfl, rfl⟩ := H
    have hnb24 := NB176_175.out
    have hnc24 := NB175_176.out
    obtain ⟨hcz25_0, hcz25_1, hcz25_2, hcz25_3, hfz25_0, hfz25_1, hfz25_2, hfz25_3⟩ := pC4 BK176
    go_wp2
    refine bodyPost_ret (results_ct rfl _ _ gb176 26 #[.bool false, .int .u64 0, .int .u64 0, .int .i64 0] (0, 0) _ rfl (pP (pP (pP (pP (pM BK176))))) Tryz.underlying26 rfl (by kernel_rfl)) rfl ?_
    exact pR (pE HB)
   ·
    replace c23 := Bool.eq_false_iff.mpr c23
    subst c23
    rw [if_neg (show ¬ (false = true) by decide)] at H
    have HC26 := Aside0.mk H
    clear H
    have hnb27 := NB175_176.out
    have hnc27 := NB176_175.out
    obtain ⟨hcz28_0, hcz28_1, hcz28_2, hcz28_3, hfz28_0, hfz28_1, hfz28_2, hfz28_3⟩ := pC4 BK175
    go_upto_region 4 with (fail)
    go_cut [42] (fun v42 wc => ∃ (kq : Nat) (x42_25 : Bool), v42 = .bool x42_25 ∧ Aside0 (prefix_Part.j1 kq a1 a2 x42_25 a0_0 a0_1 a0_2 a0_3 = some (r1, r2, r3, r4, r5)) ∧ Aside0 (kq ≤ kj3) ∧ Aside0 (wc.heap[gb175]? = some (.cells #[.bool a0_0, .int .u64 a0_1, .int .u64 a0_2, .int .i64 a0_3] 26 (0, 0))) ∧ Aside0 (wc.heap[gb176]? = some (.cells #[.bool false, .int .u64 0, .int .u64 0, .int .i64 0] 26 (0, 0))) ∧ Aside0 (Below w.heap.size w wc))
    case first =>
     have H := HC26.out
     clear HC26
     by_cases c29 : (wrap64 (a1 - a0_3)) < 64
     ·
      rw [if_pos c29] at H
      have c29b0 := decide_eq_true c29
      clear c29
      (first | rw [c29b0] | (simp only [i64_w, i32_w]; rw [c29b0]) | skip)
      obtain ⟨ji30, hji30⟩ : ∃ j_ : Int, (IntKind.u64.wrap (wrap64 (a1 - a0_3))) = j_ := ⟨_, rfl⟩
      replace H : (if 0 ≤ (ji30) then (prefix_Part.j1 kj3 a1 a2 ((shr .u64 a2 (ji30)) != 0) a0_0 a0_1 a0_2 a0_3) else (none)) = some (r1, r2, r3, r4, r5) := by first | (rw [hji30] at H; exact H) | (simp only [hji30] at H ⊢; exact H)
      by_cases c31 : 0 ≤ (ji30)
      ·
       rw [if_pos c31] at H
       have c31b0 := eq_true c31
       have c31b1 := decide_eq_true c31
       clear c31
       obtain ⟨ji32, hji32⟩ : ∃ j_ : Int, (shr .u64 a2 (ji30)) = j_ := ⟨_, rfl⟩
       (try rw [hji32] at hji30)
       replace H : (prefix_Part.j1 kj3 a1 a2 ((ji32) != 0) a0_0 a0_1 a0_2 a0_3) = some (r1, r2, r3, r4, r5) := by first | (rw [hji32] at H; exact H) | (simp only [hji32] at H ⊢; exact H)
       have hji32_ : (a2 / 2 ^ min (ji30).toNat 64) = ji32 := hji32
       have hji32z : (ji30) ≤ 64 → (a2 / 2 ^ (ji30).toNat) = ji32 := shr_small hji32
       have H' := Aside0.mk H
       clear H
       go_wp2
       refine Met.intro ?_
       go_step
       (repeat apply Exists.intro)
       refine ⟨?rel, ?heq_⟩
       case heq_ => first | rfl | (rw [c29b0]) | (simp only [c29b0])
       case rel => exact ⟨_, (((ji32) != 0)), (by first | rfl | (simp; done) | (simp only [← hji32] <;> (first | rfl | simp)) | (simp [*]; done) | ((try simp only [Bool.not_not]); (generalize ByteArray.toList _ = l_); cases l_ <;> rfl) | (simp; (generalize ByteArray.toList _ = l_); cases l_ <;> rfl)), (by first | exact H' | (simp only [hji30, hji32]; exact H') | (simp only [hji30, hji32] at H' ⊢; exact H')), ⟨by have := HJ3.out; first | omega | exact Nat.le_refl _⟩, ⟨pM BK175⟩, ⟨pM BK176⟩, ⟨pE HB⟩⟩
      ·
       rw [if_neg c31] at H
       exact absurd H (by simp)
     ·
      rw [if_neg c29] at H
      have c29b0 := decide_eq_false c29
      clear c29
      (first | rw [c29b0] | (simp only [i64_w, i32_w]; rw [c29b0]) | skip)
      have H' := Aside0.mk H
      clear H
      go_wp2
      refine Met.intro ?_
      go_step
      (repeat apply Exists.intro)
      refine ⟨?rel, ?heq_⟩
      case heq_ => first | rfl | (rw [c29b0]) | (simp only [c29b0])
      case rel => exact ⟨_, (false), pT, H', ⟨by have := HJ3.out; first | omega | exact Nat.le_refl _⟩, ⟨pM BK175⟩, ⟨pM BK176⟩, ⟨pE HB⟩⟩
    case rest =>
     clear HC26
     try clear c23
     try clear hcz28_0 hcz28_1 hcz28_2 hcz28_3
     try clear hfz28_0 hfz28_1 hfz28_2 hfz28_3
     obtain ⟨kq, x42_25, rfl, HA, HJ25, BK175, BK176, HB⟩ := hcut
     cases kq with
     | zero => exact absurd HA.out (by simp [prefix_Part.j1])
     | succ kj25 =>
      have H := HA.out
      clear HA
      simp only [prefix_Part.j1] at H
      by_cases c33 : x42_25 = true
      ·
       subst c33
       have H1 : (some (false, 0, 0, 0, false)) = some (r1, r2, r3, r4, r5) := by rw [if_pos rfl] at H; exact H
       clear H
       have H := H1
       clear H1
       simp only [Option.some.injEq, Prod.mk.injEq] at H
       obtain ⟨rfl, rfl, rfl, rfl, rfl⟩ := H
       have hnb34 := NB176_175.out
       have hnc34 := NB175_176.out
       obtain ⟨hcz35_0, hcz35_1, hcz35_2, hcz35_3, hfz35_0, hfz35_1, hfz35_2, hfz35_3⟩ := pC4 BK176
       go_wp2
       refine bodyPost_ret (results_ct rfl _ _ gb176 26 #[.bool false, .int .u64 0, .int .u64 0, .int .i64 0] (0, 0) _ rfl (pP (pP (pP (pP (pM BK176))))) Tryz.underlying26 rfl (by kernel_rfl)) rfl ?_
       exact pR (pE HB)
      ·
       replace c33 := Bool.eq_false_iff.mpr c33
       subst c33
       rw [if_neg (show ¬ (false = true) by decide)] at H
       replace H := Option.bind_eq_some_iff.mp H
       obtain ⟨t179, A360, H⟩ := H
       have A36 := Aside0.mk A360
       clear A360
       by_cases c37 : (IntKind.u64.wrap (wrap64 (t179 - a1))) ≥ 64
       ·
        rw [if_pos c37] at H
        have c37b0 := decide_eq_true c37
        clear c37
        obtain ⟨ji38, hji38⟩ : ∃ j_ : Int, (IntKind.u64.wrap ((IntKind.u64.wrap (wrap64 (t179 - a1))) - 64)) = j_ := ⟨_, rfl⟩
        replace H : (if 0 ≤ (ji38) then (some (a0_0, Go.bits .or .u64 a0_1 (shl .u64 a2 (ji38)), Go.bits .or .u64 a0_2 0, a1, true)) else (none)) = some (r1, r2, r3, r4, r5) := by first | (rw [hji38] at H; exact H) | (simp only [hji38] at H ⊢; exact H)
        (try rw [hji38] at A36)
        by_cases c39 : 0 ≤ (ji38)
        ·
         rw [if_pos c39] at H
         have c39b0 := eq_true c39
         have c39b1 := decide_eq_true c39
         clear c39
         obtain ⟨ji40, hji40⟩ : ∃ j_ : Int, (shl .u64 a2 (ji38)) = j_ := ⟨_, rfl⟩
         (try rw [hji40] at hji38)
         replace H : (some (a0_0, Go.bits .or .u64 a0_1 (ji40), Go.bits .or .u64 a0_2 0, a1, true)) = some (r1, r2, r3, r4, r5) := by first | (rw [hji40] at H; exact H) | (simp only [hji40] at H ⊢; exact H)
         (try rw [hji40] at A36)
         have hji40_ : (IntKind.u64.wrap (a2 * 2 ^ min (ji38).toNat 64)) = ji40 := hji40
         have hji40z : (ji38) ≤ 64 → (IntKind.u64.wrap (a2 * 2 ^ (ji38).toNat)) = ji40 := shl_small hji40
         simp only [Option.some.injEq, Prod.mk.injEq] at H
         obtain ⟨rfl, rfl, rfl, rfl, rfl⟩ := H
         have hnb41 := NB175_176.out
         have hnc41 := NB176_175.out
         obtain ⟨hcz42_0, hcz42_1, hcz42_2, hcz42_3, hfz42_0, hfz42_1, hfz42_2, hfz42_3⟩ := pC4 BK175
         go_wp2_with (first | ((with_reducible refine gate_callee (f := 46) rfl ?_); refine goesA (some 46) Tryz.func46 #[.agg #[.bool a0_0, .int .u64 a0_1, .int .u64 a0_2]] ?_; (with_reducible refine (prefix_length.calls a0_0 a0_1 a0_2 t179 _ A36.out).mono ?_); rintro e w43 ⟨rfl, hb⟩; refine ⟨_, rfl, ?_⟩; replace BK175 := (pB BK175 hb); replace BK176 := (pB BK176 hb); replace HB := (pS HB hb); (try clear hb); obtain ⟨hcz44_0, hcz44_1, hcz44_2, hcz44_3, hfz44_0, hfz44_1, hfz44_2, hfz44_3⟩ := pC4 BK175) | ((with_reducible refine gate_dst (N := 12) rfl ?_); refine boxA (N := 12) (cs := #[.bool false, .int .u64 0, .int .u64 0]) (t := 24) ?_; intro gb180 hg w45 hbox hb; have BK180 := Aside0.mk (hbox); have GE180 := (pZ HB hg); have NB175_180 := (pL BK175 hg); have NB180_175 := (pG BK175 hg); have NB176_180 := (pL BK176 hg); have NB180_176 := (pG BK176 hg); replace BK175 := (pB BK175 hb); replace BK176 := (pB BK176 hb); replace HB := (pS HB hb); clear hb hbox hg; have hnb46 := NB180_175.out; have hnc46 := NB175_180.out; have hnb47 := NB180_176.out; have hnc47 := NB176_180.out; obtain ⟨hcz48_0, hcz48_1, hcz48_2, hfz48_0, hfz48_1, hfz48_2⟩ := pC3 BK180; obtain ⟨hcz49_0, hcz49_1, hcz49_2, hcz49_3, hfz49_0, hfz49_1, hfz49_2, hfz49_3⟩ := pC4 BK176) | ((with_reducible refine gate_store (t := 26) (p := 6) rfl ?_); refine store_event (t := 26) (p := 6) (v := ?vo_w50) (w1 := (((((((((w45.setCell ⟨gb180, 0, none⟩ (.bool a0_0)).setCell ⟨gb180, 1, none⟩ (.int .u64 a0_1)).setCell ⟨gb180, 2, none⟩ (.int .u64 a0_2)).setCell ⟨gb180, 1, none⟩ (.int .u64 (Go.bits .or .u64 a0_1 (ji40)))).setCell ⟨gb180, 2, none⟩ (.int .u64 (Go.bits .or .u64 a0_2 0))).setCell ⟨gb176, 0, none⟩ (.bool a0_0)).setCell ⟨gb176, 1, none⟩ (.int .u64 (Go.bits .or .u64 a0_1 (ji40)))).setCell ⟨gb176, 2, none⟩ (.int .u64 (Go.bits .or .u64 a0_2 0))).setCell ⟨gb176, 3, none⟩ (.int .i64 a1))) ?hg ?ho ?hn ?hr ?_; (case ho => rfl); (case hg => rfl); (case hn => rfl); (case hr => first | (exact Ext.run_store_chain 26 _ _ rfl _ _ _ _ rfl rfl (pK NB176_180 (pK NB176_180 (pK NB176_180 (pK NB176_180 (pK NB176_180 (pM BK176)))))) (by kernel_rfl) rfl rfl rfl) | (go_simp; done) | (go_simp; rfl)); intro w50 hw; replace BK175 : Aside0 (w50.heap[gb175]? = some (.cells #[.bool a0_0, .int .u64 a0_1, .int .u64 a0_2, .int .i64 a0_3] 26 (0, 0))) := (pW hw (pK NB175_176 (pK NB175_176 (pK NB175_176 (pK NB175_176 (pK NB175_180 (pK NB175_180 (pK NB175_180 (pK NB175_180 (pK NB175_180 (pM BK175))))))))))); replace BK176 : Aside0 (w50.heap[gb176]? = some (.cells #[.bool a0_0, .int .u64 (Go.bits .or .u64 a0_1 (ji40)), .int .u64 (Go.bits .or .u64 a0_2 0), .int .i64 a1] 26 (0, 0))) := (pW hw (pP (pP (pP (pP (pK NB176_180 (pK NB176_180 (pK NB176_180 (pK NB176_180 (pK NB176_180 (pM BK176))))))))))); replace BK180 : Aside0 (w50.heap[gb180]? = some (.cells #[.bool a0_0, .int .u64 (Go.bits .or .u64 a0_1 (ji40)), .int .u64 (Go.bits .or .u64 a0_2 0)] 24 (0, 0))) := (pW hw (pK NB180_176 (pK NB180_176 (pK NB180_176 (pK NB180_176 (pP (pP (pP (pP (pP (pM BK180))))))))))); replace HB : Aside0 (Below w.heap.size w w50) := ⟨(by rw [hw]; exact (by repeat (first | (with_reducible first | exact HB.out | apply below_alloc | apply pw_below_drewN | apply below_drew1 | refine below_set ?_ GE175.out | refine below_set ?_ GE176.out | refine below_set ?_ GE180.out) | exact HB.out)))⟩; clear hw))
         refine bodyPost_ret (results_ct rfl _ _ gb176 26 #[.bool a0_0, .int .u64 (Go.bits .or .u64 a0_1 (ji40)), .int .u64 (Go.bits .or .u64 a0_2 0), .int .i64 a1] (0, 0) _ rfl (pM BK176) Tryz.underlying26 rfl (by kernel_rfl)) rfl ?_
         exact ⟨by first | rfl | (simp [errW_none, errW_some] <;> rfl) | (simp only [← hji38, ← hji40]; first | rfl | (simp [errW_none, errW_some] <;> rfl)) | (simp [*, errW_none, errW_some] <;> rfl), by repeat (first | (with_reducible first | exact HB.out | apply below_alloc | apply pw_below_drewN | apply below_drew1 | refine below_set ?_ GE175.out | refine below_set ?_ GE176.out | refine below_set ?_ GE180.out) | exact HB.out)⟩
        ·
         rw [if_neg c39] at H
         exact absurd H (by simp)
       ·
        rw [if_neg c37] at H
        have c37b0 := decide_eq_false c37
        clear c37
        by_cases c51 : (IntKind.u64.wrap (wrap64 (t179 - a1))) > 0
        ·
         rw [if_pos c51] at H
         have c51b0 := decide_eq_true c51
         clear c51
         obtain ⟨ji52, hji52⟩ : ∃ j_ : Int, (IntKind.u64.wrap (64 - (IntKind.u64.wrap (wrap64 (t179 - a1))))) = j_ := ⟨_, rfl⟩
         replace H : (if 0 ≤ (ji52) then (if 0 ≤ (IntKind.u64.wrap (wrap64 (t179 - a1))) then (some (a0_0, Go.bits .or .u64 a0_1 (shr .u64 a2 (ji52)), Go.bits .or .u64 a0_2 (shl .u64 a2 (IntKind.u64.wrap (wrap64 (t179 - a1)))), a1, true)) else (none)) else (none)) = some (r1, r2, r3, r4, r5) := by first | (rw [hji52] at H; exact H) | (simp only [hji52] at H ⊢; exact H)
         (try rw [hji52] at A36)
         by_cases c53 : 0 ≤ (ji52)
         ·
          rw [if_pos c53] at H
          have c53b0 := eq_true c53
          have c53b1 := decide_eq_true c53
          clear c53
          obtain ⟨ji54, hji54⟩ : ∃ j_ : Int, (shr .u64 a2 (ji52)) = j_ := ⟨_, rfl⟩
          (try rw [hji54] at hji52)
          replace H : (if 0 ≤ (IntKind.u64.wrap (wrap64 (t179 - a1))) then (some (a0_0, Go.bits .or .u64 a0_1 (ji54), Go.bits .or .u64 a0_2 (shl .u64 a2 (IntKind.u64.wrap (wrap64 (t179 - a1)))), a1, true)) else (none)) = some (r1, r2, r3, r4, r5) := by first | (rw [hji54] at H; exact H) | (simp only [hji54] at H ⊢; exact H)
          (try rw [hji54] at A36)
          have hji54_ : (a2 / 2 ^ min (ji52).toNat 64) = ji54 := hji54
          have hji54z : (ji52) ≤ 64 → (a2 / 2 ^ (ji52).toNat) = ji54 := shr_small hji54
          obtain ⟨ji55, hji55⟩ : ∃ j_ : Int, (IntKind.u64.wrap (wrap64 (t179 - a1))) = j_ := ⟨_, rfl⟩
          (try rw [hji55] at hji52)
          (try rw [hji55] at hji54)
          replace H : (if 0 ≤ (ji55) then (some (a0_0, Go.bits .or .u64 a0_1 (ji54), Go.bits .or .u64 a0_2 (shl .u64 a2 (ji55)), a1, true)) else (none)) = some (r1, r2, r3, r4, r5) := by first | (rw [hji55] at H; exact H) | (simp only [hji55] at H ⊢; exact H)
          (try rw [hji55] at c37b0)
          (try rw [hji55] at c51b0)
          (try rw [hji55] at A36)
          by_cases c56 : 0 ≤ (ji55)
          ·
           rw [if_pos c56] at H
           have c56b0 := eq_true c56
           have c56b1 := decide_eq_true c56
           clear c56
           obtain ⟨ji57, hji57⟩ : ∃ j_ : Int, (shl .u64 a2 (ji55)) = j_ := ⟨_, rfl⟩
           (try rw [hji57] at hji52)
           (try rw [hji57] at hji54)
           (try rw [hji57] at hji55)
           replace H : (some (a0_0, Go.bits .or .u64 a0_1 (ji54), Go.bits .or .u64 a0_2 (ji57), a1, true)) = some (r1, r2, r3, r4, r5) := by first | (rw [hji57] at H; exact H) | (simp only [hji57] at H ⊢; exact H)
           (try rw [hji57] at A36)
           have hji57_ : (IntKind.u64.wrap (a2 * 2 ^ min (ji55).toNat 64)) = ji57 := hji57
           have hji57z : (ji55) ≤ 64 → (IntKind.u64.wrap (a2 * 2 ^ (ji55).toNat)) = ji57 := shl_small hji57
           simp only [Option.some.injEq, Prod.mk.injEq] at H
           obtain ⟨rfl, rfl, rfl, rfl, rfl⟩ := H
           have hnb58 := NB175_176.out
           have hnc58 := NB176_175.out
           obtain ⟨hcz59_0, hcz59_1, hcz59_2, hcz59_3, hfz59_0, hfz59_1, hfz59_2, hfz59_3⟩ := pC4 BK175
           go_wp2_with (first | ((with_reducible refine gate_callee (f := 46) rfl ?_); refine goesA (some 46) Tryz.func46 #[.agg #[.bool a0_0, .int .u64 a0_1, .int .u64 a0_2]] ?_; (with_reducible refine (prefix_length.calls a0_0 a0_1 a0_2 t179 _ A36.out).mono ?_); rintro e w60 ⟨rfl, hb⟩; refine ⟨_, rfl, ?_⟩; replace BK175 := (pB BK175 hb); replace BK176 := (pB BK176 hb); replace HB := (pS HB hb); (try clear hb); obtain ⟨hcz61_0, hcz61_1, hcz61_2, hcz61_3, hfz61_0, hfz61_1, hfz61_2, hfz61_3⟩ := pC4 BK175) | ((with_reducible refine gate_dst (N := 12) rfl ?_); refine boxA (N := 12) (cs := #[.bool false, .int .u64 0, .int .u64 0]) (t := 24) ?_; intro gb181 hg w62 hbox hb; have BK181 := Aside0.mk (hbox); have GE181 := (pZ HB hg); have NB175_181 := (pL BK175 hg); have NB181_175 := (pG BK175 hg); have NB176_181 := (pL BK176 hg); have NB181_176 := (pG BK176 hg); replace BK175 := (pB BK175 hb); replace BK176 := (pB BK176 hb); replace HB := (pS HB hb); clear hb hbox hg; have hnb63 := NB181_175.out; have hnc63 := NB175_181.out; have hnb64 := NB181_176.out; have hnc64 := NB176_181.out; obtain ⟨hcz65_0, hcz65_1, hcz65_2, hfz65_0, hfz65_1, hfz65_2⟩ := pC3 BK181; obtain ⟨hcz66_0, hcz66_1, hcz66_2, hcz66_3, hfz66_0, hfz66_1, hfz66_2, hfz66_3⟩ := pC4 BK176) | ((with_reducible refine gate_store (t := 26) (p := 6) rfl ?_); refine store_event (t := 26) (p := 6) (v := ?vo_w67) (w1 := (((((((((w62.setCell ⟨gb181, 0, none⟩ (.bool a0_0)).setCell ⟨gb181, 1, none⟩ (.int .u64 a0_1)).setCell ⟨gb181, 2, none⟩ (.int .u64 a0_2)).setCell ⟨gb181, 1, none⟩ (.int .u64 (Go.bits .or .u64 a0_1 (ji54)))).setCell ⟨gb181, 2, none⟩ (.int .u64 (Go.bits .or .u64 a0_2 (ji57)))).setCell ⟨gb176, 0, none⟩ (.bool a0_0)).setCell ⟨gb176, 1, none⟩ (.int .u64 (Go.bits .or .u64 a0_1 (ji54)))).setCell ⟨gb176, 2, none⟩ (.int .u64 (Go.bits .or .u64 a0_2 (ji57)))).setCell ⟨gb176, 3, none⟩ (.int .i64 a1))) ?hg ?ho ?hn ?hr ?_; (case ho => rfl); (case hg => rfl); (case hn => rfl); (case hr => first | (exact Ext.run_store_chain 26 _ _ rfl _ _ _ _ rfl rfl (pK NB176_181 (pK NB176_181 (pK NB176_181 (pK NB176_181 (pK NB176_181 (pM BK176)))))) (by kernel_rfl) rfl rfl rfl) | (go_simp; done) | (go_simp; rfl)); intro w67 hw; replace BK175 : Aside0 (w67.heap[gb175]? = some (.cells #[.bool a0_0, .int .u64 a0_1, .int .u64 a0_2, .int .i64 a0_3] 26 (0, 0))) := (pW hw (pK NB175_176 (pK NB175_176 (pK NB175_176 (pK NB175_176 (pK NB175_181 (pK NB175_181 (pK NB175_181 (pK NB175_181 (pK NB175_181 (pM BK175))))))))))); replace BK176 : Aside0 (w67.heap[gb176]? = some (.cells #[.bool a0_0, .int .u64 (Go.bits .or .u64 a0_1 (ji54)), .int .u64 (Go.bits .or .u64 a0_2 (ji57)), .int .i64 a1] 26 (0, 0))) := (pW hw (pP (pP (pP (pP (pK NB176_181 (pK NB176_181 (pK NB176_181 (pK NB176_181 (pK NB176_181 (pM BK176))))))))))); replace BK181 : Aside0 (w67.heap[gb181]? = some (.cells #[.bool a0_0, .int .u64 (Go.bits .or .u64 a0_1 (ji54)), .int .u64 (Go.bits .or .u64 a0_2 (ji57))] 24 (0, 0))) := (pW hw (pK NB181_176 (pK NB181_176 (pK NB181_176 (pK NB181_176 (pP (pP (pP (pP (pP (pM BK181))))))))))); replace HB : Aside0 (Below w.heap.size w w67) := ⟨(by rw [hw]; exact (by repeat (first | (with_reducible first | exact HB.out | apply below_alloc | apply pw_below_drewN | apply below_drew1 | refine below_set ?_ GE175.out | refine below_set ?_ GE176.out | refine below_set ?_ GE181.out) | exact HB.out)))⟩; clear hw))
           refine bodyPost_ret (results_ct rfl _ _ gb176 26 #[.bool a0_0, .int .u64 (Go.bits .or .u64 a0_1 (ji54)), .int .u64 (Go.bits .or .u64 a0_2 (ji57)), .int .i64 a1] (0, 0) _ rfl (pM BK176) Tryz.underlying26 rfl (by kernel_rfl)) rfl ?_
           exact ⟨by first | rfl | (simp [errW_none, errW_some] <;> rfl) | (simp only [← hji52, ← hji54, ← hji55, ← hji57]; first | rfl | (simp [errW_none, errW_some] <;> rfl)) | (simp [*, errW_none, errW_some] <;> rfl), by repeat (first | (with_reducible first | exact HB.out | apply below_alloc | apply pw_below_drewN | apply below_drew1 | refine below_set ?_ GE175.out | refine below_set ?_ GE176.out | refine below_set ?_ GE181.out) | exact HB.out)⟩
          ·
           rw [if_neg c56] at H
           exact absurd H (by simp)
         ·
          rw [if_neg c53] at H
          exact absurd H (by simp)
        ·
         rw [if_neg c51] at H
         have c51b0 := decide_eq_false c51
         clear c51
         simp only [Option.some.injEq, Prod.mk.injEq] at H
         obtain ⟨rfl, rfl, rfl, rfl, rfl⟩ := H
         have hnb68 := NB175_176.out
         have hnc68 := NB176_175.out
         obtain ⟨hcz69_0, hcz69_1, hcz69_2, hcz69_3, hfz69_0, hfz69_1, hfz69_2, hfz69_3⟩ := pC4 BK175
         go_wp2_with (first | ((with_reducible refine gate_callee (f := 46) rfl ?_); refine goesA (some 46) Tryz.func46 #[.agg #[.bool a0_0, .int .u64 a0_1, .int .u64 a0_2]] ?_; (with_reducible refine (prefix_length.calls a0_0 a0_1 a0_2 t179 _ A36.out).mono ?_); rintro e w70 ⟨rfl, hb⟩; refine ⟨_, rfl, ?_⟩; replace BK175 := (pB BK175 hb); replace BK176 := (pB BK176 hb); replace HB := (pS HB hb); (try clear hb); obtain ⟨hcz71_0, hcz71_1, hcz71_2, hcz71_3, hfz71_0, hfz71_1, hfz71_2, hfz71_3⟩ := pC4 BK175) | ((with_reducible refine gate_dst (N := 12) rfl ?_); refine boxA (N := 12) (cs := #[.bool false, .int .u64 0, .int .u64 0]) (t := 24) ?_; intro gb182 hg w72 hbox hb; have BK182 := Aside0.mk (hbox); have GE182 := (pZ HB hg); have NB175_182 := (pL BK175 hg); have NB182_175 := (pG BK175 hg); have NB176_182 := (pL BK176 hg); have NB182_176 := (pG BK176 hg); replace BK175 := (pB BK175 hb); replace BK176 := (pB BK176 hb); replace HB := (pS HB hb); clear hb hbox hg; have hnb73 := NB182_175.out; have hnc73 := NB175_182.out; have hnb74 := NB182_176.out; have hnc74 := NB176_182.out; obtain ⟨hcz75_0, hcz75_1, hcz75_2, hfz75_0, hfz75_1, hfz75_2⟩ := pC3 BK182; obtain ⟨hcz76_0, hcz76_1, hcz76_2, hcz76_3, hfz76_0, hfz76_1, hfz76_2, hfz76_3⟩ := pC4 BK176) | ((with_reducible refine gate_store (t := 26) (p := 6) rfl ?_); refine store_event (t := 26) (p := 6) (v := ?vo_w77) (w1 := (((((((((w72.setCell ⟨gb182, 0, none⟩ (.bool a0_0)).setCell ⟨gb182, 1, none⟩ (.int .u64 a0_1)).setCell ⟨gb182, 2, none⟩ (.int .u64 a0_2)).setCell ⟨gb182, 1, none⟩ (.int .u64 (Go.bits .or .u64 a0_1 0))).setCell ⟨gb182, 2, none⟩ (.int .u64 (Go.bits .or .u64 a0_2 a2))).setCell ⟨gb176, 0, none⟩ (.bool a0_0)).setCell ⟨gb176, 1, none⟩ (.int .u64 (Go.bits .or .u64 a0_1 0))).setCell ⟨gb176, 2, none⟩ (.int .u64 (Go.bits .or .u64 a0_2 a2))).setCell ⟨gb176, 3, none⟩ (.int .i64 a1))) ?hg ?ho ?hn ?hr ?_; (case ho => rfl); (case hg => rfl); (case hn => rfl); (case hr => first | (exact Ext.run_store_chain 26 _ _ rfl _ _ _ _ rfl rfl (pK NB176_182 (pK NB176_182 (pK NB176_182 (pK NB176_182 (pK NB176_182 (pM BK176)))))) (by kernel_rfl) rfl rfl rfl) | (go_simp; done) | (go_simp; rfl)); intro w77 hw; replace BK175 : Aside0 (w77.heap[gb175]? = some (.cells #[.bool a0_0, .int .u64 a0_1, .int .u64 a0_2, .int .i64 a0_3] 26 (0, 0))) := (pW hw (pK NB175_176 (pK NB175_176 (pK NB175_176 (pK NB175_176 (pK NB175_182 (pK NB175_182 (pK NB175_182 (pK NB175_182 (pK NB175_182 (pM BK175))))))))))); replace BK176 : Aside0 (w77.heap[gb176]? = some (.cells #[.bool a0_0, .int .u64 (Go.bits .or .u64 a0_1 0), .int .u64 (Go.bits .or .u64 a0_2 a2), .int .i64 a1] 26 (0, 0))) := (pW hw (pP (pP (pP (pP (pK NB176_182 (pK NB176_182 (pK NB176_182 (pK NB176_182 (pK NB176_182 (pM BK176))))))))))); replace BK182 : Aside0 (w77.heap[gb182]? = some (.cells #[.bool a0_0, .int .u64 (Go.bits .or .u64 a0_1 0), .int .u64 (Go.bits .or .u64 a0_2 a2)] 24 (0, 0))) := (pW hw (pK NB182_176 (pK NB182_176 (pK NB182_176 (pK NB182_176 (pP (pP (pP (pP (pP (pM BK182))))))))))); replace HB : Aside0 (Below w.heap.size w w77) := ⟨(by rw [hw]; exact (by repeat (first | (with_reducible first | exact HB.out | apply below_alloc | apply pw_below_drewN | apply below_drew1 | refine below_set ?_ GE175.out | refine below_set ?_ GE176.out | refine below_set ?_ GE182.out) | exact HB.out)))⟩; clear hw))
         refine bodyPost_ret (results_ct rfl _ _ gb176 26 #[.bool a0_0, .int .u64 (Go.bits .or .u64 a0_1 0), .int .u64 (Go.bits .or .u64 a0_2 a2), .int .i64 a1] (0, 0) _ rfl (pM BK176) Tryz.underlying26 rfl (by kernel_rfl)) rfl ?_
         exact pR (pE HB)

/-! ### prefix_Halves: function 12 -/
def prefix_Halves.f (k : Nat) (a0_0 : Bool) (a0_1 : Int) (a0_2 : Int) (a0_3 : Int) : Option (Bool × Int × Int × Int × Bool × Int × Int × Int × Bool) := (prefix_Part.f k a0_0 a0_1 a0_2 a0_3 (wrap64 (a0_3 + 1)) 0).bind fun bt186 => (if bt186.2.2.2.2 = true then ((prefix_Valid.f a0_0 a0_1 a0_2 a0_3).bind fun t192 => (if t192 = true then ((prefix_Part.f k a0_0 a0_1 a0_2 a0_3 (wrap64 (a0_3 + 1)) 1).bind fun bt193 => (some (bt186.1, bt186.2.1, bt186.2.2.1, bt186.2.2.2.1, bt193.1, bt193.2.1, bt193.2.2.1, bt193.2.2.2.1, bt193.2.2.2.2))) else (some (false, 0, 0, 0, false, 0, 0, 0, false)))) else (some (false, 0, 0, 0, false, 0, 0, 0, false)))
theorem prefix_Halves.mono : ∀ a0 a1 a2 a3 k, LeO (prefix_Halves.f k a0 a1 a2 a3) (prefix_Halves.f (k + 1) a0 a1 a2 a3) := by
 intro a0 a1 a2 a3 k
 unfold prefix_Halves.f
 repeat' with_reducible first | exact prefix_Part.mono _ _ _ _ _ _ _ | exact LeO.refl _ | exact LeO.none _ | refine LeO.ite ?_ ?_ | refine LeO.bind ?_ (fun _ => ?_)
set_option maxHeartbeats 40000000 in
set_option maxRecDepth 100000 in
theorem prefix_Halves.calls (k : Nat) (a0_0 : Bool) (a0_1 : Int) (a0_2 : Int) (a0_3 : Int) (r1 : Bool) (r2 : Int) (r3 : Int) (r4 : Int) (r5 : Bool) (r6 : Int) (r7 : Int) (r8 : Int) (r9 : Bool) (w : World) (h : prefix_Halves.f k a0_0 a0_1 a0_2 a0_3 = some (r1, r2, r3, r4, r5, r6, r7, r8, r9)) :
 Calls Tryz.prog 12 #[.agg #[.bool a0_0, .int .u64 a0_1, .int .u64 a0_2, .int .i64 a0_3]] w fun e w' => e = .returned (.tuple #[.agg #[.bool r1, .int .u64 r2, .int .u64 r3, .int .i64 r4], .agg #[.bool r5, .int .u64 r6, .int .u64 r7, .int .i64 r8], .bool r9]) ∧ Below w.heap.size w w' := by
 have hu26 := Tryz.underlying26
 have HB := Aside0.mk (Below.refl w.heap.size w)
 have H : ((prefix_Part.f k a0_0 a0_1 a0_2 a0_3 (wrap64 (a0_3 + 1)) 0).bind fun bt186 => (if bt186.2.2.2.2 = true then ((prefix_Valid.f a0_0 a0_1 a0_2 a0_3).bind fun t192 => (if t192 = true then ((prefix_Part.f k a0_0 a0_1 a0_2 a0_3 (wrap64 (a0_3 + 1)) 1).bind fun bt193 => (some (bt186.1, bt186.2.1, bt186.2.2.1, bt186.2.2.2.1, bt193.1, bt193.2.1, bt193.2.2.1, bt193.2.2.2.1, bt193.2.2.2.2))) else (some (false, 0, 0, 0, false, 0, 0, 0, false)))) else (some (false, 0, 0, 0, false, 0, 0, 0, false)))) = some (r1, r2, r3, r4, r5, r6, r7, r8, r9) := h
 clear h
 replace H := Option.bind_eq_some_iff.mp H
 obtain ⟨⟨t186, t187, t188, t189, t190⟩, A20, H⟩ := H
 replace H : (if t190 = true then ((prefix_Valid.f a0_0 a0_1 a0_2 a0_3).bind fun t192 => (if t192 = true then ((prefix_Part.f k a0_0 a0_1 a0_2 a0_3 (wrap64 (a0_3 + 1)) 1).bind fun bt193 => (some (t186, t187, t188, t189, bt193.1, bt193.2.1, bt193.2.2.1, bt193.2.2.2.1, bt193.2.2.2.2))) else (some (false, 0, 0, 0, false, 0, 0, 0, false)))) else (some (false, 0, 0, 0, false, 0, 0, 0, false))) = some (r1, r2, r3, r4, r5, r6, r7, r8, r9) := H
 have A2 := Aside0.mk A20
 clear A20
 by_cases c3 : t190 = true
 ·
  subst c3
  have H1 : ((prefix_Valid.f a0_0 a0_1 a0_2 a0_3).bind fun t192 => (if t192 = true then ((prefix_Part.f k a0_0 a0_1 a0_2 a0_3 (wrap64 (a0_3 + 1)) 1).bind fun bt193 => (some (t186, t187, t188, t189, bt193.1, bt193.2.1, bt193.2.2.1, bt193.2.2.2.1, bt193.2.2.2.2))) else (some (false, 0, 0, 0, false, 0, 0, 0, false)))) = some (r1, r2, r3, r4, r5, r6, r7, r8, r9) := by rw [if_pos rfl] at H; exact H
  clear H
  have H := H1
  clear H1
  replace H := Option.bind_eq_some_iff.mp H
  obtain ⟨t192, A40, H⟩ := H
  have A4 := Aside0.mk A40
  clear A40
  by_cases c5 : t192 = true
  ·
   subst c5
   have H1 : ((prefix_Part.f k a0_0 a0_1 a0_2 a0_3 (wrap64 (a0_3 + 1)) 1).bind fun bt193 => (some (t186, t187, t188, t189, bt193.1, bt193.2.1, bt193.2.2.1, bt193.2.2.2.1, bt193.2.2.2.2))) = some (r1, r2, r3, r4, r5, r6, r7, r8, r9) := by rw [if_pos rfl] at H; exact H
   clear H
   have H := H1
   clear H1
   replace H := Option.bind_eq_some_iff.mp H
   obtain ⟨⟨t193, t194, t195, t196, t197⟩, A60, H⟩ := H
   replace H : (some (t186, t187, t188, t189, t193, t194, t195, t196, t197)) = some (r1, r2, r3, r4, r5, r6, r7, r8, r9) := H
   have A6 := Aside0.mk A60
   clear A60
   simp only [Option.some.injEq, Prod.mk.injEq] at H
   obtain ⟨rfl, rfl, rfl, rfl, rfl, rfl, rfl, rfl, rfl⟩ := H
   go_enter Tryz.func12, Tryz.ntmps12
   try go_wp2_with (first | ((with_reducible refine gate_dst (N := 1) rfl ?_); refine boxA (N := 1) (cs := #[.bool a0_0, .int .u64 a0_1, .int .u64 a0_2, .int .i64 a0_3]) (t := 26) ?_; intro gb183 hg w7 hbox hb; have BK183 := Aside0.mk (hbox); have GW183 := (pZ HB hg); have GE183 := (pZ HB hg); replace HB := (pS HB hb); clear hb hbox hg) | ((with_reducible refine gate_dst (N := 2) rfl ?_); refine boxA (N := 2) (cs := #[.bool false, .int .u64 0, .int .u64 0, .int .i64 0]) (t := 26) ?_; intro gb184 hg w8 hbox hb; have BK184 := Aside0.mk (hbox); have GW184 := (pZ HB hg); have GE184 := (pZ HB hg); have NB183_184 := (pL BK183 hg); have NB184_183 := (pG BK183 hg); replace BK183 := (pB BK183 hb); replace HB := (pS HB hb); clear hb hbox hg) | ((with_reducible refine gate_dst (N := 3) rfl ?_); refine boxA (N := 3) (cs := #[.bool false, .int .u64 0, .int .u64 0, .int .i64 0]) (t := 26) ?_; intro gb185 hg w9 hbox hb; have BK185 := Aside0.mk (hbox); have GW185 := (pZ HB hg); have GE185 := (pZ HB hg); have NB183_185 := (pL BK183 hg); have NB185_183 := (pG BK183 hg); have NB184_185 := (pL BK184 hg); have NB185_184 := (pG BK184 hg); replace BK183 := (pB BK183 hb); replace BK184 := (pB BK184 hb); replace HB := (pS HB hb); clear hb hbox hg; have hnb10 := NB183_184.out; have hnc10 := NB184_183.out; have hnb11 := NB183_185.out; have hnc11 := NB185_183.out; obtain ⟨hcz12_0, hcz12_1, hcz12_2, hcz12_3, hfz12_0, hfz12_1, hfz12_2, hfz12_3⟩ := pC4 BK183) | ((with_reducible refine gate_callee (f := 14) rfl ?_); refine goesA (some 13) Tryz.func14 #[.agg #[.bool a0_0, .int .u64 a0_1, .int .u64 a0_2, .int .i64 a0_3], .int .i64 (wrap64 (a0_3 + 1)), .int .u64 0] ?_; (with_reducible refine (prefix_Part.calls k a0_0 a0_1 a0_2 a0_3 (wrap64 (a0_3 + 1)) 0 t186 t187 t188 t189 true _ A2.out).mono ?_); rintro e w13 ⟨rfl, hb⟩; refine ⟨_, rfl, ?_⟩; replace BK183 := (pB BK183 hb); replace BK184 := (pB BK184 hb); replace BK185 := (pB BK185 hb); replace HB := (pS HB hb); (try clear hb)) | ((with_reducible refine gate_dst (N := 5) rfl ?_); refine boxA (N := 5) (cs := #[.bool false, .int .u64 0, .int .u64 0, .int .i64 0]) (t := 26) ?_; intro gb191 hg w14 hbox hb; have BK191 := Aside0.mk (hbox); have GW191 := (pZ HB hg); have GE191 := (pZ HB hg); have NB183_191 := (pL BK183 hg); have NB191_183 := (pG BK183 hg); have NB184_191 := (pL BK184 hg); have NB191_184 := (pG BK184 hg); have NB185_191 := (pL BK185 hg); have NB191_185 := (pG BK185 hg); replace BK183 := (pB BK183 hb); replace BK184 := (pB BK184 hb); replace BK185 := (pB BK185 hb); replace HB := (pS HB hb); clear hb hbox hg; have hnb15 := NB191_183.out; have hnc15 := NB183_191.out; have hnb16 := NB191_184.out; have hnc16 := NB184_191.out; have hnb17 := NB191_185.out; have hnc17 := NB185_191.out; obtain ⟨hcz18_0, hcz18_1, hcz18_2, hcz18_3, hfz18_0, hfz18_1, hfz18_2, hfz18_3⟩ := pC4 BK191; obtain ⟨hcz19_0, hcz19_1, hcz19_2, hcz19_3, hfz19_0, hfz19_1, hfz19_2, hfz19_3⟩ := pC4 BK183) | (go_at_call 26; (with_reducible refine (prefix_Valid.calls a0_0 a0_1 a0_2 a0_3 true _ A4.out).mono ?_); rintro e w20 ⟨rfl, hb⟩; replace BK183 := (pD hb (pK NB183_191 (pK NB183_191 (pK NB183_191 (pK NB183_191 (pM BK183)))))); replace BK184 := (pD hb (pK NB184_191 (pK NB184_191 (pK NB184_191 (pK NB184_191 (pM BK184)))))); replace BK185 := (pD hb (pK NB185_191 (pK NB185_191 (pK NB185_191 (pK NB185_191 (pM BK185)))))); replace BK191 := (pD hb (pP (pP (pP (pP (pM BK191)))))); replace HB := (pS HB hb); (try clear hb); obtain ⟨hcz21_0, hcz21_1, hcz21_2, hcz21_3, hfz21_0, hfz21_1, hfz21_2, hfz21_3⟩ := pC4 BK183) | ((with_reducible refine gate_callee (f := 14) rfl ?_); refine goesA (some 30) Tryz.func14 #[.agg #[.bool a0_0, .int .u64 a0_1, .int .u64 a0_2, .int .i64 a0_3], .int .i64 (wrap64 (a0_3 + 1)), .int .u64 1] ?_; (with_reducible refine (prefix_Part.calls k a0_0 a0_1 a0_2 a0_3 (wrap64 (a0_3 + 1)) 1 t193 t194 t195 t196 t197 _ A6.out).mono ?_); rintro e w22 ⟨rfl, hb⟩; refine ⟨_, rfl, ?_⟩; replace BK183 := (pB BK183 hb); replace BK184 := (pB BK184 hb); replace BK185 := (pB BK185 hb); replace BK191 := (pB BK191 hb); replace HB := (pS HB hb); (try clear hb)) | ((with_reducible refine gate_dst (N := 7) rfl ?_); refine boxA (N := 7) (cs := #[.bool false, .int .u64 0, .int .u64 0, .int .i64 0]) (t := 26) ?_; intro gb198 hg w23 hbox hb; have BK198 := Aside0.mk (hbox); have GE198 := (pZ HB hg); have NB183_198 := (pL BK183 hg); have NB198_183 := (pG BK183 hg); have NB184_198 := (pL BK184 hg); have NB198_184 := (pG BK184 hg); have NB185_198 := (pL BK185 hg); have NB198_185 := (pG BK185 hg); have NB191_198 := (pL BK191 hg); have NB198_191 := (pG BK191 hg); replace BK183 := (pB BK183 hb); replace BK184 := (pB BK184 hb); replace BK185 := (pB BK185 hb); replace BK191 := (pB BK191 hb); replace HB := (pS HB hb); clear hb hbox hg; have hnb24 := NB198_183.out; have hnc24 := NB183_198.out; have hnb25 := NB198_184.out; have hnc25 := NB184_198.out; have hnb26 := NB198_185.out; have hnc26 := NB185_198.out; have hnb27 := NB198_191.out; have hnc27 := NB191_198.out; obtain ⟨hcz28_0, hcz28_1, hcz28_2, hcz28_3, hfz28_0, hfz28_1, hfz28_2, hfz28_3⟩ := pC4 BK198))
   have n0_ : Aside0 (((((w23.setCell ⟨gb198, 0, none⟩ (.bool t193)).setCell ⟨gb198, 1, none⟩ (.int .u64 t194)).setCell ⟨gb198, 2, none⟩ (.int .u64 t195)).setCell ⟨gb198, 3, none⟩ (.int .i64 t196)).heap[gb183]? = some (.cells #[.bool a0_0, .int .u64 a0_1, .int .u64 a0_2, .int .i64 a0_3] 26 (0, 0))) := ⟨by (with_reducible repeat (first | refine blk_drewN ?_ _ | refine blk_drew ?_ | refine blk_alloc ?_ _)); refine blk_far ?_ NB183_198.out _; (with_reducible repeat (first | refine blk_drewN ?_ _ | refine blk_drew ?_ | refine blk_alloc ?_ _)); refine blk_far ?_ NB183_198.out _; (with_reducible repeat (first | refine blk_drewN ?_ _ | refine blk_drew ?_ | refine blk_alloc ?_ _)); refine blk_far ?_ NB183_198.out _; (with_reducible repeat (first | refine blk_drewN ?_ _ | refine blk_drew ?_ | refine blk_alloc ?_ _)); refine blk_far ?_ NB183_198.out _; (with_reducible repeat (first | refine blk_drewN ?_ _ | refine blk_drew ?_ | refine blk_alloc ?_ _)); exact BK183.out⟩
   have n1_ : Aside0 (((((w23.setCell ⟨gb198, 0, none⟩ (.bool t193)).setCell ⟨gb198, 1, none⟩ (.int .u64 t194)).setCell ⟨gb198, 2, none⟩ (.int .u64 t195)).setCell ⟨gb198, 3, none⟩ (.int .i64 t196)).heap[gb184]? = some (.cells #[.bool false, .int .u64 0, .int .u64 0, .int .i64 0] 26 (0, 0))) := ⟨by (with_reducible repeat (first | refine blk_drewN ?_ _ | refine blk_drew ?_ | refine blk_alloc ?_ _)); refine blk_far ?_ NB184_198.out _; (with_reducible repeat (first | refine blk_drewN ?_ _ | refine blk_drew ?_ | refine blk_alloc ?_ _)); refine blk_far ?_ NB184_198.out _; (with_reducible repeat (first | refine blk_drewN ?_ _ | refine blk_drew ?_ | refine blk_alloc ?_ _)); refine blk_far ?_ NB184_198.out _; (with_reducible repeat (first | refine blk_drewN ?_ _ | refine blk_drew ?_ | refine blk_alloc ?_ _)); refine blk_far ?_ NB184_198.out _; (with_reducible repeat (first | refine blk_drewN ?_ _ | refine blk_drew ?_ | refine blk_alloc ?_ _)); exact BK184.out⟩
   have n2_ : Aside0 (((((w23.setCell ⟨gb198, 0, none⟩ (.bool t193)).setCell ⟨gb198, 1, none⟩ (.int .u64 t194)).setCell ⟨gb198, 2, none⟩ (.int .u64 t195)).setCell ⟨gb198, 3, none⟩ (.int .i64 t196)).heap[gb185]? = some (.cells #[.bool false, .int .u64 0, .int .u64 0, .int .i64 0] 26 (0, 0))) := ⟨by (with_reducible repeat (first | refine blk_drewN ?_ _ | refine blk_drew ?_ | refine blk_alloc ?_ _)); refine blk_far ?_ NB185_198.out _; (with_reducible repeat (first | refine blk_drewN ?_ _ | refine blk_drew ?_ | refine blk_alloc ?_ _)); refine blk_far ?_ NB185_198.out _; (with_reducible repeat (first | refine blk_drewN ?_ _ | refine blk_drew ?_ | refine blk_alloc ?_ _)); refine blk_far ?_ NB185_198.out _; (with_reducible repeat (first | refine blk_drewN ?_ _ | refine blk_drew ?_ | refine blk_alloc ?_ _)); refine blk_far ?_ NB185_198.out _; (with_reducible repeat (first | refine blk_drewN ?_ _ | refine blk_drew ?_ | refine blk_alloc ?_ _)); exact BK185.out⟩
   have n3_ : Aside0 (((((w23.setCell ⟨gb198, 0, none⟩ (.bool t193)).setCell ⟨gb198, 1, none⟩ (.int .u64 t194)).setCell ⟨gb198, 2, none⟩ (.int .u64 t195)).setCell ⟨gb198, 3, none⟩ (.int .i64 t196)).heap[gb191]? = some (.cells #[.bool t186, .int .u64 t187, .int .u64 t188, .int .i64 t189] 26 (0, 0))) := ⟨by (with_reducible repeat (first | refine blk_drewN ?_ _ | refine blk_drew ?_ | refine blk_alloc ?_ _)); refine blk_far ?_ NB191_198.out _; (with_reducible repeat (first | refine blk_drewN ?_ _ | refine blk_drew ?_ | refine blk_alloc ?_ _)); refine blk_far ?_ NB191_198.out _; (with_reducible repeat (first | refine blk_drewN ?_ _ | refine blk_drew ?_ | refine blk_alloc ?_ _)); refine blk_far ?_ NB191_198.out _; (with_reducible repeat (first | refine blk_drewN ?_ _ | refine blk_drew ?_ | refine blk_alloc ?_ _)); refine blk_far ?_ NB191_198.out _; (with_reducible repeat (first | refine blk_drewN ?_ _ | refine blk_drew ?_ | refine blk_alloc ?_ _)); exact BK191.out⟩
   have n4_ : Aside0 (((((w23.setCell ⟨gb198, 0, none⟩ (.bool t193)).setCell ⟨gb198, 1, none⟩ (.int .u64 t194)).setCell ⟨gb198, 2, none⟩ (.int .u64 t195)).setCell ⟨gb198, 3, none⟩ (.int .i64 t196)).heap[gb198]? = some (.cells #[.bool t193, .int .u64 t194, .int .u64 t195, .int .i64 t196] 26 (0, 0))) := ⟨by (with_reducible repeat (first | refine blk_drewN ?_ _ | refine blk_drew ?_ | refine blk_alloc ?_ _)); refine blk_put (cs := #[.bool t193, .int .u64 t194, .int .u64 t195, .int .i64 0]) ?_ 3 _ rfl; (with_reducible repeat (first | refine blk_drewN ?_ _ | refine blk_drew ?_ | refine blk_alloc ?_ _)); refine blk_put (cs := #[.bool t193, .int .u64 t194, .int .u64 0, .int .i64 0]) ?_ 2 _ rfl; (with_reducible repeat (first | refine blk_drewN ?_ _ | refine blk_drew ?_ | refine blk_alloc ?_ _)); refine blk_put (cs := #[.bool t193, .int .u64 0, .int .u64 0, .int .i64 0]) ?_ 1 _ rfl; (with_reducible repeat (first | refine blk_drewN ?_ _ | refine blk_drew ?_ | refine blk_alloc ?_ _)); refine blk_put (cs := #[.bool false, .int .u64 0, .int .u64 0, .int .i64 0]) ?_ 0 _ rfl; (with_reducible repeat (first | refine blk_drewN ?_ _ | refine blk_drew ?_ | refine blk_alloc ?_ _)); exact BK198.out⟩
   have n5_ : Aside0 (Below w.heap.size w ((((w23.setCell ⟨gb198, 0, none⟩ (.bool t193)).setCell ⟨gb198, 1, none⟩ (.int .u64 t194)).setCell ⟨gb198, 2, none⟩ (.int .u64 t195)).setCell ⟨gb198, 3, none⟩ (.int .i64 t196))) := ⟨pE HB⟩
   (try clear BK183)
   (try clear BK184)
   (try clear BK185)
   (try clear BK191)
   (try clear BK198)
   (try clear HB)
   generalize ((((w23.setCell ⟨gb198, 0, none⟩ (.bool t193)).setCell ⟨gb198, 1, none⟩ (.int .u64 t194)).setCell ⟨gb198, 2, none⟩ (.int .u64 t195)).setCell ⟨gb198, 3, none⟩ (.int .i64 t196)) = w29 at n0_ n1_ n2_ n3_ n4_ n5_ ⊢
   have BK183 := n0_
   have BK184 := n1_
   have BK185 := n2_
   have BK191 := n3_
   have BK198 := n4_
   have HB := n5_
   clear n0_ n1_ n2_ n3_ n4_ n5_
   replace BK183 := Aside0.mk (blk_drew BK183.out)
   replace BK184 := Aside0.mk (blk_drew BK184.out)
   replace BK185 := Aside0.mk (blk_drew BK185.out)
   replace BK191 := Aside0.mk (blk_drew BK191.out)
   replace BK198 := Aside0.mk (blk_drew BK198.out)
   replace HB := Aside0.mk (below_drew1 HB.out)
   refine start_ (n := 6) (S := fun w' => w'.cell? ⟨gb191, 0, none⟩ = some (.bool t186) ∧ w'.cell? ⟨gb191, 1, none⟩ = some (.int .u64 t187) ∧ w'.cell? ⟨gb191, 2, none⟩ = some (.int .u64 t188) ∧ w'.cell? ⟨gb191, 3, none⟩ = some (.int .i64 t189) ∧ w'.cell? ⟨gb198, 0, none⟩ = some (.bool t193) ∧ w'.cell? ⟨gb198, 1, none⟩ = some (.int .u64 t194) ∧ w'.cell? ⟨gb198, 2, none⟩ = some (.int .u64 t195) ∧ w'.cell? ⟨gb198, 3, none⟩ = some (.int .i64 t196)) (ds := []) (tk 6 0) (by kernel_rfl) rfl rfl ⟨(blk_cell BK191.out 0).trans rfl, (blk_cell BK191.out 1).trans rfl, (blk_cell BK191.out 2).trans rfl, (blk_cell BK191.out 3).trans rfl, (blk_cell BK198.out 0).trans rfl, (blk_cell BK198.out 1).trans rfl, (blk_cell BK198.out 2).trans rfl, (blk_cell BK198.out 3).trans rfl⟩ (fun hHeld => ?_)
   generalize w29.drew = w30 at BK183 BK184 BK185 BK191 BK198 HB hHeld ⊢
   refine pure_ (i := 2) (N := some 35) (v := ?_) (a' := ?_) (tr [0, 2, 1, 3]) rfl rfl (by kernel_rfl) (fun _ _ _ h => h) (Or.inl ⟨by rfl, ?_⟩) ?_ ?_
   rotate_left
   ·
    intro w'
    go_simp
    with_reducible rfl
   rotate_left
   ·
    simp only [Act.put, List.setIfInBounds_toArray, List.set_cons_zero, List.set_cons_succ, i64_w, i32_w]
    rfl
   refine take_ (i := 0) (N := some 33) (v := ?_) (a' := ?_) (tr [1, 1, 1, 3]) rfl rfl (by kernel_rfl) (fun _ _ _ h => h) (Or.inl ⟨by rfl, ?_⟩) hHeld ?_ ?_
   rotate_left
   ·
    rintro w' ⟨s0, s1, s2, s3, s4, s5, s6, s7⟩
    go_simp
    with_reducible rfl
   rotate_left
   ·
    simp only [Act.put, List.setIfInBounds_toArray, List.set_cons_zero, List.set_cons_succ, i64_w, i32_w]
    rfl
   refine take_ (i := 1) (N := some 34) (v := ?_) (a' := ?_) (tk 6 3) rfl rfl (by kernel_rfl) (fun _ _ _ h => h) (Or.inl ⟨by rfl, ?_⟩) hHeld ?_ ?_
   rotate_left
   ·
    rintro w' ⟨s0, s1, s2, s3, s4, s5, s6, s7⟩
    go_simp
    with_reducible rfl
   rotate_left
   ·
    simp only [Act.put, List.setIfInBounds_toArray, List.set_cons_zero, List.set_cons_succ, i64_w, i32_w]
    rfl
   refine one_ (i := 3) (N := none) (tk 6 4) rfl rfl (by kernel_rfl) (by decide) (fun K hK => ?_)
   have hs31 : w30.cell? ⟨gb184, 0, none⟩ = some (.bool false) := (blk_cell BK184.out 0).trans rfl
   have hfs31 := blk_frozen BK184.out 0
   have hns31_0 := NB183_184.out
   have hns31_2 := NB185_184.out
   have hns31_3 := NB191_184.out
   have hns31_4 := NB198_184.out
   have hms31_0 := NB184_183.out
   have hms31_2 := NB184_185.out
   have hms31_3 := NB184_191.out
   have hms31_4 := NB184_198.out
   have hs32 : w30.cell? ⟨gb184, 1, none⟩ = some (.int .u64 0) := (blk_cell BK184.out 1).trans rfl
   have hfs32 := blk_frozen BK184.out 1
   have hns32_0 := NB183_184.out
   have hns32_2 := NB185_184.out
   have hns32_3 := NB191_184.out
   have hns32_4 := NB198_184.out
   have hms32_0 := NB184_183.out
   have hms32_2 := NB184_185.out
   have hms32_3 := NB184_191.out
   have hms32_4 := NB184_198.out
   have hs33 : w30.cell? ⟨gb184, 2, none⟩ = some (.int .u64 0) := (blk_cell BK184.out 2).trans rfl
   have hfs33 := blk_frozen BK184.out 2
   have hns33_0 := NB183_184.out
   have hns33_2 := NB185_184.out
   have hns33_3 := NB191_184.out
   have hns33_4 := NB198_184.out
   have hms33_0 := NB184_183.out
   have hms33_2 := NB184_185.out
   have hms33_3 := NB184_191.out
   have hms33_4 := NB184_198.out
   have hs34 : w30.cell? ⟨gb184, 3, none⟩ = some (.int .i64 0) := (blk_cell BK184.out 3).trans rfl
   have hfs34 := blk_frozen BK184.out 3
   have hns34_0 := NB183_184.out
   have hns34_2 := NB185_184.out
   have hns34_3 := NB191_184.out
   have hns34_4 := NB198_184.out
   have hms34_0 := NB184_183.out
   have hms34_2 := NB184_185.out
   have hms34_3 := NB184_191.out
   have hms34_4 := NB184_198.out
   refine skip_ (w1 := ?_) (by rfl) rfl ?_ ?_
   rotate_left
   ·
    go_simp
    rfl
   refine hK.out _ _ ⟨((cell_far (p := ⟨gb184, _, none⟩) NB191_184.out _).trans (((cell_far (p := ⟨gb184, _, none⟩) NB191_184.out _).trans (((cell_far (p := ⟨gb184, _, none⟩) NB191_184.out _).trans (((cell_far (p := ⟨gb184, _, none⟩) NB191_184.out _).trans (hHeld.1)))))))), ((cell_far (p := ⟨gb184, _, none⟩) NB191_184.out _).trans (((cell_far (p := ⟨gb184, _, none⟩) NB191_184.out _).trans (((cell_far (p := ⟨gb184, _, none⟩) NB191_184.out _).trans (((cell_far (p := ⟨gb184, _, none⟩) NB191_184.out _).trans (hHeld.2.1)))))))), ((cell_far (p := ⟨gb184, _, none⟩) NB191_184.out _).trans (((cell_far (p := ⟨gb184, _, none⟩) NB191_184.out _).trans (((cell_far (p := ⟨gb184, _, none⟩) NB191_184.out _).trans (((cell_far (p := ⟨gb184, _, none⟩) NB191_184.out _).trans (hHeld.2.2.1)))))))), ((cell_far (p := ⟨gb184, _, none⟩) NB191_184.out _).trans (((cell_far (p := ⟨gb184, _, none⟩) NB191_184.out _).trans (((cell_far (p := ⟨gb184, _, none⟩) NB191_184.out _).trans (((cell_far (p := ⟨gb184, _, none⟩) NB191_184.out _).trans (hHeld.2.2.2.1)))))))), ((cell_far (p := ⟨gb184, _, none⟩) NB198_184.out _).trans (((cell_far (p := ⟨gb184, _, none⟩) NB198_184.out _).trans (((cell_far (p := ⟨gb184, _, none⟩) NB198_184.out _).trans (((cell_far (p := ⟨gb184, _, none⟩) NB198_184.out _).trans (hHeld.2.2.2.2.1)))))))), ((cell_far (p := ⟨gb184, _, none⟩) NB198_184.out _).trans (((cell_far (p := ⟨gb184, _, none⟩) NB198_184.out _).trans (((cell_far (p := ⟨gb184, _, none⟩) NB198_184.out _).trans (((cell_far (p := ⟨gb184, _, none⟩) NB198_184.out _).trans (hHeld.2.2.2.2.2.1)))))))), ((cell_far (p := ⟨gb184, _, none⟩) NB198_184.out _).trans (((cell_far (p := ⟨gb184, _, none⟩) NB198_184.out _).trans (((cell_far (p := ⟨gb184, _, none⟩) NB198_184.out _).trans (((cell_far (p := ⟨gb184, _, none⟩) NB198_184.out _).trans (hHeld.2.2.2.2.2.2.1)))))))), ((cell_far (p := ⟨gb184, _, none⟩) NB198_184.out _).trans (((cell_far (p := ⟨gb184, _, none⟩) NB198_184.out _).trans (((cell_far (p := ⟨gb184, _, none⟩) NB198_184.out _).trans (((cell_far (p := ⟨gb184, _, none⟩) NB198_184.out _).trans (hHeld.2.2.2.2.2.2.2))))))))⟩ (fun hHeld => ?_)
   clear hK K
   refine one_ (i := 4) (N := none) (tk 6 5) rfl rfl (by kernel_rfl) (by decide) (fun K hK => ?_)
   have hs35 : w30.cell? ⟨gb185, 0, none⟩ = some (.bool false) := (blk_cell BK185.out 0).trans rfl
   have hfs35 := blk_frozen BK185.out 0
   have hns35_0 := NB183_185.out
   have hns35_1 := NB184_185.out
   have hns35_3 := NB191_185.out
   have hns35_4 := NB198_185.out
   have hms35_0 := NB185_183.out
   have hms35_1 := NB185_184.out
   have hms35_3 := NB185_191.out
   have hms35_4 := NB185_198.out
   have hs36 : w30.cell? ⟨gb185, 1, none⟩ = some (.int .u64 0) := (blk_cell BK185.out 1).trans rfl
   have hfs36 := blk_frozen BK185.out 1
   have hns36_0 := NB183_185.out
   have hns36_1 := NB184_185.out
   have hns36_3 := NB191_185.out
   have hns36_4 := NB198_185.out
   have hms36_0 := NB185_183.out
   have hms36_1 := NB185_184.out
   have hms36_3 := NB185_191.out
   have hms36_4 := NB185_198.out
   have hs37 : w30.cell? ⟨gb185, 2, none⟩ = some (.int .u64 0) := (blk_cell BK185.out 2).trans rfl
   have hfs37 := blk_frozen BK185.out 2
   have hns37_0 := NB183_185.out
   have hns37_1 := NB184_185.out
   have hns37_3 := NB191_185.out
   have hns37_4 := NB198_185.out
   have hms37_0 := NB185_183.out
   have hms37_1 := NB185_184.out
   have hms37_3 := NB185_191.out
   have hms37_4 := NB185_198.out
   have hs38 : w30.cell? ⟨gb185, 3, none⟩ = some (.int .i64 0) := (blk_cell BK185.out 3).trans rfl
   have hfs38 := blk_frozen BK185.out 3
   have hns38_0 := NB183_185.out
   have hns38_1 := NB184_185.out
   have hns38_3 := NB191_185.out
   have hns38_4 := NB198_185.out
   have hms38_0 := NB185_183.out
   have hms38_1 := NB185_184.out
   have hms38_3 := NB185_191.out
   have hms38_4 := NB185_198.out
   refine skip_ (w1 := ?_) (by rfl) rfl ?_ ?_
   rotate_left
   ·
    go_simp
    rfl
   refine hK.out _ _ ⟨((cell_far (p := ⟨gb185, _, none⟩) NB191_185.out _).trans (((cell_far (p := ⟨gb185, _, none⟩) NB191_185.out _).trans (((cell_far (p := ⟨gb185, _, none⟩) NB191_185.out _).trans (((cell_far (p := ⟨gb185, _, none⟩) NB191_185.out _).trans (hHeld.1)))))))), ((cell_far (p := ⟨gb185, _, none⟩) NB191_185.out _).trans (((cell_far (p := ⟨gb185, _, none⟩) NB191_185.out _).trans (((cell_far (p := ⟨gb185, _, none⟩) NB191_185.out _).trans (((cell_far (p := ⟨gb185, _, none⟩) NB191_185.out _).trans (hHeld.2.1)))))))), ((cell_far (p := ⟨gb185, _, none⟩) NB191_185.out _).trans (((cell_far (p := ⟨gb185, _, none⟩) NB191_185.out _).trans (((cell_far (p := ⟨gb185, _, none⟩) NB191_185.out _).trans (((cell_far (p := ⟨gb185, _, none⟩) NB191_185.out _).trans (hHeld.2.2.1)))))))), ((cell_far (p := ⟨gb185, _, none⟩) NB191_185.out _).trans (((cell_far (p := ⟨gb185, _, none⟩) NB191_185.out _).trans (((cell_far (p := ⟨gb185, _, none⟩) NB191_185.out _).trans (((cell_far (p := ⟨gb185, _, none⟩) NB191_185.out _).trans (hHeld.2.2.2.1)))))))), ((cell_far (p := ⟨gb185, _, none⟩) NB198_185.out _).trans (((cell_far (p := ⟨gb185, _, none⟩) NB198_185.out _).trans (((cell_far (p := ⟨gb185, _, none⟩) NB198_185.out _).trans (((cell_far (p := ⟨gb185, _, none⟩) NB198_185.out _).trans (hHeld.2.2.2.2.1)))))))), ((cell_far (p := ⟨gb185, _, none⟩) NB198_185.out _).trans (((cell_far (p := ⟨gb185, _, none⟩) NB198_185.out _).trans (((cell_far (p := ⟨gb185, _, none⟩) NB198_185.out _).trans (((cell_far (p := ⟨gb185, _, none⟩) NB198_185.out _).trans (hHeld.2.2.2.2.2.1)))))))), ((cell_far (p := ⟨gb185, _, none⟩) NB198_185.out _).trans (((cell_far (p := ⟨gb185, _, none⟩) NB198_185.out _).trans (((cell_far (p := ⟨gb185, _, none⟩) NB198_185.out _).trans (((cell_far (p := ⟨gb185, _, none⟩) NB198_185.out _).trans (hHeld.2.2.2.2.2.2.1)))))))), ((cell_far (p := ⟨gb185, _, none⟩) NB198_185.out _).trans (((cell_far (p := ⟨gb185, _, none⟩) NB198_185.out _).trans (((cell_far (p := ⟨gb185, _, none⟩) NB198_185.out _).trans (((cell_far (p := ⟨gb185, _, none⟩) NB198_185.out _).trans (hHeld.2.2.2.2.2.2.2))))))))⟩ (fun hHeld => ?_)
   clear hK K
   refine pure_ (i := 5) (N := some 4) (v := ?_) (a' := ?_) (tk 6 6) rfl rfl (by kernel_rfl) (fun _ _ _ h => h) (Or.inl ⟨by rfl, ?_⟩) ?_ ?_
   rotate_left
   ·
    intro w'
    go_simp
    with_reducible rfl
   rotate_left
   ·
    simp only [Act.put, List.setIfInBounds_toArray, List.set_cons_zero, List.set_cons_succ, i64_w, i32_w]
    rfl
   refine done_ (by kernel_rfl) ?_
   try go_wp2
   refine bodyPost_ret (results_list (rs := [.cell 2 26, .cell 3 26, .tmp 4]) rfl (by simp) (.cell gb184 26 #[.bool t186, .int .u64 t187, .int .u64 t188, .int .i64 t189] (0, 0) _ rfl (pK NB184_185 (pK NB184_185 (pK NB184_185 (pK NB184_185 (pP (pP (pP (pP (pM BK184))))))))) Tryz.underlying26 rfl (by kernel_rfl) (.cell gb185 26 #[.bool t193, .int .u64 t194, .int .u64 t195, .int .i64 t196] (0, 0) _ rfl (pP (pP (pP (pP (pK NB185_184 (pK NB185_184 (pK NB185_184 (pK NB185_184 (pM BK185))))))))) Tryz.underlying26 rfl (by kernel_rfl) (.tmp .nil)))) rfl ?_
   exact pR (pE HB)
  ·
   replace c5 := Bool.eq_false_iff.mpr c5
   subst c5
   rw [if_neg (show ¬ (false = true) by decide)] at H
   simp only [Option.some.injEq, Prod.mk.injEq] at H
   obtain ⟨rfl, rfl, rfl, rfl, rfl, rfl, rfl, rfl, rfl⟩ := H
   go_enter Tryz.func12, Tryz.ntmps12
   go_wp2_with (first | ((with_reducible refine gate_dst (N := 1) rfl ?_); refine boxA (N := 1) (cs := #[.bool a0_0, .int .u64 a0_1, .int .u64 a0_2, .int .i64 a0_3]) (t := 26) ?_; intro gb183 hg w39 hbox hb; have BK183 := Aside0.mk (hbox); have GW183 := (pZ HB hg); have GE183 := (pZ HB hg); replace HB := (pS HB hb); clear hb hbox hg) | ((with_reducible refine gate_dst (N := 2) rfl ?_); refine boxA (N := 2) (cs := #[.bool false, .int .u64 0, .int .u64 0, .int .i64 0]) (t := 26) ?_; intro gb184 hg w40 hbox hb; have BK184 := Aside0.mk (hbox); have GW184 := (pZ HB hg); have GE184 := (pZ HB hg); have NB183_184 := (pL BK183 hg); have NB184_183 := (pG BK183 hg); replace BK183 := (pB BK183 hb); replace HB := (pS HB hb); clear hb hbox hg) | ((with_reducible refine gate_dst (N := 3) rfl ?_); refine boxA (N := 3) (cs := #[.bool false, .int .u64 0, .int .u64 0, .int .i64 0]) (t := 26) ?_; intro gb185 hg w41 hbox hb; have BK185 := Aside0.mk (hbox); have GW185 := (pZ HB hg); have GE185 := (pZ HB hg); have NB183_185 := (pL BK183 hg); have NB185_183 := (pG BK183 hg); have NB184_185 := (pL BK184 hg); have NB185_184 := (pG BK184 hg); replace BK183 := (pB BK183 hb); replace BK184 := (pB BK184 hb); replace HB := (pS HB hb); clear hb hbox hg; have hnb42 := NB183_184.out; have hnc42 := NB184_183.out; have hnb43 := NB183_185.out; have hnc43 := NB185_183.out; obtain ⟨hcz44_0, hcz44_1, hcz44_2, hcz44_3, hfz44_0, hfz44_1, hfz44_2, hfz44_3⟩ := pC4 BK183) | ((with_reducible refine gate_callee (f := 14) rfl ?_); refine goesA (some 13) Tryz.func14 #[.agg #[.bool a0_0, .int .u64 a0_1, .int .u64 a0_2, .int .i64 a0_3], .int .i64 (wrap64 (a0_3 + 1)), .int .u64 0] ?_; (with_reducible refine (prefix_Part.calls k a0_0 a0_1 a0_2 a0_3 (wrap64 (a0_3 + 1)) 0 t186 t187 t188 t189 true _ A2.out).mono ?_); rintro e w45 ⟨rfl, hb⟩; refine ⟨_, rfl, ?_⟩; replace BK183 := (pB BK183 hb); replace BK184 := (pB BK184 hb); replace BK185 := (pB BK185 hb); replace HB := (pS HB hb); (try clear hb)) | ((with_reducible refine gate_dst (N := 5) rfl ?_); refine boxA (N := 5) (cs := #[.bool false, .int .u64 0, .int .u64 0, .int .i64 0]) (t := 26) ?_; intro gb191 hg w46 hbox hb; have BK191 := Aside0.mk (hbox); have GW191 := (pZ HB hg); have GE191 := (pZ HB hg); have NB183_191 := (pL BK183 hg); have NB191_183 := (pG BK183 hg); have NB184_191 := (pL BK184 hg); have NB191_184 := (pG BK184 hg); have NB185_191 := (pL BK185 hg); have NB191_185 := (pG BK185 hg); replace BK183 := (pB BK183 hb); replace BK184 := (pB BK184 hb); replace BK185 := (pB BK185 hb); replace HB := (pS HB hb); clear hb hbox hg; have hnb47 := NB191_183.out; have hnc47 := NB183_191.out; have hnb48 := NB191_184.out; have hnc48 := NB184_191.out; have hnb49 := NB191_185.out; have hnc49 := NB185_191.out; obtain ⟨hcz50_0, hcz50_1, hcz50_2, hcz50_3, hfz50_0, hfz50_1, hfz50_2, hfz50_3⟩ := pC4 BK191; obtain ⟨hcz51_0, hcz51_1, hcz51_2, hcz51_3, hfz51_0, hfz51_1, hfz51_2, hfz51_3⟩ := pC4 BK183) | (go_at_call 26; (with_reducible refine (prefix_Valid.calls a0_0 a0_1 a0_2 a0_3 false _ A4.out).mono ?_); rintro e w52 ⟨rfl, hb⟩; replace BK183 := (pD hb (pK NB183_191 (pK NB183_191 (pK NB183_191 (pK NB183_191 (pM BK183)))))); replace BK184 := (pD hb (pK NB184_191 (pK NB184_191 (pK NB184_191 (pK NB184_191 (pM BK184)))))); replace BK185 := (pD hb (pK NB185_191 (pK NB185_191 (pK NB185_191 (pK NB185_191 (pM BK185)))))); replace BK191 := (pD hb (pP (pP (pP (pP (pM BK191)))))); replace HB := (pS HB hb); (try clear hb); have hnb53 := NB184_185.out; have hnc53 := NB185_184.out; obtain ⟨hcz54_0, hcz54_1, hcz54_2, hcz54_3, hfz54_0, hfz54_1, hfz54_2, hfz54_3⟩ := pC4 BK184; obtain ⟨hcz55_0, hcz55_1, hcz55_2, hcz55_3, hfz55_0, hfz55_1, hfz55_2, hfz55_3⟩ := pC4 BK185) | ((with_reducible refine gate_store (t := 26) (p := 3) rfl ?_); refine store_event (t := 26) (p := 3) (v := ?vo_w56) (w1 := ((((((((w52.setCell ⟨gb184, 0, none⟩ (.bool false)).setCell ⟨gb184, 1, none⟩ (.int .u64 0)).setCell ⟨gb184, 2, none⟩ (.int .u64 0)).setCell ⟨gb184, 3, none⟩ (.int .i64 0)).setCell ⟨gb185, 0, none⟩ (.bool false)).setCell ⟨gb185, 1, none⟩ (.int .u64 0)).setCell ⟨gb185, 2, none⟩ (.int .u64 0)).setCell ⟨gb185, 3, none⟩ (.int .i64 0))) ?hg ?ho ?hn ?hr ?_; (case ho => rfl); (case hg => rfl); (case hn => rfl); (case hr => first | (exact Ext.run_store_chain 26 _ _ rfl _ _ _ _ rfl rfl (pK NB185_184 (pK NB185_184 (pK NB185_184 (pK NB185_184 (pM BK185))))) (by kernel_rfl) rfl rfl rfl) | (go_simp; done) | (go_simp; rfl)); intro w56 hw; replace BK183 : Aside0 (w56.heap[gb183]? = some (.cells #[.bool a0_0, .int .u64 a0_1, .int .u64 a0_2, .int .i64 a0_3] 26 (0, 0))) := (pW hw (pK NB183_185 (pK NB183_185 (pK NB183_185 (pK NB183_185 (pK NB183_184 (pK NB183_184 (pK NB183_184 (pK NB183_184 (pM BK183)))))))))); replace BK184 : Aside0 (w56.heap[gb184]? = some (.cells #[.bool false, .int .u64 0, .int .u64 0, .int .i64 0] 26 (0, 0))) := (pW hw (pK NB184_185 (pK NB184_185 (pK NB184_185 (pK NB184_185 (pP (pP (pP (pP (pM BK184)))))))))); replace BK185 : Aside0 (w56.heap[gb185]? = some (.cells #[.bool false, .int .u64 0, .int .u64 0, .int .i64 0] 26 (0, 0))) := (pW hw (pP (pP (pP (pP (pK NB185_184 (pK NB185_184 (pK NB185_184 (pK NB185_184 (pM BK185)))))))))); replace BK191 : Aside0 (w56.heap[gb191]? = some (.cells #[.bool t186, .int .u64 t187, .int .u64 t188, .int .i64 t189] 26 (0, 0))) := (pW hw (pK NB191_185 (pK NB191_185 (pK NB191_185 (pK NB191_185 (pK NB191_184 (pK NB191_184 (pK NB191_184 (pK NB191_184 (pM BK191)))))))))); replace HB : Aside0 (Below w.heap.size w w56) := ⟨(by rw [hw]; exact (by repeat (first | (with_reducible first | exact HB.out | apply below_alloc | apply pw_below_drewN | apply below_drew1 | refine below_set ?_ GE183.out | refine below_set ?_ GE184.out | refine below_set ?_ GE185.out | refine below_set ?_ GE191.out) | exact HB.out)))⟩; clear hw))
   refine bodyPost_ret (results_list (rs := [.cell 2 26, .cell 3 26, .tmp 4]) rfl (by simp) (.cell gb184 26 #[.bool false, .int .u64 0, .int .u64 0, .int .i64 0] (0, 0) _ rfl (pM BK184) Tryz.underlying26 rfl (by kernel_rfl) (.cell gb185 26 #[.bool false, .int .u64 0, .int .u64 0, .int .i64 0] (0, 0) _ rfl (pM BK185) Tryz.underlying26 rfl (by kernel_rfl) (.tmp .nil)))) rfl ?_
   exact pR (pE HB)
 ·
  replace c3 := Bool.eq_false_iff.mpr c3
  subst c3
  rw [if_neg (show ¬ (false = true) by decide)] at H
  simp only [Option.some.injEq, Prod.mk.injEq] at H
  obtain ⟨rfl, rfl, rfl, rfl, rfl, rfl, rfl, rfl, rfl⟩ := H
  go_enter Tryz.func12, Tryz.ntmps12
  go_wp2_with (first | ((with_reducible refine gate_dst (N := 1) rfl ?_); refine boxA (N := 1) (cs := #[.bool a0_0, .int .u64 a0_1, .int .u64 a0_2, .int .i64 a0_3]) (t := 26) ?_; intro gb183 hg w57 hbox hb; have BK183 := Aside0.mk (hbox); have GW183 := (pZ HB hg); have GE183 := (pZ HB hg); replace HB := (pS HB hb); clear hb hbox hg) | ((with_reducible refine gate_dst (N := 2) rfl ?_); refine boxA (N := 2) (cs := #[.bool false, .int .u64 0, .int .u64 0, .int .i64 0]) (t := 26) ?_; intro gb184 hg w58 hbox hb; have BK184 := Aside0.mk (hbox); have GW184 := (pZ HB hg); have GE184 := (pZ HB hg); have NB183_184 := (pL BK183 hg); have NB184_183 := (pG BK183 hg); replace BK183 := (pB BK183 hb); replace HB := (pS HB hb); clear hb hbox hg) | ((with_reducible refine gate_dst (N := 3) rfl ?_); refine boxA (N := 3) (cs := #[.bool false, .int .u64 0, .int .u64 0, .int .i64 0]) (t := 26) ?_; intro gb185 hg w59 hbox hb; have BK185 := Aside0.mk (hbox); have GW185 := (pZ HB hg); have GE185 := (pZ HB hg); have NB183_185 := (pL BK183 hg); have NB185_183 := (pG BK183 hg); have NB184_185 := (pL BK184 hg); have NB185_184 := (pG BK184 hg); replace BK183 := (pB BK183 hb); replace BK184 := (pB BK184 hb); replace HB := (pS HB hb); clear hb hbox hg; have hnb60 := NB183_184.out; have hnc60 := NB184_183.out; have hnb61 := NB183_185.out; have hnc61 := NB185_183.out; obtain ⟨hcz62_0, hcz62_1, hcz62_2, hcz62_3, hfz62_0, hfz62_1, hfz62_2, hfz62_3⟩ := pC4 BK183) | ((with_reducible refine gate_callee (f := 14) rfl ?_); refine goesA (some 13) Tryz.func14 #[.agg #[.bool a0_0, .int .u64 a0_1, .int .u64 a0_2, .int .i64 a0_3], .int .i64 (wrap64 (a0_3 + 1)), .int .u64 0] ?_; (with_reducible refine (prefix_Part.calls k a0_0 a0_1 a0_2 a0_3 (wrap64 (a0_3 + 1)) 0 t186 t187 t188 t189 false _ A2.out).mono ?_); rintro e w63 ⟨rfl, hb⟩; refine ⟨_, rfl, ?_⟩; replace BK183 := (pB BK183 hb); replace BK184 := (pB BK184 hb); replace BK185 := (pB BK185 hb); replace HB := (pS HB hb); (try clear hb)) | ((with_reducible refine gate_dst (N := 5) rfl ?_); refine boxA (N := 5) (cs := #[.bool false, .int .u64 0, .int .u64 0, .int .i64 0]) (t := 26) ?_; intro gb191 hg w64 hbox hb; have BK191 := Aside0.mk (hbox); have GW191 := (pZ HB hg); have GE191 := (pZ HB hg); have NB183_191 := (pL BK183 hg); have NB191_183 := (pG BK183 hg); have NB184_191 := (pL BK184 hg); have NB191_184 := (pG BK184 hg); have NB185_191 := (pL BK185 hg); have NB191_185 := (pG BK185 hg); replace BK183 := (pB BK183 hb); replace BK184 := (pB BK184 hb); replace BK185 := (pB BK185 hb); replace HB := (pS HB hb); clear hb hbox hg; have hnb65 := NB191_183.out; have hnc65 := NB183_191.out; have hnb66 := NB191_184.out; have hnc66 := NB184_191.out; have hnb67 := NB191_185.out; have hnc67 := NB185_191.out; obtain ⟨hcz68_0, hcz68_1, hcz68_2, hcz68_3, hfz68_0, hfz68_1, hfz68_2, hfz68_3⟩ := pC4 BK191; have hnb69 := NB184_185.out; have hnc69 := NB185_184.out; obtain ⟨hcz70_0, hcz70_1, hcz70_2, hcz70_3, hfz70_0, hfz70_1, hfz70_2, hfz70_3⟩ := pC4 BK184) | ((with_reducible refine gate_store (t := 26) (p := 2) rfl ?_); refine store_event (t := 26) (p := 2) (v := ?vo_w71) (w1 := ((((((((w64.setCell ⟨gb191, 0, none⟩ (.bool t186)).setCell ⟨gb191, 1, none⟩ (.int .u64 t187)).setCell ⟨gb191, 2, none⟩ (.int .u64 t188)).setCell ⟨gb191, 3, none⟩ (.int .i64 t189)).setCell ⟨gb184, 0, none⟩ (.bool false)).setCell ⟨gb184, 1, none⟩ (.int .u64 0)).setCell ⟨gb184, 2, none⟩ (.int .u64 0)).setCell ⟨gb184, 3, none⟩ (.int .i64 0))) ?hg ?ho ?hn ?hr ?_; (case ho => rfl); (case hg => rfl); (case hn => rfl); (case hr => first | (exact Ext.run_store_chain 26 _ _ rfl _ _ _ _ rfl rfl (pK NB184_191 (pK NB184_191 (pK NB184_191 (pK NB184_191 (pM BK184))))) (by kernel_rfl) rfl rfl rfl) | (go_simp; done) | (go_simp; rfl)); intro w71 hw; replace BK183 : Aside0 (w71.heap[gb183]? = some (.cells #[.bool a0_0, .int .u64 a0_1, .int .u64 a0_2, .int .i64 a0_3] 26 (0, 0))) := (pW hw (pK NB183_184 (pK NB183_184 (pK NB183_184 (pK NB183_184 (pK NB183_191 (pK NB183_191 (pK NB183_191 (pK NB183_191 (pM BK183)))))))))); replace BK184 : Aside0 (w71.heap[gb184]? = some (.cells #[.bool false, .int .u64 0, .int .u64 0, .int .i64 0] 26 (0, 0))) := (pW hw (pP (pP (pP (pP (pK NB184_191 (pK NB184_191 (pK NB184_191 (pK NB184_191 (pM BK184)))))))))); replace BK185 : Aside0 (w71.heap[gb185]? = some (.cells #[.bool false, .int .u64 0, .int .u64 0, .int .i64 0] 26 (0, 0))) := (pW hw (pK NB185_184 (pK NB185_184 (pK NB185_184 (pK NB185_184 (pK NB185_191 (pK NB185_191 (pK NB185_191 (pK NB185_191 (pM BK185)))))))))); replace BK191 : Aside0 (w71.heap[gb191]? = some (.cells #[.bool t186, .int .u64 t187, .int .u64 t188, .int .i64 t189] 26 (0, 0))) := (pW hw (pK NB191_184 (pK NB191_184 (pK NB191_184 (pK NB191_184 (pP (pP (pP (pP (pM BK191)))))))))); replace HB : Aside0 (Below w.heap.size w w71) := ⟨(by rw [hw]; exact (by repeat (first | (with_reducible first | exact HB.out | apply below_alloc | apply pw_below_drewN | apply below_drew1 | refine below_set ?_ GE183.out | refine below_set ?_ GE184.out | refine below_set ?_ GE185.out | refine below_set ?_ GE191.out) | exact HB.out)))⟩; clear hw; obtain ⟨hcz72_0, hcz72_1, hcz72_2, hcz72_3, hfz72_0, hfz72_1, hfz72_2, hfz72_3⟩ := pC4 BK185))
  refine bodyPost_ret (results_list (rs := [.cell 2 26, .cell 3 26, .tmp 4]) rfl (by simp) (.cell gb184 26 #[.bool false, .int .u64 0, .int .u64 0, .int .i64 0] (0, 0) _ rfl (pK NB184_185 (pK NB184_185 (pK NB184_185 (pK NB184_185 (pM BK184))))) Tryz.underlying26 rfl (by kernel_rfl) (.cell gb185 26 #[.bool false, .int .u64 0, .int .u64 0, .int .i64 0] (0, 0) _ rfl (pP (pP (pP (pP (pM BK185))))) Tryz.underlying26 rfl (by kernel_rfl) (.tmp .nil)))) rfl ?_
  exact pR (pE HB)

/-! ### prefix_Size: function 16 -/
def prefix_Size.f (a0_0 : Bool) (a0_1 : Int) (a0_2 : Int) (a0_3 : Int) : Option (Int × Bool) := (prefix_Valid.f a0_0 a0_1 a0_2 a0_3).bind fun t200 => (if t200 = true then ((prefix_length.f a0_0 a0_1 a0_2).bind fun t201 => (if (wrap64 (t201 - a0_3)) ≥ 64 then (some (0, false)) else (if 0 ≤ (IntKind.u64.wrap (wrap64 (t201 - a0_3))) then (some (shl .u64 1 (IntKind.u64.wrap (wrap64 (t201 - a0_3))), true)) else (none)))) else (some (0, false)))
set_option maxHeartbeats 40000000 in
set_option maxRecDepth 100000 in
theorem prefix_Size.calls (a0_0 : Bool) (a0_1 : Int) (a0_2 : Int) (a0_3 : Int) (r1 : Int) (r2 : Bool) (w : World) (h : prefix_Size.f a0_0 a0_1 a0_2 a0_3 = some (r1, r2)) :
 Calls Tryz.prog 16 #[.agg #[.bool a0_0, .int .u64 a0_1, .int .u64 a0_2, .int .i64 a0_3]] w fun e w' => e = .returned (.tuple #[.int .u64 r1, .bool r2]) ∧ Below w.heap.size w w' := by
 have hu26 := Tryz.underlying26
 have hu24 := Tryz.underlying24
 have HB := Aside0.mk (Below.refl w.heap.size w)
 have H : ((prefix_Valid.f a0_0 a0_1 a0_2 a0_3).bind fun t200 => (if t200 = true then ((prefix_length.f a0_0 a0_1 a0_2).bind fun t201 => (if (wrap64 (t201 - a0_3)) ≥ 64 then (some (0, false)) else (if 0 ≤ (IntKind.u64.wrap (wrap64 (t201 - a0_3))) then (some (shl .u64 1 (IntKind.u64.wrap (wrap64 (t201 - a0_3))), true)) else (none)))) else (some (0, false)))) = some (r1, r2) := h
 clear h
 replace H := Option.bind_eq_some_iff.mp H
 obtain ⟨t200, A20, H⟩ := H
 have A2 := Aside0.mk A20
 clear A20
 by_cases c3 : t200 = true
 ·
  subst c3
  have H1 : ((prefix_length.f a0_0 a0_1 a0_2).bind fun t201 => (if (wrap64 (t201 - a0_3)) ≥ 64 then (some (0, false)) else (if 0 ≤ (IntKind.u64.wrap (wrap64 (t201 - a0_3))) then (some (shl .u64 1 (IntKind.u64.wrap (wrap64 (t201 - a0_3))), true)) else (none)))) = some (r1, r2) := by rw [if_pos rfl] at H; exact H
  clear H
  have H := H1
  clear H1
  replace H := Option.bind_eq_some_iff.mp H
  obtain ⟨t201, A40, H⟩ := H
  have A4 := Aside0.mk A40
  clear A40
  by_cases c5 : (wrap64 (t201 - a0_3)) ≥ 64
  ·
   rw [if_pos c5] at H
   have c5b0 := decide_eq_true c5
   clear c5
   simp only [Option.some.injEq, Prod.mk.injEq] at H
   obtain ⟨rfl, rfl⟩ := H
   go_enter Tryz.func16, Tryz.ntmps16
   try go_wp2_with (first | ((with_reducible refine gate_dst (N := 1) rfl ?_); refine boxA (N := 1) (cs := #[.bool a0_0, .int .u64 a0_1, .int .u64 a0_2, .int .i64 a0_3]) (t := 26) ?_; intro gb199 hg w6 hbox hb; have BK199 := Aside0.mk (hbox); have GW199 := (pZ HB hg); have GE199 := (pZ HB hg); replace HB := (pS HB hb); clear hb hbox hg; obtain ⟨hcz7_0, hcz7_1, hcz7_2, hcz7_3, hfz7_0, hfz7_1, hfz7_2, hfz7_3⟩ := pC4 BK199) | ((with_reducible refine gate_callee (f := 26) rfl ?_); refine goesA (some 6) Tryz.func26 #[.agg #[.bool a0_0, .int .u64 a0_1, .int .u64 a0_2, .int .i64 a0_3]] ?_; (with_reducible refine (prefix_Valid.calls a0_0 a0_1 a0_2 a0_3 true _ A2.out).mono ?_); rintro e w8 ⟨rfl, hb⟩; refine ⟨_, rfl, ?_⟩; replace BK199 := (pB BK199 hb); replace HB := (pS HB hb); (try clear hb)))
   replace BK199 := Aside0.mk (blk_drew BK199.out)
   replace HB := Aside0.mk (below_drew1 HB.out)
   refine start_ (n := 7) (S := fun w' => w'.cell? ⟨gb199, 0, none⟩ = some (.bool a0_0) ∧ w'.cell? ⟨gb199, 1, none⟩ = some (.int .u64 a0_1) ∧ w'.cell? ⟨gb199, 2, none⟩ = some (.int .u64 a0_2) ∧ w'.cell? ⟨gb199, 3, none⟩ = some (.int .i64 a0_3)) (ds := []) (tk 7 0) (by kernel_rfl) rfl rfl ⟨(blk_cell BK199.out 0).trans rfl, (blk_cell BK199.out 1).trans rfl, (blk_cell BK199.out 2).trans rfl, (blk_cell BK199.out 3).trans rfl⟩ (fun hHeld => ?_)
   generalize w8.drew = w9 at BK199 HB hHeld ⊢
   refine pure_ (i := 0) (N := some 8) (v := ?_) (a' := ?_) (tk 7 1) rfl rfl (by kernel_rfl) (fun _ _ _ h => h) (Or.inl ⟨by rfl, ?_⟩) ?_ ?_
   rotate_left
   ·
    intro w'
    go_simp
    with_reducible rfl
   rotate_left
   ·
    simp only [Act.put, List.setIfInBounds_toArray, List.set_cons_zero, List.set_cons_succ, i64_w, i32_w]
    rfl
   refine pure_ (i := 3) (N := some 11) (v := ?_) (a' := ?_) (tr [1, 2, 1, 3]) rfl rfl (by kernel_rfl) (fun _ _ _ h => h) (Or.inl ⟨by rfl, ?_⟩) ?_ ?_
   rotate_left
   ·
    intro w'
    go_simp
    with_reducible rfl
   rotate_left
   ·
    simp only [Act.put, List.setIfInBounds_toArray, List.set_cons_zero, List.set_cons_succ, i64_w, i32_w]
    rfl
   refine take_ (i := 1) (N := some 9) (v := ?_) (a' := ?_) (tr [2, 1, 1, 3]) rfl rfl (by kernel_rfl) (fun _ _ _ h => h) (Or.inl ⟨by rfl, ?_⟩) hHeld ?_ ?_
   rotate_left
   ·
    rintro w' ⟨s0, s1, s2, s3⟩
    go_simp
    with_reducible rfl
   rotate_left
   ·
    simp only [Act.put, List.setIfInBounds_toArray, List.set_cons_zero, List.set_cons_succ, i64_w, i32_w]
    rfl
   refine take_ (i := 4) (N := some 12) (v := ?_) (a' := ?_) (tr [2, 1, 2, 2]) rfl rfl (by kernel_rfl) (fun _ _ _ h => h) (Or.inl ⟨by rfl, ?_⟩) hHeld ?_ ?_
   rotate_left
   ·
    rintro w' ⟨s0, s1, s2, s3⟩
    go_simp
    with_reducible rfl
   rotate_left
   ·
    simp only [Act.put, List.setIfInBounds_toArray, List.set_cons_zero, List.set_cons_succ, i64_w, i32_w]
    rfl
   refine one_ (i := 2) (N := some 10) (tk 7 5) rfl rfl (by kernel_rfl) (by decide) (fun K hK => ?_)
   refine goesR Tryz.func46 #[.agg #[.bool a0_0, .int .u64 a0_1, .int .u64 a0_2]] ?_
   with_reducible refine (prefix_length.calls a0_0 a0_1 a0_2 t201 _ A4.out).mono ?_
   rintro e w10 ⟨rfl, hb⟩
   refine ⟨_, rfl, ?_⟩
   replace BK199 := (pB BK199 hb)
   replace HB := (pS HB hb)
   (try clear hb)
   refine hK.out _ _ ⟨(blk_cell BK199.out 0).trans rfl, (blk_cell BK199.out 1).trans rfl, (blk_cell BK199.out 2).trans rfl, (blk_cell BK199.out 3).trans rfl⟩ (fun hHeld => ?_)
   clear hK K
   refine normA (N := some 10) ?_
   refine pure_ (i := 5) (N := some 13) (v := ?_) (a' := ?_) (tk 7 6) rfl rfl (by kernel_rfl) (fun _ _ _ h => h) (Or.inl ⟨by rfl, ?_⟩) ?_ ?_
   rotate_left
   ·
    intro w'
    go_simp
    with_reducible rfl
   rotate_left
   ·
    simp only [Act.put, List.setIfInBounds_toArray, List.set_cons_zero, List.set_cons_succ, i64_w, i32_w]
    rfl
   refine pure_ (i := 6) (N := some 4) (v := ?_) (a' := ?_) (tk 7 7) rfl rfl (by kernel_rfl) (fun _ _ _ h => h) (Or.inl ⟨by rfl, ?_⟩) ?_ ?_
   rotate_left
   ·
    intro w'
    go_simp
    with_reducible rfl
   rotate_left
   ·
    simp only [Act.put, List.setIfInBounds_toArray, List.set_cons_zero, List.set_cons_succ, i64_w, i32_w]
    rfl
   refine done_ (by kernel_rfl) ?_
   try go_wp2
   go_ret2
   exact pR (pE HB)
  ·
   rw [if_neg c5] at H
   have c5b0 := decide_eq_false c5
   clear c5
   obtain ⟨ji11, hji11⟩ : ∃ j_ : Int, (IntKind.u64.wrap (wrap64 (t201 - a0_3))) = j_ := ⟨_, rfl⟩
   replace H : (if 0 ≤ (ji11) then (some (shl .u64 1 (ji11), true)) else (none)) = some (r1, r2) := by first | (rw [hji11] at H; exact H) | (simp only [hji11] at H ⊢; exact H)
   (try rw [hji11] at A2)
   (try rw [hji11] at A4)
   by_cases c12 : 0 ≤ (ji11)
   ·
    rw [if_pos c12] at H
    have c12b0 := eq_true c12
    have c12b1 := decide_eq_true c12
    clear c12
    obtain ⟨ji13, hji13⟩ : ∃ j_ : Int, (shl .u64 1 (ji11)) = j_ := ⟨_, rfl⟩
    (try rw [hji13] at hji11)
    replace H : (some (ji13, true)) = some (r1, r2) := by first | (rw [hji13] at H; exact H) | (simp only [hji13] at H ⊢; exact H)
    (try rw [hji13] at A2)
    (try rw [hji13] at A4)
    have hji13_ : (IntKind.u64.wrap (1 * 2 ^ min (ji11).toNat 64)) = ji13 := hji13
    have hji13z : (ji11) ≤ 64 → (IntKind.u64.wrap (1 * 2 ^ (ji11).toNat)) = ji13 := shl_small hji13
    have hji13u : (IntKind.u64.wrap (2 ^ min (ji11).toNat 64)) = ji13 := by have h_ := hji13_; rw [Int.one_mul] at h_; exact h_
    have hji13v : (ji11) ≤ 64 → (IntKind.u64.wrap (2 ^ (ji11).toNat)) = ji13 := fun hle_ => by have h_ := hji13z hle_; rw [Int.one_mul] at h_; exact h_
    simp only [Option.some.injEq, Prod.mk.injEq] at H
    obtain ⟨rfl, rfl⟩ := H
    go_enter Tryz.func16, Tryz.ntmps16
    try go_wp2_with (first | ((with_reducible refine gate_dst (N := 1) rfl ?_); refine boxA (N := 1) (cs := #[.bool a0_0, .int .u64 a0_1, .int .u64 a0_2, .int .i64 a0_3]) (t := 26) ?_; intro gb199 hg w14 hbox hb; have BK199 := Aside0.mk (hbox); have GW199 := (pZ HB hg); have GE199 := (pZ HB hg); replace HB := (pS HB hb); clear hb hbox hg; obtain ⟨hcz15_0, hcz15_1, hcz15_2, hcz15_3, hfz15_0, hfz15_1, hfz15_2, hfz15_3⟩ := pC4 BK199) | ((with_reducible refine gate_callee (f := 26) rfl ?_); refine goesA (some 6) Tryz.func26 #[.agg #[.bool a0_0, .int .u64 a0_1, .int .u64 a0_2, .int .i64 a0_3]] ?_; (with_reducible refine (prefix_Valid.calls a0_0 a0_1 a0_2 a0_3 true _ A2.out).mono ?_); rintro e w16 ⟨rfl, hb⟩; refine ⟨_, rfl, ?_⟩; replace BK199 := (pB BK199 hb); replace HB := (pS HB hb); (try clear hb)))
    replace BK199 := Aside0.mk (blk_drew BK199.out)
    replace HB := Aside0.mk (below_drew1 HB.out)
    refine start_ (n := 7) (S := fun w' => w'.cell? ⟨gb199, 0, none⟩ = some (.bool a0_0) ∧ w'.cell? ⟨gb199, 1, none⟩ = some (.int .u64 a0_1) ∧ w'.cell? ⟨gb199, 2, none⟩ = some (.int .u64 a0_2) ∧ w'.cell? ⟨gb199, 3, none⟩ = some (.int .i64 a0_3)) (ds := []) (tk 7 0) (by kernel_rfl) rfl rfl ⟨(blk_cell BK199.out 0).trans rfl, (blk_cell BK199.out 1).trans rfl, (blk_cell BK199.out 2).trans rfl, (blk_cell BK199.out 3).trans rfl⟩ (fun hHeld => ?_)
    generalize w16.drew = w17 at BK199 HB hHeld ⊢
    refine pure_ (i := 0) (N := some 8) (v := ?_) (a' := ?_) (tk 7 1) rfl rfl (by kernel_rfl) (fun _ _ _ h => h) (Or.inl ⟨by rfl, ?_⟩) ?_ ?_
    rotate_left
    ·
     intro w'
     go_simp
     with_reducible rfl
    rotate_left
    ·
     simp only [Act.put, List.setIfInBounds_toArray, List.set_cons_zero, List.set_cons_succ, i64_w, i32_w]
     rfl
    refine pure_ (i := 3) (N := some 11) (v := ?_) (a' := ?_) (tr [1, 2, 1, 3]) rfl rfl (by kernel_rfl) (fun _ _ _ h => h) (Or.inl ⟨by rfl, ?_⟩) ?_ ?_
    rotate_left
    ·
     intro w'
     go_simp
     with_reducible rfl
    rotate_left
    ·
     simp only [Act.put, List.setIfInBounds_toArray, List.set_cons_zero, List.set_cons_succ, i64_w, i32_w]
     rfl
    refine take_ (i := 1) (N := some 9) (v := ?_) (a' := ?_) (tr [2, 1, 1, 3]) rfl rfl (by kernel_rfl) (fun _ _ _ h => h) (Or.inl ⟨by rfl, ?_⟩) hHeld ?_ ?_
    rotate_left
    ·
     rintro w' ⟨s0, s1, s2, s3⟩
     go_simp
     with_reducible rfl
    rotate_left
    ·
     simp only [Act.put, List.setIfInBounds_toArray, List.set_cons_zero, List.set_cons_succ, i64_w, i32_w]
     rfl
    refine take_ (i := 4) (N := some 12) (v := ?_) (a' := ?_) (tr [2, 1, 2, 2]) rfl rfl (by kernel_rfl) (fun _ _ _ h => h) (Or.inl ⟨by rfl, ?_⟩) hHeld ?_ ?_
    rotate_left
    ·
     rintro w' ⟨s0, s1, s2, s3⟩
     go_simp
     with_reducible rfl
    rotate_left
    ·
     simp only [Act.put, List.setIfInBounds_toArray, List.set_cons_zero, List.set_cons_succ, i64_w, i32_w]
     rfl
    refine one_ (i := 2) (N := some 10) (tk 7 5) rfl rfl (by kernel_rfl) (by decide) (fun K hK => ?_)
    refine goesR Tryz.func46 #[.agg #[.bool a0_0, .int .u64 a0_1, .int .u64 a0_2]] ?_
    with_reducible refine (prefix_length.calls a0_0 a0_1 a0_2 t201 _ A4.out).mono ?_
    rintro e w18 ⟨rfl, hb⟩
    refine ⟨_, rfl, ?_⟩
    replace BK199 := (pB BK199 hb)
    replace HB := (pS HB hb)
    (try clear hb)
    refine hK.out _ _ ⟨(blk_cell BK199.out 0).trans rfl, (blk_cell BK199.out 1).trans rfl, (blk_cell BK199.out 2).trans rfl, (blk_cell BK199.out 3).trans rfl⟩ (fun hHeld => ?_)
    clear hK K
    refine normA (N := some 10) ?_
    refine pure_ (i := 5) (N := some 13) (v := ?_) (a' := ?_) (tk 7 6) rfl rfl (by kernel_rfl) (fun _ _ _ h => h) (Or.inl ⟨by rfl, ?_⟩) ?_ ?_
    rotate_left
    ·
     intro w'
     go_simp
     with_reducible rfl
    rotate_left
    ·
     simp only [Act.put, List.setIfInBounds_toArray, List.set_cons_zero, List.set_cons_succ, i64_w, i32_w]
     rfl
    refine pure_ (i := 6) (N := some 4) (v := ?_) (a' := ?_) (tk 7 7) rfl rfl (by kernel_rfl) (fun _ _ _ h => h) (Or.inl ⟨by rfl, ?_⟩) ?_ ?_
    rotate_left
    ·
     intro w'
     go_simp
     with_reducible rfl
    rotate_left
    ·
     simp only [Act.put, List.setIfInBounds_toArray, List.set_cons_zero, List.set_cons_succ, i64_w, i32_w]
     rfl
    refine done_ (by kernel_rfl) ?_
    try go_wp2
    go_ret2
    exact ⟨by first | rfl | (simp [errW_none, errW_some] <;> rfl) | (simp only [← hji11, ← hji13]; first | rfl | (simp [errW_none, errW_some] <;> rfl)) | (simp [*, errW_none, errW_some] <;> rfl), by repeat (first | (with_reducible first | exact HB.out | apply below_alloc | apply pw_below_drewN | apply below_drew1 | refine below_set ?_ GE199.out) | exact HB.out)⟩
   ·
    rw [if_neg c12] at H
    exact absurd H (by simp)
 ·
  replace c3 := Bool.eq_false_iff.mpr c3
  subst c3
  rw [if_neg (show ¬ (false = true) by decide)] at H
  simp only [Option.some.injEq, Prod.mk.injEq] at H
  obtain ⟨rfl, rfl⟩ := H
  go_enter Tryz.func16, Tryz.ntmps16
  go_wp2_with (first | ((with_reducible refine gate_dst (N := 1) rfl ?_); refine boxA (N := 1) (cs := #[.bool a0_0, .int .u64 a0_1, .int .u64 a0_2, .int .i64 a0_3]) (t := 26) ?_; intro gb199 hg w19 hbox hb; have BK199 := Aside0.mk (hbox); have GW199 := (pZ HB hg); have GE199 := (pZ HB hg); replace HB := (pS HB hb); clear hb hbox hg; obtain ⟨hcz20_0, hcz20_1, hcz20_2, hcz20_3, hfz20_0, hfz20_1, hfz20_2, hfz20_3⟩ := pC4 BK199) | ((with_reducible refine gate_callee (f := 26) rfl ?_); refine goesA (some 6) Tryz.func26 #[.agg #[.bool a0_0, .int .u64 a0_1, .int .u64 a0_2, .int .i64 a0_3]] ?_; (with_reducible refine (prefix_Valid.calls a0_0 a0_1 a0_2 a0_3 false _ A2.out).mono ?_); rintro e w21 ⟨rfl, hb⟩; refine ⟨_, rfl, ?_⟩; replace BK199 := (pB BK199 hb); replace HB := (pS HB hb); (try clear hb)))
  go_ret2
  exact pR (pE HB)
end Go.Proofs.YteflcmmandlknaaGreatDoor.PA
