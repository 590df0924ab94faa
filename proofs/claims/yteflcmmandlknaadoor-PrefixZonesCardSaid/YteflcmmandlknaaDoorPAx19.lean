/- The Go functions in Lean, with the proofs that the code comes to these answers: printed by this session's program (wip/px) out of the seat's translation. Conditions: each theorem's own. -/
import Derived.Test.YteflcmmandlknaaDoorPAx0
import Derived.Test.YteflcmmandlknaaDoorPAx3
import Derived.Test.YteflcmmandlknaaDoorPAx5
import Derived.Test.YteflcmmandlknaaDoorPAx9
import Derived.Test.YteflcmmandlknaaDoorPAx10
import Derived.Test.YteflcmmandlknaaDoorPAx11
import Derived.Test.YteflcmmandlknaaDoorPAx13
namespace Go.Proofs.YteflcmmandlknaaDoor.PA
open Go.RowKit Go.Proofs.YteflcmmandlknaaDoorW.PrintWords Go.Proofs.YteflcmmandlknaaDoorW.PrintLast Go.Proofs.YteflcmmandlknaaDoorW.PrintMore
attribute [local go_sem] max2_int min2_int max_two min_two max_three min_three max_four min_four   -- for this text's walks alone
attribute [local go_sem ↓] Ext.isSome_setCell
open Press
set_option linter.unusedVariables false
set_option linter.unusedSimpArgs false

/-! ### ddilaw03_PrefixZones: function 4 -/
def ddilaw03_PrefixZones.f (k : Nat) (a0_0 : Bool) (a0_1 : Int) (a0_2 : Int) (a0_3 : Int) (a1_0 : Bool) (a1_1 : Int) (a1_2 : Int) : Option (Bool) := (prefix_Zone.f k a0_0 a0_1 a0_2 a0_3).bind fun bt384 => (if bt384.2 = true then ((addr_Reverse.f k a1_0 a1_1 a1_2).bind fun bt390 => (if bt390.2 = 0 then (if (bt390.1.size : Int) ≥ (bt384.1.size : Int) then (if 0 ≤ (wrap64 ((bt390.1.size : Int) - (bt384.1.size : Int))) then (if (wrap64 ((bt390.1.size : Int) - (bt384.1.size : Int))) ≤ (bt390.1.size : Int) then (if (bt390.1.extract ((wrap64 ((bt390.1.size : Int) - (bt384.1.size : Int))) : Int).toNat bt390.1.size).toList = bt384.1.toList then (if (bt390.1.size : Int) = (bt384.1.size : Int) then ((prefix_Contains.f a0_0 a0_1 a0_2 a0_3 a1_0 a1_1 a1_2).bind fun t392 => (if (true == t392) = true then ((ddilaw03_awake.f k).bind fun t393 => (some t393)) else (none))) else (if 0 ≤ (wrap64 ((wrap64 ((bt390.1.size : Int) - (bt384.1.size : Int))) - 1)) then (if (wrap64 ((wrap64 ((bt390.1.size : Int) - (bt384.1.size : Int))) - 1)) < (bt390.1.size : Int) then ((prefix_Contains.f a0_0 a0_1 a0_2 a0_3 a1_0 a1_1 a1_2).bind fun t394 => (if (((bt bt390.1 (wrap64 ((wrap64 ((bt390.1.size : Int) - (bt384.1.size : Int))) - 1))) == 46) == t394) = true then ((ddilaw03_awake.f k).bind fun t395 => (some t395)) else (none))) else (none)) else (none))) else ((prefix_Contains.f a0_0 a0_1 a0_2 a0_3 a1_0 a1_1 a1_2).bind fun t396 => (if (false == t396) = true then ((ddilaw03_awake.f k).bind fun t397 => (some t397)) else (none)))) else (none)) else (none)) else ((prefix_Contains.f a0_0 a0_1 a0_2 a0_3 a1_0 a1_1 a1_2).bind fun t398 => (if (false == t398) = true then ((ddilaw03_awake.f k).bind fun t399 => (some t399)) else (none)))) else ((addr_Valid.f a1_0 a1_1 a1_2).bind fun t400 => (if t400 = true then (none) else ((ddilaw03_awake.f k).bind fun t401 => (some t401)))))) else (if bt384.1.toList = ([] : List UInt8) then ((prefix_Valid.f a0_0 a0_1 a0_2 a0_3).bind fun t386 => (if t386 = true then (if (Int.tmod a0_3 4) = 0 then (if a0_0 = true then (none) else (if (Int.tmod a0_3 8) = 0 then (none) else ((ddilaw03_awake.f k).bind fun t387 => (some t387)))) else ((ddilaw03_awake.f k).bind fun t388 => (some t388))) else ((ddilaw03_awake.f k).bind fun t389 => (some t389)))) else (none)))
theorem ddilaw03_PrefixZones.mono : ∀ a0 a1 a2 a3 a4 a5 a6 k, LeO (ddilaw03_PrefixZones.f k a0 a1 a2 a3 a4 a5 a6) (ddilaw03_PrefixZones.f (k + 1) a0 a1 a2 a3 a4 a5 a6) := by
 intro a0 a1 a2 a3 a4 a5 a6 k
 unfold ddilaw03_PrefixZones.f
 repeat' first
  | (with_reducible exact addr_Reverse.mono _ _ _ _)
  | (with_reducible exact ddilaw03_awake.mono _)
  | (with_reducible exact prefix_Zone.mono _ _ _ _ _)
  | (with_reducible exact LeO.refl _)
  | (with_reducible exact LeO.none _)
  | (with_reducible refine LeO.ite ?_ ?_)
  | (with_reducible refine LeO.bind ?_ (fun _ => ?_))
  | exact addr_Reverse.mono _ _ _ _
  | exact ddilaw03_awake.mono _
  | exact prefix_Zone.mono _ _ _ _ _
  | exact LeO.none _
  | refine LeO.ite ?_ ?_
  | refine LeO.bind ?_ (fun _ => ?_)
set_option maxHeartbeats 40000000 in
set_option maxRecDepth 100000 in
theorem ddilaw03_PrefixZones.calls (k : Nat) (a0_0 : Bool) (a0_1 : Int) (a0_2 : Int) (a0_3 : Int) (a1_0 : Bool) (a1_1 : Int) (a1_2 : Int) (r : Bool) (w : World) (hLD : Laid w) (h : ddilaw03_PrefixZones.f k a0_0 a0_1 a0_2 a0_3 a1_0 a1_1 a1_2 = some r) :
 Calls Tryd.prog 4 #[.agg #[.bool a0_0, .int .u64 a0_1, .int .u64 a0_2, .int .i64 a0_3], .agg #[.bool a1_0, .int .u64 a1_1, .int .u64 a1_2]] w fun e w' => e = .returned (.bool r) ∧ Below w.heap.size w w' := by
 have hu26 := Tryd.underlying26
 have hu24 := Tryd.underlying24
 have HLD := Aside0.mk hLD
 clear hLD
 have HB := Aside0.mk (Below.refl w.heap.size w)
 have H : ((prefix_Zone.f k a0_0 a0_1 a0_2 a0_3).bind fun bt384 => (if bt384.2 = true then ((addr_Reverse.f k a1_0 a1_1 a1_2).bind fun bt390 => (if bt390.2 = 0 then (if (bt390.1.size : Int) ≥ (bt384.1.size : Int) then (if 0 ≤ (wrap64 ((bt390.1.size : Int) - (bt384.1.size : Int))) then (if (wrap64 ((bt390.1.size : Int) - (bt384.1.size : Int))) ≤ (bt390.1.size : Int) then (if (bt390.1.extract ((wrap64 ((bt390.1.size : Int) - (bt384.1.size : Int))) : Int).toNat bt390.1.size).toList = bt384.1.toList then (if (bt390.1.size : Int) = (bt384.1.size : Int) then ((prefix_Contains.f a0_0 a0_1 a0_2 a0_3 a1_0 a1_1 a1_2).bind fun t392 => (if (true == t392) = true then ((ddilaw03_awake.f k).bind fun t393 => (some t393)) else (none))) else (if 0 ≤ (wrap64 ((wrap64 ((bt390.1.size : Int) - (bt384.1.size : Int))) - 1)) then (if (wrap64 ((wrap64 ((bt390.1.size : Int) - (bt384.1.size : Int))) - 1)) < (bt390.1.size : Int) then ((prefix_Contains.f a0_0 a0_1 a0_2 a0_3 a1_0 a1_1 a1_2).bind fun t394 => (if (((bt bt390.1 (wrap64 ((wrap64 ((bt390.1.size : Int) - (bt384.1.size : Int))) - 1))) == 46) == t394) = true then ((ddilaw03_awake.f k).bind fun t395 => (some t395)) else (none))) else (none)) else (none))) else ((prefix_Contains.f a0_0 a0_1 a0_2 a0_3 a1_0 a1_1 a1_2).bind fun t396 => (if (false == t396) = true then ((ddilaw03_awake.f k).bind fun t397 => (some t397)) else (none)))) else (none)) else (none)) else ((prefix_Contains.f a0_0 a0_1 a0_2 a0_3 a1_0 a1_1 a1_2).bind fun t398 => (if (false == t398) = true then ((ddilaw03_awake.f k).bind fun t399 => (some t399)) else (none)))) else ((addr_Valid.f a1_0 a1_1 a1_2).bind fun t400 => (if t400 = true then (none) else ((ddilaw03_awake.f k).bind fun t401 => (some t401)))))) else (if bt384.1.toList = ([] : List UInt8) then ((prefix_Valid.f a0_0 a0_1 a0_2 a0_3).bind fun t386 => (if t386 = true then (if (Int.tmod a0_3 4) = 0 then (if a0_0 = true then (none) else (if (Int.tmod a0_3 8) = 0 then (none) else ((ddilaw03_awake.f k).bind fun t387 => (some t387)))) else ((ddilaw03_awake.f k).bind fun t388 => (some t388))) else ((ddilaw03_awake.f k).bind fun t389 => (some t389)))) else (none)))) = some r := h
 clear h
 replace H := Option.bind_eq_some_iff.mp H
 obtain ⟨⟨t384, t385⟩, A30, H⟩ := H
 replace H : (if t385 = true then ((addr_Reverse.f k a1_0 a1_1 a1_2).bind fun bt390 => (if bt390.2 = 0 then (if (bt390.1.size : Int) ≥ (t384.size : Int) then (if 0 ≤ (wrap64 ((bt390.1.size : Int) - (t384.size : Int))) then (if (wrap64 ((bt390.1.size : Int) - (t384.size : Int))) ≤ (bt390.1.size : Int) then (if (bt390.1.extract ((wrap64 ((bt390.1.size : Int) - (t384.size : Int))) : Int).toNat bt390.1.size).toList = t384.toList then (if (bt390.1.size : Int) = (t384.size : Int) then ((prefix_Contains.f a0_0 a0_1 a0_2 a0_3 a1_0 a1_1 a1_2).bind fun t392 => (if (true == t392) = true then ((ddilaw03_awake.f k).bind fun t393 => (some t393)) else (none))) else (if 0 ≤ (wrap64 ((wrap64 ((bt390.1.size : Int) - (t384.size : Int))) - 1)) then (if (wrap64 ((wrap64 ((bt390.1.size : Int) - (t384.size : Int))) - 1)) < (bt390.1.size : Int) then ((prefix_Contains.f a0_0 a0_1 a0_2 a0_3 a1_0 a1_1 a1_2).bind fun t394 => (if (((bt bt390.1 (wrap64 ((wrap64 ((bt390.1.size : Int) - (t384.size : Int))) - 1))) == 46) == t394) = true then ((ddilaw03_awake.f k).bind fun t395 => (some t395)) else (none))) else (none)) else (none))) else ((prefix_Contains.f a0_0 a0_1 a0_2 a0_3 a1_0 a1_1 a1_2).bind fun t396 => (if (false == t396) = true then ((ddilaw03_awake.f k).bind fun t397 => (some t397)) else (none)))) else (none)) else (none)) else ((prefix_Contains.f a0_0 a0_1 a0_2 a0_3 a1_0 a1_1 a1_2).bind fun t398 => (if (false == t398) = true then ((ddilaw03_awake.f k).bind fun t399 => (some t399)) else (none)))) else ((addr_Valid.f a1_0 a1_1 a1_2).bind fun t400 => (if t400 = true then (none) else ((ddilaw03_awake.f k).bind fun t401 => (some t401)))))) else (if t384.toList = ([] : List UInt8) then ((prefix_Valid.f a0_0 a0_1 a0_2 a0_3).bind fun t386 => (if t386 = true then (if (Int.tmod a0_3 4) = 0 then (if a0_0 = true then (none) else (if (Int.tmod a0_3 8) = 0 then (none) else ((ddilaw03_awake.f k).bind fun t387 => (some t387)))) else ((ddilaw03_awake.f k).bind fun t388 => (some t388))) else ((ddilaw03_awake.f k).bind fun t389 => (some t389)))) else (none))) = some r := H
 have A3 := Aside0.mk A30
 clear A30
 by_cases c4 : t385 = true
 ·
  subst c4
  rw [if_pos rfl] at H
  replace H := Option.bind_eq_some_iff.mp H
  obtain ⟨⟨t390, t391⟩, A50, H⟩ := H
  replace H : (if t391 = 0 then (if (t390.size : Int) ≥ (t384.size : Int) then (if 0 ≤ (wrap64 ((t390.size : Int) - (t384.size : Int))) then (if (wrap64 ((t390.size : Int) - (t384.size : Int))) ≤ (t390.size : Int) then (if (t390.extract ((wrap64 ((t390.size : Int) - (t384.size : Int))) : Int).toNat t390.size).toList = t384.toList then (if (t390.size : Int) = (t384.size : Int) then ((prefix_Contains.f a0_0 a0_1 a0_2 a0_3 a1_0 a1_1 a1_2).bind fun t392 => (if (true == t392) = true then ((ddilaw03_awake.f k).bind fun t393 => (some t393)) else (none))) else (if 0 ≤ (wrap64 ((wrap64 ((t390.size : Int) - (t384.size : Int))) - 1)) then (if (wrap64 ((wrap64 ((t390.size : Int) - (t384.size : Int))) - 1)) < (t390.size : Int) then ((prefix_Contains.f a0_0 a0_1 a0_2 a0_3 a1_0 a1_1 a1_2).bind fun t394 => (if (((bt t390 (wrap64 ((wrap64 ((t390.size : Int) - (t384.size : Int))) - 1))) == 46) == t394) = true then ((ddilaw03_awake.f k).bind fun t395 => (some t395)) else (none))) else (none)) else (none))) else ((prefix_Contains.f a0_0 a0_1 a0_2 a0_3 a1_0 a1_1 a1_2).bind fun t396 => (if (false == t396) = true then ((ddilaw03_awake.f k).bind fun t397 => (some t397)) else (none)))) else (none)) else (none)) else ((prefix_Contains.f a0_0 a0_1 a0_2 a0_3 a1_0 a1_1 a1_2).bind fun t398 => (if (false == t398) = true then ((ddilaw03_awake.f k).bind fun t399 => (some t399)) else (none)))) else ((addr_Valid.f a1_0 a1_1 a1_2).bind fun t400 => (if t400 = true then (none) else ((ddilaw03_awake.f k).bind fun t401 => (some t401))))) = some r := H
  have A5 := Aside0.mk A50
  clear A50
  by_cases c6 : t391 = 0
  ·
   rw [if_pos c6] at H
   have c6b0 : (t391 == 0) = true := beq_iff_eq.mpr c6
   have c6b1 : (t391 != 0) = false := bne_eq_false_iff_eq.mpr c6
   clear c6
   by_cases c7 : (t390.size : Int) ≥ (t384.size : Int)
   ·
    rw [if_pos c7] at H
    have c7b0 : decide ((t384.size : Int) ≤ (t390.size : Int)) = true := decide_eq_true c7
    have c7b1 : decide (t384.size ≤ t390.size) = true := decide_eq_true (Int.ofNat_le.mp c7)
    clear c7
    obtain ⟨ji8, hji8⟩ : ∃ j_ : Int, (wrap64 ((t390.size : Int) - (t384.size : Int))) = j_ := ⟨_, rfl⟩
    replace H : (if 0 ≤ (ji8) then (if (ji8) ≤ (t390.size : Int) then (if (t390.extract ((ji8) : Int).toNat t390.size).toList = t384.toList then (if (t390.size : Int) = (t384.size : Int) then ((prefix_Contains.f a0_0 a0_1 a0_2 a0_3 a1_0 a1_1 a1_2).bind fun t392 => (if (true == t392) = true then ((ddilaw03_awake.f k).bind fun t393 => (some t393)) else (none))) else (if 0 ≤ (wrap64 ((ji8) - 1)) then (if (wrap64 ((ji8) - 1)) < (t390.size : Int) then ((prefix_Contains.f a0_0 a0_1 a0_2 a0_3 a1_0 a1_1 a1_2).bind fun t394 => (if (((bt t390 (wrap64 ((ji8) - 1))) == 46) == t394) = true then ((ddilaw03_awake.f k).bind fun t395 => (some t395)) else (none))) else (none)) else (none))) else ((prefix_Contains.f a0_0 a0_1 a0_2 a0_3 a1_0 a1_1 a1_2).bind fun t396 => (if (false == t396) = true then ((ddilaw03_awake.f k).bind fun t397 => (some t397)) else (none)))) else (none)) else (none)) = some r := by first | (rw [hji8] at H; exact H) | (simp only [hji8] at H ⊢; exact H)
    (try rw [hji8] at A3)
    (try rw [hji8] at A5)
    have hji8w : (IntKind.i64.wrap ((t390.size : Int) - (t384.size : Int))) = ji8 := (i64_w _).trans hji8
    by_cases c9 : 0 ≤ (ji8)
    ·
     rw [if_pos c9] at H
     have c9b0 := eq_true c9
     have c9b1 : decide (0 ≤ (ji8)) = true := decide_eq_true c9
     clear c9
     by_cases c10 : (ji8) ≤ (t390.size : Int)
     ·
      rw [if_pos c10] at H
      have c10b0 := eq_true c10
      have c10b1 : decide ((ji8) ≤ (t390.size : Int)) = true := decide_eq_true c10
      clear c10
      by_cases c11 : (t390.extract ((ji8) : Int).toNat t390.size).toList = t384.toList
      ·
       rw [if_pos c11] at H
       have c11b0 : ((t390.extract ((ji8) : Int).toNat t390.size).toList == t384.toList) = true := beq_iff_eq.mpr c11
       have c11b1 : ((t390.extract ((ji8) : Int).toNat t390.size).toList != t384.toList) = false := bne_eq_false_iff_eq.mpr c11
       clear c11
       by_cases c12 : (t390.size : Int) = (t384.size : Int)
       ·
        rw [if_pos c12] at H
        have c12b0 : ((t390.size : Int) == (t384.size : Int)) = true := beq_iff_eq.mpr c12
        have c12b1 : ((t390.size : Int) != (t384.size : Int)) = false := bne_eq_false_iff_eq.mpr c12
        have c12b2 : (t390.size == t384.size) = true := by first | simpa using c12 | (simp at c12 ⊢; omega)
        clear c12
        replace H := Option.bind_eq_some_iff.mp H
        obtain ⟨t392, A130, H⟩ := H
        replace H : (if (true == t392) = true then ((ddilaw03_awake.f k).bind fun t393 => (some t393)) else (none)) = some r := H
        have A13 := Aside0.mk A130
        clear A130
        by_cases c14 : (true == t392) = true
        ·
         rw [if_pos c14] at H
         have c14b0 : (true == t392) = true := c14
         (try (have c14b1 : decide (true = t392) = true := by simpa using c14))
         (try (have c14b2 : (true == t392) = true := by simpa using c14))
         clear c14
         replace H := Option.bind_eq_some_iff.mp H
         obtain ⟨t393, A150, H⟩ := H
         replace H : (some t393) = some r := H
         have A15 := Aside0.mk A150
         clear A150
         obtain rfl := Option.some.inj H
         go_enter Tryd.func4, Tryd.ntmps4
         go_wp2_with (first | ((with_reducible refine gate_dst (N := 2) rfl ?_); (try (refine gate_guard (by rfl) ?_; dsimp only)); refine boxA (N := 2) (cs := #[.bool a0_0, .int .u64 a0_1, .int .u64 a0_2, .int .i64 a0_3]) (t := 26) ?_; intro gb382 hg w16 hbox hb; have BK382 := Aside0.mk (hbox); have GW382 := (pZ HB hg); have GE382 := (pZ HB hg); replace HB := (pS HB hb); clear hb hbox hg) | ((with_reducible refine gate_dst (N := 3) rfl ?_); (try (refine gate_guard (by rfl) ?_; dsimp only)); refine boxA (N := 3) (cs := #[.bool a1_0, .int .u64 a1_1, .int .u64 a1_2]) (t := 24) ?_; intro gb383 hg w17 hbox hb; have BK383 := Aside0.mk (hbox); have GW383 := (pZ HB hg); have GE383 := (pZ HB hg); have NB382_383 := (pL BK382 hg); have NB383_382 := (pG BK382 hg); replace BK382 := (pB BK382 hb); replace HB := (pS HB hb); clear hb hbox hg; have hnb18 := NB382_383.out; have hnc18 := NB383_382.out; obtain ⟨hcz19_0, hcz19_1, hcz19_2, hcz19_3, hfz19_0, hfz19_1, hfz19_2, hfz19_3⟩ := pC4 BK382) | ((with_reducible refine gate_callee (f := 16) rfl ?_); refine goesA (some 12) Tryd.func16 #[.agg #[.bool a0_0, .int .u64 a0_1, .int .u64 a0_2, .int .i64 a0_3]] ?_; (with_reducible refine (prefix_Zone.calls k a0_0 a0_1 a0_2 a0_3 t384 true _ ?side1 A3.out).mono ?_); (case side1 => exact Laid.below HLD.out (pE HB)); rintro e w20 ⟨rfl, hb⟩; refine ⟨_, rfl, ?_⟩; replace BK382 := (pB BK382 hb); replace BK383 := (pB BK383 hb); replace HB := (pS HB hb); (try clear hb); obtain ⟨hcz21_0, hcz21_1, hcz21_2, hfz21_0, hfz21_1, hfz21_2⟩ := pC3 BK383) | ((with_reducible refine gate_callee (f := 17) rfl ?_); refine goesA (some 47) Tryd.func17 #[.agg #[.bool a1_0, .int .u64 a1_1, .int .u64 a1_2]] ?_; (with_reducible refine (addr_Reverse.calls k a1_0 a1_1 a1_2 t390 t391 _ ?side1 A5.out).mono ?_); (case side1 => exact Laid.below HLD.out (pE HB)); rintro e w22 ⟨rfl, hb⟩; refine ⟨_, rfl, ?_⟩; replace BK382 := (pB BK382 hb); replace BK383 := (pB BK383 hb); replace HB := (pS HB hb); (try clear hb); obtain ⟨hcz23_0, hcz23_1, hcz23_2, hcz23_3, hfz23_0, hfz23_1, hfz23_2, hfz23_3⟩ := pC4 BK382; obtain ⟨hcz24_0, hcz24_1, hcz24_2, hfz24_0, hfz24_1, hfz24_2⟩ := pC3 BK383) | ((with_reducible refine gate_callee (f := 10) rfl ?_); refine goesA (some 95) Tryd.func10 #[.agg #[.bool a0_0, .int .u64 a0_1, .int .u64 a0_2, .int .i64 a0_3], .agg #[.bool a1_0, .int .u64 a1_1, .int .u64 a1_2]] ?_; (with_reducible refine (prefix_Contains.calls a0_0 a0_1 a0_2 a0_3 a1_0 a1_1 a1_2 t392 _ A13.out).mono ?_); rintro e w25 ⟨rfl, hb⟩; refine ⟨_, rfl, ?_⟩; replace BK382 := (pB BK382 hb); replace BK383 := (pB BK383 hb); replace HB := (pS HB hb); (try clear hb)) | (go_at_call 11; (with_reducible refine (ddilaw03_awake.calls k  t393 _ ?side1 A15.out).mono ?_); (case side1 => exact Laid.below HLD.out (pE HB)); rintro e w26 ⟨rfl, hb⟩; replace BK382 := (pB BK382 hb); replace BK383 := (pB BK383 hb); replace HB := (pS HB hb); (try clear hb)))
         go_ret
         exact ⟨by first | rfl | (simp [errW_none, errW_some] <;> rfl) | (simp only [← hji8]; first | rfl | (simp [errW_none, errW_some] <;> rfl)) | (simp [*, errW_none, errW_some] <;> rfl), by repeat (first | (with_reducible first | exact HB.out | apply below_alloc | apply pw_below_drewN | apply below_drew1 | refine below_set ?_ GE382.out | refine below_set ?_ GE383.out) | exact HB.out)⟩
        ·
         rw [if_neg c14] at H
         exact absurd H (by simp)
       ·
        rw [if_neg c12] at H
        have c12b0 : ((t390.size : Int) == (t384.size : Int)) = false := beq_eq_false_iff_ne.mpr c12
        have c12b1 : ((t390.size : Int) != (t384.size : Int)) = true := bne_iff_ne.mpr c12
        have c12b2 : (t390.size == t384.size) = false := by first | simpa using c12 | (simp at c12 ⊢; omega)
        obtain ⟨ji27, hji27⟩ : ∃ j_ : Int, (wrap64 ((ji8) - 1)) = j_ := ⟨_, rfl⟩
        (try rw [hji27] at hji8)
        replace H : (if 0 ≤ (ji27) then (if (ji27) < (t390.size : Int) then ((prefix_Contains.f a0_0 a0_1 a0_2 a0_3 a1_0 a1_1 a1_2).bind fun t394 => (if (((bt t390 (ji27)) == 46) == t394) = true then ((ddilaw03_awake.f k).bind fun t395 => (some t395)) else (none))) else (none)) else (none)) = some r := by first | (rw [hji27] at H; exact H) | (simp only [hji27] at H ⊢; exact H)
        (try rw [hji27] at A3)
        (try rw [hji27] at A5)
        have hji27w : (IntKind.i64.wrap ((ji8) - 1)) = ji27 := (i64_w _).trans hji27
        by_cases c28 : 0 ≤ (ji27)
        ·
         rw [if_pos c28] at H
         have c28b0 : decide (0 ≤ (ji27)) = true := decide_eq_true c28
         clear c28
         by_cases c29 : (ji27) < (t390.size : Int)
         ·
          rw [if_pos c29] at H
          have c29b0 : decide ((ji27) < (t390.size : Int)) = true := decide_eq_true c29
          clear c29
          replace H := Option.bind_eq_some_iff.mp H
          obtain ⟨t394, A310, H⟩ := H
          replace H : (if (((bt t390 (ji27)) == 46) == t394) = true then ((ddilaw03_awake.f k).bind fun t395 => (some t395)) else (none)) = some r := H
          have A31 := Aside0.mk A310
          clear A310
          by_cases c32 : (((bt t390 (ji27)) == 46) == t394) = true
          ·
           rw [if_pos c32] at H
           have c32b0 : (((bt t390 (ji27)) == 46) == t394) = true := c32
           (try (have c32b1 : decide (((bt t390 (ji27)) == 46) = t394) = true := by simpa using c32))
           (try (have c32b2 : (((bt t390 (ji27)) == 46) == t394) = true := by simpa using c32))
           clear c32
           replace H := Option.bind_eq_some_iff.mp H
           obtain ⟨t395, A330, H⟩ := H
           replace H : (some t395) = some r := H
           have A33 := Aside0.mk A330
           clear A330
           obtain rfl := Option.some.inj H
           go_enter Tryd.func4, Tryd.ntmps4
           go_wp2_with (first | ((with_reducible refine gate_dst (N := 2) rfl ?_); (try (refine gate_guard (by rfl) ?_; dsimp only)); refine boxA (N := 2) (cs := #[.bool a0_0, .int .u64 a0_1, .int .u64 a0_2, .int .i64 a0_3]) (t := 26) ?_; intro gb382 hg w34 hbox hb; have BK382 := Aside0.mk (hbox); have GW382 := (pZ HB hg); have GE382 := (pZ HB hg); replace HB := (pS HB hb); clear hb hbox hg) | ((with_reducible refine gate_dst (N := 3) rfl ?_); (try (refine gate_guard (by rfl) ?_; dsimp only)); refine boxA (N := 3) (cs := #[.bool a1_0, .int .u64 a1_1, .int .u64 a1_2]) (t := 24) ?_; intro gb383 hg w35 hbox hb; have BK383 := Aside0.mk (hbox); have GW383 := (pZ HB hg); have GE383 := (pZ HB hg); have NB382_383 := (pL BK382 hg); have NB383_382 := (pG BK382 hg); replace BK382 := (pB BK382 hb); replace HB := (pS HB hb); clear hb hbox hg; have hnb36 := NB382_383.out; have hnc36 := NB383_382.out; obtain ⟨hcz37_0, hcz37_1, hcz37_2, hcz37_3, hfz37_0, hfz37_1, hfz37_2, hfz37_3⟩ := pC4 BK382) | ((with_reducible refine gate_callee (f := 16) rfl ?_); refine goesA (some 12) Tryd.func16 #[.agg #[.bool a0_0, .int .u64 a0_1, .int .u64 a0_2, .int .i64 a0_3]] ?_; (with_reducible refine (prefix_Zone.calls k a0_0 a0_1 a0_2 a0_3 t384 true _ ?side1 A3.out).mono ?_); (case side1 => exact Laid.below HLD.out (pE HB)); rintro e w38 ⟨rfl, hb⟩; refine ⟨_, rfl, ?_⟩; replace BK382 := (pB BK382 hb); replace BK383 := (pB BK383 hb); replace HB := (pS HB hb); (try clear hb); obtain ⟨hcz39_0, hcz39_1, hcz39_2, hfz39_0, hfz39_1, hfz39_2⟩ := pC3 BK383) | ((with_reducible refine gate_callee (f := 17) rfl ?_); refine goesA (some 47) Tryd.func17 #[.agg #[.bool a1_0, .int .u64 a1_1, .int .u64 a1_2]] ?_; (with_reducible refine (addr_Reverse.calls k a1_0 a1_1 a1_2 t390 t391 _ ?side1 A5.out).mono ?_); (case side1 => exact Laid.below HLD.out (pE HB)); rintro e w40 ⟨rfl, hb⟩; refine ⟨_, rfl, ?_⟩; replace BK382 := (pB BK382 hb); replace BK383 := (pB BK383 hb); replace HB := (pS HB hb); (try clear hb); have p30 : 0 ≤ ((ji27) : Int) := of_decide_eq_true (by first | (with_reducible assumption) | assumption); have q30 : (ji27) < (t390.size : Int) := of_decide_eq_true (by first | (with_reducible assumption) | assumption); have hx30 := bt_at t390 (ji27); replace p30 := eq_true p30; replace q30 := eq_true q30; obtain ⟨hcz41_0, hcz41_1, hcz41_2, hcz41_3, hfz41_0, hfz41_1, hfz41_2, hfz41_3⟩ := pC4 BK382; obtain ⟨hcz42_0, hcz42_1, hcz42_2, hfz42_0, hfz42_1, hfz42_2⟩ := pC3 BK383) | ((with_reducible refine gate_callee (f := 10) rfl ?_); refine goesA (some 95) Tryd.func10 #[.agg #[.bool a0_0, .int .u64 a0_1, .int .u64 a0_2, .int .i64 a0_3], .agg #[.bool a1_0, .int .u64 a1_1, .int .u64 a1_2]] ?_; (with_reducible refine (prefix_Contains.calls a0_0 a0_1 a0_2 a0_3 a1_0 a1_1 a1_2 t394 _ A31.out).mono ?_); rintro e w43 ⟨rfl, hb⟩; refine ⟨_, rfl, ?_⟩; replace BK382 := (pB BK382 hb); replace BK383 := (pB BK383 hb); replace HB := (pS HB hb); (try clear hb)) | (go_at_call 11; (with_reducible refine (ddilaw03_awake.calls k  t395 _ ?side1 A33.out).mono ?_); (case side1 => exact Laid.below HLD.out (pE HB)); rintro e w44 ⟨rfl, hb⟩; replace BK382 := (pB BK382 hb); replace BK383 := (pB BK383 hb); replace HB := (pS HB hb); (try clear hb)))
           go_ret
           exact ⟨by first | rfl | (simp [errW_none, errW_some] <;> rfl) | (simp only [← hji8, ← hji27]; first | rfl | (simp [errW_none, errW_some] <;> rfl)) | (simp [*, errW_none, errW_some] <;> rfl), by repeat (first | (with_reducible first | exact HB.out | apply below_alloc | apply pw_below_drewN | apply below_drew1 | refine below_set ?_ GE382.out | refine below_set ?_ GE383.out) | exact HB.out)⟩
          ·
           rw [if_neg c32] at H
           exact absurd H (by simp)
         ·
          rw [if_neg c29] at H
          exact absurd H (by simp)
        ·
         rw [if_neg c28] at H
         exact absurd H (by simp)
      ·
       rw [if_neg c11] at H
       have c11b0 : ((t390.extract ((ji8) : Int).toNat t390.size).toList == t384.toList) = false := beq_eq_false_iff_ne.mpr c11
       have c11b1 : ((t390.extract ((ji8) : Int).toNat t390.size).toList != t384.toList) = true := bne_iff_ne.mpr c11
       replace H := Option.bind_eq_some_iff.mp H
       obtain ⟨t396, A450, H⟩ := H
       replace H : (if (false == t396) = true then ((ddilaw03_awake.f k).bind fun t397 => (some t397)) else (none)) = some r := H
       have A45 := Aside0.mk A450
       clear A450
       by_cases c46 : (false == t396) = true
       ·
        rw [if_pos c46] at H
        have c46b0 : (false == t396) = true := c46
        (try (have c46b1 : decide (false = t396) = true := by simpa using c46))
        (try (have c46b2 : (false == t396) = true := by simpa using c46))
        clear c46
        replace H := Option.bind_eq_some_iff.mp H
        obtain ⟨t397, A470, H⟩ := H
        replace H : (some t397) = some r := H
        have A47 := Aside0.mk A470
        clear A470
        obtain rfl := Option.some.inj H
        go_enter Tryd.func4, Tryd.ntmps4
        go_wp2_with (first | ((with_reducible refine gate_dst (N := 2) rfl ?_); (try (refine gate_guard (by rfl) ?_; dsimp only)); refine boxA (N := 2) (cs := #[.bool a0_0, .int .u64 a0_1, .int .u64 a0_2, .int .i64 a0_3]) (t := 26) ?_; intro gb382 hg w48 hbox hb; have BK382 := Aside0.mk (hbox); have GW382 := (pZ HB hg); have GE382 := (pZ HB hg); replace HB := (pS HB hb); clear hb hbox hg) | ((with_reducible refine gate_dst (N := 3) rfl ?_); (try (refine gate_guard (by rfl) ?_; dsimp only)); refine boxA (N := 3) (cs := #[.bool a1_0, .int .u64 a1_1, .int .u64 a1_2]) (t := 24) ?_; intro gb383 hg w49 hbox hb; have BK383 := Aside0.mk (hbox); have GW383 := (pZ HB hg); have GE383 := (pZ HB hg); have NB382_383 := (pL BK382 hg); have NB383_382 := (pG BK382 hg); replace BK382 := (pB BK382 hb); replace HB := (pS HB hb); clear hb hbox hg; have hnb50 := NB382_383.out; have hnc50 := NB383_382.out; obtain ⟨hcz51_0, hcz51_1, hcz51_2, hcz51_3, hfz51_0, hfz51_1, hfz51_2, hfz51_3⟩ := pC4 BK382) | ((with_reducible refine gate_callee (f := 16) rfl ?_); refine goesA (some 12) Tryd.func16 #[.agg #[.bool a0_0, .int .u64 a0_1, .int .u64 a0_2, .int .i64 a0_3]] ?_; (with_reducible refine (prefix_Zone.calls k a0_0 a0_1 a0_2 a0_3 t384 true _ ?side1 A3.out).mono ?_); (case side1 => exact Laid.below HLD.out (pE HB)); rintro e w52 ⟨rfl, hb⟩; refine ⟨_, rfl, ?_⟩; replace BK382 := (pB BK382 hb); replace BK383 := (pB BK383 hb); replace HB := (pS HB hb); (try clear hb); obtain ⟨hcz53_0, hcz53_1, hcz53_2, hfz53_0, hfz53_1, hfz53_2⟩ := pC3 BK383) | ((with_reducible refine gate_callee (f := 17) rfl ?_); refine goesA (some 47) Tryd.func17 #[.agg #[.bool a1_0, .int .u64 a1_1, .int .u64 a1_2]] ?_; (with_reducible refine (addr_Reverse.calls k a1_0 a1_1 a1_2 t390 t391 _ ?side1 A5.out).mono ?_); (case side1 => exact Laid.below HLD.out (pE HB)); rintro e w54 ⟨rfl, hb⟩; refine ⟨_, rfl, ?_⟩; replace BK382 := (pB BK382 hb); replace BK383 := (pB BK383 hb); replace HB := (pS HB hb); (try clear hb); obtain ⟨hcz55_0, hcz55_1, hcz55_2, hcz55_3, hfz55_0, hfz55_1, hfz55_2, hfz55_3⟩ := pC4 BK382; obtain ⟨hcz56_0, hcz56_1, hcz56_2, hfz56_0, hfz56_1, hfz56_2⟩ := pC3 BK383) | ((with_reducible refine gate_callee (f := 10) rfl ?_); refine goesA (some 95) Tryd.func10 #[.agg #[.bool a0_0, .int .u64 a0_1, .int .u64 a0_2, .int .i64 a0_3], .agg #[.bool a1_0, .int .u64 a1_1, .int .u64 a1_2]] ?_; (with_reducible refine (prefix_Contains.calls a0_0 a0_1 a0_2 a0_3 a1_0 a1_1 a1_2 t396 _ A45.out).mono ?_); rintro e w57 ⟨rfl, hb⟩; refine ⟨_, rfl, ?_⟩; replace BK382 := (pB BK382 hb); replace BK383 := (pB BK383 hb); replace HB := (pS HB hb); (try clear hb)) | (go_at_call 11; (with_reducible refine (ddilaw03_awake.calls k  t397 _ ?side1 A47.out).mono ?_); (case side1 => exact Laid.below HLD.out (pE HB)); rintro e w58 ⟨rfl, hb⟩; replace BK382 := (pB BK382 hb); replace BK383 := (pB BK383 hb); replace HB := (pS HB hb); (try clear hb)))
        go_ret
        exact ⟨by first | rfl | (simp [errW_none, errW_some] <;> rfl) | (simp only [← hji8]; first | rfl | (simp [errW_none, errW_some] <;> rfl)) | (simp [*, errW_none, errW_some] <;> rfl), by repeat (first | (with_reducible first | exact HB.out | apply below_alloc | apply pw_below_drewN | apply below_drew1 | refine below_set ?_ GE382.out | refine below_set ?_ GE383.out) | exact HB.out)⟩
       ·
        rw [if_neg c46] at H
        exact absurd H (by simp)
     ·
      rw [if_neg c10] at H
      exact absurd H (by simp)
    ·
     rw [if_neg c9] at H
     exact absurd H (by simp)
   ·
    rw [if_neg c7] at H
    have c7b0 : decide ((t384.size : Int) ≤ (t390.size : Int)) = false := decide_eq_false c7
    have c7b1 : decide (t384.size ≤ t390.size) = false := decide_eq_false (fun h => c7 (Int.ofNat_le.mpr h))
    clear c7
    replace H := Option.bind_eq_some_iff.mp H
    obtain ⟨t398, A590, H⟩ := H
    replace H : (if (false == t398) = true then ((ddilaw03_awake.f k).bind fun t399 => (some t399)) else (none)) = some r := H
    have A59 := Aside0.mk A590
    clear A590
    by_cases c60 : (false == t398) = true
    ·
     rw [if_pos c60] at H
     have c60b0 : (false == t398) = true := c60
     (try (have c60b1 : decide (false = t398) = true := by simpa using c60))
     (try (have c60b2 : (false == t398) = true := by simpa using c60))
     clear c60
     replace H := Option.bind_eq_some_iff.mp H
     obtain ⟨t399, A610, H⟩ := H
     replace H : (some t399) = some r := H
     have A61 := Aside0.mk A610
     clear A610
     obtain rfl := Option.some.inj H
     go_enter Tryd.func4, Tryd.ntmps4
     go_wp2_with (first | ((with_reducible refine gate_dst (N := 2) rfl ?_); (try (refine gate_guard (by rfl) ?_; dsimp only)); refine boxA (N := 2) (cs := #[.bool a0_0, .int .u64 a0_1, .int .u64 a0_2, .int .i64 a0_3]) (t := 26) ?_; intro gb382 hg w62 hbox hb; have BK382 := Aside0.mk (hbox); have GW382 := (pZ HB hg); have GE382 := (pZ HB hg); replace HB := (pS HB hb); clear hb hbox hg) | ((with_reducible refine gate_dst (N := 3) rfl ?_); (try (refine gate_guard (by rfl) ?_; dsimp only)); refine boxA (N := 3) (cs := #[.bool a1_0, .int .u64 a1_1, .int .u64 a1_2]) (t := 24) ?_; intro gb383 hg w63 hbox hb; have BK383 := Aside0.mk (hbox); have GW383 := (pZ HB hg); have GE383 := (pZ HB hg); have NB382_383 := (pL BK382 hg); have NB383_382 := (pG BK382 hg); replace BK382 := (pB BK382 hb); replace HB := (pS HB hb); clear hb hbox hg; have hnb64 := NB382_383.out; have hnc64 := NB383_382.out; obtain ⟨hcz65_0, hcz65_1, hcz65_2, hcz65_3, hfz65_0, hfz65_1, hfz65_2, hfz65_3⟩ := pC4 BK382) | ((with_reducible refine gate_callee (f := 16) rfl ?_); refine goesA (some 12) Tryd.func16 #[.agg #[.bool a0_0, .int .u64 a0_1, .int .u64 a0_2, .int .i64 a0_3]] ?_; (with_reducible refine (prefix_Zone.calls k a0_0 a0_1 a0_2 a0_3 t384 true _ ?side1 A3.out).mono ?_); (case side1 => exact Laid.below HLD.out (pE HB)); rintro e w66 ⟨rfl, hb⟩; refine ⟨_, rfl, ?_⟩; replace BK382 := (pB BK382 hb); replace BK383 := (pB BK383 hb); replace HB := (pS HB hb); (try clear hb); obtain ⟨hcz67_0, hcz67_1, hcz67_2, hfz67_0, hfz67_1, hfz67_2⟩ := pC3 BK383) | ((with_reducible refine gate_callee (f := 17) rfl ?_); refine goesA (some 47) Tryd.func17 #[.agg #[.bool a1_0, .int .u64 a1_1, .int .u64 a1_2]] ?_; (with_reducible refine (addr_Reverse.calls k a1_0 a1_1 a1_2 t390 t391 _ ?side1 A5.out).mono ?_); (case side1 => exact Laid.below HLD.out (pE HB)); rintro e w68 ⟨rfl, hb⟩; refine ⟨_, rfl, ?_⟩; replace BK382 := (pB BK382 hb); replace BK383 := (pB BK383 hb); replace HB := (pS HB hb); (try clear hb); obtain ⟨hcz69_0, hcz69_1, hcz69_2, hcz69_3, hfz69_0, hfz69_1, hfz69_2, hfz69_3⟩ := pC4 BK382; obtain ⟨hcz70_0, hcz70_1, hcz70_2, hfz70_0, hfz70_1, hfz70_2⟩ := pC3 BK383) | ((with_reducible refine gate_callee (f := 10) rfl ?_); refine goesA (some 95) Tryd.func10 #[.agg #[.bool a0_0, .int .u64 a0_1, .int .u64 a0_2, .int .i64 a0_3], .agg #[.bool a1_0, .int .u64 a1_1, .int .u64 a1_2]] ?_; (with_reducible refine (prefix_Contains.calls a0_0 a0_1 a0_2 a0_3 a1_0 a1_1 a1_2 t398 _ A59.out).mono ?_); rintro e w71 ⟨rfl, hb⟩; refine ⟨_, rfl, ?_⟩; replace BK382 := (pB BK382 hb); replace BK383 := (pB BK383 hb); replace HB := (pS HB hb); (try clear hb)) | (go_at_call 11; (with_reducible refine (ddilaw03_awake.calls k  t399 _ ?side1 A61.out).mono ?_); (case side1 => exact Laid.below HLD.out (pE HB)); rintro e w72 ⟨rfl, hb⟩; replace BK382 := (pB BK382 hb); replace BK383 := (pB BK383 hb); replace HB := (pS HB hb); (try clear hb)))
     go_ret
     exact pR (pE HB)
    ·
     rw [if_neg c60] at H
     exact absurd H (by simp)
  ·
   rw [if_neg c6] at H
   have c6b0 : (t391 == 0) = false := beq_eq_false_iff_ne.mpr c6
   have c6b1 : (t391 != 0) = true := bne_iff_ne.mpr c6
   replace H := Option.bind_eq_some_iff.mp H
   obtain ⟨t400, A730, H⟩ := H
   replace H : (if t400 = true then (none) else ((ddilaw03_awake.f k).bind fun t401 => (some t401))) = some r := H
   have A73 := Aside0.mk A730
   clear A730
   by_cases c74 : t400 = true
   ·
    subst c74
    rw [if_pos rfl] at H
    exact absurd H (by simp)
   ·
    replace c74 := Bool.eq_false_iff.mpr c74
    subst c74
    rw [if_neg (show ¬ (false = true) by decide)] at H
    replace H := Option.bind_eq_some_iff.mp H
    obtain ⟨t401, A750, H⟩ := H
    replace H : (some t401) = some r := H
    have A75 := Aside0.mk A750
    clear A750
    obtain rfl := Option.some.inj H
    go_enter Tryd.func4, Tryd.ntmps4
    go_wp2_with (first | ((with_reducible refine gate_dst (N := 2) rfl ?_); (try (refine gate_guard (by rfl) ?_; dsimp only)); refine boxA (N := 2) (cs := #[.bool a0_0, .int .u64 a0_1, .int .u64 a0_2, .int .i64 a0_3]) (t := 26) ?_; intro gb382 hg w76 hbox hb; have BK382 := Aside0.mk (hbox); have GW382 := (pZ HB hg); have GE382 := (pZ HB hg); replace HB := (pS HB hb); clear hb hbox hg) | ((with_reducible refine gate_dst (N := 3) rfl ?_); (try (refine gate_guard (by rfl) ?_; dsimp only)); refine boxA (N := 3) (cs := #[.bool a1_0, .int .u64 a1_1, .int .u64 a1_2]) (t := 24) ?_; intro gb383 hg w77 hbox hb; have BK383 := Aside0.mk (hbox); have GW383 := (pZ HB hg); have GE383 := (pZ HB hg); have NB382_383 := (pL BK382 hg); have NB383_382 := (pG BK382 hg); replace BK382 := (pB BK382 hb); replace HB := (pS HB hb); clear hb hbox hg; have hnb78 := NB382_383.out; have hnc78 := NB383_382.out; obtain ⟨hcz79_0, hcz79_1, hcz79_2, hcz79_3, hfz79_0, hfz79_1, hfz79_2, hfz79_3⟩ := pC4 BK382) | ((with_reducible refine gate_callee (f := 16) rfl ?_); refine goesA (some 12) Tryd.func16 #[.agg #[.bool a0_0, .int .u64 a0_1, .int .u64 a0_2, .int .i64 a0_3]] ?_; (with_reducible refine (prefix_Zone.calls k a0_0 a0_1 a0_2 a0_3 t384 true _ ?side1 A3.out).mono ?_); (case side1 => exact Laid.below HLD.out (pE HB)); rintro e w80 ⟨rfl, hb⟩; refine ⟨_, rfl, ?_⟩; replace BK382 := (pB BK382 hb); replace BK383 := (pB BK383 hb); replace HB := (pS HB hb); (try clear hb); obtain ⟨hcz81_0, hcz81_1, hcz81_2, hfz81_0, hfz81_1, hfz81_2⟩ := pC3 BK383) | ((with_reducible refine gate_callee (f := 17) rfl ?_); refine goesA (some 47) Tryd.func17 #[.agg #[.bool a1_0, .int .u64 a1_1, .int .u64 a1_2]] ?_; (with_reducible refine (addr_Reverse.calls k a1_0 a1_1 a1_2 t390 t391 _ ?side1 A5.out).mono ?_); (case side1 => exact Laid.below HLD.out (pE HB)); rintro e w82 ⟨rfl, hb⟩; refine ⟨_, rfl, ?_⟩; replace BK382 := (pB BK382 hb); replace BK383 := (pB BK383 hb); replace HB := (pS HB hb); (try clear hb); obtain ⟨hcz83_0, hcz83_1, hcz83_2, hfz83_0, hfz83_1, hfz83_2⟩ := pC3 BK383) | ((with_reducible refine gate_callee (f := 18) rfl ?_); refine goesA (some 53) Tryd.func18 #[.agg #[.bool a1_0, .int .u64 a1_1, .int .u64 a1_2]] ?_; (with_reducible refine (addr_Valid.calls a1_0 a1_1 a1_2 false _ A73.out).mono ?_); rintro e w84 ⟨rfl, hb⟩; refine ⟨_, rfl, ?_⟩; replace BK382 := (pB BK382 hb); replace BK383 := (pB BK383 hb); replace HB := (pS HB hb); (try clear hb)) | (go_at_call 11; (with_reducible refine (ddilaw03_awake.calls k  t401 _ ?side1 A75.out).mono ?_); (case side1 => exact Laid.below HLD.out (pE HB)); rintro e w85 ⟨rfl, hb⟩; replace BK382 := (pB BK382 hb); replace BK383 := (pB BK383 hb); replace HB := (pS HB hb); (try clear hb)))
    go_ret
    exact pR (pE HB)
 ·
  replace c4 := Bool.eq_false_iff.mpr c4
  subst c4
  rw [if_neg (show ¬ (false = true) by decide)] at H
  by_cases c86 : t384.toList = ([] : List UInt8)
  ·
   rw [if_pos c86] at H
   have c86b0 : (t384.toList == ([] : List UInt8)) = true := beq_iff_eq.mpr c86
   have c86b1 : (t384.toList != ([] : List UInt8)) = false := bne_eq_false_iff_eq.mpr c86
   clear c86
   replace H := Option.bind_eq_some_iff.mp H
   obtain ⟨t386, A870, H⟩ := H
   replace H : (if t386 = true then (if (Int.tmod a0_3 4) = 0 then (if a0_0 = true then (none) else (if (Int.tmod a0_3 8) = 0 then (none) else ((ddilaw03_awake.f k).bind fun t387 => (some t387)))) else ((ddilaw03_awake.f k).bind fun t388 => (some t388))) else ((ddilaw03_awake.f k).bind fun t389 => (some t389))) = some r := H
   have A87 := Aside0.mk A870
   clear A870
   by_cases c88 : t386 = true
   ·
    subst c88
    rw [if_pos rfl] at H
    by_cases c89 : (Int.tmod a0_3 4) = 0
    ·
     rw [if_pos c89] at H
     have c89b0 : ((Int.tmod a0_3 4) == 0) = true := beq_iff_eq.mpr c89
     have c89b1 : ((Int.tmod a0_3 4) != 0) = false := bne_eq_false_iff_eq.mpr c89
     clear c89
     by_cases c90 : a0_0 = true
     ·
      subst c90
      rw [if_pos rfl] at H
      exact absurd H (by simp)
     ·
      replace c90 := Bool.eq_false_iff.mpr c90
      subst c90
      rw [if_neg (show ¬ (false = true) by decide)] at H
      by_cases c91 : (Int.tmod a0_3 8) = 0
      ·
       rw [if_pos c91] at H
       exact absurd H (by simp)
      ·
       rw [if_neg c91] at H
       have c91b0 : ((Int.tmod a0_3 8) == 0) = false := beq_eq_false_iff_ne.mpr c91
       have c91b1 : ((Int.tmod a0_3 8) != 0) = true := bne_iff_ne.mpr c91
       replace H := Option.bind_eq_some_iff.mp H
       obtain ⟨t387, A920, H⟩ := H
       replace H : (some t387) = some r := H
       have A92 := Aside0.mk A920
       clear A920
       obtain rfl := Option.some.inj H
       go_enter Tryd.func4, Tryd.ntmps4
       go_wp2_with (first | ((with_reducible refine gate_dst (N := 2) rfl ?_); (try (refine gate_guard (by rfl) ?_; dsimp only)); refine boxA (N := 2) (cs := #[.bool false, .int .u64 a0_1, .int .u64 a0_2, .int .i64 a0_3]) (t := 26) ?_; intro gb382 hg w93 hbox hb; have BK382 := Aside0.mk (hbox); have GW382 := (pZ HB hg); have GE382 := (pZ HB hg); replace HB := (pS HB hb); clear hb hbox hg) | ((with_reducible refine gate_dst (N := 3) rfl ?_); (try (refine gate_guard (by rfl) ?_; dsimp only)); refine boxA (N := 3) (cs := #[.bool a1_0, .int .u64 a1_1, .int .u64 a1_2]) (t := 24) ?_; intro gb383 hg w94 hbox hb; have BK383 := Aside0.mk (hbox); have GW383 := (pZ HB hg); have GE383 := (pZ HB hg); have NB382_383 := (pL BK382 hg); have NB383_382 := (pG BK382 hg); replace BK382 := (pB BK382 hb); replace HB := (pS HB hb); clear hb hbox hg; have hnb95 := NB382_383.out; have hnc95 := NB383_382.out; obtain ⟨hcz96_0, hcz96_1, hcz96_2, hcz96_3, hfz96_0, hfz96_1, hfz96_2, hfz96_3⟩ := pC4 BK382) | ((with_reducible refine gate_callee (f := 16) rfl ?_); refine goesA (some 12) Tryd.func16 #[.agg #[.bool false, .int .u64 a0_1, .int .u64 a0_2, .int .i64 a0_3]] ?_; (with_reducible refine (prefix_Zone.calls k false a0_1 a0_2 a0_3 t384 false _ ?side1 A3.out).mono ?_); (case side1 => exact Laid.below HLD.out (pE HB)); rintro e w97 ⟨rfl, hb⟩; refine ⟨_, rfl, ?_⟩; replace BK382 := (pB BK382 hb); replace BK383 := (pB BK383 hb); replace HB := (pS HB hb); (try clear hb); obtain ⟨hcz98_0, hcz98_1, hcz98_2, hcz98_3, hfz98_0, hfz98_1, hfz98_2, hfz98_3⟩ := pC4 BK382) | (go_at_call 9; (with_reducible refine (prefix_Valid.calls false a0_1 a0_2 a0_3 true _ A87.out).mono ?_); rintro e w99 ⟨rfl, hb⟩; replace BK382 := (pB BK382 hb); replace BK383 := (pB BK383 hb); replace HB := (pS HB hb); (try clear hb); obtain ⟨hcz100_0, hcz100_1, hcz100_2, hcz100_3, hfz100_0, hfz100_1, hfz100_2, hfz100_3⟩ := pC4 BK382) | (go_at_call 11; (with_reducible refine (ddilaw03_awake.calls k  t387 _ ?side1 A92.out).mono ?_); (case side1 => exact Laid.below HLD.out (pE HB)); rintro e w101 ⟨rfl, hb⟩; replace BK382 := (pB BK382 hb); replace BK383 := (pB BK383 hb); replace HB := (pS HB hb); (try clear hb)))
       go_ret
       exact pR (pE HB)
    ·
     rw [if_neg c89] at H
     have c89b0 : ((Int.tmod a0_3 4) == 0) = false := beq_eq_false_iff_ne.mpr c89
     have c89b1 : ((Int.tmod a0_3 4) != 0) = true := bne_iff_ne.mpr c89
     replace H := Option.bind_eq_some_iff.mp H
     obtain ⟨t388, A1020, H⟩ := H
     replace H : (some t388) = some r := H
     have A102 := Aside0.mk A1020
     clear A1020
     obtain rfl := Option.some.inj H
     go_enter Tryd.func4, Tryd.ntmps4
     go_wp2_with (first | ((with_reducible refine gate_dst (N := 2) rfl ?_); (try (refine gate_guard (by rfl) ?_; dsimp only)); refine boxA (N := 2) (cs := #[.bool a0_0, .int .u64 a0_1, .int .u64 a0_2, .int .i64 a0_3]) (t := 26) ?_; intro gb382 hg w103 hbox hb; have BK382 := Aside0.mk (hbox); have GW382 := (pZ HB hg); have GE382 := (pZ HB hg); replace HB := (pS HB hb); clear hb hbox hg) | ((with_reducible refine gate_dst (N := 3) rfl ?_); (try (refine gate_guard (by rfl) ?_; dsimp only)); refine boxA (N := 3) (cs := #[.bool a1_0, .int .u64 a1_1, .int .u64 a1_2]) (t := 24) ?_; intro gb383 hg w104 hbox hb; have BK383 := Aside0.mk (hbox); have GW383 := (pZ HB hg); have GE383 := (pZ HB hg); have NB382_383 := (pL BK382 hg); have NB383_382 := (pG BK382 hg); replace BK382 := (pB BK382 hb); replace HB := (pS HB hb); clear hb hbox hg; have hnb105 := NB382_383.out; have hnc105 := NB383_382.out; obtain ⟨hcz106_0, hcz106_1, hcz106_2, hcz106_3, hfz106_0, hfz106_1, hfz106_2, hfz106_3⟩ := pC4 BK382) | ((with_reducible refine gate_callee (f := 16) rfl ?_); refine goesA (some 12) Tryd.func16 #[.agg #[.bool a0_0, .int .u64 a0_1, .int .u64 a0_2, .int .i64 a0_3]] ?_; (with_reducible refine (prefix_Zone.calls k a0_0 a0_1 a0_2 a0_3 t384 false _ ?side1 A3.out).mono ?_); (case side1 => exact Laid.below HLD.out (pE HB)); rintro e w107 ⟨rfl, hb⟩; refine ⟨_, rfl, ?_⟩; replace BK382 := (pB BK382 hb); replace BK383 := (pB BK383 hb); replace HB := (pS HB hb); (try clear hb); obtain ⟨hcz108_0, hcz108_1, hcz108_2, hcz108_3, hfz108_0, hfz108_1, hfz108_2, hfz108_3⟩ := pC4 BK382) | (go_at_call 9; (with_reducible refine (prefix_Valid.calls a0_0 a0_1 a0_2 a0_3 true _ A87.out).mono ?_); rintro e w109 ⟨rfl, hb⟩; replace BK382 := (pB BK382 hb); replace BK383 := (pB BK383 hb); replace HB := (pS HB hb); (try clear hb); obtain ⟨hcz110_0, hcz110_1, hcz110_2, hcz110_3, hfz110_0, hfz110_1, hfz110_2, hfz110_3⟩ := pC4 BK382) | (go_at_call 11; (with_reducible refine (ddilaw03_awake.calls k  t388 _ ?side1 A102.out).mono ?_); (case side1 => exact Laid.below HLD.out (pE HB)); rintro e w111 ⟨rfl, hb⟩; replace BK382 := (pB BK382 hb); replace BK383 := (pB BK383 hb); replace HB := (pS HB hb); (try clear hb)))
     go_ret
     exact pR (pE HB)
   ·
    replace c88 := Bool.eq_false_iff.mpr c88
    subst c88
    rw [if_neg (show ¬ (false = true) by decide)] at H
    replace H := Option.bind_eq_some_iff.mp H
    obtain ⟨t389, A1120, H⟩ := H
    replace H : (some t389) = some r := H
    have A112 := Aside0.mk A1120
    clear A1120
    obtain rfl := Option.some.inj H
    go_enter Tryd.func4, Tryd.ntmps4
    go_wp2_with (first | ((with_reducible refine gate_dst (N := 2) rfl ?_); (try (refine gate_guard (by rfl) ?_; dsimp only)); refine boxA (N := 2) (cs := #[.bool a0_0, .int .u64 a0_1, .int .u64 a0_2, .int .i64 a0_3]) (t := 26) ?_; intro gb382 hg w113 hbox hb; have BK382 := Aside0.mk (hbox); have GW382 := (pZ HB hg); have GE382 := (pZ HB hg); replace HB := (pS HB hb); clear hb hbox hg) | ((with_reducible refine gate_dst (N := 3) rfl ?_); (try (refine gate_guard (by rfl) ?_; dsimp only)); refine boxA (N := 3) (cs := #[.bool a1_0, .int .u64 a1_1, .int .u64 a1_2]) (t := 24) ?_; intro gb383 hg w114 hbox hb; have BK383 := Aside0.mk (hbox); have GW383 := (pZ HB hg); have GE383 := (pZ HB hg); have NB382_383 := (pL BK382 hg); have NB383_382 := (pG BK382 hg); replace BK382 := (pB BK382 hb); replace HB := (pS HB hb); clear hb hbox hg; have hnb115 := NB382_383.out; have hnc115 := NB383_382.out; obtain ⟨hcz116_0, hcz116_1, hcz116_2, hcz116_3, hfz116_0, hfz116_1, hfz116_2, hfz116_3⟩ := pC4 BK382) | ((with_reducible refine gate_callee (f := 16) rfl ?_); refine goesA (some 12) Tryd.func16 #[.agg #[.bool a0_0, .int .u64 a0_1, .int .u64 a0_2, .int .i64 a0_3]] ?_; (with_reducible refine (prefix_Zone.calls k a0_0 a0_1 a0_2 a0_3 t384 false _ ?side1 A3.out).mono ?_); (case side1 => exact Laid.below HLD.out (pE HB)); rintro e w117 ⟨rfl, hb⟩; refine ⟨_, rfl, ?_⟩; replace BK382 := (pB BK382 hb); replace BK383 := (pB BK383 hb); replace HB := (pS HB hb); (try clear hb); obtain ⟨hcz118_0, hcz118_1, hcz118_2, hcz118_3, hfz118_0, hfz118_1, hfz118_2, hfz118_3⟩ := pC4 BK382) | (go_at_call 9; (with_reducible refine (prefix_Valid.calls a0_0 a0_1 a0_2 a0_3 false _ A87.out).mono ?_); rintro e w119 ⟨rfl, hb⟩; replace BK382 := (pB BK382 hb); replace BK383 := (pB BK383 hb); replace HB := (pS HB hb); (try clear hb)) | (go_at_call 11; (with_reducible refine (ddilaw03_awake.calls k  t389 _ ?side1 A112.out).mono ?_); (case side1 => exact Laid.below HLD.out (pE HB)); rintro e w120 ⟨rfl, hb⟩; replace BK382 := (pB BK382 hb); replace BK383 := (pB BK383 hb); replace HB := (pS HB hb); (try clear hb)))
    go_ret
    exact pR (pE HB)
  ·
   rw [if_neg c86] at H
   exact absurd H (by simp)

end Go.Proofs.YteflcmmandlknaaDoor.PA
