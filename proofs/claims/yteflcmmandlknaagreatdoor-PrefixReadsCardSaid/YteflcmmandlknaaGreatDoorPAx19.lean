/- The Go functions in Lean, with the proofs that the code comes to these answers: printed by this session's program (wip/px) out of the seat's translation. Conditions: each theorem's own. -/
import Derived.Test.YteflcmmandlknaaGreatDoorPAx0
import Derived.Test.YteflcmmandlknaaGreatDoorPAx2
import Derived.Test.YteflcmmandlknaaGreatDoorPAx6
import Derived.Test.YteflcmmandlknaaGreatDoorPAx12
import Derived.Test.YteflcmmandlknaaGreatDoorPAx18
namespace Go.Proofs.YteflcmmandlknaaGreatDoor.PA
open Go.RowKit Go.Proofs.YteflcmmandlknaaGreatDoorW.PrintWords Go.Proofs.YteflcmmandlknaaGreatDoorW.PrintLast Go.Proofs.YteflcmmandlknaaGreatDoorW.PrintMore
attribute [local go_sem] max2_int min2_int max_two min_two max_three min_three max_four min_four   -- for this text's walks alone
attribute [local go_sem ↓] Ext.isSome_setCell
open Press
set_option linter.unusedVariables false
set_option linter.unusedSimpArgs false
attribute [local go_sem high] eqA26
/-! ### ddilaw03_PrefixReads: function 3 -/
def ddilaw03_PrefixReads.f (k : Nat) (a0 : ByteArray) : Option (Bool) := (prefix_Parse.f k a0).bind fun bt369 => ((ddiref03_Parse.f k a0).bind fun bt375 => (if ((bt369.1 == bt375.1 && (bt369.2.1 == bt375.2.1 && (bt369.2.2.1 == bt375.2.2.1))) && (bt369.2.2.2.1 == bt375.2.2.2.1)) = true then (if bt369.2.2.2.2 = bt375.2.2.2.2 then ((ddilaw03_awake.f k).bind fun t381 => (some t381)) else (none)) else (none)))
theorem ddilaw03_PrefixReads.mono : ∀ a0 k, LeO (ddilaw03_PrefixReads.f k a0) (ddilaw03_PrefixReads.f (k + 1) a0) := by
 intro a0 k
 unfold ddilaw03_PrefixReads.f
 repeat' with_reducible first | exact ddilaw03_awake.mono _ | exact ddiref03_Parse.mono _ _ | exact prefix_Parse.mono _ _ | exact LeO.refl _ | exact LeO.none _ | refine LeO.ite ?_ ?_ | refine LeO.bind ?_ (fun _ => ?_)
set_option maxHeartbeats 40000000 in
set_option maxRecDepth 100000 in
theorem ddilaw03_PrefixReads.calls (k : Nat) (a0 : ByteArray) (r : Bool) (w : World) (hLD : Laid w) (h : ddilaw03_PrefixReads.f k a0 = some r) :
 Calls Tryz.prog 3 #[.string a0] w fun e w' => e = .returned (.bool r) ∧ Below w.heap.size w w' := by
 have hu26 := Tryz.underlying26
 have HLD := Aside0.mk hLD
 clear hLD
 have HB := Aside0.mk (Below.refl w.heap.size w)
 have H : ((prefix_Parse.f k a0).bind fun bt369 => ((ddiref03_Parse.f k a0).bind fun bt375 => (if ((bt369.1 == bt375.1 && (bt369.2.1 == bt375.2.1 && (bt369.2.2.1 == bt375.2.2.1))) && (bt369.2.2.2.1 == bt375.2.2.2.1)) = true then (if bt369.2.2.2.2 = bt375.2.2.2.2 then ((ddilaw03_awake.f k).bind fun t381 => (some t381)) else (none)) else (none)))) = some r := h
 clear h
 replace H := Option.bind_eq_some_iff.mp H
 obtain ⟨⟨t369, t370, t371, t372, t373⟩, A20, H⟩ := H
 replace H : ((ddiref03_Parse.f k a0).bind fun bt375 => (if ((t369 == bt375.1 && (t370 == bt375.2.1 && (t371 == bt375.2.2.1))) && (t372 == bt375.2.2.2.1)) = true then (if t373 = bt375.2.2.2.2 then ((ddilaw03_awake.f k).bind fun t381 => (some t381)) else (none)) else (none))) = some r := H
 have A2 := Aside0.mk A20
 clear A20
 replace H := Option.bind_eq_some_iff.mp H
 obtain ⟨⟨t375, t376, t377, t378, t379⟩, A30, H⟩ := H
 replace H : (if ((t369 == t375 && (t370 == t376 && (t371 == t377))) && (t372 == t378)) = true then (if t373 = t379 then ((ddilaw03_awake.f k).bind fun t381 => (some t381)) else (none)) else (none)) = some r := H
 have A3 := Aside0.mk A30
 clear A30
 by_cases c4 : ((t369 == t375 && (t370 == t376 && (t371 == t377))) && (t372 == t378)) = true
 ·
  rw [if_pos c4] at H
  have c4b0 : ((t369 == t375 && (t370 == t376 && (t371 == t377))) && (t372 == t378)) = true := c4
  clear c4
  by_cases c5 : t373 = t379
  ·
   rw [if_pos c5] at H
   have c5b0 : (t373 == t379) = true := beq_iff_eq.mpr c5
   have c5b1 : (t373 != t379) = false := bne_eq_false_iff_eq.mpr c5
   clear c5
   replace H := Option.bind_eq_some_iff.mp H
   obtain ⟨t381, A60, H⟩ := H
   have A6 := Aside0.mk A60
   clear A60
   obtain rfl := Option.some.inj H
   go_enter Tryz.func3, Tryz.ntmps3
   go_wp2_with (first | ((with_reducible refine gate_callee (f := 7) rfl ?_); refine goesA (some 9) Tryz.func7 #[.string a0] ?_; (with_reducible refine (prefix_Parse.calls k a0 t369 t370 t371 t372 t373 _ ?side1 A2.out).mono ?_); (case side1 => exact Laid.below HLD.out (pE HB)); rintro e w7 ⟨rfl, hb⟩; refine ⟨_, rfl, ?_⟩; replace HB := (pS HB hb); (try clear hb)) | ((with_reducible refine gate_dst (N := 3) rfl ?_); refine boxA (N := 3) (cs := #[.bool false, .int .u64 0, .int .u64 0, .int .i64 0]) (t := 26) ?_; intro gb374 hg w8 hbox hb; have BK374 := Aside0.mk (hbox); have GE374 := (pZ HB hg); replace HB := (pS HB hb); clear hb hbox hg; obtain ⟨hcz9_0, hcz9_1, hcz9_2, hcz9_3, hfz9_0, hfz9_1, hfz9_2, hfz9_3⟩ := pC4 BK374) | ((with_reducible refine gate_callee (f := 8) rfl ?_); refine goesA (some 14) Tryz.func8 #[.string a0] ?_; (with_reducible refine (ddiref03_Parse.calls k a0 t375 t376 t377 t378 t379 _ A3.out).mono ?_); rintro e w10 ⟨rfl, hb⟩; refine ⟨_, rfl, ?_⟩; replace BK374 := (pD hb (pP (pP (pP (pP (pM BK374)))))); replace HB := (pS HB hb); (try clear hb)) | ((with_reducible refine gate_dst (N := 5) rfl ?_); refine boxA (N := 5) (cs := #[.bool false, .int .u64 0, .int .u64 0, .int .i64 0]) (t := 26) ?_; intro gb380 hg w11 hbox hb; have BK380 := Aside0.mk (hbox); have GE380 := (pZ HB hg); have NB374_380 := (pL BK374 hg); have NB380_374 := (pG BK374 hg); replace BK374 := (pB BK374 hb); replace HB := (pS HB hb); clear hb hbox hg; have hnb12 := NB380_374.out; have hnc12 := NB374_380.out; obtain ⟨hcz13_0, hcz13_1, hcz13_2, hcz13_3, hfz13_0, hfz13_1, hfz13_2, hfz13_3⟩ := pC4 BK380; obtain ⟨hcz14_0, hcz14_1, hcz14_2, hcz14_3, hfz14_0, hfz14_1, hfz14_2, hfz14_3⟩ := pC4 BK374) | (go_at_call 9; (with_reducible refine (ddilaw03_awake.calls k  t381 _ ?side1 A6.out).mono ?_); (case side1 => exact Laid.below HLD.out (pE HB)); rintro e w15 ⟨rfl, hb⟩; replace BK374 := (pD hb (pK NB374_380 (pK NB374_380 (pK NB374_380 (pK NB374_380 (pM BK374)))))); replace BK380 := (pD hb (pP (pP (pP (pP (pM BK380)))))); replace HB := (pS HB hb); (try clear hb)))
   go_ret
   exact pR (pE HB)
  ·
   rw [if_neg c5] at H
   exact absurd H (by simp)
 ·
  rw [if_neg c4] at H
  exact absurd H (by simp)
end Go.Proofs.YteflcmmandlknaaGreatDoor.PA
