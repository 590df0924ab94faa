/- The Go functions in Lean, with the proofs that the code comes to these answers: printed by this session's program (wip/px) out of the seat's translation. Conditions: each theorem's own. -/
import Derived.Test.YteflcmmandlknaaGreatDoorPAx0
import Derived.Test.YteflcmmandlknaaGreatDoorPAx1
import Derived.Test.YteflcmmandlknaaGreatDoorPAx4
import Derived.Test.YteflcmmandlknaaGreatDoorPAx8
namespace Go.Proofs.YteflcmmandlknaaGreatDoor.PA
open Go.RowKit Go.Proofs.YteflcmmandlknaaGreatDoorW.PrintWords Go.Proofs.YteflcmmandlknaaGreatDoorW.PrintLast Go.Proofs.YteflcmmandlknaaGreatDoorW.PrintMore
attribute [local go_sem] max2_int min2_int max_two min_two max_three min_three max_four min_four   -- for this text's walks alone
attribute [local go_sem ↓] Ext.isSome_setCell
open Press
set_option linter.unusedVariables false
set_option linter.unusedSimpArgs false
attribute [local go_sem high] eqA24
/-! ### prefix_zeros: function 52 -/
def prefix_zeros.f (a0_0 : Bool) (a0_1 : Int) (a0_2 : Int) : Option (Int) := (prefix_value.f a0_0 a0_1 a0_2).bind fun bt207 => ((bits_TrailingZeros64.f bt207.2).bind fun t209 => (if t209 = 64 then ((bits_TrailingZeros64.f bt207.1).bind fun t210 => ((prefix_length.f a0_0 a0_1 a0_2).bind fun t211 => (some (mn (wrap64 (t209 + t210)) t211)))) else ((prefix_length.f a0_0 a0_1 a0_2).bind fun t212 => (some (mn t209 t212)))))
set_option maxHeartbeats 40000000 in
set_option maxRecDepth 100000 in
theorem prefix_zeros.calls (a0_0 : Bool) (a0_1 : Int) (a0_2 : Int) (r : Int) (w : World) (hLD : Laid w) (h : prefix_zeros.f a0_0 a0_1 a0_2 = some r) :
 Calls Tryz.prog 52 #[.agg #[.bool a0_0, .int .u64 a0_1, .int .u64 a0_2]] w fun e w' => e = .returned (.int .i64 r) ∧ Below w.heap.size w w' := by
 have hu24 := Tryz.underlying24
 have HLD := Aside0.mk hLD
 clear hLD
 have HB := Aside0.mk (Below.refl w.heap.size w)
 have H : ((prefix_value.f a0_0 a0_1 a0_2).bind fun bt207 => ((bits_TrailingZeros64.f bt207.2).bind fun t209 => (if t209 = 64 then ((bits_TrailingZeros64.f bt207.1).bind fun t210 => ((prefix_length.f a0_0 a0_1 a0_2).bind fun t211 => (some (mn (wrap64 (t209 + t210)) t211)))) else ((prefix_length.f a0_0 a0_1 a0_2).bind fun t212 => (some (mn t209 t212)))))) = some r := h
 clear h
 replace H := Option.bind_eq_some_iff.mp H
 obtain ⟨⟨t207, t208⟩, A20, H⟩ := H
 replace H : ((bits_TrailingZeros64.f t208).bind fun t209 => (if t209 = 64 then ((bits_TrailingZeros64.f t207).bind fun t210 => ((prefix_length.f a0_0 a0_1 a0_2).bind fun t211 => (some (mn (wrap64 (t209 + t210)) t211)))) else ((prefix_length.f a0_0 a0_1 a0_2).bind fun t212 => (some (mn t209 t212))))) = some r := H
 have A2 := Aside0.mk A20
 clear A20
 replace H := Option.bind_eq_some_iff.mp H
 obtain ⟨t209, A30, H⟩ := H
 have A3 := Aside0.mk A30
 clear A30
 by_cases c4 : t209 = 64
 ·
  rw [if_pos c4] at H
  have c4b0 : (t209 == 64) = true := beq_iff_eq.mpr c4
  have c4b1 : (t209 != 64) = false := bne_eq_false_iff_eq.mpr c4
  clear c4
  replace H := Option.bind_eq_some_iff.mp H
  obtain ⟨t210, A50, H⟩ := H
  have A5 := Aside0.mk A50
  clear A50
  replace H := Option.bind_eq_some_iff.mp H
  obtain ⟨t211, A60, H⟩ := H
  have A6 := Aside0.mk A60
  clear A60
  obtain ⟨ji7, hji7⟩ : ∃ j_ : Int, (mn (wrap64 (t209 + t210)) t211) = j_ := ⟨_, rfl⟩
  replace H : (some ji7) = some r := by first | (rw [hji7] at H; exact H) | (simp only [hji7] at H ⊢; exact H)
  (try rw [hji7] at A2)
  (try rw [hji7] at A3)
  (try rw [hji7] at A5)
  (try rw [hji7] at A6)
  have hji7_ : (if t211 < (wrap64 (t209 + t210)) then t211 else (wrap64 (t209 + t210))) = ji7 := hji7
  obtain rfl := Option.some.inj H
  go_enter Tryz.func52, Tryz.ntmps52
  go_wp2_with (first | ((with_reducible refine gate_dst (N := 1) rfl ?_); refine boxA (N := 1) (cs := #[.bool a0_0, .int .u64 a0_1, .int .u64 a0_2]) (t := 24) ?_; intro gb206 hg w8 hbox hb; have BK206 := Aside0.mk (hbox); have GE206 := (pZ HB hg); replace HB := (pS HB hb); clear hb hbox hg; obtain ⟨hcz9_0, hcz9_1, hcz9_2, hfz9_0, hfz9_1, hfz9_2⟩ := pC3 BK206) | ((with_reducible refine gate_callee (f := 75) rfl ?_); refine goesA (some 8) Tryz.func75 #[.agg #[.bool a0_0, .int .u64 a0_1, .int .u64 a0_2]] ?_; (with_reducible refine (prefix_value.calls a0_0 a0_1 a0_2 t207 t208 _ A2.out).mono ?_); rintro e w10 ⟨rfl, hb⟩; refine ⟨_, rfl, ?_⟩; replace BK206 := (pB BK206 hb); replace HB := (pS HB hb); (try clear hb)) | ((with_reducible refine gate_callee (f := 76) rfl ?_); refine goesA (some 12) Tryz.func76 #[.int .u64 t208] ?_; (with_reducible refine (bits_TrailingZeros64.calls t208 t209 _ ?side1 A3.out).mono ?_); (case side1 => exact Laid.below HLD.out (pE HB)); rintro e w11 ⟨rfl, hb⟩; refine ⟨_, rfl, ?_⟩; replace BK206 := (pB BK206 hb); replace HB := (pS HB hb); (try clear hb)) | ((with_reducible refine gate_callee (f := 76) rfl ?_); refine goesA (some 17) Tryz.func76 #[.int .u64 t207] ?_; (with_reducible refine (bits_TrailingZeros64.calls t207 t210 _ ?side1 A5.out).mono ?_); (case side1 => exact Laid.below HLD.out (pE HB)); rintro e w12 ⟨rfl, hb⟩; refine ⟨_, rfl, ?_⟩; replace BK206 := (pB BK206 hb); replace HB := (pS HB hb); (try clear hb); obtain ⟨hcz13_0, hcz13_1, hcz13_2, hfz13_0, hfz13_1, hfz13_2⟩ := pC3 BK206) | ((with_reducible refine gate_callee (f := 46) rfl ?_); refine goesA (some 21) Tryz.func46 #[.agg #[.bool a0_0, .int .u64 a0_1, .int .u64 a0_2]] ?_; (with_reducible refine (prefix_length.calls a0_0 a0_1 a0_2 t211 _ A6.out).mono ?_); rintro e w14 ⟨rfl, hb⟩; refine ⟨_, rfl, ?_⟩; replace BK206 := (pB BK206 hb); replace HB := (pS HB hb); (try clear hb)))
  go_ret
  exact ⟨by first | rfl | (simp [errW_none, errW_some] <;> rfl) | (simp only [← hji7]; first | rfl | (simp [errW_none, errW_some] <;> rfl)) | (simp [*, errW_none, errW_some] <;> rfl), by repeat (first | (with_reducible first | exact HB.out | apply below_alloc | apply pw_below_drewN | apply below_drew1 | refine below_set ?_ GE206.out) | exact HB.out)⟩
 ·
  rw [if_neg c4] at H
  have c4b0 : (t209 == 64) = false := beq_eq_false_iff_ne.mpr c4
  have c4b1 : (t209 != 64) = true := bne_iff_ne.mpr c4
  replace H := Option.bind_eq_some_iff.mp H
  obtain ⟨t212, A150, H⟩ := H
  have A15 := Aside0.mk A150
  clear A150
  obtain ⟨ji16, hji16⟩ : ∃ j_ : Int, (mn t209 t212) = j_ := ⟨_, rfl⟩
  replace H : (some ji16) = some r := by first | (rw [hji16] at H; exact H) | (simp only [hji16] at H ⊢; exact H)
  (try rw [hji16] at A2)
  (try rw [hji16] at A3)
  (try rw [hji16] at A15)
  have hji16_ : (if t212 < t209 then t212 else t209) = ji16 := hji16
  obtain rfl := Option.some.inj H
  go_enter Tryz.func52, Tryz.ntmps52
  go_wp2_with (first | ((with_reducible refine gate_dst (N := 1) rfl ?_); refine boxA (N := 1) (cs := #[.bool a0_0, .int .u64 a0_1, .int .u64 a0_2]) (t := 24) ?_; intro gb206 hg w17 hbox hb; have BK206 := Aside0.mk (hbox); have GE206 := (pZ HB hg); replace HB := (pS HB hb); clear hb hbox hg; obtain ⟨hcz18_0, hcz18_1, hcz18_2, hfz18_0, hfz18_1, hfz18_2⟩ := pC3 BK206) | ((with_reducible refine gate_callee (f := 75) rfl ?_); refine goesA (some 8) Tryz.func75 #[.agg #[.bool a0_0, .int .u64 a0_1, .int .u64 a0_2]] ?_; (with_reducible refine (prefix_value.calls a0_0 a0_1 a0_2 t207 t208 _ A2.out).mono ?_); rintro e w19 ⟨rfl, hb⟩; refine ⟨_, rfl, ?_⟩; replace BK206 := (pB BK206 hb); replace HB := (pS HB hb); (try clear hb)) | ((with_reducible refine gate_callee (f := 76) rfl ?_); refine goesA (some 12) Tryz.func76 #[.int .u64 t208] ?_; (with_reducible refine (bits_TrailingZeros64.calls t208 t209 _ ?side1 A3.out).mono ?_); (case side1 => exact Laid.below HLD.out (pE HB)); rintro e w20 ⟨rfl, hb⟩; refine ⟨_, rfl, ?_⟩; replace BK206 := (pB BK206 hb); replace HB := (pS HB hb); (try clear hb); obtain ⟨hcz21_0, hcz21_1, hcz21_2, hfz21_0, hfz21_1, hfz21_2⟩ := pC3 BK206) | ((with_reducible refine gate_callee (f := 46) rfl ?_); refine goesA (some 21) Tryz.func46 #[.agg #[.bool a0_0, .int .u64 a0_1, .int .u64 a0_2]] ?_; (with_reducible refine (prefix_length.calls a0_0 a0_1 a0_2 t212 _ A15.out).mono ?_); rintro e w22 ⟨rfl, hb⟩; refine ⟨_, rfl, ?_⟩; replace BK206 := (pB BK206 hb); replace HB := (pS HB hb); (try clear hb)))
  go_ret
  exact ⟨by first | rfl | (simp [errW_none, errW_some] <;> rfl) | (simp only [← hji16]; first | rfl | (simp [errW_none, errW_some] <;> rfl)) | (simp [*, errW_none, errW_some] <;> rfl), by repeat (first | (with_reducible first | exact HB.out | apply below_alloc | apply pw_below_drewN | apply below_drew1 | refine below_set ?_ GE206.out) | exact HB.out)⟩

-- NOT PRINTED: function 77 (bits_Add64)

/-! ### addr_Add: function 53 -/
def addr_Add.f (a0_0 : Bool) (a0_1 : Int) (a0_2 : Int) (a1 : Int) : Option (Bool × Int × Int × Bool) := (addr_Valid.f a0_0 a0_1 a0_2).bind fun t215 => (if t215 = true then (if (Ext.add64c a0_2 a1 0) ≤ 1 then (if (Ext.add64c a0_1 0 (Ext.add64c a0_2 a1 0)) = 0 then ((addr_Valid.f a0_0 (Ext.add64s a0_1 0 (Ext.add64c a0_2 a1 0)) (Ext.add64s a0_2 a1 0)).bind fun t217 => (if t217 = true then (some (a0_0, Ext.add64s a0_1 0 (Ext.add64c a0_2 a1 0), Ext.add64s a0_2 a1 0, true)) else (some (false, 0, 0, false)))) else (some (false, 0, 0, false))) else (none)) else (some (false, 0, 0, false)))
set_option maxHeartbeats 40000000 in
set_option maxRecDepth 100000 in
theorem addr_Add.calls (a0_0 : Bool) (a0_1 : Int) (a0_2 : Int) (a1 : Int) (r1 : Bool) (r2 : Int) (r3 : Int) (r4 : Bool) (w : World) (h : addr_Add.f a0_0 a0_1 a0_2 a1 = some (r1, r2, r3, r4)) :
 Calls Tryz.prog 53 #[.agg #[.bool a0_0, .int .u64 a0_1, .int .u64 a0_2], .int .u64 a1] w fun e w' => e = .returned (.tuple #[.agg #[.bool r1, .int .u64 r2, .int .u64 r3], .bool r4]) ∧ Below w.heap.size w w' := by
 have hu24 := Tryz.underlying24
 have hext77 := Ext.run_add64 (P := Tryz.prog) Tryz.func77 (by kernel_rfl) (by kernel_rfl) (by kernel_rfl) (by kernel_rfl)
 have HB := Aside0.mk (Below.refl w.heap.size w)
 have H : ((addr_Valid.f a0_0 a0_1 a0_2).bind fun t215 => (if t215 = true then (if (Ext.add64c a0_2 a1 0) ≤ 1 then (if (Ext.add64c a0_1 0 (Ext.add64c a0_2 a1 0)) = 0 then ((addr_Valid.f a0_0 (Ext.add64s a0_1 0 (Ext.add64c a0_2 a1 0)) (Ext.add64s a0_2 a1 0)).bind fun t217 => (if t217 = true then (some (a0_0, Ext.add64s a0_1 0 (Ext.add64c a0_2 a1 0), Ext.add64s a0_2 a1 0, true)) else (some (false, 0, 0, false)))) else (some (false, 0, 0, false))) else (none)) else (some (false, 0, 0, false)))) = some (r1, r2, r3, r4) := h
 clear h
 replace H := Option.bind_eq_some_iff.mp H
 obtain ⟨t215, A30, H⟩ := H
 have A3 := Aside0.mk A30
 clear A30
 by_cases c4 : t215 = true
 ·
  subst c4
  have H1 : (if (Ext.add64c a0_2 a1 0) ≤ 1 then (if (Ext.add64c a0_1 0 (Ext.add64c a0_2 a1 0)) = 0 then ((addr_Valid.f a0_0 (Ext.add64s a0_1 0 (Ext.add64c a0_2 a1 0)) (Ext.add64s a0_2 a1 0)).bind fun t217 => (if t217 = true then (some (a0_0, Ext.add64s a0_1 0 (Ext.add64c a0_2 a1 0), Ext.add64s a0_2 a1 0, true)) else (some (false, 0, 0, false)))) else (some (false, 0, 0, false))) else (none)) = some (r1, r2, r3, r4) := by rw [if_pos rfl] at H; exact H
  clear H
  have H := H1
  clear H1
  by_cases c5 : (Ext.add64c a0_2 a1 0) ≤ 1
  ·
   rw [if_pos c5] at H
   have c5b0 := eq_true c5
   have c5b1 := decide_eq_true c5
   clear c5
   by_cases c6 : (Ext.add64c a0_1 0 (Ext.add64c a0_2 a1 0)) = 0
   ·
    rw [if_pos c6] at H
    have c6b0 : ((Ext.add64c a0_1 0 (Ext.add64c a0_2 a1 0)) == 0) = true := beq_iff_eq.mpr c6
    have c6b1 : ((Ext.add64c a0_1 0 (Ext.add64c a0_2 a1 0)) != 0) = false := bne_eq_false_iff_eq.mpr c6
    clear c6
    replace H := Option.bind_eq_some_iff.mp H
    obtain ⟨t217, A70, H⟩ := H
    have A7 := Aside0.mk A70
    clear A70
    by_cases c8 : t217 = true
    ·
     subst c8
     have H1 : (some (a0_0, Ext.add64s a0_1 0 (Ext.add64c a0_2 a1 0), Ext.add64s a0_2 a1 0, true)) = some (r1, r2, r3, r4) := by rw [if_pos rfl] at H; exact H
     clear H
     have H := H1
     clear H1
     simp only [Option.some.injEq, Prod.mk.injEq] at H
     obtain ⟨rfl, rfl, rfl, rfl⟩ := H
     go_enter Tryz.func53, Tryz.ntmps53
     go_wp2_with (first | ((with_reducible refine gate_dst (N := 2) rfl ?_); refine boxA (N := 2) (cs := #[.bool a0_0, .int .u64 a0_1, .int .u64 a0_2]) (t := 24) ?_; intro gb213 hg w9 hbox hb; have BK213 := Aside0.mk (hbox); have GE213 := (pZ HB hg); replace HB := (pS HB hb); clear hb hbox hg) | ((with_reducible refine gate_dst (N := 4) rfl ?_); refine boxA (N := 4) (cs := #[.bool false, .int .u64 0, .int .u64 0]) (t := 24) ?_; intro gb214 hg w10 hbox hb; have BK214 := Aside0.mk (hbox); have GE214 := (pZ HB hg); have NB213_214 := (pL BK213 hg); have NB214_213 := (pG BK213 hg); replace BK213 := (pB BK213 hb); replace HB := (pS HB hb); clear hb hbox hg; have hnb11 := NB213_214.out; have hnc11 := NB214_213.out; obtain ⟨hcz12_0, hcz12_1, hcz12_2, hfz12_0, hfz12_1, hfz12_2⟩ := pC3 BK213) | ((with_reducible refine gate_callee (f := 50) rfl ?_); refine goesA (some 12) Tryz.func50 #[.agg #[.bool a0_0, .int .u64 a0_1, .int .u64 a0_2]] ?_; (with_reducible refine (addr_Valid.calls a0_0 a0_1 a0_2 true _ A3.out).mono ?_); rintro e w13 ⟨rfl, hb⟩; refine ⟨_, rfl, ?_⟩; replace BK213 := (pB BK213 hb); replace BK214 := (pB BK214 hb); replace HB := (pS HB hb); (try clear hb); obtain ⟨hcz14_0, hcz14_1, hcz14_2, hfz14_0, hfz14_1, hfz14_2⟩ := pC3 BK213) | ((with_reducible refine gate_dst (N := 10) rfl ?_); refine boxA (N := 10) (cs := #[.bool false, .int .u64 0, .int .u64 0]) (t := 24) ?_; intro gb216 hg w15 hbox hb; have BK216 := Aside0.mk (hbox); have GE216 := (pZ HB hg); have NB213_216 := (pL BK213 hg); have NB216_213 := (pG BK213 hg); have NB214_216 := (pL BK214 hg); have NB216_214 := (pG BK214 hg); replace BK213 := (pB BK213 hb); replace BK214 := (pB BK214 hb); replace HB := (pS HB hb); clear hb hbox hg; have hnb16 := NB216_213.out; have hnc16 := NB213_216.out; have hnb17 := NB216_214.out; have hnc17 := NB214_216.out; obtain ⟨hcz18_0, hcz18_1, hcz18_2, hfz18_0, hfz18_1, hfz18_2⟩ := pC3 BK216) | (go_at_call 50; (with_reducible refine (addr_Valid.calls a0_0 (Ext.add64s a0_1 0 (Ext.add64c a0_2 a1 0)) (Ext.add64s a0_2 a1 0) true _ A7.out).mono ?_); rintro e w19 ⟨rfl, hb⟩; replace BK213 := (pD hb (pK NB213_216 (pK NB213_216 (pK NB213_216 (pM BK213))))); replace BK214 := (pD hb (pK NB214_216 (pK NB214_216 (pK NB214_216 (pM BK214))))); replace BK216 := (pD hb (pP (pP (pP (pM BK216))))); replace HB := (pS HB hb); (try clear hb); obtain ⟨hcz20_0, hcz20_1, hcz20_2, hfz20_0, hfz20_1, hfz20_2⟩ := pC3 BK216; obtain ⟨hcz21_0, hcz21_1, hcz21_2, hfz21_0, hfz21_1, hfz21_2⟩ := pC3 BK214))
     refine bodyPost_ret (results_ct rfl _ _ gb214 24 #[.bool a0_0, .int .u64 (Ext.add64s a0_1 0 (Ext.add64c a0_2 a1 0)), .int .u64 (Ext.add64s a0_2 a1 0)] (0, 0) _ rfl (pP (pP (pP (pM BK214)))) Tryz.underlying24 rfl (by kernel_rfl)) rfl ?_
     exact pR (pE HB)
    ·
     replace c8 := Bool.eq_false_iff.mpr c8
     subst c8
     rw [if_neg (show ¬ (false = true) by decide)] at H
     simp only [Option.some.injEq, Prod.mk.injEq] at H
     obtain ⟨rfl, rfl, rfl, rfl⟩ := H
     go_enter Tryz.func53, Tryz.ntmps53
     go_wp2_with (first | ((with_reducible refine gate_dst (N := 2) rfl ?_); refine boxA (N := 2) (cs := #[.bool a0_0, .int .u64 a0_1, .int .u64 a0_2]) (t := 24) ?_; intro gb213 hg w22 hbox hb; have BK213 := Aside0.mk (hbox); have GE213 := (pZ HB hg); replace HB := (pS HB hb); clear hb hbox hg) | ((with_reducible refine gate_dst (N := 4) rfl ?_); refine boxA (N := 4) (cs := #[.bool false, .int .u64 0, .int .u64 0]) (t := 24) ?_; intro gb214 hg w23 hbox hb; have BK214 := Aside0.mk (hbox); have GE214 := (pZ HB hg); have NB213_214 := (pL BK213 hg); have NB214_213 := (pG BK213 hg); replace BK213 := (pB BK213 hb); replace HB := (pS HB hb); clear hb hbox hg; have hnb24 := NB213_214.out; have hnc24 := NB214_213.out; obtain ⟨hcz25_0, hcz25_1, hcz25_2, hfz25_0, hfz25_1, hfz25_2⟩ := pC3 BK213) | ((with_reducible refine gate_callee (f := 50) rfl ?_); refine goesA (some 12) Tryz.func50 #[.agg #[.bool a0_0, .int .u64 a0_1, .int .u64 a0_2]] ?_; (with_reducible refine (addr_Valid.calls a0_0 a0_1 a0_2 true _ A3.out).mono ?_); rintro e w26 ⟨rfl, hb⟩; refine ⟨_, rfl, ?_⟩; replace BK213 := (pB BK213 hb); replace BK214 := (pB BK214 hb); replace HB := (pS HB hb); (try clear hb); obtain ⟨hcz27_0, hcz27_1, hcz27_2, hfz27_0, hfz27_1, hfz27_2⟩ := pC3 BK213) | ((with_reducible refine gate_dst (N := 10) rfl ?_); refine boxA (N := 10) (cs := #[.bool false, .int .u64 0, .int .u64 0]) (t := 24) ?_; intro gb216 hg w28 hbox hb; have BK216 := Aside0.mk (hbox); have GE216 := (pZ HB hg); have NB213_216 := (pL BK213 hg); have NB216_213 := (pG BK213 hg); have NB214_216 := (pL BK214 hg); have NB216_214 := (pG BK214 hg); replace BK213 := (pB BK213 hb); replace BK214 := (pB BK214 hb); replace HB := (pS HB hb); clear hb hbox hg; have hnb29 := NB216_213.out; have hnc29 := NB213_216.out; have hnb30 := NB216_214.out; have hnc30 := NB214_216.out; obtain ⟨hcz31_0, hcz31_1, hcz31_2, hfz31_0, hfz31_1, hfz31_2⟩ := pC3 BK216) | (go_at_call 50; (with_reducible refine (addr_Valid.calls a0_0 (Ext.add64s a0_1 0 (Ext.add64c a0_2 a1 0)) (Ext.add64s a0_2 a1 0) false _ A7.out).mono ?_); rintro e w32 ⟨rfl, hb⟩; replace BK213 := (pD hb (pK NB213_216 (pK NB213_216 (pK NB213_216 (pM BK213))))); replace BK214 := (pD hb (pK NB214_216 (pK NB214_216 (pK NB214_216 (pM BK214))))); replace BK216 := (pD hb (pP (pP (pP (pM BK216))))); replace HB := (pS HB hb); (try clear hb); obtain ⟨hcz33_0, hcz33_1, hcz33_2, hfz33_0, hfz33_1, hfz33_2⟩ := pC3 BK214))
     refine bodyPost_ret (results_ct rfl _ _ gb214 24 #[.bool false, .int .u64 0, .int .u64 0] (0, 0) _ rfl (pP (pP (pP (pM BK214)))) Tryz.underlying24 rfl (by kernel_rfl)) rfl ?_
     exact pR (pE HB)
   ·
    rw [if_neg c6] at H
    have c6b0 : ((Ext.add64c a0_1 0 (Ext.add64c a0_2 a1 0)) == 0) = false := beq_eq_false_iff_ne.mpr c6
    have c6b1 : ((Ext.add64c a0_1 0 (Ext.add64c a0_2 a1 0)) != 0) = true := bne_iff_ne.mpr c6
    simp only [Option.some.injEq, Prod.mk.injEq] at H
    obtain ⟨rfl, rfl, rfl, rfl⟩ := H
    go_enter Tryz.func53, Tryz.ntmps53
    go_wp2_with (first | ((with_reducible refine gate_dst (N := 2) rfl ?_); refine boxA (N := 2) (cs := #[.bool a0_0, .int .u64 a0_1, .int .u64 a0_2]) (t := 24) ?_; intro gb213 hg w34 hbox hb; have BK213 := Aside0.mk (hbox); have GE213 := (pZ HB hg); replace HB := (pS HB hb); clear hb hbox hg) | ((with_reducible refine gate_dst (N := 4) rfl ?_); refine boxA (N := 4) (cs := #[.bool false, .int .u64 0, .int .u64 0]) (t := 24) ?_; intro gb214 hg w35 hbox hb; have BK214 := Aside0.mk (hbox); have GE214 := (pZ HB hg); have NB213_214 := (pL BK213 hg); have NB214_213 := (pG BK213 hg); replace BK213 := (pB BK213 hb); replace HB := (pS HB hb); clear hb hbox hg; have hnb36 := NB213_214.out; have hnc36 := NB214_213.out; obtain ⟨hcz37_0, hcz37_1, hcz37_2, hfz37_0, hfz37_1, hfz37_2⟩ := pC3 BK213) | ((with_reducible refine gate_callee (f := 50) rfl ?_); refine goesA (some 12) Tryz.func50 #[.agg #[.bool a0_0, .int .u64 a0_1, .int .u64 a0_2]] ?_; (with_reducible refine (addr_Valid.calls a0_0 a0_1 a0_2 true _ A3.out).mono ?_); rintro e w38 ⟨rfl, hb⟩; refine ⟨_, rfl, ?_⟩; replace BK213 := (pB BK213 hb); replace BK214 := (pB BK214 hb); replace HB := (pS HB hb); (try clear hb); obtain ⟨hcz39_0, hcz39_1, hcz39_2, hfz39_0, hfz39_1, hfz39_2⟩ := pC3 BK213) | ((with_reducible refine gate_dst (N := 10) rfl ?_); refine boxA (N := 10) (cs := #[.bool false, .int .u64 0, .int .u64 0]) (t := 24) ?_; intro gb216 hg w40 hbox hb; have BK216 := Aside0.mk (hbox); have GE216 := (pZ HB hg); have NB213_216 := (pL BK213 hg); have NB216_213 := (pG BK213 hg); have NB214_216 := (pL BK214 hg); have NB216_214 := (pG BK214 hg); replace BK213 := (pB BK213 hb); replace BK214 := (pB BK214 hb); replace HB := (pS HB hb); clear hb hbox hg; have hnb41 := NB216_213.out; have hnc41 := NB213_216.out; have hnb42 := NB216_214.out; have hnc42 := NB214_216.out; obtain ⟨hcz43_0, hcz43_1, hcz43_2, hfz43_0, hfz43_1, hfz43_2⟩ := pC3 BK216; obtain ⟨hcz44_0, hcz44_1, hcz44_2, hfz44_0, hfz44_1, hfz44_2⟩ := pC3 BK214) | ((with_reducible refine gate_store (t := 24) (p := 4) rfl ?_); refine store_event (t := 24) (p := 4) (v := ?vo_w45) (w1 := ((((((w40.setCell ⟨gb216, 0, none⟩ (.bool a0_0)).setCell ⟨gb216, 1, none⟩ (.int .u64 (Ext.add64s a0_1 0 (Ext.add64c a0_2 a1 0)))).setCell ⟨gb216, 2, none⟩ (.int .u64 (Ext.add64s a0_2 a1 0))).setCell ⟨gb214, 0, none⟩ (.bool false)).setCell ⟨gb214, 1, none⟩ (.int .u64 0)).setCell ⟨gb214, 2, none⟩ (.int .u64 0))) ?hg ?ho ?hn ?hr ?_; (case ho => rfl); (case hg => rfl); (case hn => rfl); (case hr => first | (exact Ext.run_store_chain 24 _ _ rfl _ _ _ _ rfl rfl (pK NB214_216 (pK NB214_216 (pK NB214_216 (pM BK214)))) (by kernel_rfl) rfl rfl rfl) | (go_simp; done) | (go_simp; rfl)); intro w45 hw; replace BK213 : Aside0 (w45.heap[gb213]? = some (.cells #[.bool a0_0, .int .u64 a0_1, .int .u64 a0_2] 24 (0, 0))) := (pW hw (pK NB213_214 (pK NB213_214 (pK NB213_214 (pK NB213_216 (pK NB213_216 (pK NB213_216 (pM BK213)))))))); replace BK214 : Aside0 (w45.heap[gb214]? = some (.cells #[.bool false, .int .u64 0, .int .u64 0] 24 (0, 0))) := (pW hw (pP (pP (pP (pK NB214_216 (pK NB214_216 (pK NB214_216 (pM BK214)))))))); replace BK216 : Aside0 (w45.heap[gb216]? = some (.cells #[.bool a0_0, .int .u64 (Ext.add64s a0_1 0 (Ext.add64c a0_2 a1 0)), .int .u64 (Ext.add64s a0_2 a1 0)] 24 (0, 0))) := (pW hw (pK NB216_214 (pK NB216_214 (pK NB216_214 (pP (pP (pP (pM BK216)))))))); replace HB : Aside0 (Below w.heap.size w w45) := ⟨(by rw [hw]; exact (by repeat (first | (with_reducible first | exact HB.out | apply below_alloc | apply pw_below_drewN | apply below_drew1 | refine below_set ?_ GE213.out | refine below_set ?_ GE214.out | refine below_set ?_ GE216.out) | exact HB.out)))⟩; clear hw))
    refine bodyPost_ret (results_ct rfl _ _ gb214 24 #[.bool false, .int .u64 0, .int .u64 0] (0, 0) _ rfl (pM BK214) Tryz.underlying24 rfl (by kernel_rfl)) rfl ?_
    exact pR (pE HB)
  ·
   rw [if_neg c5] at H
   exact absurd H (by simp)
 ·
  replace c4 := Bool.eq_false_iff.mpr c4
  subst c4
  rw [if_neg (show ¬ (false = true) by decide)] at H
  simp only [Option.some.injEq, Prod.mk.injEq] at H
  obtain ⟨rfl, rfl, rfl, rfl⟩ := H
  go_enter Tryz.func53, Tryz.ntmps53
  go_wp2_with (first | ((with_reducible refine gate_dst (N := 2) rfl ?_); refine boxA (N := 2) (cs := #[.bool a0_0, .int .u64 a0_1, .int .u64 a0_2]) (t := 24) ?_; intro gb213 hg w46 hbox hb; have BK213 := Aside0.mk (hbox); have GE213 := (pZ HB hg); replace HB := (pS HB hb); clear hb hbox hg) | ((with_reducible refine gate_dst (N := 4) rfl ?_); refine boxA (N := 4) (cs := #[.bool false, .int .u64 0, .int .u64 0]) (t := 24) ?_; intro gb214 hg w47 hbox hb; have BK214 := Aside0.mk (hbox); have GE214 := (pZ HB hg); have NB213_214 := (pL BK213 hg); have NB214_213 := (pG BK213 hg); replace BK213 := (pB BK213 hb); replace HB := (pS HB hb); clear hb hbox hg; have hnb48 := NB213_214.out; have hnc48 := NB214_213.out; obtain ⟨hcz49_0, hcz49_1, hcz49_2, hfz49_0, hfz49_1, hfz49_2⟩ := pC3 BK213) | ((with_reducible refine gate_callee (f := 50) rfl ?_); refine goesA (some 12) Tryz.func50 #[.agg #[.bool a0_0, .int .u64 a0_1, .int .u64 a0_2]] ?_; (with_reducible refine (addr_Valid.calls a0_0 a0_1 a0_2 false _ A3.out).mono ?_); rintro e w50 ⟨rfl, hb⟩; refine ⟨_, rfl, ?_⟩; replace BK213 := (pB BK213 hb); replace BK214 := (pB BK214 hb); replace HB := (pS HB hb); (try clear hb); obtain ⟨hcz51_0, hcz51_1, hcz51_2, hfz51_0, hfz51_1, hfz51_2⟩ := pC3 BK214))
  refine bodyPost_ret (results_ct rfl _ _ gb214 24 #[.bool false, .int .u64 0, .int .u64 0] (0, 0) _ rfl (pP (pP (pP (pM BK214)))) Tryz.underlying24 rfl (by kernel_rfl)) rfl ?_
  exact pR (pE HB)

/-! ### prefix_Cover: function 20 -/
mutual
def prefix_Cover.j0 : Nat → Bool → Bool → Int → Int → Bool → Int → Int → Option ((List (S26)))
 | 0, _, _, _, _, _, _, _ => none
 | k + 1, x37, x219000, x219001, x219002, x219003, x219004, x219005 => if x37 = true then (some ([] : List (S26))) else (prefix_Cover.l0 k ([] : List (S26)) x219000 x219001 x219002 x219003 x219004 x219005 x219000 x219001 x219002)
def prefix_Cover.l0 : Nat → List (S26) → Bool → Int → Int → Bool → Int → Int → Bool → Int → Int → Option ((List (S26)))
 | 0, _, _, _, _, _, _, _, _, _, _ => none
 | k + 1, x3, x219000, x219001, x219002, x219003, x219004, x219005, x223000, x223001, x223002 => (prefix_length.f x223000 x223001 x223002).bind fun t223 => ((prefix_zeros.f x223000 x223001 x223002).bind fun t224 => ((prefix_Bounds.f x223000 x223001 x223002 (wrap64 (t223 - t224))).bind fun bt226 => (prefix_Cover.l1 k x3 x219000 x219001 x219002 x219003 x219004 x219005 x223000 x223001 x223002 (wrap64 (t223 - t224)) bt226.1 bt226.2.1 bt226.2.2.1 bt226.2.2.2.1 bt226.2.2.2.2.1 bt226.2.2.2.2.2.1)))
def prefix_Cover.l1 : Nat → List (S26) → Bool → Int → Int → Bool → Int → Int → Bool → Int → Int → Int → Bool → Int → Int → Bool → Int → Int → Option ((List (S26)))
 | 0, _, _, _, _, _, _, _, _, _, _, _, _, _, _, _, _, _ => none
 | k + 1, x3, x219000, x219001, x219002, x219003, x219004, x219005, x226000, x226001, x226002, x226003, x234000, x234001, x234002, x234003, x234004, x234005 => (addr_Compare.f k x234003 x234004 x234005 x219003 x219004 x219005).bind fun t234 => (if t234 > 0 then ((prefix_Bounds.f x226000 x226001 x226002 (wrap64 (x226003 + 1))).bind fun bt235 => (prefix_Cover.l1 k x3 x219000 x219001 x219002 x219003 x219004 x219005 x226000 x226001 x226002 (wrap64 (x226003 + 1)) bt235.1 bt235.2.1 bt235.2.2.1 bt235.2.2.2.1 bt235.2.2.2.2.1 bt235.2.2.2.2.2.1)) else (if x3.length < 4398046511104 then ((some (x3 ++ [(⟨(⟨x226000, x226001, x226002⟩ : S24), x226003⟩ : S26)] : List (S26))).bind fun y242 => (if (x234003 == x219003 && (x234004 == x219004 && (x234005 == x219005))) = true then (some y242) else ((addr_Add.f x234003 x234004 x234005 1).bind fun bt245 => (if bt245.2.2.2 = true then (prefix_Cover.l0 k y242 x219000 x219001 x219002 x219003 x219004 x219005 bt245.1 bt245.2.1 bt245.2.2.1) else (some y242))))) else (none)))
end
def prefix_Cover.f (k : Nat) (a0_0 : Bool) (a0_1 : Int) (a0_2 : Int) (a0_3 : Bool) (a0_4 : Int) (a0_5 : Int) : Option ((List (S26))) := (addr_Valid.f a0_0 a0_1 a0_2).bind fun t219 => (if t219 = true then ((addr_Valid.f a0_3 a0_4 a0_5).bind fun t220 => (if t220 = true then (if (a0_0 != a0_3) = true then (prefix_Cover.j0 k true a0_0 a0_1 a0_2 a0_3 a0_4 a0_5) else ((addr_Compare.f k a0_0 a0_1 a0_2 a0_3 a0_4 a0_5).bind fun t221 => (prefix_Cover.j0 k (decide (t221 > 0)) a0_0 a0_1 a0_2 a0_3 a0_4 a0_5))) else (prefix_Cover.j0 k true a0_0 a0_1 a0_2 a0_3 a0_4 a0_5))) else (prefix_Cover.j0 k true a0_0 a0_1 a0_2 a0_3 a0_4 a0_5))
theorem prefix_Cover.mono_l : ∀ k, (∀ y0 y1 y2 y3 y4 y5 y6, LeO (prefix_Cover.j0 k y0 y1 y2 y3 y4 y5 y6) (prefix_Cover.j0 (k + 1) y0 y1 y2 y3 y4 y5 y6)) ∧ (∀ y0 y1 y2 y3 y4 y5 y6 y7 y8 y9, LeO (prefix_Cover.l0 k y0 y1 y2 y3 y4 y5 y6 y7 y8 y9) (prefix_Cover.l0 (k + 1) y0 y1 y2 y3 y4 y5 y6 y7 y8 y9)) ∧ (∀ y0 y1 y2 y3 y4 y5 y6 y7 y8 y9 y10 y11 y12 y13 y14 y15 y16, LeO (prefix_Cover.l1 k y0 y1 y2 y3 y4 y5 y6 y7 y8 y9 y10 y11 y12 y13 y14 y15 y16) (prefix_Cover.l1 (k + 1) y0 y1 y2 y3 y4 y5 y6 y7 y8 y9 y10 y11 y12 y13 y14 y15 y16))
 | 0 => ⟨fun _ _ _ _ _ _ _ r h => by simp [prefix_Cover.j0] at h, fun _ _ _ _ _ _ _ _ _ _ r h => by simp [prefix_Cover.l0] at h, fun _ _ _ _ _ _ _ _ _ _ _ _ _ _ _ _ _ r h => by simp [prefix_Cover.l1] at h⟩
 | k + 1 => by
  obtain ⟨ih0, ih1, ih2⟩ := prefix_Cover.mono_l k
  refine ⟨?_, ?_, ?_⟩
  ·
   intro y0 y1 y2 y3 y4 y5 y6
   unfold prefix_Cover.j0
   repeat' with_reducible first | exact ih0 _ _ _ _ _ _ _ | exact ih1 _ _ _ _ _ _ _ _ _ _ | exact ih2 _ _ _ _ _ _ _ _ _ _ _ _ _ _ _ _ _ | exact addr_Compare.mono _ _ _ _ _ _ _ | exact LeO.refl _ | exact LeO.none _ | refine LeO.ite ?_ ?_ | refine LeO.bind ?_ (fun _ => ?_)
  ·
   intro y0 y1 y2 y3 y4 y5 y6 y7 y8 y9
   unfold prefix_Cover.l0
   repeat' with_reducible first | exact ih0 _ _ _ _ _ _ _ | exact ih1 _ _ _ _ _ _ _ _ _ _ | exact ih2 _ _ _ _ _ _ _ _ _ _ _ _ _ _ _ _ _ | exact addr_Compare.mono _ _ _ _ _ _ _ | exact LeO.refl _ | exact LeO.none _ | refine LeO.ite ?_ ?_ | refine LeO.bind ?_ (fun _ => ?_)
  ·
   intro y0 y1 y2 y3 y4 y5 y6 y7 y8 y9 y10 y11 y12 y13 y14 y15 y16
   unfold prefix_Cover.l1
   repeat' with_reducible first | exact ih0 _ _ _ _ _ _ _ | exact ih1 _ _ _ _ _ _ _ _ _ _ | exact ih2 _ _ _ _ _ _ _ _ _ _ _ _ _ _ _ _ _ | exact addr_Compare.mono _ _ _ _ _ _ _ | exact LeO.refl _ | exact LeO.none _ | refine LeO.ite ?_ ?_ | refine LeO.bind ?_ (fun _ => ?_)
theorem prefix_Cover.mono : ∀ a0 a1 a2 a3 a4 a5 k, LeO (prefix_Cover.f k a0 a1 a2 a3 a4 a5) (prefix_Cover.f (k + 1) a0 a1 a2 a3 a4 a5) := by
 intro a0 a1 a2 a3 a4 a5 k
 obtain ⟨ih0, ih1, ih2⟩ := prefix_Cover.mono_l k
 unfold prefix_Cover.f
 repeat' with_reducible first | exact ih0 _ _ _ _ _ _ _ | exact ih1 _ _ _ _ _ _ _ _ _ _ | exact ih2 _ _ _ _ _ _ _ _ _ _ _ _ _ _ _ _ _ | exact addr_Compare.mono _ _ _ _ _ _ _ | exact LeO.refl _ | exact LeO.none _ | refine LeO.ite ?_ ?_ | refine LeO.bind ?_ (fun _ => ?_)
set_option maxHeartbeats 40000000 in
set_option maxRecDepth 100000 in
theorem prefix_Cover.calls (k : Nat) (a0_0 : Bool) (a0_1 : Int) (a0_2 : Int) (a0_3 : Bool) (a0_4 : Int) (a0_5 : Int) (r : List (S26)) (w : World) (hLD : Laid w) (h : prefix_Cover.f k a0_0 a0_1 a0_2 a0_3 a0_4 a0_5 = some r) :
 Calls Tryz.prog 20 #[.agg #[.bool a0_0, .int .u64 a0_1, .int .u64 a0_2, .bool a0_3, .int .u64 a0_4, .int .u64 a0_5]] w fun e w' => ∃ v0_ : Value, e = .returned (v0_) ∧ Kd.R k26 26 w' w.heap.size (fun _ => True) v0_ r ∧ Below w.heap.size w w' := by
 have hu33 := Tryz.underlying33
 have hu24 := Tryz.underlying24
 have hu26 := Tryz.underlying26
 have HLD := Aside0.mk hLD
 clear hLD
 have HB := Aside0.mk (Below.refl w.heap.size w)
 have H : ((addr_Valid.f a0_0 a0_1 a0_2).bind fun t219 => (if t219 = true then ((addr_Valid.f a0_3 a0_4 a0_5).bind fun t220 => (if t220 = true then (if (a0_0 != a0_3) = true then (prefix_Cover.j0 k true a0_0 a0_1 a0_2 a0_3 a0_4 a0_5) else ((addr_Compare.f k a0_0 a0_1 a0_2 a0_3 a0_4 a0_5).bind fun t221 => (prefix_Cover.j0 k (decide (t221 > 0)) a0_0 a0_1 a0_2 a0_3 a0_4 a0_5))) else (prefix_Cover.j0 k true a0_0 a0_1 a0_2 a0_3 a0_4 a0_5))) else (prefix_Cover.j0 k true a0_0 a0_1 a0_2 a0_3 a0_4 a0_5))) = some r := h
 clear h
 have HC2 := Aside0.mk H
 clear H
 go_enter Tryz.func20, Tryz.ntmps20
 go_upto_region 1 with (first | ((with_reducible refine gate_dst (N := 1) rfl ?_); refine boxA (N := 1) (cs := #[.bool a0_0, .int .u64 a0_1, .int .u64 a0_2, .bool a0_3, .int .u64 a0_4, .int .u64 a0_5]) (t := 33) ?_; intro gb218 hg w3 hbox hb; have BK218 := Aside0.mk (hbox); have GE218 := (pZ HB hg); replace HB := (pS HB hb); clear hb hbox hg))
 (try simp only [Act.put, List.setIfInBounds_toArray, List.set_cons_zero, List.set_cons_succ])
 go_cut [37] (fun v37 wc => ∃ (kq : Nat) (x37_1 : Bool), v37 = .bool x37_1 ∧ Aside0 (prefix_Cover.j0 kq x37_1 a0_0 a0_1 a0_2 a0_3 a0_4 a0_5 = some r) ∧ Aside0 (kq ≤ k) ∧ Aside0 (wc.heap[gb218]? = some (.cells #[.bool a0_0, .int .u64 a0_1, .int .u64 a0_2, .bool a0_3, .int .u64 a0_4, .int .u64 a0_5] 33 (0, 0))) ∧ Aside0 (Below w.heap.size w wc))
 case first =>
  have H := HC2.out
  clear HC2
  replace H := Option.bind_eq_some_iff.mp H
  obtain ⟨t219, A40, H⟩ := H
  have A4 := Aside0.mk A40
  clear A40
  by_cases c5 : t219 = true
  ·
   subst c5
   rw [if_pos rfl] at H
   replace H := Option.bind_eq_some_iff.mp H
   obtain ⟨t220, A60, H⟩ := H
   have A6 := Aside0.mk A60
   clear A60
   by_cases c7 : t220 = true
   ·
    subst c7
    rw [if_pos rfl] at H
    by_cases c8 : (a0_0 != a0_3) = true
    ·
     rw [if_pos c8] at H
     have c8b0 : (a0_0 != a0_3) = true := c8
     (try (have c8b1 : decide (a0_0 = a0_3) = false := by simpa using c8))
     (try (have c8b2 : (a0_0 == a0_3) = false := by simpa using c8))
     (try (have c8b3 : ¬ (a0_0 = a0_3) := by simpa using c8))
     clear c8
     (first | rw [c8b0] | (simp only [i64_w, i32_w]; rw [c8b0]) | skip)
     have H' := Aside0.mk H
     clear H
     obtain ⟨hcz9_0, hcz9_1, hcz9_2, hcz9_3, hcz9_4, hcz9_5, hfz9_0, hfz9_1, hfz9_2, hfz9_3, hfz9_4, hfz9_5⟩ := pC6 BK218
     go_wp2_with (first | ((with_reducible refine gate_callee (f := 50) rfl ?_); refine goesA (some 13) Tryz.func50 #[.agg #[.bool a0_0, .int .u64 a0_1, .int .u64 a0_2]] ?_; (with_reducible refine (addr_Valid.calls a0_0 a0_1 a0_2 true _ A4.out).mono ?_); rintro e w10 ⟨rfl, hb⟩; refine ⟨_, rfl, ?_⟩; replace BK218 := (pB BK218 hb); replace HB := (pS HB hb); (try clear hb); (try clear hk); obtain ⟨hcz11_0, hcz11_1, hcz11_2, hcz11_3, hcz11_4, hcz11_5, hfz11_0, hfz11_1, hfz11_2, hfz11_3, hfz11_4, hfz11_5⟩ := pC6 BK218) | (go_at_call 50; (with_reducible refine (addr_Valid.calls a0_3 a0_4 a0_5 true _ A6.out).mono ?_); rintro e w12 ⟨rfl, hb⟩; replace BK218 := (pB BK218 hb); replace HB := (pS HB hb); (try clear hb); (try clear hk); obtain ⟨hcz13_0, hcz13_1, hcz13_2, hcz13_3, hcz13_4, hcz13_5, hfz13_0, hfz13_1, hfz13_2, hfz13_3, hfz13_4, hfz13_5⟩ := pC6 BK218))
     refine Met.intro ?_
     go_step
     (repeat apply Exists.intro)
     refine ⟨?rel, ?heq_⟩
     case heq_ => first | rfl | (rw [c8b0]) | (simp only [c8b0])
     case rel => exact ⟨_, (true), pT, H', ⟨by first | omega | exact Nat.le_refl _⟩, ⟨pM BK218⟩, ⟨pE HB⟩⟩
    ·
     rw [if_neg c8] at H
     have c8b0 : (a0_0 != a0_3) = false := by simpa using c8
     (try (have c8b1 : decide (a0_0 = a0_3) = true := by simpa using c8))
     (try (have c8b2 : (a0_0 == a0_3) = true := by simpa using c8))
     clear c8
     (first | rw [c8b0] | (simp only [i64_w, i32_w]; rw [c8b0]) | skip)
     replace H := Option.bind_eq_some_iff.mp H
     obtain ⟨t221, A140, H⟩ := H
     have A14 := Aside0.mk A140
     clear A140
     have H' := Aside0.mk H
     clear H
     obtain ⟨hcz15_0, hcz15_1, hcz15_2, hcz15_3, hcz15_4, hcz15_5, hfz15_0, hfz15_1, hfz15_2, hfz15_3, hfz15_4, hfz15_5⟩ := pC6 BK218
     go_wp2_with (first | ((with_reducible refine gate_callee (f := 50) rfl ?_); refine goesA (some 13) Tryz.func50 #[.agg #[.bool a0_0, .int .u64 a0_1, .int .u64 a0_2]] ?_; (with_reducible refine (addr_Valid.calls a0_0 a0_1 a0_2 true _ A4.out).mono ?_); rintro e w16 ⟨rfl, hb⟩; refine ⟨_, rfl, ?_⟩; replace BK218 := (pB BK218 hb); replace HB := (pS HB hb); (try clear hb); (try clear hk); obtain ⟨hcz17_0, hcz17_1, hcz17_2, hcz17_3, hcz17_4, hcz17_5, hfz17_0, hfz17_1, hfz17_2, hfz17_3, hfz17_4, hfz17_5⟩ := pC6 BK218) | (go_at_call 50; (with_reducible refine (addr_Valid.calls a0_3 a0_4 a0_5 true _ A6.out).mono ?_); rintro e w18 ⟨rfl, hb⟩; replace BK218 := (pB BK218 hb); replace HB := (pS HB hb); (try clear hb); (try clear hk); obtain ⟨hcz19_0, hcz19_1, hcz19_2, hcz19_3, hcz19_4, hcz19_5, hfz19_0, hfz19_1, hfz19_2, hfz19_3, hfz19_4, hfz19_5⟩ := pC6 BK218) | (go_at_call 51; (with_reducible refine (addr_Compare.calls k a0_0 a0_1 a0_2 a0_3 a0_4 a0_5 t221 _ A14.out).mono ?_); rintro e w20 ⟨rfl, hb⟩; replace BK218 := (pB BK218 hb); replace HB := (pS HB hb); (try clear hb); (try clear hk)))
     refine Met.intro ?_
     go_step
     (repeat apply Exists.intro)
     refine ⟨?rel, ?heq_⟩
     case heq_ => first | rfl | (rw [c8b0]) | (simp only [c8b0])
     case rel => exact ⟨_, (decide (t221 > 0)), pT, H', ⟨by first | omega | exact Nat.le_refl _⟩, ⟨pM BK218⟩, ⟨pE HB⟩⟩
   ·
    replace c7 := Bool.eq_false_iff.mpr c7
    subst c7
    rw [if_neg (show ¬ (false = true) by decide)] at H
    have H' := Aside0.mk H
    clear H
    obtain ⟨hcz21_0, hcz21_1, hcz21_2, hcz21_3, hcz21_4, hcz21_5, hfz21_0, hfz21_1, hfz21_2, hfz21_3, hfz21_4, hfz21_5⟩ := pC6 BK218
    go_wp2_with (first | ((with_reducible refine gate_callee (f := 50) rfl ?_); refine goesA (some 13) Tryz.func50 #[.agg #[.bool a0_0, .int .u64 a0_1, .int .u64 a0_2]] ?_; (with_reducible refine (addr_Valid.calls a0_0 a0_1 a0_2 true _ A4.out).mono ?_); rintro e w22 ⟨rfl, hb⟩; refine ⟨_, rfl, ?_⟩; replace BK218 := (pB BK218 hb); replace HB := (pS HB hb); (try clear hb); (try clear hk); obtain ⟨hcz23_0, hcz23_1, hcz23_2, hcz23_3, hcz23_4, hcz23_5, hfz23_0, hfz23_1, hfz23_2, hfz23_3, hfz23_4, hfz23_5⟩ := pC6 BK218) | (go_at_call 50; (with_reducible refine (addr_Valid.calls a0_3 a0_4 a0_5 false _ A6.out).mono ?_); rintro e w24 ⟨rfl, hb⟩; replace BK218 := (pB BK218 hb); replace HB := (pS HB hb); (try clear hb); (try clear hk)))
    go_meet
    case rel => exact ⟨_, (true), pT, H', ⟨by first | omega | exact Nat.le_refl _⟩, ⟨pM BK218⟩, ⟨pE HB⟩⟩
  ·
   replace c5 := Bool.eq_false_iff.mpr c5
   subst c5
   rw [if_neg (show ¬ (false = true) by decide)] at H
   have H' := Aside0.mk H
   clear H
   obtain ⟨hcz25_0, hcz25_1, hcz25_2, hcz25_3, hcz25_4, hcz25_5, hfz25_0, hfz25_1, hfz25_2, hfz25_3, hfz25_4, hfz25_5⟩ := pC6 BK218
   go_wp2_with (first | ((with_reducible refine gate_callee (f := 50) rfl ?_); refine goesA (some 13) Tryz.func50 #[.agg #[.bool a0_0, .int .u64 a0_1, .int .u64 a0_2]] ?_; (with_reducible refine (addr_Valid.calls a0_0 a0_1 a0_2 false _ A4.out).mono ?_); rintro e w26 ⟨rfl, hb⟩; refine ⟨_, rfl, ?_⟩; replace BK218 := (pB BK218 hb); replace HB := (pS HB hb); (try clear hb); (try clear hk)))
   go_meet
   case rel => exact ⟨_, (true), pT, H', ⟨by first | omega | exact Nat.le_refl _⟩, ⟨pM BK218⟩, ⟨pE HB⟩⟩
 case rest =>
  clear HC2
  obtain ⟨kq, x37_1, rfl, HA, HJ1, BK218, HB⟩ := hcut
  cases kq with
  | zero => exact absurd HA.out (by simp [prefix_Cover.j0])
  | succ kj1 =>
   have H := HA.out
   clear HA
   simp only [prefix_Cover.j0] at H
   by_cases c27 : x37_1 = true
   ·
    subst c27
    rw [if_pos rfl] at H
    obtain rfl := Option.some.inj H
    go_wp2
    go_ret
    exact ⟨_, by first | rfl | (simp [errW_none, errW_some] <;> rfl) | (simp [*, errW_none, errW_some] <;> rfl), by first | exact Kd.R_nil _ _ _ _ _ | exact Kd.N_nil _ _ _ _ _ | exact Kd.V_nil _ _ _ _ _ | exact Kd.Q_nil _ _ _ _ _ | exact Kd.S_nil _ _ _ _ _, by repeat (first | (with_reducible first | exact HB.out | apply below_alloc | apply pw_below_drewN | apply below_drew1 | refine below_set ?_ GE218.out) | exact HB.out)⟩
   ·
    replace c27 := Bool.eq_false_iff.mpr c27
    subst c27
    rw [if_neg (show ¬ (false = true) by decide)] at H
    have H' := Aside0.mk H
    clear H
    obtain ⟨hcz28_0, hcz28_1, hcz28_2, hcz28_3, hcz28_4, hcz28_5, hfz28_0, hfz28_1, hfz28_2, hfz28_3, hfz28_4, hfz28_5⟩ := pC6 BK218
    go_wp2_with (first | ((with_reducible refine gate_dst (N := 4) rfl ?_); refine boxA (N := 4) (cs := #[.bool false, .int .u64 0, .int .u64 0]) (t := 24) ?_; intro gb222 hg w29 hbox hb; have BK222 := Aside0.mk (hbox); have GE222 := (pZ HB hg); have NB218_222 := (pL BK218 hg); have NB222_218 := (pG BK218 hg); replace BK218 := (pB BK218 hb); replace HB := (pS HB hb); clear hb hbox hg; have hnb30 := NB222_218.out; have hnc30 := NB218_222.out; obtain ⟨hcz31_0, hcz31_1, hcz31_2, hfz31_0, hfz31_1, hfz31_2⟩ := pC3 BK222))
    go_loopg [3, 4] kj1 (fun kq v3 v4 w' => ∃ (x3_2 : List (S26)) (b0 : Bool) (b1 b2 : Int) (gc : Nat), v4 = .pointer (some ⟨gc, 0, none⟩) ∧ Aside0 (prefix_Cover.l0 kq x3_2 a0_0 a0_1 a0_2 a0_3 a0_4 a0_5 b0 b1 b2 = some r) ∧ Aside0 (kq ≤ kj1) ∧ Aside0 (Kd.R k26 26 w' w.heap.size (fun _ => True) v3 x3_2) ∧ Aside0 (w'.heap[gb218]? = some (.cells #[.bool a0_0, .int .u64 a0_1, .int .u64 a0_2, .bool a0_3, .int .u64 a0_4, .int .u64 a0_5] 33 (0, 0))) ∧ Aside0 (w'.heap[gc]? = some (.cells #[.bool b0, .int .u64 b1, .int .u64 b2] 24 (0, 0))) ∧ Aside0 (Below w.heap.size w w') ∧ Aside0 (gb218 ≠ gc) ∧ Aside0 (gc ≠ gb218) ∧ Aside0 (w.heap.size ≤ gc))
    case atStart => exact ⟨(([] : List (S26))), a0_0, a0_1, a0_2, gb222, rfl, H', ⟨Nat.le_refl _⟩, ⟨by first | exact Kd.R_nil _ _ _ _ _ | exact Kd.N_nil _ _ _ _ _ | exact Kd.V_nil _ _ _ _ _ | exact Kd.Q_nil _ _ _ _ _ | exact Kd.S_nil _ _ _ _ _⟩, ⟨by (with_reducible repeat (first | refine blk_drewN ?_ _ | refine blk_drew ?_ | refine blk_alloc ?_ _)); refine blk_far ?_ NB218_222.out _; (with_reducible repeat (first | refine blk_drewN ?_ _ | refine blk_drew ?_ | refine blk_alloc ?_ _)); refine blk_far ?_ NB218_222.out _; (with_reducible repeat (first | refine blk_drewN ?_ _ | refine blk_drew ?_ | refine blk_alloc ?_ _)); refine blk_far ?_ NB218_222.out _; (with_reducible repeat (first | refine blk_drewN ?_ _ | refine blk_drew ?_ | refine blk_alloc ?_ _)); exact BK218.out⟩, ⟨by (with_reducible repeat (first | refine blk_drewN ?_ _ | refine blk_drew ?_ | refine blk_alloc ?_ _)); refine blk_put (cs := #[.bool a0_0, .int .u64 a0_1, .int .u64 0]) ?_ 2 _ rfl; (with_reducible repeat (first | refine blk_drewN ?_ _ | refine blk_drew ?_ | refine blk_alloc ?_ _)); refine blk_put (cs := #[.bool a0_0, .int .u64 0, .int .u64 0]) ?_ 1 _ rfl; (with_reducible repeat (first | refine blk_drewN ?_ _ | refine blk_drew ?_ | refine blk_alloc ?_ _)); refine blk_put (cs := #[.bool false, .int .u64 0, .int .u64 0]) ?_ 0 _ rfl; (with_reducible repeat (first | refine blk_drewN ?_ _ | refine blk_drew ?_ | refine blk_alloc ?_ _)); exact BK222.out⟩, ⟨pE HB⟩, NB218_222, NB222_218, GE222⟩
    case round =>
     clear H'
     try clear c27
     try clear hcz28_0 hcz28_1 hcz28_2 hcz28_3 hcz28_4 hcz28_5
     try clear hcz31_0 hcz31_1 hcz31_2
     try clear hfz28_0 hfz28_1 hfz28_2 hfz28_3 hfz28_4 hfz28_5
     try clear hfz31_0 hfz31_1 hfz31_2
     obtain ⟨x3_2, b0, b1, b2, gb222, rfl, HA, HK2, HO_3, BK218, BK222, HB, NB218_222, NB222_218, GE222⟩ := hrel
     have GW222 := GE222
     cases gk with
     | zero => exact absurd HA.out (by simp [prefix_Cover.l0])
     | succ k2 =>
      have H := HA.out
      clear HA
      simp only [prefix_Cover.l0] at H
      replace H := Option.bind_eq_some_iff.mp H
      obtain ⟨t223, A320, H⟩ := H
      have A32 := Aside0.mk A320
      clear A320
      replace H := Option.bind_eq_some_iff.mp H
      obtain ⟨t224, A330, H⟩ := H
      have A33 := Aside0.mk A330
      clear A330
      replace H := Option.bind_eq_some_iff.mp H
      obtain ⟨⟨t226, t227, t228, t229, t230, t231, t232⟩, A340, H⟩ := H
      replace H : (prefix_Cover.l1 k2 x3_2 a0_0 a0_1 a0_2 a0_3 a0_4 a0_5 b0 b1 b2 (wrap64 (t223 - t224)) t226 t227 t228 t229 t230 t231) = some r := H
      have A34 := Aside0.mk A340
      clear A340
      have H' := Aside0.mk H
      clear H
      try go_wp2
      replace HO_3 := Aside0.mk (Kd.R_drew HO_3.out)
      replace BK218 := Aside0.mk (blk_drew BK218.out)
      replace BK222 := Aside0.mk (blk_drew BK222.out)
      replace HB := Aside0.mk (below_drew1 HB.out)
      refine start_ (n := 6) (S := fun w' => w'.cell? ⟨gb222, 0, none⟩ = some (.bool b0) ∧ w'.cell? ⟨gb222, 1, none⟩ = some (.int .u64 b1) ∧ w'.cell? ⟨gb222, 2, none⟩ = some (.int .u64 b2)) (ds := []) (tk 6 0) (by kernel_rfl) rfl rfl ⟨bC BK222 0, bC BK222 1, bC BK222 2⟩ (fun hHeld => ?_)
      generalize wr.drew = w35 at HO_3 BK218 BK222 HB hHeld ⊢
      refine take_ (i := 0) (N := some 40) (v := ?_) (a' := ?_) (tk 6 1) rfl rfl (by kernel_rfl) (fun _ _ _ h => h) (Or.inl ⟨by rfl, ?_⟩) hHeld ?_ ?_
      rotate_left
      ·
       rintro w' ⟨s0, s1, s2⟩
       go_simp
       with_reducible rfl
      rotate_left
      ·
       simp only [Act.put, List.setIfInBounds_toArray, List.set_cons_zero, List.set_cons_succ, i64_w, i32_w]
       rfl
      refine take_ (i := 2) (N := some 42) (v := ?_) (a' := ?_) (tr [1, 1, 1, 3]) rfl rfl (by kernel_rfl) (fun _ _ _ h => h) (Or.inl ⟨by rfl, ?_⟩) hHeld ?_ ?_
      rotate_left
      ·
       rintro w' ⟨s0, s1, s2⟩
       go_simp
       with_reducible rfl
      rotate_left
      ·
       simp only [Act.put, List.setIfInBounds_toArray, List.set_cons_zero, List.set_cons_succ, i64_w, i32_w]
       rfl
      refine one_ (i := 1) (N := some 41) (tk 6 3) rfl rfl (by kernel_rfl) (by decide) (fun K hK => ?_)
      refine goesR Tryz.func46 #[.agg #[.bool b0, .int .u64 b1, .int .u64 b2]] ?_
      with_reducible refine (prefix_length.calls b0 b1 b2 t223 _ A32.out).mono ?_
      rintro e w36 ⟨rfl, hb⟩
      refine ⟨_, rfl, ?_⟩
      replace HO_3 := Aside0.mk (Kd.R_below (by (with_reducible repeat (first | apply Kd.R_alloc | apply Kd.R_drewN | apply Kd.R_drew)); exact HO_3.out) hb)
      replace BK218 := (pB BK218 hb)
      replace BK222 := (pB BK222 hb)
      replace HB := (pS HB hb)
      (try clear hb)
      (try clear hk)
      refine hK.out _ _ ⟨bC BK222 0, bC BK222 1, bC BK222 2⟩ (fun hHeld => ?_)
      clear hK K
      refine normA (N := some 41) ?_
      refine one_ (i := 3) (N := some 43) (tk 6 4) rfl rfl (by kernel_rfl) (by decide) (fun K hK => ?_)
      refine goesR Tryz.func52 #[.agg #[.bool b0, .int .u64 b1, .int .u64 b2]] ?_
      with_reducible refine (prefix_zeros.calls b0 b1 b2 t224 _ ?side1 A33.out).mono ?_
      (case side1 => exact Laid.below HLD.out (pE HB))
      rintro e w37 ⟨rfl, hb⟩
      refine ⟨_, rfl, ?_⟩
      replace HO_3 := Aside0.mk (Kd.R_below (by (with_reducible repeat (first | apply Kd.R_alloc | apply Kd.R_drewN | apply Kd.R_drew)); exact HO_3.out) hb)
      replace BK218 := (pB BK218 hb)
      replace BK222 := (pB BK222 hb)
      replace HB := (pS HB hb)
      (try clear hb)
      (try clear hk)
      refine hK.out _ _ ⟨bC BK222 0, bC BK222 1, bC BK222 2⟩ (fun hHeld => ?_)
      clear hK K
      refine normA (N := some 43) ?_
      refine pure_ (i := 4) (N := some 44) (v := ?_) (a' := ?_) (tk 6 5) rfl rfl (by kernel_rfl) (fun _ _ _ h => h) (Or.inl ⟨by rfl, ?_⟩) ?_ ?_
      rotate_left
      ·
       intro w'
       go_simp
       with_reducible rfl
      rotate_left
      ·
       simp only [Act.put, List.setIfInBounds_toArray, List.set_cons_zero, List.set_cons_succ, i64_w, i32_w]
       rfl
      refine pure_ (i := 5) (N := some 5) (v := ?_) (a' := ?_) (tk 6 6) rfl rfl (by kernel_rfl) (fun _ _ _ h => h) (Or.inl ⟨by rfl, ?_⟩) ?_ ?_
      rotate_left
      ·
       intro w'
       go_simp
       with_reducible rfl
      rotate_left
      ·
       simp only [Act.put, List.setIfInBounds_toArray, List.set_cons_zero, List.set_cons_succ, i64_w, i32_w]
       rfl
      refine done_ (by kernel_rfl) ?_
      have hnb38 := NB222_218.out
      have hnc38 := NB218_222.out
      obtain ⟨hcz39_0, hcz39_1, hcz39_2, hfz39_0, hfz39_1, hfz39_2⟩ := pC3 BK222
      try go_wp2_with (first | ((with_reducible refine gate_dst (N := 6) rfl ?_); refine boxA (N := 6) (cs := #[.bool false, .int .u64 0, .int .u64 0, .int .i64 0]) (t := 26) ?_; intro gb225 hg w40 hbox hb; have BK225 := Aside0.mk (hbox); have GE225 := (pZ HB hg); have NB218_225 := (pL BK218 hg); have NB225_218 := (pG BK218 hg); have NB222_225 := (pL BK222 hg); have NB225_222 := (pG BK222 hg); replace HO_3 := Aside0.mk (Kd.R_below (Kd.R_elderB (by (with_reducible repeat (first | apply Kd.R_alloc | apply Kd.R_drewN | apply Kd.R_drew)); exact HO_3.out) gb225 (Nat.le_of_eq hg.symm)) hb); replace BK218 := (pB BK218 hb); replace BK222 := (pB BK222 hb); replace HB := (pS HB hb); clear hb hbox hg; have hnb41 := NB225_218.out; have hnc41 := NB218_225.out; have hnb42 := NB225_222.out; have hnc42 := NB222_225.out; obtain ⟨hcz43_0, hcz43_1, hcz43_2, hcz43_3, hfz43_0, hfz43_1, hfz43_2, hfz43_3⟩ := pC4 BK225) | ((with_reducible refine gate_callee (f := 10) rfl ?_); refine goesA (some 50) Tryz.func10 #[.agg #[.bool b0, .int .u64 b1, .int .u64 b2, .int .i64 (wrap64 (t223 - t224))]] ?_; (with_reducible refine (prefix_Bounds.calls b0 b1 b2 (wrap64 (t223 - t224)) t226 t227 t228 t229 t230 t231 t232 _ A34.out).mono ?_); rintro e w44 ⟨rfl, hb⟩; refine ⟨_, rfl, ?_⟩; replace HO_3 := Aside0.mk (Kd.R_below (by (with_reducible repeat (first | apply Kd.R_alloc | apply Kd.R_drewN | apply Kd.R_drew)); exact (Kd.R_mono (Kd.R_far (p := ⟨gb225, 3, none⟩) (Kd.R_far (p := ⟨gb225, 2, none⟩) (Kd.R_far (p := ⟨gb225, 1, none⟩) (Kd.R_far (p := ⟨gb225, 0, none⟩) (Kd.R_mono HO_3.out (fun k_ hk => (⟨hk, hk.2⟩ : _ ∧ k_ ≠ gb225))) (fun _ hk => hk.2) (.bool b0)) (fun _ hk => hk.2) (.int .u64 b1)) (fun _ hk => hk.2) (.int .u64 b2)) (fun _ hk => hk.2) (.int .i64 (wrap64 (t223 - t224)))) (fun _ h_ => h_.1))) hb); replace BK218 := (pD hb (pK NB218_225 (pK NB218_225 (pK NB218_225 (pK NB218_225 (pM BK218)))))); replace BK222 := (pD hb (pK NB222_225 (pK NB222_225 (pK NB222_225 (pK NB222_225 (pM BK222)))))); replace BK225 := (pD hb (pP (pP (pP (pP (pM BK225)))))); replace HB := (pS HB hb); (try clear hb); (try clear hk)) | ((with_reducible refine gate_dst (N := 7) rfl ?_); refine boxA (N := 7) (cs := #[.bool false, .int .u64 0, .int .u64 0, .bool false, .int .u64 0, .int .u64 0]) (t := 33) ?_; intro gb233 hg w45 hbox hb; have BK233 := Aside0.mk (hbox); have GE233 := (pZ HB hg); have NB218_233 := (pL BK218 hg); have NB233_218 := (pG BK218 hg); have NB222_233 := (pL BK222 hg); have NB233_222 := (pG BK222 hg); have NB225_233 := (pL BK225 hg); have NB233_225 := (pG BK225 hg); replace HO_3 := Aside0.mk (Kd.R_below (by (with_reducible repeat (first | apply Kd.R_alloc | apply Kd.R_drewN | apply Kd.R_drew)); exact HO_3.out) hb); replace BK218 := (pB BK218 hb); replace BK222 := (pB BK222 hb); replace BK225 := (pB BK225 hb); replace HB := (pS HB hb); clear hb hbox hg; have hnb46 := NB233_218.out; have hnc46 := NB218_233.out; have hnb47 := NB233_222.out; have hnc47 := NB222_233.out; have hnb48 := NB233_225.out; have hnc48 := NB225_233.out; obtain ⟨hcz49_0, hcz49_1, hcz49_2, hcz49_3, hcz49_4, hcz49_5, hfz49_0, hfz49_1, hfz49_2, hfz49_3, hfz49_4, hfz49_5⟩ := pC6 BK233) | ((with_reducible refine gate_store (t := 33) (p := 7) rfl ?_); refine store_event (t := 33) (p := 7) (v := ?vo_w50) (w1 := ((((((w45.setCell ⟨gb233, 0, none⟩ (.bool t226)).setCell ⟨gb233, 1, none⟩ (.int .u64 t227)).setCell ⟨gb233, 2, none⟩ (.int .u64 t228)).setCell ⟨gb233, 3, none⟩ (.bool t229)).setCell ⟨gb233, 4, none⟩ (.int .u64 t230)).setCell ⟨gb233, 5, none⟩ (.int .u64 t231))) ?hg ?ho ?hn ?hr ?_; (case ho => rfl); (case hg => rfl); (case hn => rfl); (case hr => first | (exact Ext.run_store_chain 33 _ _ rfl _ _ _ _ rfl rfl (pM BK233) (by kernel_rfl) rfl rfl rfl) | (go_simp; done) | (go_simp; rfl)); intro w50 hw; replace HO_3 : Aside0 (Kd.R k26 26 w50 w.heap.size (fun k_ => k_ ≠ gb225) u3 x3_2) := ⟨(by rw [hw]; exact (by (with_reducible repeat (first | apply Kd.R_alloc | apply Kd.R_drewN | apply Kd.R_drew)); exact Kd.R_mono (Kd.R_far (p := ⟨gb233, 5, none⟩) (Kd.R_far (p := ⟨gb233, 4, none⟩) (Kd.R_far (p := ⟨gb233, 3, none⟩) (Kd.R_far (p := ⟨gb233, 2, none⟩) (Kd.R_far (p := ⟨gb233, 1, none⟩) (Kd.R_far (p := ⟨gb233, 0, none⟩) (Kd.R_types HO_3.out BK233.out (by decide)) (fun _ hk => hk.2) (.bool t226)) (fun _ hk => hk.2) (.int .u64 t227)) (fun _ hk => hk.2) (.int .u64 t228)) (fun _ hk => hk.2) (.bool t229)) (fun _ hk => hk.2) (.int .u64 t230)) (fun _ hk => hk.2) (.int .u64 t231)) (fun _ hk => hk.1.2)))⟩; replace BK218 : Aside0 (w50.heap[gb218]? = some (.cells #[.bool a0_0, .int .u64 a0_1, .int .u64 a0_2, .bool a0_3, .int .u64 a0_4, .int .u64 a0_5] 33 (0, 0))) := (pW hw (pK NB218_233 (pK NB218_233 (pK NB218_233 (pK NB218_233 (pK NB218_233 (pK NB218_233 (pM BK218)))))))); replace BK222 : Aside0 (w50.heap[gb222]? = some (.cells #[.bool b0, .int .u64 b1, .int .u64 b2] 24 (0, 0))) := (pW hw (pK NB222_233 (pK NB222_233 (pK NB222_233 (pK NB222_233 (pK NB222_233 (pK NB222_233 (pM BK222)))))))); replace BK225 : Aside0 (w50.heap[gb225]? = some (.cells #[.bool b0, .int .u64 b1, .int .u64 b2, .int .i64 (wrap64 (t223 - t224))] 26 (0, 0))) := (pW hw (pK NB225_233 (pK NB225_233 (pK NB225_233 (pK NB225_233 (pK NB225_233 (pK NB225_233 (pM BK225)))))))); replace BK233 : Aside0 (w50.heap[gb233]? = some (.cells #[.bool t226, .int .u64 t227, .int .u64 t228, .bool t229, .int .u64 t230, .int .u64 t231] 33 (0, 0))) := (pW hw (pP (pP (pP (pP (pP (pP (pM BK233)))))))); replace HB : Aside0 (Below w.heap.size w w50) := ⟨(by rw [hw]; exact (by repeat (first | (with_reducible first | exact HB.out | apply below_alloc | apply pw_below_drewN | apply below_drew1 | refine below_set ?_ GE218.out | refine below_set ?_ GE222.out | refine below_set ?_ GE225.out | refine below_set ?_ GE233.out) | exact HB.out)))⟩; clear hw))
      go_loopg [] k2 (fun kq w' => ∃ (x226003_3 : Int) (x234000_3 : Bool) (x234001_3 : Int) (x234002_3 : Int) (x234003_3 : Bool) (x234004_3 : Int) (x234005_3 : Int), Aside0 (prefix_Cover.l1 kq x3_2 a0_0 a0_1 a0_2 a0_3 a0_4 a0_5 b0 b1 b2 x226003_3 x234000_3 x234001_3 x234002_3 x234003_3 x234004_3 x234005_3 = some r) ∧ Aside0 (kq ≤ k2) ∧ Aside0 (Kd.R k26 26 w' w.heap.size (fun k_ => k_ ≠ gb225) u3 x3_2) ∧ Aside0 (w'.heap[gb218]? = some (.cells #[.bool a0_0, .int .u64 a0_1, .int .u64 a0_2, .bool a0_3, .int .u64 a0_4, .int .u64 a0_5] 33 (0, 0))) ∧ Aside0 (w'.heap[gb222]? = some (.cells #[.bool b0, .int .u64 b1, .int .u64 b2] 24 (0, 0))) ∧ Aside0 (w'.heap[gb225]? = some (.cells #[.bool b0, .int .u64 b1, .int .u64 b2, .int .i64 x226003_3] 26 (0, 0))) ∧ Aside0 (w'.heap[gb233]? = some (.cells #[.bool x234000_3, .int .u64 x234001_3, .int .u64 x234002_3, .bool x234003_3, .int .u64 x234004_3, .int .u64 x234005_3] 33 (0, 0))) ∧ Aside0 (Below w.heap.size w w'))
      case atStart => exact ⟨(wrap64 (t223 - t224)), (t226), (t227), (t228), (t229), (t230), (t231), H', ⟨Nat.le_refl _⟩, ⟨by (with_reducible repeat (first | apply Kd.R_alloc | apply Kd.R_drewN | apply Kd.R_drew)); exact HO_3.out⟩, ⟨pM BK218⟩, ⟨pM BK222⟩, ⟨pM BK225⟩, ⟨pM BK233⟩, ⟨pE HB⟩⟩
      case round =>
       clear H'
       try clear c27
       try clear hcz28_0 hcz28_1 hcz28_2 hcz28_3 hcz28_4 hcz28_5
       try clear hcz31_0 hcz31_1 hcz31_2
       try clear hcz39_0 hcz39_1 hcz39_2
       try clear hcz43_0 hcz43_1 hcz43_2 hcz43_3
       try clear hcz49_0 hcz49_1 hcz49_2 hcz49_3 hcz49_4 hcz49_5
       try clear hfz28_0 hfz28_1 hfz28_2 hfz28_3 hfz28_4 hfz28_5
       try clear hfz31_0 hfz31_1 hfz31_2
       try clear hfz39_0 hfz39_1 hfz39_2
       try clear hfz43_0 hfz43_1 hfz43_2 hfz43_3
       try clear hfz49_0 hfz49_1 hfz49_2 hfz49_3 hfz49_4 hfz49_5
       obtain ⟨x226003_3, x234000_3, x234001_3, x234002_3, x234003_3, x234004_3, x234005_3, HA, HK3, HO_3, BK218, BK222, BK225, BK233, HB⟩ := hrel
       cases gk with
       | zero => exact absurd HA.out (by simp [prefix_Cover.l1])
       | succ k3 =>
        have H := HA.out
        clear HA
        simp only [prefix_Cover.l1] at H
        replace H := Option.bind_eq_some_iff.mp H
        obtain ⟨t234, A510, H⟩ := H
        have A51 := Aside0.mk A510
        clear A510
        by_cases c52 : t234 > 0
        ·
         rw [if_pos c52] at H
         have c52b0 := decide_eq_true c52
         clear c52
         replace H := Option.bind_eq_some_iff.mp H
         obtain ⟨⟨t235, t236, t237, t238, t239, t240, t241⟩, A530, H⟩ := H
         replace H : (prefix_Cover.l1 k3 x3_2 a0_0 a0_1 a0_2 a0_3 a0_4 a0_5 b0 b1 b2 (wrap64 (x226003_3 + 1)) t235 t236 t237 t238 t239 t240) = some r := H
         have A53 := Aside0.mk A530
         clear A530
         have H' := Aside0.mk H
         clear H
         have hnb54 := NB233_218.out
         have hnc54 := NB218_233.out
         have hnb55 := NB233_222.out
         have hnc55 := NB222_233.out
         have hnb56 := NB233_225.out
         have hnc56 := NB225_233.out
         obtain ⟨hcz57_0, hcz57_1, hcz57_2, hcz57_3, hcz57_4, hcz57_5, hfz57_0, hfz57_1, hfz57_2, hfz57_3, hfz57_4, hfz57_5⟩ := pC6 BK233
         have hnb58 := NB218_222.out
         have hnc58 := NB222_218.out
         have hnb59 := NB218_225.out
         have hnc59 := NB225_218.out
         obtain ⟨hcz60_0, hcz60_1, hcz60_2, hcz60_3, hcz60_4, hcz60_5, hfz60_0, hfz60_1, hfz60_2, hfz60_3, hfz60_4, hfz60_5⟩ := pC6 BK218
         go_wp2_with (first | ((with_reducible refine gate_callee (f := 51) rfl ?_); refine goesA (some 57) Tryz.func51 #[.agg #[.bool x234003_3, .int .u64 x234004_3, .int .u64 x234005_3], .agg #[.bool a0_3, .int .u64 a0_4, .int .u64 a0_5]] ?_; (with_reducible refine (addr_Compare.calls k3 x234003_3 x234004_3 x234005_3 a0_3 a0_4 a0_5 t234 _ A51.out).mono ?_); rintro e w61 ⟨rfl, hb⟩; refine ⟨_, rfl, ?_⟩; replace HO_3 := Aside0.mk (Kd.R_below (by (with_reducible repeat (first | apply Kd.R_alloc | apply Kd.R_drewN | apply Kd.R_drew)); exact HO_3.out) hb); replace BK218 := (pB BK218 hb); replace BK222 := (pB BK222 hb); replace BK225 := (pB BK225 hb); replace BK233 := (pB BK233 hb); replace HB := (pS HB hb); (try clear hb); (try clear hk); have hnb62 := NB225_222.out; have hnc62 := NB222_225.out; obtain ⟨hcz63_0, hcz63_1, hcz63_2, hcz63_3, hfz63_0, hfz63_1, hfz63_2, hfz63_3⟩ := pC4 BK225) | ((with_reducible refine gate_callee (f := 10) rfl ?_); refine goesA (some 65) Tryz.func10 #[.agg #[.bool b0, .int .u64 b1, .int .u64 b2, .int .i64 (wrap64 (x226003_3 + 1))]] ?_; (with_reducible refine (prefix_Bounds.calls b0 b1 b2 (wrap64 (x226003_3 + 1)) t235 t236 t237 t238 t239 t240 t241 _ A53.out).mono ?_); rintro e w64 ⟨rfl, hb⟩; refine ⟨_, rfl, ?_⟩; replace HO_3 := Aside0.mk (Kd.R_below (by (with_reducible repeat (first | apply Kd.R_alloc | apply Kd.R_drewN | apply Kd.R_drew)); exact (Kd.R_mono (Kd.R_far (p := ⟨gb225, 3, none⟩) (Kd.R_mono HO_3.out (fun k_ hk => (⟨hk, hk⟩ : _ ∧ k_ ≠ gb225))) (fun _ hk => hk.2) (.int .i64 (wrap64 (x226003_3 + 1)))) (fun _ h_ => h_.1))) hb); replace BK218 := (pD hb (pK NB218_225 (pM BK218))); replace BK222 := (pD hb (pK NB222_225 (pM BK222))); replace BK225 := (pD hb (pP (pM BK225))); replace BK233 := (pD hb (pK NB233_225 (pM BK233))); replace HB := (pS HB hb); (try clear hb); (try clear hk); obtain ⟨hcz65_0, hcz65_1, hcz65_2, hcz65_3, hcz65_4, hcz65_5, hfz65_0, hfz65_1, hfz65_2, hfz65_3, hfz65_4, hfz65_5⟩ := pC6 BK233) | ((with_reducible refine gate_store (t := 33) (p := 7) rfl ?_); refine store_event (t := 33) (p := 7) (v := ?vo_w66) (w1 := ((((((w64.setCell ⟨gb233, 0, none⟩ (.bool t235)).setCell ⟨gb233, 1, none⟩ (.int .u64 t236)).setCell ⟨gb233, 2, none⟩ (.int .u64 t237)).setCell ⟨gb233, 3, none⟩ (.bool t238)).setCell ⟨gb233, 4, none⟩ (.int .u64 t239)).setCell ⟨gb233, 5, none⟩ (.int .u64 t240))) ?hg ?ho ?hn ?hr ?_; (case ho => rfl); (case hg => rfl); (case hn => rfl); (case hr => first | (exact Ext.run_store_chain 33 _ _ rfl _ _ _ _ rfl rfl (pM BK233) (by kernel_rfl) rfl rfl rfl) | (go_simp; done) | (go_simp; rfl)); intro w66 hw; replace HO_3 : Aside0 (Kd.R k26 26 w66 w.heap.size (fun k_ => k_ ≠ gb225) u3 x3_2) := ⟨(by rw [hw]; exact (by (with_reducible repeat (first | apply Kd.R_alloc | apply Kd.R_drewN | apply Kd.R_drew)); exact Kd.R_mono (Kd.R_far (p := ⟨gb233, 5, none⟩) (Kd.R_far (p := ⟨gb233, 4, none⟩) (Kd.R_far (p := ⟨gb233, 3, none⟩) (Kd.R_far (p := ⟨gb233, 2, none⟩) (Kd.R_far (p := ⟨gb233, 1, none⟩) (Kd.R_far (p := ⟨gb233, 0, none⟩) (Kd.R_types HO_3.out BK233.out (by decide)) (fun _ hk => hk.2) (.bool t235)) (fun _ hk => hk.2) (.int .u64 t236)) (fun _ hk => hk.2) (.int .u64 t237)) (fun _ hk => hk.2) (.bool t238)) (fun _ hk => hk.2) (.int .u64 t239)) (fun _ hk => hk.2) (.int .u64 t240)) (fun _ hk => hk.1)))⟩; replace BK218 : Aside0 (w66.heap[gb218]? = some (.cells #[.bool a0_0, .int .u64 a0_1, .int .u64 a0_2, .bool a0_3, .int .u64 a0_4, .int .u64 a0_5] 33 (0, 0))) := (pW hw (pK NB218_233 (pK NB218_233 (pK NB218_233 (pK NB218_233 (pK NB218_233 (pK NB218_233 (pM BK218)))))))); replace BK222 : Aside0 (w66.heap[gb222]? = some (.cells #[.bool b0, .int .u64 b1, .int .u64 b2] 24 (0, 0))) := (pW hw (pK NB222_233 (pK NB222_233 (pK NB222_233 (pK NB222_233 (pK NB222_233 (pK NB222_233 (pM BK222)))))))); replace BK225 : Aside0 (w66.heap[gb225]? = some (.cells #[.bool b0, .int .u64 b1, .int .u64 b2, .int .i64 (wrap64 (x226003_3 + 1))] 26 (0, 0))) := (pW hw (pK NB225_233 (pK NB225_233 (pK NB225_233 (pK NB225_233 (pK NB225_233 (pK NB225_233 (pM BK225)))))))); replace BK233 : Aside0 (w66.heap[gb233]? = some (.cells #[.bool t235, .int .u64 t236, .int .u64 t237, .bool t238, .int .u64 t239, .int .u64 t240] 33 (0, 0))) := (pW hw (pP (pP (pP (pP (pP (pP (pM BK233)))))))); replace HB : Aside0 (Below w.heap.size w w66) := ⟨(by rw [hw]; exact (by repeat (first | (with_reducible first | exact HB.out | apply below_alloc | apply pw_below_drewN | apply below_drew1 | refine below_set ?_ GE218.out | refine below_set ?_ GE222.out | refine below_set ?_ GE225.out | refine below_set ?_ GE233.out) | exact HB.out)))⟩; clear hw))
         go_roundg k3
         case measure => have := HJ1.out; have := HK2.out; have := HK3.out; omega
         case rel => exact ⟨(wrap64 (x226003_3 + 1)), (t235), (t236), (t237), (t238), (t239), (t240), H', ⟨by have := HJ1.out; have := HK2.out; have := HK3.out; omega⟩, ⟨by (with_reducible repeat (first | apply Kd.R_alloc | apply Kd.R_drewN | apply Kd.R_drew)); exact HO_3.out⟩, ⟨pM BK218⟩, ⟨pM BK222⟩, ⟨pM BK225⟩, ⟨pM BK233⟩, ⟨pE HB⟩⟩
        ·
         rw [if_neg c52] at H
         have c52b0 := decide_eq_false c52
         clear c52
         by_cases c67 : x3_2.length < 4398046511104
         ·
          rw [if_pos c67] at H
          have LMc67 := Aside0.mk c67
          clear c67
          obtain ⟨y242, hy242⟩ : ∃ y_ : List (S26), y_ = (x3_2 ++ [(⟨(⟨b0, b1, b2⟩ : S24), x226003_3⟩ : S26)]) := ⟨_, rfl⟩
          replace H : (if (x234003_3 == a0_3 && (x234004_3 == a0_4 && (x234005_3 == a0_5))) = true then (some y242) else ((addr_Add.f x234003_3 x234004_3 x234005_3 1).bind fun bt245 => (if bt245.2.2.2 = true then (prefix_Cover.l0 k3 y242 a0_0 a0_1 a0_2 a0_3 a0_4 a0_5 bt245.1 bt245.2.1 bt245.2.2.1) else (some y242)))) = some r := by first | (rw [hy242]; with_reducible exact H) | (have H2_ := (Option.bind_some _ _).symm.trans H; rw [hy242]; with_reducible exact H2_) | (have H2_ := (Option.bind_some _ _).symm.trans H; with_reducible exact H2_) | with_reducible exact H | (rw [hy242]; exact H) | exact H
          have Ny242 := Aside0.mk hy242
          clear hy242
          by_cases c68 : (x234003_3 == a0_3 && (x234004_3 == a0_4 && (x234005_3 == a0_5))) = true
          ·
           rw [if_pos c68] at H
           have c68b0 : (x234003_3 == a0_3 && (x234004_3 == a0_4 && (x234005_3 == a0_5))) = true := c68
           (try (have c68b1 : decide (x234003_3 = a0_3 && (x234004_3 == a0_4 && (x234005_3 == a0_5))) = true := by simpa using c68))
           (try (have c68b2 : (x234003_3 == a0_3 && (x234004_3 == a0_4 && (x234005_3 == a0_5))) = true := by simpa using c68))
           clear c68
           obtain rfl := Option.some.inj H
           have hnb69 := NB233_218.out
           have hnc69 := NB218_233.out
           have hnb70 := NB233_222.out
           have hnc70 := NB222_233.out
           have hnb71 := NB233_225.out
           have hnc71 := NB225_233.out
           obtain ⟨hcz72_0, hcz72_1, hcz72_2, hcz72_3, hcz72_4, hcz72_5, hfz72_0, hfz72_1, hfz72_2, hfz72_3, hfz72_4, hfz72_5⟩ := pC6 BK233
           have hnb73 := NB218_222.out
           have hnc73 := NB222_218.out
           have hnb74 := NB218_225.out
           have hnc74 := NB225_218.out
           obtain ⟨hcz75_0, hcz75_1, hcz75_2, hcz75_3, hcz75_4, hcz75_5, hfz75_0, hfz75_1, hfz75_2, hfz75_3, hfz75_4, hfz75_5⟩ := pC6 BK218
           go_wp2_with (first | ((with_reducible refine gate_callee (f := 51) rfl ?_); refine goesA (some 57) Tryz.func51 #[.agg #[.bool x234003_3, .int .u64 x234004_3, .int .u64 x234005_3], .agg #[.bool a0_3, .int .u64 a0_4, .int .u64 a0_5]] ?_; (with_reducible refine (addr_Compare.calls k3 x234003_3 x234004_3 x234005_3 a0_3 a0_4 a0_5 t234 _ A51.out).mono ?_); rintro e w76 ⟨rfl, hb⟩; refine ⟨_, rfl, ?_⟩; replace HO_3 := Aside0.mk (Kd.R_below (by (with_reducible repeat (first | apply Kd.R_alloc | apply Kd.R_drewN | apply Kd.R_drew)); exact HO_3.out) hb); replace BK218 := (pB BK218 hb); replace BK222 := (pB BK222 hb); replace BK225 := (pB BK225 hb); replace BK233 := (pB BK233 hb); replace HB := (pS HB hb); (try clear hb); (try clear hk); have hnb77 := NB225_222.out; have hnc77 := NB222_225.out; obtain ⟨hcz78_0, hcz78_1, hcz78_2, hcz78_3, hfz78_0, hfz78_1, hfz78_2, hfz78_3⟩ := pC4 BK225) | ((with_reducible refine gate_builtin (b := .append) (xs := #[.tmp 68, .tmp 70]) rfl ?_); at_builtin; refine Kd.R_append k26 (w0 := w) w.heap.size rfl (.tmp 68) (.tmp 70) 45 26 (.agg #[(.bool false), (.int .u64 0), (.int .u64 0), (.int .i64 0)]) 32 rfl Tryz.underlying45 info26 rfl (by decide) (by omega) u3 x3_2 (⟨(⟨b0, b1, b2⟩ : S24), x226003_3⟩ : S26) [.bool b0, .int .u64 b1, .int .u64 b2, .int .i64 x226003_3] (fun k_ => k_ ≠ gb225) (fun _ => False) rfl rfl ?aP (fun _ hk => hk.elim) ?aF ?aO ?aB ?aS ?aL ?_; (case aP => exact k26_mkM _ _ _ (⟨(⟨b0, b1, b2⟩ : S24), x226003_3⟩ : S26)); (case aB => exact (by repeat (first | (with_reducible first | exact HB.out | apply below_alloc | apply pw_below_drewN | apply below_drew1 | refine below_set ?_ GE218.out | refine below_set ?_ GE222.out | refine below_set ?_ GE225.out | refine below_set ?_ GE233.out) | exact HB.out))); (case aF => exact (fun k_ hk => Kd.freshB (g := gb225) (o := .cells #[.bool b0, .int .u64 b1, .int .u64 b2, .int .i64 x226003_3] 26 (0, 0)) (pM BK225) k_ hk)); (case aO => exact (by (with_reducible repeat (first | apply Kd.R_alloc | apply Kd.R_drewN | apply Kd.R_drew)); exact HO_3.out)); (case aS => exact (below_size (by repeat (first | (with_reducible first | exact HB.out | apply below_alloc | apply pw_below_drewN | apply below_drew1 | refine below_set ?_ GE218.out | refine below_set ?_ GE222.out | refine below_set ?_ GE225.out | refine below_set ?_ GE233.out) | exact HB.out)))); (case aL => have := LMc67.out; omega); intro v243 w79 ho hb hg hat; rw [← Ny242.out] at ho; have HO244 := Aside0.mk (ho); replace BK218 := Aside0.mk (blk_grown (g := gb218) (o := .cells #[.bool a0_0, .int .u64 a0_1, .int .u64 a0_2, .bool a0_3, .int .u64 a0_4, .int .u64 a0_5] 33 (0, 0)) (pM BK218) hg (Kd.R_ne HO_3.out BK218.out (by decide))); replace BK222 := Aside0.mk (blk_grown (g := gb222) (o := .cells #[.bool b0, .int .u64 b1, .int .u64 b2] 24 (0, 0)) (pM BK222) hg (Kd.R_ne HO_3.out BK222.out (by decide))); replace BK225 := Aside0.mk (blk_grown (g := gb225) (o := .cells #[.bool b0, .int .u64 b1, .int .u64 b2, .int .i64 x226003_3] 26 (0, 0)) (pM BK225) hg (Kd.R_away HO_3.out (fun _ hk => hk))); replace BK233 := Aside0.mk (blk_grown (g := gb233) (o := .cells #[.bool x234000_3, .int .u64 x234001_3, .int .u64 x234002_3, .bool x234003_3, .int .u64 x234004_3, .int .u64 x234005_3] 33 (0, 0)) (pM BK233) hg (Kd.R_ne HO_3.out BK233.out (by decide))); replace HB := Aside0.mk (hb); clear HO_3; clear ho hb hg hat; obtain ⟨hcz80_0, hcz80_1, hcz80_2, hcz80_3, hcz80_4, hcz80_5, hfz80_0, hfz80_1, hfz80_2, hfz80_3, hfz80_4, hfz80_5⟩ := pC6 BK233; obtain ⟨hcz81_0, hcz81_1, hcz81_2, hcz81_3, hcz81_4, hcz81_5, hfz81_0, hfz81_1, hfz81_2, hfz81_3, hfz81_4, hfz81_5⟩ := pC6 BK218))
           go_ret
           exact ⟨_, by first | rfl | (simp [errW_none, errW_some] <;> rfl) | (simp [*, errW_none, errW_some] <;> rfl), by (with_reducible repeat (first | apply Kd.R_alloc | apply Kd.R_drewN | apply Kd.R_drew)); exact Kd.R_mono HO244.out (fun _ hk => trivial), by repeat (first | (with_reducible first | exact HB.out | apply below_alloc | apply pw_below_drewN | apply below_drew1 | refine below_set ?_ GE218.out | refine below_set ?_ GE222.out | refine below_set ?_ GE225.out | refine below_set ?_ GE233.out) | exact HB.out)⟩
          ·
           rw [if_neg c68] at H
           have c68b0 : (x234003_3 == a0_3 && (x234004_3 == a0_4 && (x234005_3 == a0_5))) = false := by simpa using c68
           (try (have c68b1 : decide (x234003_3 = a0_3 && (x234004_3 == a0_4 && (x234005_3 == a0_5))) = false := by simpa using c68))
           (try (have c68b2 : (x234003_3 == a0_3 && (x234004_3 == a0_4 && (x234005_3 == a0_5))) = false := by simpa using c68))
           (try (have c68b3 : ¬ (x234003_3 = a0_3 && (x234004_3 == a0_4 && (x234005_3 == a0_5))) := by simpa using c68))
           clear c68
           replace H := Option.bind_eq_some_iff.mp H
           obtain ⟨⟨t245, t246, t247, t248⟩, A820, H⟩ := H
           replace H : (if t248 = true then (prefix_Cover.l0 k3 y242 a0_0 a0_1 a0_2 a0_3 a0_4 a0_5 t245 t246 t247) else (some y242)) = some r := H
           have A82 := Aside0.mk A820
           clear A820
           by_cases c83 : t248 = true
           ·
            subst c83
            rw [if_pos rfl] at H
            have H' := Aside0.mk H
            clear H
            have hnb84 := NB233_218.out
            have hnc84 := NB218_233.out
            have hnb85 := NB233_222.out
            have hnc85 := NB222_233.out
            have hnb86 := NB233_225.out
            have hnc86 := NB225_233.out
            obtain ⟨hcz87_0, hcz87_1, hcz87_2, hcz87_3, hcz87_4, hcz87_5, hfz87_0, hfz87_1, hfz87_2, hfz87_3, hfz87_4, hfz87_5⟩ := pC6 BK233
            have hnb88 := NB218_222.out
            have hnc88 := NB222_218.out
            have hnb89 := NB218_225.out
            have hnc89 := NB225_218.out
            obtain ⟨hcz90_0, hcz90_1, hcz90_2, hcz90_3, hcz90_4, hcz90_5, hfz90_0, hfz90_1, hfz90_2, hfz90_3, hfz90_4, hfz90_5⟩ := pC6 BK218
            go_wp2_with (first | ((with_reducible refine gate_callee (f := 51) rfl ?_); refine goesA (some 57) Tryz.func51 #[.agg #[.bool x234003_3, .int .u64 x234004_3, .int .u64 x234005_3], .agg #[.bool a0_3, .int .u64 a0_4, .int .u64 a0_5]] ?_; (with_reducible refine (addr_Compare.calls k3 x234003_3 x234004_3 x234005_3 a0_3 a0_4 a0_5 t234 _ A51.out).mono ?_); rintro e w91 ⟨rfl, hb⟩; refine ⟨_, rfl, ?_⟩; replace HO_3 := Aside0.mk (Kd.R_below (by (with_reducible repeat (first | apply Kd.R_alloc | apply Kd.R_drewN | apply Kd.R_drew)); exact HO_3.out) hb); replace BK218 := (pB BK218 hb); replace BK222 := (pB BK222 hb); replace BK225 := (pB BK225 hb); replace BK233 := (pB BK233 hb); replace HB := (pS HB hb); (try clear hb); (try clear hk); have hnb92 := NB225_222.out; have hnc92 := NB222_225.out; obtain ⟨hcz93_0, hcz93_1, hcz93_2, hcz93_3, hfz93_0, hfz93_1, hfz93_2, hfz93_3⟩ := pC4 BK225) | ((with_reducible refine gate_builtin (b := .append) (xs := #[.tmp 68, .tmp 70]) rfl ?_); at_builtin; refine Kd.R_append k26 (w0 := w) w.heap.size rfl (.tmp 68) (.tmp 70) 45 26 (.agg #[(.bool false), (.int .u64 0), (.int .u64 0), (.int .i64 0)]) 32 rfl Tryz.underlying45 info26 rfl (by decide) (by omega) u3 x3_2 (⟨(⟨b0, b1, b2⟩ : S24), x226003_3⟩ : S26) [.bool b0, .int .u64 b1, .int .u64 b2, .int .i64 x226003_3] (fun k_ => k_ ≠ gb225) (fun _ => False) rfl rfl ?aP (fun _ hk => hk.elim) ?aF ?aO ?aB ?aS ?aL ?_; (case aP => exact k26_mkM _ _ _ (⟨(⟨b0, b1, b2⟩ : S24), x226003_3⟩ : S26)); (case aB => exact (by repeat (first | (with_reducible first | exact HB.out | apply below_alloc | apply pw_below_drewN | apply below_drew1 | refine below_set ?_ GE218.out | refine below_set ?_ GE222.out | refine below_set ?_ GE225.out | refine below_set ?_ GE233.out) | exact HB.out))); (case aF => exact (fun k_ hk => Kd.freshB (g := gb225) (o := .cells #[.bool b0, .int .u64 b1, .int .u64 b2, .int .i64 x226003_3] 26 (0, 0)) (pM BK225) k_ hk)); (case aO => exact (by (with_reducible repeat (first | apply Kd.R_alloc | apply Kd.R_drewN | apply Kd.R_drew)); exact HO_3.out)); (case aS => exact (below_size (by repeat (first | (with_reducible first | exact HB.out | apply below_alloc | apply pw_below_drewN | apply below_drew1 | refine below_set ?_ GE218.out | refine below_set ?_ GE222.out | refine below_set ?_ GE225.out | refine below_set ?_ GE233.out) | exact HB.out)))); (case aL => have := LMc67.out; omega); intro v243 w94 ho hb hg hat; rw [← Ny242.out] at ho; have HO244 := Aside0.mk (ho); replace BK218 := Aside0.mk (blk_grown (g := gb218) (o := .cells #[.bool a0_0, .int .u64 a0_1, .int .u64 a0_2, .bool a0_3, .int .u64 a0_4, .int .u64 a0_5] 33 (0, 0)) (pM BK218) hg (Kd.R_ne HO_3.out BK218.out (by decide))); replace BK222 := Aside0.mk (blk_grown (g := gb222) (o := .cells #[.bool b0, .int .u64 b1, .int .u64 b2] 24 (0, 0)) (pM BK222) hg (Kd.R_ne HO_3.out BK222.out (by decide))); replace BK225 := Aside0.mk (blk_grown (g := gb225) (o := .cells #[.bool b0, .int .u64 b1, .int .u64 b2, .int .i64 x226003_3] 26 (0, 0)) (pM BK225) hg (Kd.R_away HO_3.out (fun _ hk => hk))); replace BK233 := Aside0.mk (blk_grown (g := gb233) (o := .cells #[.bool x234000_3, .int .u64 x234001_3, .int .u64 x234002_3, .bool x234003_3, .int .u64 x234004_3, .int .u64 x234005_3] 33 (0, 0)) (pM BK233) hg (Kd.R_ne HO_3.out BK233.out (by decide))); replace HB := Aside0.mk (hb); clear HO_3; clear ho hb hg hat; obtain ⟨hcz95_0, hcz95_1, hcz95_2, hcz95_3, hcz95_4, hcz95_5, hfz95_0, hfz95_1, hfz95_2, hfz95_3, hfz95_4, hfz95_5⟩ := pC6 BK233; obtain ⟨hcz96_0, hcz96_1, hcz96_2, hcz96_3, hcz96_4, hcz96_5, hfz96_0, hfz96_1, hfz96_2, hfz96_3, hfz96_4, hfz96_5⟩ := pC6 BK218) | ((with_reducible refine gate_callee (f := 53) rfl ?_); refine goesA (some 81) Tryz.func53 #[.agg #[.bool x234003_3, .int .u64 x234004_3, .int .u64 x234005_3], .int .u64 1] ?_; (with_reducible refine (addr_Add.calls x234003_3 x234004_3 x234005_3 1 t245 t246 t247 true _ A82.out).mono ?_); rintro e w97 ⟨rfl, hb⟩; refine ⟨_, rfl, ?_⟩; replace HO244 := Aside0.mk (Kd.R_below (by (with_reducible repeat (first | apply Kd.R_alloc | apply Kd.R_drewN | apply Kd.R_drew)); exact HO244.out) hb); replace BK218 := (pB BK218 hb); replace BK222 := (pB BK222 hb); replace BK225 := (pB BK225 hb); replace BK233 := (pB BK233 hb); replace HB := (pS HB hb); (try clear hb); (try clear hk)) | ((with_reducible refine gate_dst (N := 9) rfl ?_); refine boxA (N := 9) (cs := #[.bool false, .int .u64 0, .int .u64 0]) (t := 24) ?_; intro gb249 hg w98 hbox hb; have BK249 := Aside0.mk (hbox); have GE249 := (pZ HB hg); have NB218_249 := (pL BK218 hg); have NB249_218 := (pG BK218 hg); have NB222_249 := (pL BK222 hg); have NB249_222 := (pG BK222 hg); have NB225_249 := (pL BK225 hg); have NB249_225 := (pG BK225 hg); have NB233_249 := (pL BK233 hg); have NB249_233 := (pG BK233 hg); replace HO244 := Aside0.mk (Kd.R_below (by (with_reducible repeat (first | apply Kd.R_alloc | apply Kd.R_drewN | apply Kd.R_drew)); exact HO244.out) hb); replace BK218 := (pB BK218 hb); replace BK222 := (pB BK222 hb); replace BK225 := (pB BK225 hb); replace BK233 := (pB BK233 hb); replace HB := (pS HB hb); clear hb hbox hg; have hnb99 := NB249_218.out; have hnc99 := NB218_249.out; have hnb100 := NB249_222.out; have hnc100 := NB222_249.out; have hnb101 := NB249_225.out; have hnc101 := NB225_249.out; have hnb102 := NB249_233.out; have hnc102 := NB233_249.out; obtain ⟨hcz103_0, hcz103_1, hcz103_2, hfz103_0, hfz103_1, hfz103_2⟩ := pC3 BK249; obtain ⟨hcz104_0, hcz104_1, hcz104_2, hfz104_0, hfz104_1, hfz104_2⟩ := pC3 BK222) | ((with_reducible refine gate_store (t := 24) (p := 4) rfl ?_); refine store_event (t := 24) (p := 4) (v := ?vo_w105) (w1 := ((((((w98.setCell ⟨gb249, 0, none⟩ (.bool t245)).setCell ⟨gb249, 1, none⟩ (.int .u64 t246)).setCell ⟨gb249, 2, none⟩ (.int .u64 t247)).setCell ⟨gb222, 0, none⟩ (.bool t245)).setCell ⟨gb222, 1, none⟩ (.int .u64 t246)).setCell ⟨gb222, 2, none⟩ (.int .u64 t247))) ?hg ?ho ?hn ?hr ?_; (case ho => rfl); (case hg => rfl); (case hn => rfl); (case hr => first | (exact Ext.run_store_chain 24 _ _ rfl _ _ _ _ rfl rfl (pK NB222_249 (pK NB222_249 (pK NB222_249 (pM BK222)))) (by kernel_rfl) rfl rfl rfl) | (go_simp; done) | (go_simp; rfl)); intro w105 hw; replace HO244 : Aside0 (Kd.R k26 26 w105 w.heap.size (fun k_ => k_ ≠ gb225) v243 y242) := ⟨(by rw [hw]; exact (by (with_reducible repeat (first | apply Kd.R_alloc | apply Kd.R_drewN | apply Kd.R_drew)); exact Kd.R_mono (Kd.R_far (p := ⟨gb222, 2, none⟩) (Kd.R_far (p := ⟨gb222, 1, none⟩) (Kd.R_far (p := ⟨gb222, 0, none⟩) (Kd.R_far (p := ⟨gb249, 2, none⟩) (Kd.R_far (p := ⟨gb249, 1, none⟩) (Kd.R_far (p := ⟨gb249, 0, none⟩) (Kd.R_types (Kd.R_types HO244.out BK249.out (by decide)) BK222.out (by decide)) (fun _ hk => hk.1.2) (.bool t245)) (fun _ hk => hk.1.2) (.int .u64 t246)) (fun _ hk => hk.1.2) (.int .u64 t247)) (fun _ hk => hk.2) (.bool t245)) (fun _ hk => hk.2) (.int .u64 t246)) (fun _ hk => hk.2) (.int .u64 t247)) (fun _ hk => hk.1.1)))⟩; replace BK218 : Aside0 (w105.heap[gb218]? = some (.cells #[.bool a0_0, .int .u64 a0_1, .int .u64 a0_2, .bool a0_3, .int .u64 a0_4, .int .u64 a0_5] 33 (0, 0))) := (pW hw (pK NB218_222 (pK NB218_222 (pK NB218_222 (pK NB218_249 (pK NB218_249 (pK NB218_249 (pM BK218)))))))); replace BK222 : Aside0 (w105.heap[gb222]? = some (.cells #[.bool t245, .int .u64 t246, .int .u64 t247] 24 (0, 0))) := (pW hw (pP (pP (pP (pK NB222_249 (pK NB222_249 (pK NB222_249 (pM BK222)))))))); replace BK225 : Aside0 (w105.heap[gb225]? = some (.cells #[.bool b0, .int .u64 b1, .int .u64 b2, .int .i64 x226003_3] 26 (0, 0))) := (pW hw (pK NB225_222 (pK NB225_222 (pK NB225_222 (pK NB225_249 (pK NB225_249 (pK NB225_249 (pM BK225)))))))); replace BK233 : Aside0 (w105.heap[gb233]? = some (.cells #[.bool x234000_3, .int .u64 x234001_3, .int .u64 x234002_3, .bool x234003_3, .int .u64 x234004_3, .int .u64 x234005_3] 33 (0, 0))) := (pW hw (pK NB233_222 (pK NB233_222 (pK NB233_222 (pK NB233_249 (pK NB233_249 (pK NB233_249 (pM BK233)))))))); replace BK249 : Aside0 (w105.heap[gb249]? = some (.cells #[.bool t245, .int .u64 t246, .int .u64 t247] 24 (0, 0))) := (pW hw (pK NB249_222 (pK NB249_222 (pK NB249_222 (pP (pP (pP (pM BK249)))))))); replace HB : Aside0 (Below w.heap.size w w105) := ⟨(by rw [hw]; exact (by repeat (first | (with_reducible first | exact HB.out | apply below_alloc | apply pw_below_drewN | apply below_drew1 | refine below_set ?_ GE218.out | refine below_set ?_ GE222.out | refine below_set ?_ GE225.out | refine below_set ?_ GE233.out | refine below_set ?_ GE249.out) | exact HB.out)))⟩; clear hw; obtain ⟨hcz106_0, hcz106_1, hcz106_2, hfz106_0, hfz106_1, hfz106_2⟩ := pC3 BK222) | ((with_reducible refine gate_dst (N := 4) rfl ?_); refine boxA (N := 4) (cs := #[.bool false, .int .u64 0, .int .u64 0]) (t := 24) ?_; intro gb250 hg w107 hbox hb; have BK250 := Aside0.mk (hbox); have GE250 := (pZ HB hg); have NB218_250 := (pL BK218 hg); have NB250_218 := (pG BK218 hg); have NB222_250 := (pL BK222 hg); have NB250_222 := (pG BK222 hg); have NB225_250 := (pL BK225 hg); have NB250_225 := (pG BK225 hg); have NB233_250 := (pL BK233 hg); have NB250_233 := (pG BK233 hg); have NB249_250 := (pL BK249 hg); have NB250_249 := (pG BK249 hg); replace HO244 := Aside0.mk (Kd.R_below (by (with_reducible repeat (first | apply Kd.R_alloc | apply Kd.R_drewN | apply Kd.R_drew)); exact HO244.out) hb); replace BK218 := (pB BK218 hb); replace BK222 := (pB BK222 hb); replace BK225 := (pB BK225 hb); replace BK233 := (pB BK233 hb); replace BK249 := (pB BK249 hb); replace HB := (pS HB hb); clear hb hbox hg; have hnb108 := NB250_218.out; have hnc108 := NB218_250.out; have hnb109 := NB250_222.out; have hnc109 := NB222_250.out; have hnb110 := NB250_225.out; have hnc110 := NB225_250.out; have hnb111 := NB250_233.out; have hnc111 := NB233_250.out; have hnb112 := NB250_249.out; have hnc112 := NB249_250.out; obtain ⟨hcz113_0, hcz113_1, hcz113_2, hfz113_0, hfz113_1, hfz113_2⟩ := pC3 BK250))
            go_roundg k3
            case measure => have := HJ1.out; have := HK2.out; have := HK3.out; omega
            case rel => exact ⟨(y242), t245, t246, t247, gb250, rfl, H', ⟨by have := HJ1.out; have := HK2.out; have := HK3.out; omega⟩, ⟨by (with_reducible repeat (first | apply Kd.R_alloc | apply Kd.R_drewN | apply Kd.R_drew)); exact Kd.R_mono (Kd.R_far (p := ⟨gb250, 2, none⟩) (Kd.R_far (p := ⟨gb250, 1, none⟩) (Kd.R_far (p := ⟨gb250, 0, none⟩) (Kd.R_types HO244.out BK250.out (by decide)) (fun _ hk => hk.2) (.bool t245)) (fun _ hk => hk.2) (.int .u64 t246)) (fun _ hk => hk.2) (.int .u64 t247)) (fun _ hk => trivial)⟩, ⟨by (with_reducible repeat (first | refine blk_drewN ?_ _ | refine blk_drew ?_ | refine blk_alloc ?_ _)); refine blk_far ?_ NB218_250.out _; (with_reducible repeat (first | refine blk_drewN ?_ _ | refine blk_drew ?_ | refine blk_alloc ?_ _)); refine blk_far ?_ NB218_250.out _; (with_reducible repeat (first | refine blk_drewN ?_ _ | refine blk_drew ?_ | refine blk_alloc ?_ _)); refine blk_far ?_ NB218_250.out _; (with_reducible repeat (first | refine blk_drewN ?_ _ | refine blk_drew ?_ | refine blk_alloc ?_ _)); exact BK218.out⟩, ⟨by (with_reducible repeat (first | refine blk_drewN ?_ _ | refine blk_drew ?_ | refine blk_alloc ?_ _)); refine blk_put (cs := #[.bool t245, .int .u64 t246, .int .u64 0]) ?_ 2 _ rfl; (with_reducible repeat (first | refine blk_drewN ?_ _ | refine blk_drew ?_ | refine blk_alloc ?_ _)); refine blk_put (cs := #[.bool t245, .int .u64 0, .int .u64 0]) ?_ 1 _ rfl; (with_reducible repeat (first | refine blk_drewN ?_ _ | refine blk_drew ?_ | refine blk_alloc ?_ _)); refine blk_put (cs := #[.bool false, .int .u64 0, .int .u64 0]) ?_ 0 _ rfl; (with_reducible repeat (first | refine blk_drewN ?_ _ | refine blk_drew ?_ | refine blk_alloc ?_ _)); exact BK250.out⟩, ⟨pE HB⟩, NB218_250, NB250_218, GE250⟩
           ·
            replace c83 := Bool.eq_false_iff.mpr c83
            subst c83
            rw [if_neg (show ¬ (false = true) by decide)] at H
            obtain rfl := Option.some.inj H
            have hnb114 := NB233_218.out
            have hnc114 := NB218_233.out
            have hnb115 := NB233_222.out
            have hnc115 := NB222_233.out
            have hnb116 := NB233_225.out
            have hnc116 := NB225_233.out
            obtain ⟨hcz117_0, hcz117_1, hcz117_2, hcz117_3, hcz117_4, hcz117_5, hfz117_0, hfz117_1, hfz117_2, hfz117_3, hfz117_4, hfz117_5⟩ := pC6 BK233
            have hnb118 := NB218_222.out
            have hnc118 := NB222_218.out
            have hnb119 := NB218_225.out
            have hnc119 := NB225_218.out
            obtain ⟨hcz120_0, hcz120_1, hcz120_2, hcz120_3, hcz120_4, hcz120_5, hfz120_0, hfz120_1, hfz120_2, hfz120_3, hfz120_4, hfz120_5⟩ := pC6 BK218
            go_wp2_with (first | ((with_reducible refine gate_callee (f := 51) rfl ?_); refine goesA (some 57) Tryz.func51 #[.agg #[.bool x234003_3, .int .u64 x234004_3, .int .u64 x234005_3], .agg #[.bool a0_3, .int .u64 a0_4, .int .u64 a0_5]] ?_; (with_reducible refine (addr_Compare.calls k3 x234003_3 x234004_3 x234005_3 a0_3 a0_4 a0_5 t234 _ A51.out).mono ?_); rintro e w121 ⟨rfl, hb⟩; refine ⟨_, rfl, ?_⟩; replace HO_3 := Aside0.mk (Kd.R_below (by (with_reducible repeat (first | apply Kd.R_alloc | apply Kd.R_drewN | apply Kd.R_drew)); exact HO_3.out) hb); replace BK218 := (pB BK218 hb); replace BK222 := (pB BK222 hb); replace BK225 := (pB BK225 hb); replace BK233 := (pB BK233 hb); replace HB := (pS HB hb); (try clear hb); (try clear hk); have hnb122 := NB225_222.out; have hnc122 := NB222_225.out; obtain ⟨hcz123_0, hcz123_1, hcz123_2, hcz123_3, hfz123_0, hfz123_1, hfz123_2, hfz123_3⟩ := pC4 BK225) | ((with_reducible refine gate_builtin (b := .append) (xs := #[.tmp 68, .tmp 70]) rfl ?_); at_builtin; refine Kd.R_append k26 (w0 := w) w.heap.size rfl (.tmp 68) (.tmp 70) 45 26 (.agg #[(.bool false), (.int .u64 0), (.int .u64 0), (.int .i64 0)]) 32 rfl Tryz.underlying45 info26 rfl (by decide) (by omega) u3 x3_2 (⟨(⟨b0, b1, b2⟩ : S24), x226003_3⟩ : S26) [.bool b0, .int .u64 b1, .int .u64 b2, .int .i64 x226003_3] (fun k_ => k_ ≠ gb225) (fun _ => False) rfl rfl ?aP (fun _ hk => hk.elim) ?aF ?aO ?aB ?aS ?aL ?_; (case aP => exact k26_mkM _ _ _ (⟨(⟨b0, b1, b2⟩ : S24), x226003_3⟩ : S26)); (case aB => exact (by repeat (first | (with_reducible first | exact HB.out | apply below_alloc | apply pw_below_drewN | apply below_drew1 | refine below_set ?_ GE218.out | refine below_set ?_ GE222.out | refine below_set ?_ GE225.out | refine below_set ?_ GE233.out) | exact HB.out))); (case aF => exact (fun k_ hk => Kd.freshB (g := gb225) (o := .cells #[.bool b0, .int .u64 b1, .int .u64 b2, .int .i64 x226003_3] 26 (0, 0)) (pM BK225) k_ hk)); (case aO => exact (by (with_reducible repeat (first | apply Kd.R_alloc | apply Kd.R_drewN | apply Kd.R_drew)); exact HO_3.out)); (case aS => exact (below_size (by repeat (first | (with_reducible first | exact HB.out | apply below_alloc | apply pw_below_drewN | apply below_drew1 | refine below_set ?_ GE218.out | refine below_set ?_ GE222.out | refine below_set ?_ GE225.out | refine below_set ?_ GE233.out) | exact HB.out)))); (case aL => have := LMc67.out; omega); intro v243 w124 ho hb hg hat; rw [← Ny242.out] at ho; have HO244 := Aside0.mk (ho); replace BK218 := Aside0.mk (blk_grown (g := gb218) (o := .cells #[.bool a0_0, .int .u64 a0_1, .int .u64 a0_2, .bool a0_3, .int .u64 a0_4, .int .u64 a0_5] 33 (0, 0)) (pM BK218) hg (Kd.R_ne HO_3.out BK218.out (by decide))); replace BK222 := Aside0.mk (blk_grown (g := gb222) (o := .cells #[.bool b0, .int .u64 b1, .int .u64 b2] 24 (0, 0)) (pM BK222) hg (Kd.R_ne HO_3.out BK222.out (by decide))); replace BK225 := Aside0.mk (blk_grown (g := gb225) (o := .cells #[.bool b0, .int .u64 b1, .int .u64 b2, .int .i64 x226003_3] 26 (0, 0)) (pM BK225) hg (Kd.R_away HO_3.out (fun _ hk => hk))); replace BK233 := Aside0.mk (blk_grown (g := gb233) (o := .cells #[.bool x234000_3, .int .u64 x234001_3, .int .u64 x234002_3, .bool x234003_3, .int .u64 x234004_3, .int .u64 x234005_3] 33 (0, 0)) (pM BK233) hg (Kd.R_ne HO_3.out BK233.out (by decide))); replace HB := Aside0.mk (hb); clear HO_3; clear ho hb hg hat; obtain ⟨hcz125_0, hcz125_1, hcz125_2, hcz125_3, hcz125_4, hcz125_5, hfz125_0, hfz125_1, hfz125_2, hfz125_3, hfz125_4, hfz125_5⟩ := pC6 BK233; obtain ⟨hcz126_0, hcz126_1, hcz126_2, hcz126_3, hcz126_4, hcz126_5, hfz126_0, hfz126_1, hfz126_2, hfz126_3, hfz126_4, hfz126_5⟩ := pC6 BK218) | ((with_reducible refine gate_callee (f := 53) rfl ?_); refine goesA (some 81) Tryz.func53 #[.agg #[.bool x234003_3, .int .u64 x234004_3, .int .u64 x234005_3], .int .u64 1] ?_; (with_reducible refine (addr_Add.calls x234003_3 x234004_3 x234005_3 1 t245 t246 t247 false _ A82.out).mono ?_); rintro e w127 ⟨rfl, hb⟩; refine ⟨_, rfl, ?_⟩; replace HO244 := Aside0.mk (Kd.R_below (by (with_reducible repeat (first | apply Kd.R_alloc | apply Kd.R_drewN | apply Kd.R_drew)); exact HO244.out) hb); replace BK218 := (pB BK218 hb); replace BK222 := (pB BK222 hb); replace BK225 := (pB BK225 hb); replace BK233 := (pB BK233 hb); replace HB := (pS HB hb); (try clear hb); (try clear hk)) | ((with_reducible refine gate_dst (N := 9) rfl ?_); refine boxA (N := 9) (cs := #[.bool false, .int .u64 0, .int .u64 0]) (t := 24) ?_; intro gb249 hg w128 hbox hb; have BK249 := Aside0.mk (hbox); have GE249 := (pZ HB hg); have NB218_249 := (pL BK218 hg); have NB249_218 := (pG BK218 hg); have NB222_249 := (pL BK222 hg); have NB249_222 := (pG BK222 hg); have NB225_249 := (pL BK225 hg); have NB249_225 := (pG BK225 hg); have NB233_249 := (pL BK233 hg); have NB249_233 := (pG BK233 hg); replace HO244 := Aside0.mk (Kd.R_below (by (with_reducible repeat (first | apply Kd.R_alloc | apply Kd.R_drewN | apply Kd.R_drew)); exact HO244.out) hb); replace BK218 := (pB BK218 hb); replace BK222 := (pB BK222 hb); replace BK225 := (pB BK225 hb); replace BK233 := (pB BK233 hb); replace HB := (pS HB hb); clear hb hbox hg; have hnb129 := NB249_218.out; have hnc129 := NB218_249.out; have hnb130 := NB249_222.out; have hnc130 := NB222_249.out; have hnb131 := NB249_225.out; have hnc131 := NB225_249.out; have hnb132 := NB249_233.out; have hnc132 := NB233_249.out; obtain ⟨hcz133_0, hcz133_1, hcz133_2, hfz133_0, hfz133_1, hfz133_2⟩ := pC3 BK249))
            go_ret
            exact ⟨_, by first | rfl | (simp [errW_none, errW_some] <;> rfl) | (simp [*, errW_none, errW_some] <;> rfl), by (with_reducible repeat (first | apply Kd.R_alloc | apply Kd.R_drewN | apply Kd.R_drew)); exact Kd.R_mono (Kd.R_far (p := ⟨gb249, 2, none⟩) (Kd.R_far (p := ⟨gb249, 1, none⟩) (Kd.R_far (p := ⟨gb249, 0, none⟩) (Kd.R_types HO244.out BK249.out (by decide)) (fun _ hk => hk.2) (.bool t245)) (fun _ hk => hk.2) (.int .u64 t246)) (fun _ hk => hk.2) (.int .u64 t247)) (fun _ hk => trivial), by repeat (first | (with_reducible first | exact HB.out | apply below_alloc | apply pw_below_drewN | apply below_drew1 | refine below_set ?_ GE218.out | refine below_set ?_ GE222.out | refine below_set ?_ GE225.out | refine below_set ?_ GE233.out | refine below_set ?_ GE249.out) | exact HB.out)⟩
         ·
          rw [if_neg c67] at H
          exact absurd H (by simp)
end Go.Proofs.YteflcmmandlknaaGreatDoor.PA
