/- The Go functions in Lean, with the proofs that the code comes to these answers: printed by this session's program (wip/px) out of the seat's translation. Conditions: each theorem's own. -/
import Derived.Test.YteflcmmandlknaaDoorPAx0
import Derived.Test.YteflcmmandlknaaDoorPAx3
import Derived.Test.YteflcmmandlknaaDoorPAx4
import Derived.Test.YteflcmmandlknaaDoorPAx8
namespace Go.Proofs.YteflcmmandlknaaDoor.PA
open Go.RowKit Go.Proofs.YteflcmmandlknaaDoorW.PrintWords Go.Proofs.YteflcmmandlknaaDoorW.PrintLast Go.Proofs.YteflcmmandlknaaDoorW.PrintMore
attribute [local go_sem] max2_int min2_int max_two min_two max_three min_three max_four min_four   -- for this text's walks alone
attribute [local go_sem ↓] Ext.isSome_setCell
open Press
set_option linter.unusedVariables false
set_option linter.unusedSimpArgs false

/-! ### addr_Wire: function 36 -/
def addr_Wire.f (k : Nat) (a0_0 : Bool) (a0_1 : Int) (a0_2 : Int) : Option (ByteArray × Int) := (addr_Valid.f a0_0 a0_1 a0_2).bind fun t167 => (if t167 = true then (if a0_0 = true then ((addr_bytes.f k a0_1).bind fun t168 => ((addr_bytes.f k a0_2).bind fun t171 => (if (strOfNums t168).size + (strOfNums t171).size ≤ 9223372036854775807 then (some ((strOfNums t168) ++ (strOfNums t171), 0)) else (none)))) else ((addr_bytes.f k a0_2).bind fun t174 => (if 4 ≤ (t174.length : Int) then (some (strOfNums (t174.drop 4), 0)) else (none)))) else (some ((⟨#[]⟩ : ByteArray), 3)))
theorem addr_Wire.mono : ∀ a0 a1 a2 k, LeO (addr_Wire.f k a0 a1 a2) (addr_Wire.f (k + 1) a0 a1 a2) := by
 intro a0 a1 a2 k
 unfold addr_Wire.f
 repeat' first
  | (with_reducible exact addr_bytes.mono _ _)
  | (with_reducible exact LeO.refl _)
  | (with_reducible exact LeO.none _)
  | (with_reducible refine LeO.ite ?_ ?_)
  | (with_reducible refine LeO.bind ?_ (fun _ => ?_))
  | exact addr_bytes.mono _ _
  | exact LeO.none _
  | refine LeO.ite ?_ ?_
  | refine LeO.bind ?_ (fun _ => ?_)
def addr_Wire.T5 : Bool × List (List Nat × List Nat) := (true, [([], []), ([0], [0]), ([1], [1]), ([2], [2]), ([], []), ([4], [4]), ([5, 2], [5]), ([6], [6]), ([3, 7], [3, 7]), ([8, 6, 0, 1, 2, 3, 4, 5, 6, 7, 8], [8]), ([9, 0, 1, 2, 3, 4, 5, 6, 7, 8, 9], [])])
def addr_Wire.B5 : List Nat := [0, 1, 3, 7, 0, 16, 55, 119, 255, 511, 1023]
theorem addr_Wire.tab5 : rtab .any (opsOf Tryd.f36 5) = addr_Wire.T5 := by kernel_rfl
theorem addr_Wire.bits5 : waitsOk addr_Wire.T5.2 addr_Wire.B5 = true := by kernel_rfl
set_option maxHeartbeats 40000000 in
set_option maxRecDepth 100000 in
theorem addr_Wire.calls (k : Nat) (a0_0 : Bool) (a0_1 : Int) (a0_2 : Int) (r1 : ByteArray) (r2 : Int) (w : World) (h : addr_Wire.f k a0_0 a0_1 a0_2 = some (r1, r2)) :
 Calls Tryd.prog 36 #[.agg #[.bool a0_0, .int .u64 a0_1, .int .u64 a0_2]] w fun e w' => e = .returned (.tuple #[.string r1, .int .i64 r2]) ∧ Below w.heap.size w w' := by
 have hu24 := Tryd.underlying24
 have HB := Aside0.mk (Below.refl w.heap.size w)
 have H : ((addr_Valid.f a0_0 a0_1 a0_2).bind fun t167 => (if t167 = true then (if a0_0 = true then ((addr_bytes.f k a0_1).bind fun t168 => ((addr_bytes.f k a0_2).bind fun t171 => (if (strOfNums t168).size + (strOfNums t171).size ≤ 9223372036854775807 then (some ((strOfNums t168) ++ (strOfNums t171), 0)) else (none)))) else ((addr_bytes.f k a0_2).bind fun t174 => (if 4 ≤ (t174.length : Int) then (some (strOfNums (t174.drop 4), 0)) else (none)))) else (some ((⟨#[]⟩ : ByteArray), 3)))) = some (r1, r2) := h
 clear h
 replace H := Option.bind_eq_some_iff.mp H
 obtain ⟨t167, A20, H⟩ := H
 replace H : (if t167 = true then (if a0_0 = true then ((addr_bytes.f k a0_1).bind fun t168 => ((addr_bytes.f k a0_2).bind fun t171 => (if (strOfNums t168).size + (strOfNums t171).size ≤ 9223372036854775807 then (some ((strOfNums t168) ++ (strOfNums t171), 0)) else (none)))) else ((addr_bytes.f k a0_2).bind fun t174 => (if 4 ≤ (t174.length : Int) then (some (strOfNums (t174.drop 4), 0)) else (none)))) else (some ((⟨#[]⟩ : ByteArray), 3))) = some (r1, r2) := H
 have A2 := Aside0.mk A20
 clear A20
 by_cases c3 : t167 = true
 ·
  subst c3
  have H1 : (if a0_0 = true then ((addr_bytes.f k a0_1).bind fun t168 => ((addr_bytes.f k a0_2).bind fun t171 => (if (strOfNums t168).size + (strOfNums t171).size ≤ 9223372036854775807 then (some ((strOfNums t168) ++ (strOfNums t171), 0)) else (none)))) else ((addr_bytes.f k a0_2).bind fun t174 => (if 4 ≤ (t174.length : Int) then (some (strOfNums (t174.drop 4), 0)) else (none)))) = some (r1, r2) := by rw [if_pos rfl] at H; exact H
  clear H
  have H := H1
  clear H1
  by_cases c4 : a0_0 = true
  ·
   subst c4
   have H1 : ((addr_bytes.f k a0_1).bind fun t168 => ((addr_bytes.f k a0_2).bind fun t171 => (if (strOfNums t168).size + (strOfNums t171).size ≤ 9223372036854775807 then (some ((strOfNums t168) ++ (strOfNums t171), 0)) else (none)))) = some (r1, r2) := by rw [if_pos rfl] at H; exact H
   clear H
   have H := H1
   clear H1
   replace H := Option.bind_eq_some_iff.mp H
   obtain ⟨t168, A50, H⟩ := H
   replace H : ((addr_bytes.f k a0_2).bind fun t171 => (if (strOfNums t168).size + (strOfNums t171).size ≤ 9223372036854775807 then (some ((strOfNums t168) ++ (strOfNums t171), 0)) else (none))) = some (r1, r2) := H
   have A5 := Aside0.mk A50
   clear A50
   replace H := Option.bind_eq_some_iff.mp H
   obtain ⟨t171, A60, H⟩ := H
   replace H : (if (strOfNums t168).size + (strOfNums t171).size ≤ 9223372036854775807 then (some ((strOfNums t168) ++ (strOfNums t171), 0)) else (none)) = some (r1, r2) := H
   have A6 := Aside0.mk A60
   clear A60
   by_cases c7 : (strOfNums t168).size + (strOfNums t171).size ≤ 9223372036854775807
   ·
    rw [if_pos c7] at H
    have c7b0 := eq_true c7
    have c7b1 : decide ((strOfNums t168).size + (strOfNums t171).size ≤ 9223372036854775807) = true := decide_eq_true c7
    try have c7b2 : (9223372036854775807 < (strOfNums t168).size + (strOfNums t171).size) = False := eq_false (Nat.not_lt.2 c7)
    simp only [Option.some.injEq, Prod.mk.injEq] at H
    obtain ⟨rfl, rfl⟩ := H
    go_enter Tryd.func36, Tryd.ntmps36
    try go_wp2_with (first | ((with_reducible refine gate_dst (N := 1) rfl ?_); refine boxA (N := 1) (cs := #[.bool true, .int .u64 a0_1, .int .u64 a0_2]) (t := 24) ?_; intro gb166 hg w8 hbox hb; have BK166 := Aside0.mk (hbox); have GW166 := (pZ HB hg); have GE166 := (pZ HB hg); replace HB := (pS HB hb); clear hb hbox hg; obtain ⟨hcz9_0, hcz9_1, hcz9_2, hfz9_0, hfz9_1, hfz9_2⟩ := pC3 BK166) | ((with_reducible refine gate_callee (f := 18) rfl ?_); refine goesA (some 6) Tryd.func18 #[.agg #[.bool true, .int .u64 a0_1, .int .u64 a0_2]] ?_; (with_reducible refine (addr_Valid.calls true a0_1 a0_2 true _ A2.out).mono ?_); rintro e w10 ⟨rfl, hb⟩; refine ⟨_, rfl, ?_⟩; replace BK166 := (pB BK166 hb); replace HB := (pS HB hb); (try clear hb); (try clear hk); obtain ⟨hcz11_0, hcz11_1, hcz11_2, hfz11_0, hfz11_1, hfz11_2⟩ := pC3 BK166))
    replace BK166 := Aside0.mk (blk_drew BK166.out)
    replace HB := Aside0.mk (below_drew1 HB.out)
    refine start_ (n := 11) (S := fun w' => w'.cell? ⟨gb166, 0, none⟩ = some (.bool true) ∧ w'.cell? ⟨gb166, 1, none⟩ = some (.int .u64 a0_1) ∧ w'.cell? ⟨gb166, 2, none⟩ = some (.int .u64 a0_2)) (ds := []) (tk 11 0) (by kernel_rfl) rfl rfl ⟨(blk_cell BK166.out 0).trans rfl, (blk_cell BK166.out 1).trans rfl, (blk_cell BK166.out 2).trans rfl⟩ (fun hHeld => ?_); refine with_tabW addr_Wire.tab5 addr_Wire.bits5 (fun HT_ HW_ => ?_)
    generalize w10.drew = w12 at BK166 HB hHeld ⊢
    refine pureA (i := 0) (some 17) HT_ (tk 11 1) ?_
    refine pureA (i := 4) (some 21) HT_ (tr [1, 3, 1, 6]) ?_
    refine takeA (i := 1) (some 18) HT_ HW_ (tr [2, 2, 1, 6]) hHeld ?_
    refine takeA (i := 5) (some 22) HT_ HW_ (tr [2, 2, 2, 5]) hHeld ?_
    refine one_ (i := 2) (N := some 19) (tr [3, 1, 2, 5]) rfl rfl (one_of HT_.out (by kernel_rfl)) (by decide) (fun K hK => ?_)
    refine goesR Tryd.func50 #[.int .u64 a0_1] ?_
    with_reducible refine (addr_bytes.calls k a0_1 t168 _ A5.out).mono ?_
    rintro e w13 ⟨v169, rfl, ho0, hb⟩
    refine ⟨_, rfl, ?_⟩
    have HO170 := Aside0.mk (Kd.R_lower ho0 (below_size (by repeat (first | (with_reducible first | exact HB.out | apply below_alloc | apply pw_below_drewN | apply below_drew1 | refine below_set ?_ GE166.out) | exact HB.out))))
    replace BK166 := (pB BK166 hb)
    replace HB := (pS HB hb)
    (try clear hb)
    (try clear hk)
    (try clear ho0)
    refine hK.out _ _ ⟨(blk_cell BK166.out 0).trans rfl, (blk_cell BK166.out 1).trans rfl, (blk_cell BK166.out 2).trans rfl⟩ (fun hHeld => ?_)
    clear hK K
    refine normA (N := some 19) ?_
    refine join_ (σ := Value) 3 (tk 11 8) (fun s_ => [(20, .string (strOfNums t168)), (23, s_), (24, .string (strOfNums t171))]) (fun s_ w' => (w'.cell? ⟨gb166, 0, none⟩ = some (.bool true) ∧ w'.cell? ⟨gb166, 1, none⟩ = some (.int .u64 a0_1) ∧ w'.cell? ⟨gb166, 2, none⟩ = some (.int .u64 a0_2)) ∧ (Kd.R (Kd.int .u8) 5 w' w.heap.size (fun k_ => some k_ ≠ (s_ : Value).ownBlock) v169 t168) ∧ (Kd.R (Kd.int .u8) 5 w' w.heap.size (fun k_ => some k_ ≠ (v169 : Value).ownBlock) s_ t171) ∧ (w'.heap[gb166]? = some (.cells #[.bool true, .int .u64 a0_1, .int .u64 a0_2] 24 (0, 0))) ∧ (Below w.heap.size w w')) ?_ ?_
    rotate_left
    ·
     intro hCont
     refine two_ (i := 3) (j := 6) (Ni := some 20) (Nj := some 23) (tk 11 6) (tr [3, 1, 3, 4]) rfl rfl rfl rfl (two_of HT_.out (by kernel_rfl)) (by decide) (by decide) (fun K hK => ?_) (fun K hK => ?_)
     ·
      skip
      have hcv14 := own_string (P := Tryd.prog) Tryd.underlying90 Tryd.underlying5 Tryd.underlying9 (Kd.own_of_R HO170.out)
      refine value_ (w1 := ?_) (v := ?_) (by rfl) rfl ?_ ?_
      rotate_left 2
      ·
       go_simp
       constructor
       ·
        rfl
       ·
        rfl
      clear hcv14
      refine hK.out _ _ ⟨(blk_cell BK166.out 0).trans rfl, (blk_cell BK166.out 1).trans rfl, (blk_cell BK166.out 2).trans rfl⟩ (fun hHeld => ?_)
      clear hK K
      refine normA (N := some 20) ?_
      refine one_ (i := 6) (N := some 23) (tk 11 7) rfl rfl (one_of HT_.out (by kernel_rfl)) (by decide) (fun K hK => ?_)
      refine goesR Tryd.func50 #[.int .u64 a0_2] ?_
      with_reducible refine (addr_bytes.calls k a0_2 t171 _ A6.out).mono ?_
      rintro e w15 ⟨v172, rfl, ho0, hb⟩
      refine ⟨_, rfl, ?_⟩
      have HO173 := Aside0.mk (Kd.R_lower (Kd.R_new' ho0 (Kd.R_lt (by (with_reducible repeat (first | apply Kd.R_alloc | apply Kd.R_drewN | apply Kd.R_drew)); exact HO170.out))) (below_size (by repeat (first | (with_reducible first | exact HB.out | apply below_alloc | apply pw_below_drewN | apply below_drew1 | refine below_set ?_ GE166.out) | exact HB.out))))
      replace HO170 := Aside0.mk (Kd.R_elder' (by (with_reducible repeat (first | apply Kd.R_alloc | apply Kd.R_drewN | apply Kd.R_drew)); exact HO170.out) (Kd.R_base ho0) hb)
      replace BK166 := (pB BK166 hb)
      replace HB := (pS HB hb)
      (try clear hb)
      (try clear hk)
      (try clear ho0)
      refine hK.out _ _ ⟨(blk_cell BK166.out 0).trans rfl, (blk_cell BK166.out 1).trans rfl, (blk_cell BK166.out 2).trans rfl⟩ (fun hHeld => ?_)
      clear hK K
      refine normA (N := some 23) ?_
      refine one_ (i := 7) (N := some 24) (tk 11 8) rfl rfl (one_of HT_.out (by kernel_rfl)) (by decide) (fun K hK => ?_)
      have hcv16 := own_string (P := Tryd.prog) Tryd.underlying90 Tryd.underlying5 Tryd.underlying9 (Kd.own_of_R HO173.out)
      refine value_ (w1 := ?_) (v := ?_) (by rfl) rfl ?_ ?_
      rotate_left 2
      ·
       go_simp
       constructor
       ·
        rfl
       ·
        rfl
      clear hcv16
      refine hK.out _ _ ⟨(blk_cell BK166.out 0).trans rfl, (blk_cell BK166.out 1).trans rfl, (blk_cell BK166.out 2).trans rfl⟩ (fun hHeld => ?_)
      clear hK K
      refine normA (N := some 24) ?_
      exact norm_ (by simp only [putAll, Act.put, List.setIfInBounds_toArray, List.set_cons_zero, List.set_cons_succ]) (hCont (v172) _ ⟨hHeld, (by (with_reducible repeat (first | apply Kd.R_alloc | apply Kd.R_drewN | apply Kd.R_drew)); exact Kd.R_mono HO170.out (fun _ hk => hk.2)), (by (with_reducible repeat (first | apply Kd.R_alloc | apply Kd.R_drewN | apply Kd.R_drew)); exact Kd.R_mono HO173.out (fun _ hk => hk.2)), (pM BK166), (by repeat (first | (with_reducible first | exact HB.out | apply below_alloc | apply pw_below_drewN | apply below_drew1 | refine below_set ?_ GE166.out) | exact HB.out))⟩)
     ·
      skip
      refine goesR Tryd.func50 #[.int .u64 a0_2] ?_
      with_reducible refine (addr_bytes.calls k a0_2 t171 _ A6.out).mono ?_
      rintro e w14 ⟨v172, rfl, ho0, hb⟩
      refine ⟨_, rfl, ?_⟩
      have HO173 := Aside0.mk (Kd.R_lower (Kd.R_new' ho0 (Kd.R_lt (by (with_reducible repeat (first | apply Kd.R_alloc | apply Kd.R_drewN | apply Kd.R_drew)); exact HO170.out))) (below_size (by repeat (first | (with_reducible first | exact HB.out | apply below_alloc | apply pw_below_drewN | apply below_drew1 | refine below_set ?_ GE166.out) | exact HB.out))))
      replace HO170 := Aside0.mk (Kd.R_elder' (by (with_reducible repeat (first | apply Kd.R_alloc | apply Kd.R_drewN | apply Kd.R_drew)); exact HO170.out) (Kd.R_base ho0) hb)
      replace BK166 := (pB BK166 hb)
      replace HB := (pS HB hb)
      (try clear hb)
      (try clear hk)
      (try clear ho0)
      refine hK.out _ _ ⟨(blk_cell BK166.out 0).trans rfl, (blk_cell BK166.out 1).trans rfl, (blk_cell BK166.out 2).trans rfl⟩ (fun hHeld => ?_)
      clear hK K
      refine normA (N := some 23) ?_
      refine two_ (i := 3) (j := 7) (Ni := some 20) (Nj := some 24) (tk 11 7) (tr [3, 1, 4, 3]) rfl rfl rfl rfl (two_of HT_.out (by kernel_rfl)) (by decide) (by decide) (fun K hK => ?_) (fun K hK => ?_)
      ·
       skip
       have hcv15 := own_string (P := Tryd.prog) Tryd.underlying90 Tryd.underlying5 Tryd.underlying9 (Kd.own_of_R HO170.out)
       refine value_ (w1 := ?_) (v := ?_) (by rfl) rfl ?_ ?_
       rotate_left 2
       ·
        go_simp
        constructor
        ·
         rfl
        ·
         rfl
       clear hcv15
       refine hK.out _ _ ⟨(blk_cell BK166.out 0).trans rfl, (blk_cell BK166.out 1).trans rfl, (blk_cell BK166.out 2).trans rfl⟩ (fun hHeld => ?_)
       clear hK K
       refine normA (N := some 20) ?_
       refine one_ (i := 7) (N := some 24) (tk 11 8) rfl rfl (one_of HT_.out (by kernel_rfl)) (by decide) (fun K hK => ?_)
       have hcv16 := own_string (P := Tryd.prog) Tryd.underlying90 Tryd.underlying5 Tryd.underlying9 (Kd.own_of_R HO173.out)
       refine value_ (w1 := ?_) (v := ?_) (by rfl) rfl ?_ ?_
       rotate_left 2
       ·
        go_simp
        constructor
        ·
         rfl
        ·
         rfl
       clear hcv16
       refine hK.out _ _ ⟨(blk_cell BK166.out 0).trans rfl, (blk_cell BK166.out 1).trans rfl, (blk_cell BK166.out 2).trans rfl⟩ (fun hHeld => ?_)
       clear hK K
       refine normA (N := some 24) ?_
       exact norm_ (by simp only [putAll, Act.put, List.setIfInBounds_toArray, List.set_cons_zero, List.set_cons_succ]) (hCont (v172) _ ⟨hHeld, (by (with_reducible repeat (first | apply Kd.R_alloc | apply Kd.R_drewN | apply Kd.R_drew)); exact Kd.R_mono HO170.out (fun _ hk => hk.2)), (by (with_reducible repeat (first | apply Kd.R_alloc | apply Kd.R_drewN | apply Kd.R_drew)); exact Kd.R_mono HO173.out (fun _ hk => hk.2)), (pM BK166), (by repeat (first | (with_reducible first | exact HB.out | apply below_alloc | apply pw_below_drewN | apply below_drew1 | refine below_set ?_ GE166.out) | exact HB.out))⟩)
      ·
       skip
       have hcv15 := own_string (P := Tryd.prog) Tryd.underlying90 Tryd.underlying5 Tryd.underlying9 (Kd.own_of_R HO173.out)
       refine value_ (w1 := ?_) (v := ?_) (by rfl) rfl ?_ ?_
       rotate_left 2
       ·
        go_simp
        constructor
        ·
         rfl
        ·
         rfl
       clear hcv15
       refine hK.out _ _ ⟨(blk_cell BK166.out 0).trans rfl, (blk_cell BK166.out 1).trans rfl, (blk_cell BK166.out 2).trans rfl⟩ (fun hHeld => ?_)
       clear hK K
       refine normA (N := some 24) ?_
       refine one_ (i := 3) (N := some 20) (tk 11 8) rfl rfl (one_of HT_.out (by kernel_rfl)) (by decide) (fun K hK => ?_)
       have hcv16 := own_string (P := Tryd.prog) Tryd.underlying90 Tryd.underlying5 Tryd.underlying9 (Kd.own_of_R HO170.out)
       refine value_ (w1 := ?_) (v := ?_) (by rfl) rfl ?_ ?_
       rotate_left 2
       ·
        go_simp
        constructor
        ·
         rfl
        ·
         rfl
       clear hcv16
       refine hK.out _ _ ⟨(blk_cell BK166.out 0).trans rfl, (blk_cell BK166.out 1).trans rfl, (blk_cell BK166.out 2).trans rfl⟩ (fun hHeld => ?_)
       clear hK K
       refine normA (N := some 20) ?_
       exact norm_ (by simp only [putAll, Act.put, List.setIfInBounds_toArray, List.set_cons_zero, List.set_cons_succ]) (hCont (v172) _ ⟨hHeld, (by (with_reducible repeat (first | apply Kd.R_alloc | apply Kd.R_drewN | apply Kd.R_drew)); exact Kd.R_mono HO170.out (fun _ hk => hk.2)), (by (with_reducible repeat (first | apply Kd.R_alloc | apply Kd.R_drewN | apply Kd.R_drew)); exact Kd.R_mono HO173.out (fun _ hk => hk.2)), (pM BK166), (by repeat (first | (with_reducible first | exact HB.out | apply below_alloc | apply pw_below_drewN | apply below_drew1 | refine below_set ?_ GE166.out) | exact HB.out))⟩)
    rintro v172 w17 ⟨hS_, h0_, h1_, h2_, h3_⟩
    have HO170 : Aside0 (Kd.R (Kd.int .u8) 5 w17 w.heap.size (fun k_ => some k_ ≠ (v172 : Value).ownBlock) v169 t168) := ⟨h0_⟩
    have HO173 : Aside0 (Kd.R (Kd.int .u8) 5 w17 w.heap.size (fun k_ => some k_ ≠ (v169 : Value).ownBlock) v172 t171) := ⟨h1_⟩
    replace BK166 : Aside0 (w17.heap[gb166]? = some (.cells #[.bool true, .int .u64 a0_1, .int .u64 a0_2] 24 (0, 0))) := ⟨h2_⟩
    replace HB : Aside0 (Below w.heap.size w w17) := ⟨h3_⟩
    clear h0_ h1_ h2_ h3_
    have hHeld : w17.cell? ⟨gb166, 0, none⟩ = some (.bool true) ∧ w17.cell? ⟨gb166, 1, none⟩ = some (.int .u64 a0_1) ∧ w17.cell? ⟨gb166, 2, none⟩ = some (.int .u64 a0_2) := hS_
    refine norm_ (a' := ?_) ?_ ?_
    rotate_left
    ·
     simp only [putAll, Act.put, List.setIfInBounds_toArray, List.set_cons_zero, List.set_cons_succ]
     rfl
    refine pureA (i := 8) (some 25) HT_ (tk 11 9) ?_
    refine pureA (i := 9) (some 2) HT_ (tk 11 10) ?_
    refine pureA (i := 10) (some 3) HT_ (tk 11 11) ?_
    refine done_ (done_of HT_.out (by kernel_rfl)) ?_
    try go_wp2
    go_ret2
    exact pR (pE HB)
   ·
    rw [if_neg c7] at H
    exact absurd H (by simp)
  ·
   replace c4 := Bool.eq_false_iff.mpr c4
   subst c4
   have H1 : ((addr_bytes.f k a0_2).bind fun t174 => (if 4 ≤ (t174.length : Int) then (some (strOfNums (t174.drop 4), 0)) else (none))) = some (r1, r2) := by rw [if_neg (show ¬ (false = true) by decide)] at H; exact H
   clear H
   have H := H1
   clear H1
   replace H := Option.bind_eq_some_iff.mp H
   obtain ⟨t174, A180, H⟩ := H
   replace H : (if 4 ≤ (t174.length : Int) then (some (strOfNums (t174.drop 4), 0)) else (none)) = some (r1, r2) := H
   have A18 := Aside0.mk A180
   clear A180
   by_cases c19 : 4 ≤ (t174.length : Int)
   ·
    rw [if_pos c19] at H
    have c19b0 := eq_true c19
    have c19b1 : decide (4 ≤ (t174.length : Int)) = true := decide_eq_true c19
    clear c19
    obtain ⟨y177, hy177⟩ : ∃ y_ : List Int, y_ = (t174.drop 4) := ⟨_, rfl⟩
    replace H : (some (strOfNums y177, 0)) = some (r1, r2) := by first | (rw [hy177]; with_reducible exact H) | (have H2_ := (Option.bind_some _ _).symm.trans H; rw [hy177]; with_reducible exact H2_) | (have H2_ := (Option.bind_some _ _).symm.trans H; with_reducible exact H2_) | with_reducible exact H | (rw [hy177]; exact H) | exact H
    have Ny177 := Aside0.mk hy177
    clear hy177
    simp only [Option.some.injEq, Prod.mk.injEq] at H
    obtain ⟨rfl, rfl⟩ := H
    go_enter Tryd.func36, Tryd.ntmps36
    go_wp2_with (first | ((with_reducible refine gate_dst (N := 1) rfl ?_); refine boxA (N := 1) (cs := #[.bool false, .int .u64 a0_1, .int .u64 a0_2]) (t := 24) ?_; intro gb166 hg w20 hbox hb; have BK166 := Aside0.mk (hbox); have GW166 := (pZ HB hg); have GE166 := (pZ HB hg); replace HB := (pS HB hb); clear hb hbox hg; obtain ⟨hcz21_0, hcz21_1, hcz21_2, hfz21_0, hfz21_1, hfz21_2⟩ := pC3 BK166) | ((with_reducible refine gate_callee (f := 18) rfl ?_); refine goesA (some 6) Tryd.func18 #[.agg #[.bool false, .int .u64 a0_1, .int .u64 a0_2]] ?_; (with_reducible refine (addr_Valid.calls false a0_1 a0_2 true _ A2.out).mono ?_); rintro e w22 ⟨rfl, hb⟩; refine ⟨_, rfl, ?_⟩; replace BK166 := (pB BK166 hb); replace HB := (pS HB hb); (try clear hb); (try clear hk); obtain ⟨hcz23_0, hcz23_1, hcz23_2, hfz23_0, hfz23_1, hfz23_2⟩ := pC3 BK166) | ((with_reducible refine gate_callee (f := 50) rfl ?_); refine goesA (some 14) Tryd.func50 #[.int .u64 a0_2] ?_; (with_reducible refine (addr_bytes.calls k a0_2 t174 _ A18.out).mono ?_); rintro e w24 ⟨v175, rfl, ho0, hb⟩; refine ⟨_, rfl, ?_⟩; have HO176 := Aside0.mk (Kd.R_lower ho0 (below_size (by repeat (first | (with_reducible first | exact HB.out | apply below_alloc | apply pw_below_drewN | apply below_drew1 | refine below_set ?_ GE166.out) | exact HB.out)))); replace BK166 := (pB BK166 hb); replace HB := (pS HB hb); (try clear hb); (try clear hk); (try clear ho0); obtain ⟨Ao26, co26, eo26⟩ := Kd.R_slice HO176.out; subst eo26; have q25 : (4 : Int) ≤ ((t174.length : Int) : Int) := of_decide_eq_true (by first | (with_reducible assumption) | assumption); obtain ⟨i025, hi025, _, hsz25, _⟩ := info_parts info5; have hroom25 : t174.length ≤ co26 := (Kd.R_reads' HO176.out).2.1; have hC25 : Kd.C (Kd.int .u8) _ Ao26 t174.length t174 := (Kd.R_reads' HO176.out).2.2; have hcut25 := cut_from (P := Tryd.prog) 90 5 .i64 Tryd.underlying90 hi025 1 hsz25 Ao26 t174.length co26 4 (by omega) q25; have hr25 := Kd.C_drop (m := (4 : Int).toNat) (c := co26) hC25 (by omega) hroom25; obtain ⟨A25, hA25⟩ : ∃ A1, A1 = (if co26 = (4 : Int).toNat then Ao26 else (Ao26 : Option Addr).map (·.add ((4 : Int).toNat * 1))) := ⟨_, rfl⟩; obtain ⟨c25, hc25⟩ : ∃ c1, c1 = co26 - (4 : Int).toNat := ⟨_, rfl⟩; have hy25 : y177.length = t174.length - (4 : Int).toNat := (by rw [Ny177.out, List.length_drop] <;> omega); rw [show (t174).drop (4 : Int).toNat = y177 from Ny177.out.symm] at hr25; replace hr25 : Kd.C (Kd.int .u8) _ A25 y177.length y177 := (by rw [hA25]; exact hr25); rw [← hy25, ← hA25, ← hc25] at hcut25; have HR180 := Aside0.mk hr25; have HC180 := Aside0.mk (show y177.length ≤ c25 from by rw [hy25, hc25]; exact Nat.sub_le_sub_right hroom25 _); clear hr25 hC25 hroom25 hi025 hsz25 hc25; have KY25 := Aside0.mk hy25; have KA25 := Aside0.mk hA25; clear hy25 hA25; have KL25 := Aside0.mk (show 4 ≤ t174.length from by omega); replace q25 := eq_true q25; have hcv27 := Kd.C_string (P := Tryd.prog) (A := A25) (c := c25) Tryd.underlying90 Tryd.underlying5 Tryd.underlying9 (by repeat (first | (with_reducible exact HR180.out) | (with_reducible refine Kd.C_alloc ?_ _) | (with_reducible refine Kd.C_drewN ?_ _) | (with_reducible refine Kd.C_drew ?_) | exact HR180.out))))
    go_ret2
    exact pR (pE HB)
   ·
    rw [if_neg c19] at H
    exact absurd H (by simp)
 ·
  replace c3 := Bool.eq_false_iff.mpr c3
  subst c3
  have H1 : (some ((⟨#[]⟩ : ByteArray), 3)) = some (r1, r2) := by rw [if_neg (show ¬ (false = true) by decide)] at H; exact H
  clear H
  have H := H1
  clear H1
  simp only [Option.some.injEq, Prod.mk.injEq] at H
  obtain ⟨rfl, rfl⟩ := H
  go_enter Tryd.func36, Tryd.ntmps36
  go_wp2_with (first | ((with_reducible refine gate_dst (N := 1) rfl ?_); refine boxA (N := 1) (cs := #[.bool a0_0, .int .u64 a0_1, .int .u64 a0_2]) (t := 24) ?_; intro gb166 hg w28 hbox hb; have BK166 := Aside0.mk (hbox); have GW166 := (pZ HB hg); have GE166 := (pZ HB hg); replace HB := (pS HB hb); clear hb hbox hg; obtain ⟨hcz29_0, hcz29_1, hcz29_2, hfz29_0, hfz29_1, hfz29_2⟩ := pC3 BK166) | ((with_reducible refine gate_callee (f := 18) rfl ?_); refine goesA (some 6) Tryd.func18 #[.agg #[.bool a0_0, .int .u64 a0_1, .int .u64 a0_2]] ?_; (with_reducible refine (addr_Valid.calls a0_0 a0_1 a0_2 false _ A2.out).mono ?_); rintro e w30 ⟨rfl, hb⟩; refine ⟨_, rfl, ?_⟩; replace BK166 := (pB BK166 hb); replace HB := (pS HB hb); (try clear hb); (try clear hk)))
  go_ret2
  exact pR (pE HB)

/-! ### addr_Reverse: function 17 -/
mutual
def addr_Reverse.j0 : Nat → ByteArray → ByteArray → ByteArray → Bool → Int → Int → Option (ByteArray × Int)
 | 0, _, _, _, _, _, _ => none
 | k + 1, x4, x6, x7, x182000, x182001, x182002 => addr_Reverse.l0 k x4 x6 x7 (wrap64 ((x4.size : Int) - 1)) x182000 x182001 x182002
def addr_Reverse.l0 : Nat → ByteArray → ByteArray → ByteArray → Int → Bool → Int → Int → Option (ByteArray × Int)
 | 0, _, _, _, _, _, _, _ => none
 | k + 1, x4, x6, x7, x8, x182000, x182001, x182002 => if x8 ≥ 0 then (if x182000 = true then (if 0 ≤ x8 then (if x8 < (x4.size : Int) then ((strconv_FormatUint.f (IntKind.u64.wrap (Go.bits .and .u8 (bt x4 x8) 15)) 16).bind fun t184 => (if t184.size + 1 ≤ 9223372036854775807 then ((strconv_FormatUint.f (IntKind.u64.wrap ((bt x4 x8) / 16)) 16).bind fun t185 => (if (t184 ++ (⟨#[46]⟩ : ByteArray)).size + t185.size ≤ 9223372036854775807 then (if ((t184 ++ (⟨#[46]⟩ : ByteArray)) ++ t185).size + 1 ≤ 9223372036854775807 then (if x6.size + (((t184 ++ (⟨#[46]⟩ : ByteArray)) ++ t185) ++ (⟨#[46]⟩ : ByteArray)).size ≤ 9223372036854775807 then (addr_Reverse.l0 k x4 (x6 ++ (((t184 ++ (⟨#[46]⟩ : ByteArray)) ++ t185) ++ (⟨#[46]⟩ : ByteArray))) x7 (wrap64 (x8 - 1)) x182000 x182001 x182002) else (none)) else (none)) else (none))) else (none))) else (none)) else (none)) else (if 0 ≤ x8 then (if x8 < (x4.size : Int) then ((strconv_Itoa.f (wrap64 (bt x4 x8))).bind fun t186 => (if t186.size + 1 ≤ 9223372036854775807 then (if x6.size + (t186 ++ (⟨#[46]⟩ : ByteArray)).size ≤ 9223372036854775807 then (addr_Reverse.l0 k x4 (x6 ++ (t186 ++ (⟨#[46]⟩ : ByteArray))) x7 (wrap64 (x8 - 1)) x182000 x182001 x182002) else (none)) else (none))) else (none)) else (none))) else (if x6.size + x7.size ≤ 9223372036854775807 then (some (x6 ++ x7, 0)) else (none))
end
def addr_Reverse.f (k : Nat) (a0_0 : Bool) (a0_1 : Int) (a0_2 : Int) : Option (ByteArray × Int) := (addr_Wire.f k a0_0 a0_1 a0_2).bind fun bt182 => (if bt182.2 = 0 then (if a0_0 = true then (addr_Reverse.j0 k bt182.1 (⟨#[]⟩ : ByteArray) (⟨#[105, 112, 54, 46, 97, 114, 112, 97, 46]⟩ : ByteArray) a0_0 a0_1 a0_2) else (addr_Reverse.j0 k bt182.1 (⟨#[]⟩ : ByteArray) (⟨#[105, 110, 45, 97, 100, 100, 114, 46, 97, 114, 112, 97, 46]⟩ : ByteArray) a0_0 a0_1 a0_2)) else (some ((⟨#[]⟩ : ByteArray), bt182.2)))
theorem addr_Reverse.mono_l : ∀ k, (∀ y0 y1 y2 y3 y4 y5, LeO (addr_Reverse.j0 k y0 y1 y2 y3 y4 y5) (addr_Reverse.j0 (k + 1) y0 y1 y2 y3 y4 y5)) ∧ (∀ y0 y1 y2 y3 y4 y5 y6, LeO (addr_Reverse.l0 k y0 y1 y2 y3 y4 y5 y6) (addr_Reverse.l0 (k + 1) y0 y1 y2 y3 y4 y5 y6))
 | 0 => ⟨fun _ _ _ _ _ _ r h => by simp [addr_Reverse.j0] at h, fun _ _ _ _ _ _ _ r h => by simp [addr_Reverse.l0] at h⟩
 | k + 1 => by
  obtain ⟨ih0, ih1⟩ := addr_Reverse.mono_l k
  refine ⟨?_, ?_⟩
  ·
   intro y0 y1 y2 y3 y4 y5
   unfold addr_Reverse.j0
   repeat' first
   | (with_reducible exact ih0 _ _ _ _ _ _)
   | (with_reducible exact ih1 _ _ _ _ _ _ _)
   | (with_reducible exact addr_Wire.mono _ _ _ _)
   | (with_reducible exact LeO.refl _)
   | (with_reducible exact LeO.none _)
   | (with_reducible refine LeO.ite ?_ ?_)
   | (with_reducible refine LeO.bind ?_ (fun _ => ?_))
   | exact ih0 _ _ _ _ _ _
   | exact ih1 _ _ _ _ _ _ _
   | exact addr_Wire.mono _ _ _ _
   | exact LeO.none _
   | refine LeO.ite ?_ ?_
   | refine LeO.bind ?_ (fun _ => ?_)
  ·
   intro y0 y1 y2 y3 y4 y5 y6
   unfold addr_Reverse.l0
   repeat' first
   | (with_reducible exact ih0 _ _ _ _ _ _)
   | (with_reducible exact ih1 _ _ _ _ _ _ _)
   | (with_reducible exact addr_Wire.mono _ _ _ _)
   | (with_reducible exact LeO.refl _)
   | (with_reducible exact LeO.none _)
   | (with_reducible refine LeO.ite ?_ ?_)
   | (with_reducible refine LeO.bind ?_ (fun _ => ?_))
   | exact ih0 _ _ _ _ _ _
   | exact ih1 _ _ _ _ _ _ _
   | exact addr_Wire.mono _ _ _ _
   | exact LeO.none _
   | refine LeO.ite ?_ ?_
   | refine LeO.bind ?_ (fun _ => ?_)
theorem addr_Reverse.mono : ∀ a0 a1 a2 k, LeO (addr_Reverse.f k a0 a1 a2) (addr_Reverse.f (k + 1) a0 a1 a2) := by
 intro a0 a1 a2 k
 obtain ⟨ih0, ih1⟩ := addr_Reverse.mono_l k
 unfold addr_Reverse.f
 repeat' first
  | (with_reducible exact ih0 _ _ _ _ _ _)
  | (with_reducible exact ih1 _ _ _ _ _ _ _)
  | (with_reducible exact addr_Wire.mono _ _ _ _)
  | (with_reducible exact LeO.refl _)
  | (with_reducible exact LeO.none _)
  | (with_reducible refine LeO.ite ?_ ?_)
  | (with_reducible refine LeO.bind ?_ (fun _ => ?_))
  | exact ih0 _ _ _ _ _ _
  | exact ih1 _ _ _ _ _ _ _
  | exact addr_Wire.mono _ _ _ _
  | exact LeO.none _
  | refine LeO.ite ?_ ?_
  | refine LeO.bind ?_ (fun _ => ?_)
def addr_Reverse.T12 : Bool × List (List Nat × List Nat) := (true, [([], []), ([], []), ([], []), ([1, 2], [1, 2]), ([3], [3]), ([4], [4]), ([5], [5]), ([6], [6]), ([], []), ([], []), ([8, 9], [8, 9]), ([10], [10]), ([11], [11]), ([12, 6], [12]), ([7, 13], [7, 13]), ([14], [14]), ([0, 15], [0, 15]), ([16, 13, 0, 1, 2, 3, 4, 5, 6, 7, 8, 9, 10, 11, 12, 13, 14, 15, 16], [0, 16])])
def addr_Reverse.B12 : List Nat := [0, 0, 0, 6, 14, 30, 62, 126, 0, 0, 768, 1792, 3840, 8062, 16382, 32766, 65535, 131071]
theorem addr_Reverse.tab12 : rtab .any (opsOf Tryd.f17 12) = addr_Reverse.T12 := by kernel_rfl
theorem addr_Reverse.bits12 : waitsOk addr_Reverse.T12.2 addr_Reverse.B12 = true := by kernel_rfl
set_option maxHeartbeats 40000000 in
set_option maxRecDepth 100000 in
theorem addr_Reverse.calls (k : Nat) (a0_0 : Bool) (a0_1 : Int) (a0_2 : Int) (r1 : ByteArray) (r2 : Int) (w : World) (hLD : Laid w) (h : addr_Reverse.f k a0_0 a0_1 a0_2 = some (r1, r2)) :
 Calls Tryd.prog 17 #[.agg #[.bool a0_0, .int .u64 a0_1, .int .u64 a0_2]] w fun e w' => e = .returned (.tuple #[.string r1, .int .i64 r2]) ∧ Below w.heap.size w w' := by
 have hu24 := Tryd.underlying24
 have HLD := Aside0.mk hLD
 clear hLD
 have HB := Aside0.mk (Below.refl w.heap.size w)
 have H : ((addr_Wire.f k a0_0 a0_1 a0_2).bind fun bt182 => (if bt182.2 = 0 then (if a0_0 = true then (addr_Reverse.j0 k bt182.1 (⟨#[]⟩ : ByteArray) (⟨#[105, 112, 54, 46, 97, 114, 112, 97, 46]⟩ : ByteArray) a0_0 a0_1 a0_2) else (addr_Reverse.j0 k bt182.1 (⟨#[]⟩ : ByteArray) (⟨#[105, 110, 45, 97, 100, 100, 114, 46, 97, 114, 112, 97, 46]⟩ : ByteArray) a0_0 a0_1 a0_2)) else (some ((⟨#[]⟩ : ByteArray), bt182.2)))) = some (r1, r2) := h
 clear h
 replace H := Option.bind_eq_some_iff.mp H
 obtain ⟨⟨t182, t183⟩, A20, H⟩ := H
 replace H : (if t183 = 0 then (if a0_0 = true then (addr_Reverse.j0 k t182 (⟨#[]⟩ : ByteArray) (⟨#[105, 112, 54, 46, 97, 114, 112, 97, 46]⟩ : ByteArray) a0_0 a0_1 a0_2) else (addr_Reverse.j0 k t182 (⟨#[]⟩ : ByteArray) (⟨#[105, 110, 45, 97, 100, 100, 114, 46, 97, 114, 112, 97, 46]⟩ : ByteArray) a0_0 a0_1 a0_2)) else (some ((⟨#[]⟩ : ByteArray), t183))) = some (r1, r2) := H
 have A2 := Aside0.mk A20
 clear A20
 by_cases c3 : t183 = 0
 ·
  rw [if_pos c3] at H
  have c3b0 : (t183 == 0) = true := beq_iff_eq.mpr c3
  have c3b1 : (t183 != 0) = false := bne_eq_false_iff_eq.mpr c3
  clear c3
  have HC4 := Aside0.mk H
  clear H
  go_enter Tryd.func17, Tryd.ntmps17
  go_upto_if 18 with (first | ((with_reducible refine gate_dst (N := 1) rfl ?_); refine boxA (N := 1) (cs := #[.bool a0_0, .int .u64 a0_1, .int .u64 a0_2]) (t := 24) ?_; intro gb181 hg w5 hbox hb; have BK181 := Aside0.mk (hbox); have GW181 := (pZ HB hg); have GE181 := (pZ HB hg); replace HB := (pS HB hb); clear hb hbox hg; obtain ⟨hcz6_0, hcz6_1, hcz6_2, hfz6_0, hfz6_1, hfz6_2⟩ := pC3 BK181) | ((with_reducible refine gate_callee (f := 36) rfl ?_); refine goesA (some 11) Tryd.func36 #[.agg #[.bool a0_0, .int .u64 a0_1, .int .u64 a0_2]] ?_; (with_reducible refine (addr_Wire.calls k a0_0 a0_1 a0_2 t182 t183 _ A2.out).mono ?_); rintro e w7 ⟨rfl, hb⟩; refine ⟨_, rfl, ?_⟩; replace BK181 := (pB BK181 hb); replace HB := (pS HB hb); (try clear hb); obtain ⟨hcz8_0, hcz8_1, hcz8_2, hfz8_0, hfz8_1, hfz8_2⟩ := pC3 BK181))
  (try simp only [Act.put, List.setIfInBounds_toArray, List.set_cons_zero, List.set_cons_succ])
  go_cut [7] (fun v7 wc => ∃ (kq : Nat) (x7_3 : ByteArray), v7 = .string x7_3 ∧ Aside0 (addr_Reverse.j0 kq t182 (⟨#[]⟩ : ByteArray) x7_3 a0_0 a0_1 a0_2 = some (r1, r2)) ∧ Aside0 (kq ≤ k) ∧ Aside0 (wc.heap[gb181]? = some (.cells #[.bool a0_0, .int .u64 a0_1, .int .u64 a0_2] 24 (0, 0))) ∧ Aside0 (Below w.heap.size w wc))
  case first =>
   have H := HC4.out
   clear HC4
   by_cases c9 : a0_0 = true
   ·
    subst c9
    have H1 : (addr_Reverse.j0 k t182 (⟨#[]⟩ : ByteArray) (⟨#[105, 112, 54, 46, 97, 114, 112, 97, 46]⟩ : ByteArray) true a0_1 a0_2) = some (r1, r2) := by rw [if_pos rfl] at H; exact H
    clear H
    have H := H1
    clear H1
    have H' := Aside0.mk H
    clear H
    go_wp2
    go_meet
    case rel => exact ⟨_, ((⟨#[105, 112, 54, 46, 97, 114, 112, 97, 46]⟩ : ByteArray)), pT, H', ⟨by first | omega | exact Nat.le_refl _⟩, ⟨pM BK181⟩, ⟨pE HB⟩⟩
   ·
    replace c9 := Bool.eq_false_iff.mpr c9
    subst c9
    have H1 : (addr_Reverse.j0 k t182 (⟨#[]⟩ : ByteArray) (⟨#[105, 110, 45, 97, 100, 100, 114, 46, 97, 114, 112, 97, 46]⟩ : ByteArray) false a0_1 a0_2) = some (r1, r2) := by rw [if_neg (show ¬ (false = true) by decide)] at H; exact H
    clear H
    have H := H1
    clear H1
    have H' := Aside0.mk H
    clear H
    go_wp2
    go_meet
    case rel => exact ⟨_, ((⟨#[105, 110, 45, 97, 100, 100, 114, 46, 97, 114, 112, 97, 46]⟩ : ByteArray)), pT, H', ⟨by first | omega | exact Nat.le_refl _⟩, ⟨pM BK181⟩, ⟨pE HB⟩⟩
  case rest =>
   clear HC4
   try clear c1
   try clear p2
   try clear c3
   try clear c3b0
   try clear c3b1
   try clear c9
   try clear hcz6_0 hcz6_1 hcz6_2
   try clear hcz8_0 hcz8_1 hcz8_2
   try clear hfz6_0 hfz6_1 hfz6_2
   try clear hfz8_0 hfz8_1 hfz8_2
   obtain ⟨kq, x7_3, rfl, HA, HJ3, BK181, HB⟩ := hcut
   cases kq with
   | zero => exact absurd HA.out (by simp [addr_Reverse.j0])
   | succ kj3 =>
    have H := HA.out
    clear HA
    simp only [addr_Reverse.j0] at H
    have H' := Aside0.mk H
    clear H
    go_wp2
    go_loopg [6, 8] kj3 (fun kq v6 v8 w' => ∃ (x6_2 : ByteArray) (x8_2 : Int), v6 = .string x6_2 ∧ v8 = .int .i64 x8_2 ∧ Aside0 (addr_Reverse.l0 kq t182 x6_2 x7_3 x8_2 a0_0 a0_1 a0_2 = some (r1, r2)) ∧ Aside0 (kq ≤ kj3) ∧ Aside0 (w'.heap[gb181]? = some (.cells #[.bool a0_0, .int .u64 a0_1, .int .u64 a0_2] 24 (0, 0))) ∧ Aside0 (Below w.heap.size w w'))
    case atStart => exact ⟨((⟨#[]⟩ : ByteArray)), (wrap64 ((t182.size : Int) - 1)), pT, pT, H', ⟨Nat.le_refl _⟩, ⟨pM BK181⟩, ⟨pE HB⟩⟩
    case round =>
     clear H'
     try clear c1
     try clear p2
     try clear c3
     try clear c3b0
     try clear c3b1
     try clear p6
     try clear c9
     try clear hcz6_0 hcz6_1 hcz6_2
     try clear hcz8_0 hcz8_1 hcz8_2
     try clear hfz6_0 hfz6_1 hfz6_2
     try clear hfz8_0 hfz8_1 hfz8_2
     try clear p2
     obtain ⟨x6_2, x8_2, rfl, rfl, HA, HK2, BK181, HB⟩ := hrel
     cases gk with
     | zero => exact absurd HA.out (by simp [addr_Reverse.l0])
     | succ k2 =>
      have H := HA.out
      clear HA
      simp only [addr_Reverse.l0] at H
      by_cases c10 : x8_2 ≥ 0
      ·
       rw [if_pos c10] at H
       have c10b0 : decide (0 ≤ x8_2) = true := decide_eq_true c10
       clear c10
       by_cases c11 : a0_0 = true
       ·
        subst c11
        have H1 : (if 0 ≤ x8_2 then (if x8_2 < (t182.size : Int) then ((strconv_FormatUint.f (IntKind.u64.wrap (Go.bits .and .u8 (bt t182 x8_2) 15)) 16).bind fun t184 => (if t184.size + 1 ≤ 9223372036854775807 then ((strconv_FormatUint.f (IntKind.u64.wrap ((bt t182 x8_2) / 16)) 16).bind fun t185 => (if (t184 ++ (⟨#[46]⟩ : ByteArray)).size + t185.size ≤ 9223372036854775807 then (if ((t184 ++ (⟨#[46]⟩ : ByteArray)) ++ t185).size + 1 ≤ 9223372036854775807 then (if x6_2.size + (((t184 ++ (⟨#[46]⟩ : ByteArray)) ++ t185) ++ (⟨#[46]⟩ : ByteArray)).size ≤ 9223372036854775807 then (addr_Reverse.l0 k2 t182 (x6_2 ++ (((t184 ++ (⟨#[46]⟩ : ByteArray)) ++ t185) ++ (⟨#[46]⟩ : ByteArray))) x7_3 (wrap64 (x8_2 - 1)) true a0_1 a0_2) else (none)) else (none)) else (none))) else (none))) else (none)) else (none)) = some (r1, r2) := by rw [if_pos rfl] at H; exact H
        clear H
        have H := H1
        clear H1
        by_cases c12 : 0 ≤ x8_2
        ·
         rw [if_pos c12] at H
         have c12b0 : decide (0 ≤ x8_2) = true := decide_eq_true c12
         clear c12
         by_cases c13 : x8_2 < (t182.size : Int)
         ·
          rw [if_pos c13] at H
          have c13b0 : decide (x8_2 < (t182.size : Int)) = true := decide_eq_true c13
          clear c13
          replace H := Option.bind_eq_some_iff.mp H
          obtain ⟨t184, A150, H⟩ := H
          replace H : (if t184.size + 1 ≤ 9223372036854775807 then ((strconv_FormatUint.f (IntKind.u64.wrap ((bt t182 x8_2) / 16)) 16).bind fun t185 => (if (t184 ++ (⟨#[46]⟩ : ByteArray)).size + t185.size ≤ 9223372036854775807 then (if ((t184 ++ (⟨#[46]⟩ : ByteArray)) ++ t185).size + 1 ≤ 9223372036854775807 then (if x6_2.size + (((t184 ++ (⟨#[46]⟩ : ByteArray)) ++ t185) ++ (⟨#[46]⟩ : ByteArray)).size ≤ 9223372036854775807 then (addr_Reverse.l0 k2 t182 (x6_2 ++ (((t184 ++ (⟨#[46]⟩ : ByteArray)) ++ t185) ++ (⟨#[46]⟩ : ByteArray))) x7_3 (wrap64 (x8_2 - 1)) true a0_1 a0_2) else (none)) else (none)) else (none))) else (none)) = some (r1, r2) := H
          have A15 := Aside0.mk A150
          clear A150
          by_cases c16 : t184.size + 1 ≤ 9223372036854775807
          ·
           rw [if_pos c16] at H
           have c16b0 := eq_true c16
           have c16b1 : decide (t184.size + 1 ≤ 9223372036854775807) = true := decide_eq_true c16
           try have c16b2 : (9223372036854775807 < t184.size + 1) = False := eq_false (Nat.not_lt.2 c16)
           replace H := Option.bind_eq_some_iff.mp H
           obtain ⟨t185, A180, H⟩ := H
           replace H : (if (t184 ++ (⟨#[46]⟩ : ByteArray)).size + t185.size ≤ 9223372036854775807 then (if ((t184 ++ (⟨#[46]⟩ : ByteArray)) ++ t185).size + 1 ≤ 9223372036854775807 then (if x6_2.size + (((t184 ++ (⟨#[46]⟩ : ByteArray)) ++ t185) ++ (⟨#[46]⟩ : ByteArray)).size ≤ 9223372036854775807 then (addr_Reverse.l0 k2 t182 (x6_2 ++ (((t184 ++ (⟨#[46]⟩ : ByteArray)) ++ t185) ++ (⟨#[46]⟩ : ByteArray))) x7_3 (wrap64 (x8_2 - 1)) true a0_1 a0_2) else (none)) else (none)) else (none)) = some (r1, r2) := H
           have A18 := Aside0.mk A180
           clear A180
           by_cases c19 : (t184 ++ (⟨#[46]⟩ : ByteArray)).size + t185.size ≤ 9223372036854775807
           ·
            rw [if_pos c19] at H
            have c19b0 := eq_true c19
            have c19b1 : decide ((t184 ++ (⟨#[46]⟩ : ByteArray)).size + t185.size ≤ 9223372036854775807) = true := decide_eq_true c19
            try have c19b2 : (9223372036854775807 < (t184 ++ (⟨#[46]⟩ : ByteArray)).size + t185.size) = False := eq_false (Nat.not_lt.2 c19)
            try have c19b2z := c19b2
            try simp only [go_sem, List.size_toArray, List.length_cons, List.length_nil, Nat.zero_add, Nat.reduceAdd] at c19b2z
            by_cases c20 : ((t184 ++ (⟨#[46]⟩ : ByteArray)) ++ t185).size + 1 ≤ 9223372036854775807
            ·
             rw [if_pos c20] at H
             have c20b0 := eq_true c20
             have c20b1 : decide (((t184 ++ (⟨#[46]⟩ : ByteArray)) ++ t185).size + 1 ≤ 9223372036854775807) = true := decide_eq_true c20
             try have c20b2 : (9223372036854775807 < ((t184 ++ (⟨#[46]⟩ : ByteArray)) ++ t185).size + 1) = False := eq_false (Nat.not_lt.2 c20)
             try have c20b2z := c20b2
             try simp only [go_sem, List.size_toArray, List.length_cons, List.length_nil, Nat.zero_add, Nat.reduceAdd] at c20b2z
             by_cases c21 : x6_2.size + (((t184 ++ (⟨#[46]⟩ : ByteArray)) ++ t185) ++ (⟨#[46]⟩ : ByteArray)).size ≤ 9223372036854775807
             ·
              rw [if_pos c21] at H
              have c21b0 := eq_true c21
              have c21b1 : decide (x6_2.size + (((t184 ++ (⟨#[46]⟩ : ByteArray)) ++ t185) ++ (⟨#[46]⟩ : ByteArray)).size ≤ 9223372036854775807) = true := decide_eq_true c21
              try have c21b2 : (9223372036854775807 < x6_2.size + (((t184 ++ (⟨#[46]⟩ : ByteArray)) ++ t185) ++ (⟨#[46]⟩ : ByteArray)).size) = False := eq_false (Nat.not_lt.2 c21)
              try have c21b2z := c21b2
              try simp only [go_sem, List.size_toArray, List.length_cons, List.length_nil, Nat.zero_add, Nat.reduceAdd] at c21b2z
              have H' := Aside0.mk H
              clear H
              obtain ⟨hcz22_0, hcz22_1, hcz22_2, hfz22_0, hfz22_1, hfz22_2⟩ := pC3 BK181
              try go_wp2
              replace BK181 := Aside0.mk (blk_drew BK181.out)
              replace HB := Aside0.mk (below_drew1 HB.out)
              have p14 : 0 ≤ (x8_2 : Int) := of_decide_eq_true (by first | (with_reducible assumption) | assumption)
              have q14 : x8_2 < (t182.size : Int) := of_decide_eq_true (by first | (with_reducible assumption) | assumption)
              have hx14 := bt_at t182 x8_2
              replace p14 := eq_true p14
              replace q14 := eq_true q14
              have p17 : 0 ≤ (x8_2 : Int) := of_decide_eq_true (by first | (with_reducible assumption) | assumption)
              have q17 : x8_2 < (t182.size : Int) := of_decide_eq_true (by first | (with_reducible assumption) | assumption)
              have hx17 := bt_at t182 x8_2
              replace p17 := eq_true p17
              replace q17 := eq_true q17
              refine start_ (n := 18) (S := fun w' => True) (ds := []) (tk 18 0) (by kernel_rfl) rfl rfl trivial (fun hHeld => ?_); refine with_tabW addr_Reverse.tab12 addr_Reverse.bits12 (fun HT_ HW_ => ?_)
              generalize wr.drew = w23 at BK181 HB hHeld ⊢
              refine pureA (i := 0) (some 37) HT_ (tk 18 1) ?_
              refine pureA (i := 1) (some 38) HT_ (tk 18 2) ?_
              refine pureA (i := 2) (some 39) HT_ (tk 18 3) ?_
              refine pureA (i := 8) (some 45) HT_ (tr [3, 5, 1, 9]) ?_
              refine pureA (i := 9) (some 46) HT_ (tr [3, 5, 2, 8]) ?_
              refine takeA (i := 3) (some 40) HT_ HW_ (tr [4, 4, 2, 8]) hHeld ?_
              refine pureA (i := 4) (some 41) HT_ (tr [5, 3, 2, 8]) ?_
              refine pureA (i := 5) (some 42) HT_ (tr [6, 2, 2, 8]) ?_
              refine takeA (i := 10) (some 47) HT_ HW_ (tr [6, 2, 3, 7]) hHeld ?_
              refine pureA (i := 11) (some 48) HT_ (tr [6, 2, 4, 6]) ?_
              refine pureA (i := 12) (some 49) HT_ (tr [6, 2, 5, 5]) ?_
              refine one_ (i := 6) (N := some 43) (tr [7, 1, 5, 5]) rfl rfl (one_of HT_.out (by kernel_rfl)) (by decide) (fun K hK => ?_)
              refine goesR Tryd.func37 #[.int .u64 (IntKind.u64.wrap (Go.bits .and .u8 (bt t182 x8_2) 15)), .int .i64 16] ?_
              with_reducible refine (strconv_FormatUint.calls (IntKind.u64.wrap (Go.bits .and .u8 (bt t182 x8_2) 15)) 16 t184 _ ?side1 A15.out).mono ?_
              (case side1 => exact Laid.below HLD.out (pE HB))
              rintro e w24 ⟨rfl, hb⟩
              refine ⟨_, rfl, ?_⟩
              replace BK181 := (pB BK181 hb)
              replace HB := (pS HB hb)
              (try clear hb)
              refine hK.out _ _ trivial (fun hHeld => ?_)
              clear hK K
              refine normA (N := some 43) ?_
              refine pureA (i := 7) (some 44) HT_ (tk 18 13) ?_
              refine one_ (i := 13) (N := some 50) (tk 18 14) rfl rfl (one_of HT_.out (by kernel_rfl)) (by decide) (fun K hK => ?_)
              refine goesR Tryd.func37 #[.int .u64 (IntKind.u64.wrap ((bt t182 x8_2) / 16)), .int .i64 16] ?_
              with_reducible refine (strconv_FormatUint.calls (IntKind.u64.wrap ((bt t182 x8_2) / 16)) 16 t185 _ ?side1 A18.out).mono ?_
              (case side1 => exact Laid.below HLD.out (pE HB))
              rintro e w25 ⟨rfl, hb⟩
              refine ⟨_, rfl, ?_⟩
              replace BK181 := (pB BK181 hb)
              replace HB := (pS HB hb)
              (try clear hb)
              refine hK.out _ _ trivial (fun hHeld => ?_)
              clear hK K
              refine normA (N := some 50) ?_
              refine pureA (i := 14) (some 51) HT_ (tk 18 15) ?_
              refine pureA (i := 15) (some 52) HT_ (tk 18 16) ?_
              refine pureA (i := 16) (some 53) HT_ (tk 18 17) ?_
              refine pureA (i := 17) (some 6) HT_ (tk 18 18) ?_
              refine done_ (done_of HT_.out (by kernel_rfl)) ?_
              try go_wp2
              go_roundg k2
              case measure => have := HJ3.out; have := HK2.out; omega
              case rel => exact ⟨(x6_2 ++ (((t184 ++ (⟨#[46]⟩ : ByteArray)) ++ t185) ++ (⟨#[46]⟩ : ByteArray))), (wrap64 (x8_2 - 1)), pT, pT, H', ⟨by have := HJ3.out; have := HK2.out; omega⟩, ⟨pM BK181⟩, ⟨pE HB⟩⟩
             ·
              rw [if_neg c21] at H
              exact absurd H (by simp)
            ·
             rw [if_neg c20] at H
             exact absurd H (by simp)
           ·
            rw [if_neg c19] at H
            exact absurd H (by simp)
          ·
           rw [if_neg c16] at H
           exact absurd H (by simp)
         ·
          rw [if_neg c13] at H
          exact absurd H (by simp)
        ·
         rw [if_neg c12] at H
         exact absurd H (by simp)
       ·
        replace c11 := Bool.eq_false_iff.mpr c11
        subst c11
        have H1 : (if 0 ≤ x8_2 then (if x8_2 < (t182.size : Int) then ((strconv_Itoa.f (wrap64 (bt t182 x8_2))).bind fun t186 => (if t186.size + 1 ≤ 9223372036854775807 then (if x6_2.size + (t186 ++ (⟨#[46]⟩ : ByteArray)).size ≤ 9223372036854775807 then (addr_Reverse.l0 k2 t182 (x6_2 ++ (t186 ++ (⟨#[46]⟩ : ByteArray))) x7_3 (wrap64 (x8_2 - 1)) false a0_1 a0_2) else (none)) else (none))) else (none)) else (none)) = some (r1, r2) := by rw [if_neg (show ¬ (false = true) by decide)] at H; exact H
        clear H
        have H := H1
        clear H1
        by_cases c26 : 0 ≤ x8_2
        ·
         rw [if_pos c26] at H
         have c26b0 : decide (0 ≤ x8_2) = true := decide_eq_true c26
         clear c26
         by_cases c27 : x8_2 < (t182.size : Int)
         ·
          rw [if_pos c27] at H
          have c27b0 : decide (x8_2 < (t182.size : Int)) = true := decide_eq_true c27
          clear c27
          replace H := Option.bind_eq_some_iff.mp H
          obtain ⟨t186, A290, H⟩ := H
          replace H : (if t186.size + 1 ≤ 9223372036854775807 then (if x6_2.size + (t186 ++ (⟨#[46]⟩ : ByteArray)).size ≤ 9223372036854775807 then (addr_Reverse.l0 k2 t182 (x6_2 ++ (t186 ++ (⟨#[46]⟩ : ByteArray))) x7_3 (wrap64 (x8_2 - 1)) false a0_1 a0_2) else (none)) else (none)) = some (r1, r2) := H
          have A29 := Aside0.mk A290
          clear A290
          by_cases c30 : t186.size + 1 ≤ 9223372036854775807
          ·
           rw [if_pos c30] at H
           have c30b0 := eq_true c30
           have c30b1 : decide (t186.size + 1 ≤ 9223372036854775807) = true := decide_eq_true c30
           try have c30b2 : (9223372036854775807 < t186.size + 1) = False := eq_false (Nat.not_lt.2 c30)
           by_cases c31 : x6_2.size + (t186 ++ (⟨#[46]⟩ : ByteArray)).size ≤ 9223372036854775807
           ·
            rw [if_pos c31] at H
            have c31b0 := eq_true c31
            have c31b1 : decide (x6_2.size + (t186 ++ (⟨#[46]⟩ : ByteArray)).size ≤ 9223372036854775807) = true := decide_eq_true c31
            try have c31b2 : (9223372036854775807 < x6_2.size + (t186 ++ (⟨#[46]⟩ : ByteArray)).size) = False := eq_false (Nat.not_lt.2 c31)
            try have c31b2z := c31b2
            try simp only [go_sem, List.size_toArray, List.length_cons, List.length_nil, Nat.zero_add, Nat.reduceAdd] at c31b2z
            have H' := Aside0.mk H
            clear H
            obtain ⟨hcz32_0, hcz32_1, hcz32_2, hfz32_0, hfz32_1, hfz32_2⟩ := pC3 BK181
            have p28 : 0 ≤ (x8_2 : Int) := of_decide_eq_true (by first | (with_reducible assumption) | assumption)
            have q28 : x8_2 < (t182.size : Int) := of_decide_eq_true (by first | (with_reducible assumption) | assumption)
            have hx28 := bt_at t182 x8_2
            replace p28 := eq_true p28
            replace q28 := eq_true q28
            go_wp2_with (first | ((with_reducible refine gate_callee (f := 28) rfl ?_); refine goesA (some 34) Tryd.func28 #[.int .i64 (wrap64 (bt t182 x8_2))] ?_; (with_reducible refine (strconv_Itoa.calls (wrap64 (bt t182 x8_2)) t186 _ ?side1 A29.out).mono ?_); (case side1 => exact Laid.below HLD.out (pE HB)); rintro e w33 ⟨rfl, hb⟩; refine ⟨_, rfl, ?_⟩; replace BK181 := (pB BK181 hb); replace HB := (pS HB hb); (try clear hb)))
            go_roundg k2
            case measure => have := HJ3.out; have := HK2.out; omega
            case rel => exact ⟨(x6_2 ++ (t186 ++ (⟨#[46]⟩ : ByteArray))), (wrap64 (x8_2 - 1)), pT, pT, H', ⟨by have := HJ3.out; have := HK2.out; omega⟩, ⟨pM BK181⟩, ⟨pE HB⟩⟩
           ·
            rw [if_neg c31] at H
            exact absurd H (by simp)
          ·
           rw [if_neg c30] at H
           exact absurd H (by simp)
         ·
          rw [if_neg c27] at H
          exact absurd H (by simp)
        ·
         rw [if_neg c26] at H
         exact absurd H (by simp)
      ·
       rw [if_neg c10] at H
       have c10b0 : decide (0 ≤ x8_2) = false := decide_eq_false c10
       clear c10
       by_cases c34 : x6_2.size + x7_3.size ≤ 9223372036854775807
       ·
        rw [if_pos c34] at H
        have c34b0 := eq_true c34
        have c34b1 : decide (x6_2.size + x7_3.size ≤ 9223372036854775807) = true := decide_eq_true c34
        try have c34b2 : (9223372036854775807 < x6_2.size + x7_3.size) = False := eq_false (Nat.not_lt.2 c34)
        simp only [Option.some.injEq, Prod.mk.injEq] at H
        obtain ⟨rfl, rfl⟩ := H
        go_wp2
        go_ret2
        exact pR (pE HB)
       ·
        rw [if_neg c34] at H
        exact absurd H (by simp)
 ·
  rw [if_neg c3] at H
  have c3b0 : (t183 == 0) = false := beq_eq_false_iff_ne.mpr c3
  have c3b1 : (t183 != 0) = true := bne_iff_ne.mpr c3
  simp only [Option.some.injEq, Prod.mk.injEq] at H
  obtain ⟨rfl, rfl⟩ := H
  go_enter Tryd.func17, Tryd.ntmps17
  go_wp2_with (first | ((with_reducible refine gate_dst (N := 1) rfl ?_); refine boxA (N := 1) (cs := #[.bool a0_0, .int .u64 a0_1, .int .u64 a0_2]) (t := 24) ?_; intro gb181 hg w35 hbox hb; have BK181 := Aside0.mk (hbox); have GW181 := (pZ HB hg); have GE181 := (pZ HB hg); replace HB := (pS HB hb); clear hb hbox hg; obtain ⟨hcz36_0, hcz36_1, hcz36_2, hfz36_0, hfz36_1, hfz36_2⟩ := pC3 BK181) | ((with_reducible refine gate_callee (f := 36) rfl ?_); refine goesA (some 11) Tryd.func36 #[.agg #[.bool a0_0, .int .u64 a0_1, .int .u64 a0_2]] ?_; (with_reducible refine (addr_Wire.calls k a0_0 a0_1 a0_2 t182 t183 _ A2.out).mono ?_); rintro e w37 ⟨rfl, hb⟩; refine ⟨_, rfl, ?_⟩; replace BK181 := (pB BK181 hb); replace HB := (pS HB hb); (try clear hb)))
  go_ret2
  exact pR (pE HB)

end Go.Proofs.YteflcmmandlknaaDoor.PA
