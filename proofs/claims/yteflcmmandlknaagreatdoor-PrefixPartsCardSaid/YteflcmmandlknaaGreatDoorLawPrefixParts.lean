/-
  The row of the law PrefixParts, out of its plain statement and the printed walk: for every input the law returns true, and each argument reads behind the call as before. Conditions: none beyond the given row.
-/
import Derived.Test.YteflcmmandlknaaGreatDoorRows
import Derived.Test.YteflcmmandlknaaGreatDoorPAx19
import Derived.Test.YteflcmmandlknaaGreatDoorPurePrefixParts
import Derived.Test.YteflcmmandlknaaGreatDoorOpen
import Derived.WalkKit
import Derived.ProofKit
import Derived.OpenShut
import Derived.ShutString
import Derived.ChangeOld
import Derived.Below
import Derived.SizedLaws
import Derived.Test.YteflcmmandlknaaGreatDoorCut
import Derived.Test.YteflcmmandlknaaGreatDoorOpenLaid
import Derived.Test.YteflcmmandlknaaGreatDoorTie
import Derived.Test.YteflcmmandlknaaGreatDoorCards
namespace Go.Proofs.YteflcmmandlknaaGreatDoor.prefixParts
open Go.ChangeShapes Go.WideShapes Go.ChangeAt Go.RowKit Go.Proofs.YteflcmmandlknaaGreatDoorW.PrintWords
open Go.ChangeMaps (open_string shut_string)
open Go.Proofs.YteflcmmandlknaaGreatDoor.Open
set_option linter.unusedVariables false
theorem own : ownKnob Tryz.prog.godebug = none := by kernel_rfl
theorem laidOut : laidOutB Tryz.prog = true := by kernel_rfl
theorem open_t26 {w : World} {x} {cs : Array Value} (h : (Kd.pair (Kd.pair Kd.bool (Kd.pair (Kd.int .u64) (Kd.int .u64))) (Kd.int .i64)).K w x cs.toList) : cs = #[.bool (x.1.1), .int .u64 (x.1.2.1), .int .u64 (x.1.2.2), .int .i64 (x.2)] := by
  obtain ⟨l⟩ := cs
  have h' : (Kd.pair (Kd.pair Kd.bool (Kd.pair (Kd.int .u64) (Kd.int .u64))) (Kd.int .i64)).K w x l := h
  clear h
  obtain ⟨_, _, rfl, ⟨_, _, rfl, rfl, ⟨_, _, rfl, rfl, rfl⟩⟩, rfl⟩ := h'
  exact rfl
theorem star : "*" ++ "errors.errorString" = "*errors.errorString" := by decide
theorem err_row (u : TypeId) (h : Tryz.prog.typeName? 3 u = some "*errors.errorString") : u = 146 :=
  typeName_ptr_named (nm := "errors.errorString") (by rw [star]; kernel_rfl) (by kernel_rfl) (by decide) u (by rw [star]; exact h)
theorem of_laid {W : World} (hsh : W.ShapedOpen Tryz.prog) (h : laidMetH Tryz.prog Rows.prefixPartsRow.laid W) : PA.Laid W := by
  rw [MakeChecks.laidMetH_plain _ _ _ (by kernel_rfl)] at h
  exact ⟨hsh, Lib.tabIs_of_head (show Tryz.prog.globalNamed "internal/strconv.uint64pow10" = some 4 by kernel_rfl) (show (Tryz.prog.globals[4]?).map (·.type) = some 149 by kernel_rfl) Tryz.underlying149 Tryz.underlying22 (by kernel_rfl) (by kernel_rfl) h.tail.tail, Lib.tabIs_of_head (show Tryz.prog.globalNamed "math/bits.deBruijn64tab" = some 0 by kernel_rfl) (show (Tryz.prog.globals[0]?).map (·.type) = some 119 by kernel_rfl) Tryz.underlying119 Tryz.underlying5 (by kernel_rfl) (by kernel_rfl) h.tail, (by obtain ⟨_, _, hv_, _⟩ := laid_sentinel h.tail.tail.tail.tail.tail (show Tryz.prog.globalNamed "strconv.ErrSyntax" = some 2 by kernel_rfl) (show (Tryz.prog.globals[2]?).map (·.type) = some 63 by kernel_rfl) Tryz.underlying63 err_row Tryz.underlying146 Tryz.underlying148 rfl rfl Tryz.underlying9 (by kernel_rfl) (by kernel_rfl); exact ⟨_, _, hv_⟩), (by obtain ⟨_, _, hv_, _⟩ := laid_sentinel h.tail.tail.tail.tail (show Tryz.prog.globalNamed "strconv.ErrRange" = some 3 by kernel_rfl) (show (Tryz.prog.globals[3]?).map (·.type) = some 63 by kernel_rfl) Tryz.underlying63 err_row Tryz.underlying146 Tryz.underlying148 rfl rfl Tryz.underlying9 (by kernel_rfl) (by kernel_rfl); exact ⟨_, _, hv_⟩)⟩
set_option maxRecDepth 100000 in
theorem lifted (os : Os) (started : os.Started) (H : Type) (enc : TypeId × Value → H) :
    ReturnsInHanded {} Tryz.checked os 4 .any (fun w args => (Rows.prefixPartsSpec.pre enc Tryz.prog Tryz.f4 Rows.prefixPartsRow.domain false w args ∧ laidMetH Tryz.prog Rows.prefixPartsRow.laid w) ∧ sizedMet enc Tryz.prog Tryz.f4 (OpenSpec.ofChange Rows.prefixPartsSpec) false w args) (Rows.prefixPartsSpec.post enc Tryz.prog Tryz.f4 false true false false) := by
  refine returnsInHanded_laid (C := Tryz.checked) (X := fun w _ => laidMetH Tryz.prog Rows.prefixPartsRow.laid w) (fun _ _ _ hh h => h.of_heap hh) own started (by kernel_rfl) Tryz.func4
    (ChangeSpec.witness_shaped (enc := enc) (C := Tryz.checked) (os := os) (X := fun w _ => laidMetH Tryz.prog Rows.prefixPartsRow.laid w) false (World.laidAll Tryz.prog os Rows.prefixPartsRow.laid) #[.agg #[.bool false, .int .u64 0, .int .u64 0, .int .i64 0], .int .i64 0, .int .u64 0] 8 (World.laidAll_os _ _ _)
      (World.shaped_of_ZipB (by kernel_rfl) (by kernel_rfl)) (by kernel_rfl) (by kernel_rfl) (by kernel_rfl)
      (by rw [MakeChecks.laidMetH_plain _ _ _ (by kernel_rfl)]; exact laidMet_laidAll _ (by kernel_rfl) (by kernel_rfl))) ?_
  intro W base args ds gs before hval0 hW hcnd hsz0 hL hshape _
  have hsz : (DataW.weightsEach Tryz.prog (Tryz.f4.params.toList ++ Rows.prefixPartsSpec.plain.varTypes Tryz.prog) (ds ++ gs)).all (· ≤ reachBytes) = true := hsz0
  have hval : ∀ (j : Nat) t v, Tryz.f4.params[j]? = some t → args[j]? = some v → Value.okWide Tryz.prog W .any base t v := hval0
  have hW' := hW
  obtain ⟨p, q, hA0, hV, rfl, hfz, hnd⟩ := hW
  have hA : DataW.TrodAll enc Tryz.prog W 0 (fun _ => true) true Tryz.f4.params.toList args.toList ds p := hA0
  rw [Tryz.params4] at hA hval hsz
  obtain ⟨v0, vs0, d0, ds0, p0, q0, hargs, rfl, rfl, h0, r0⟩ := trodAll_cons hA
  obtain ⟨v1, vs1, d1, ds1, p1, q1, rfl, rfl, rfl, h1, r1⟩ := trodAll_cons r0
  obtain ⟨v2, vs2, d2, ds2, p2, q2, rfl, rfl, rfl, h2, r2⟩ := trodAll_cons r1
  obtain ⟨rfl, rfl, rfl⟩ := trodAll_nil r2
  obtain rfl : args = #[v0, v1, v2] := by cases args; simp_all
  obtain ⟨rfl, rfl⟩ := trodVars_none hV
  have k0 := h0
  have lt0 : ∀ x ∈ p0, x.block < W.heap.size := by obtain ⟨m, hm⟩ := k0; exact DataW.trod_lt m _ _ _ hm
  have wt0 := weights_arg hsz 0 26 d0 rfl rfl
  obtain ⟨x0, cs0, rfl, hk0, hb0⟩ := opens_arg (d := (Kd.pair (Kd.pair Kd.bool (Kd.pair (Kd.int .u64) (Kd.int .u64))) (Kd.int .i64))) (opens_struct Tryz.underlying26 (opensF_cons (opens_struct Tryz.underlying24 (opensF_cons (opens_bool Tryz.underlying4) rfl (by kernel_rfl) (opensF_cons (opens_int Tryz.underlying22) rfl (by kernel_rfl) (opensF_one (opens_int Tryz.underlying22) rfl (by kernel_rfl)))) (by kernel_rfl)) rfl (by kernel_rfl) (opensF_one (opens_int Tryz.underlying3) rfl (by kernel_rfl))) (by kernel_rfl)) Tryz.underlying26 (hval 0 26 v0 rfl rfl) h0 wt0
  obtain rfl := open_t26 hk0
  have k1 := h1
  have lt1 : ∀ x ∈ p1, x.block < W.heap.size := by obtain ⟨m, hm⟩ := k1; exact DataW.trod_lt m _ _ _ hm
  have wt1 := weights_arg hsz 1 3 d1 rfl rfl
  obtain ⟨x1, rfl, rfl, rfl, hb1⟩ := open_int Tryz.underlying3 (hval 1 3 v1 rfl rfl) h1
  have k2 := h2
  have lt2 : ∀ x ∈ p2, x.block < W.heap.size := by obtain ⟨m, hm⟩ := k2; exact DataW.trod_lt m _ _ _ hm
  have wt2 := weights_arg hsz 2 22 d2 rfl rfl
  obtain ⟨x2, rfl, rfl, rfl, hb2⟩ := open_int Tryz.underlying22 (hval 2 22 v2 rfl rfl) h2
  clear hA0 hval0 hsz0 hsz
  have hLD := of_laid hshape hL
  clear hL hshape
  obtain ⟨k, hp⟩ := Pure.PrefixParts (x0.1.1) (x0.1.2.1) (x0.1.2.2) (x0.2) x1 x2 hb0.1.2.1 hb0.1.2.2 hb0.2 hb1 hb2
  refine (PA.ddilaw03_PrefixParts.calls k (x0.1.1) (x0.1.2.1) (x0.1.2.2) (x0.2) x1 x2 true W  hLD hp).mono fun e W' ⟨he, bel0⟩ => ?_
  have bel : Below W.heap.size W W' := bel0
  subst he
  exact ⟨_, rfl, _, _, _, [], _, [], hW', trodAll_mk1 (shut_bool Tryz.underlying4 _), (trodAll_cons_mk (Below.trod laidOut (by kernel_rfl) (of_decide_eq_true (by kernel_rfl)) k0 bel lt0) (trodAll_cons_mk (Below.trod laidOut (by kernel_rfl) (of_decide_eq_true (by kernel_rfl)) k1 bel lt1) (trodAll_cons_mk (Below.trod laidOut (by kernel_rfl) (of_decide_eq_true (by kernel_rfl)) k2 bel lt2) trodAll_mk0))), rfl, bel.frame _, fun h => by cases h⟩
theorem over : Rows.prefixPartsRow.holds Tryz.pinned (OpenSpec.ofChange Rows.prefixPartsSpec) :=
  OpenClaim.holds_of_wide 4 Tryz.f4 rfl rfl rfl rfl rfl rfl rfl ⟨rfl, rfl, rfl, rfl, rfl⟩ rfl rfl rfl rfl rfl (by kernel_rfl) Tryz.func4 (by kernel_rfl)
    (of_decide_eq_true (by kernel_rfl)) (by unfold Func.isWrapper; first | (rw [if_pos (by decide +kernel)]; kernel_rfl) | (rw [if_neg (by decide +kernel)]; exact ⟨rfl, rfl⟩))
    (fun os started H enc _ => lifted os started H enc)
theorem proved : Rows.PrefixPartsCardSaid :=
  Claim7.holds_tied_plain_at .later [] [.data, .data, .data, .data, .sentinel, .sentinel, .pinned] true (true, "10a89bbbf6f7e3e80dd0c33d14d5459f0d7e3d6743a2f8af2026ac4e8890b728") true over (fun _ h => by cases h) (by kernel_rfl) (fun _ h => by cases h) prefixParts_row_tie rfl ⟨rfl, rfl⟩ (by kernel_rfl) rfl
    (fun f fn hf hfn => by
      obtain rfl : f = 4 := Option.some.inj ((show Tryz.prog.funcNamed "ddi/ddilaw03.PrefixParts" = some 4 by kernel_rfl).symm.trans hf) |>.symm
      obtain rfl : fn = Tryz.f4 := (Option.some.inj (Tryz.func4.symm.trans hfn)).symm
      exact ⟨by kernel_rfl, fun j t ht => by
        rw [Tryz.params4] at ht
        have hm : t ∈ [26, 3, 22] := by simpa using Array.mem_of_getElem? ht
        have hall : ([26, 3, 22].all fun u => !Tryz.prog.wantsStandIn u) = true := by kernel_rfl
        exact (show Tryz.prog.wantsStandIn t = false by simpa using List.all_eq_true.1 hall t hm)⟩)
    (by kernel_rfl)
#print axioms proved
end Go.Proofs.YteflcmmandlknaaGreatDoor.prefixParts
namespace Go.Proofs.YteflcmmandlknaaGreatDoor
/-- The row, under a short name, for the claim. -/
theorem prefixParts_holds : Rows.PrefixPartsCardSaid := prefixParts.proved
end Go.Proofs.YteflcmmandlknaaGreatDoor
