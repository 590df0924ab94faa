/-
  The row of the law PrefixTells, out of its plain statement and the printed walk: for every input the law returns true, and each argument reads behind the call as before. Conditions: none beyond the given row.
-/
import Derived.Test.YteflcmmandlknaaGreatDoorRows
import Derived.Test.YteflcmmandlknaaGreatDoorPAx16
import Derived.Test.YteflcmmandlknaaGreatDoorPurePrefixTells
import Derived.Test.YteflcmmandlknaaGreatDoorOpen
import Derived.WalkKit
import Derived.ProofKit
import Derived.OpenShut
import Derived.ShutString
import Derived.ChangeOld
import Derived.Below
import Derived.SizedLaws
import Derived.Test.YteflcmmandlknaaGreatDoorCut
import Derived.Test.YteflcmmandlknaaGreatDoorOpenLaid
import Derived.Test.YteflcmmandlknaaGreatDoorTie
import Derived.Test.YteflcmmandlknaaGreatDoorCards
namespace Go.Proofs.YteflcmmandlknaaGreatDoor.prefixTells
open Go.ChangeShapes Go.WideShapes Go.ChangeAt Go.RowKit Go.Proofs.YteflcmmandlknaaGreatDoorW.PrintWords
open Go.ChangeMaps (open_string shut_string)
open Go.Proofs.YteflcmmandlknaaGreatDoor.Open
set_option linter.unusedVariables false
theorem own : ownKnob Tryz.prog.godebug = none := by kernel_rfl
theorem laidOut : laidOutB Tryz.prog = true := by kernel_rfl
theorem open_t49 {w : World} {x} {cs : Array Value} (h : (Kd.pair (Kd.pair (Kd.pair Kd.bool (Kd.pair (Kd.int .u64) (Kd.int .u64))) (Kd.int .i64)) (Kd.pair (Kd.pair (Kd.pair Kd.bool (Kd.pair (Kd.int .u64) (Kd.int .u64))) (Kd.int .i64)) (Kd.pair (Kd.pair Kd.bool (Kd.pair (Kd.int .u64) (Kd.int .u64))) (Kd.int .i64)))).K w x cs.toList) : cs = #[.bool (x.1.1.1), .int .u64 (x.1.1.2.1), .int .u64 (x.1.1.2.2), .int .i64 (x.1.2), .bool (x.2.1.1.1), .int .u64 (x.2.1.1.2.1), .int .u64 (x.2.1.1.2.2), .int .i64 (x.2.1.2), .bool (x.2.2.1.1), .int .u64 (x.2.2.1.2.1), .int .u64 (x.2.2.1.2.2), .int .i64 (x.2.2.2)] := by
  obtain ⟨l⟩ := cs
  have h' : (Kd.pair (Kd.pair (Kd.pair Kd.bool (Kd.pair (Kd.int .u64) (Kd.int .u64))) (Kd.int .i64)) (Kd.pair (Kd.pair (Kd.pair Kd.bool (Kd.pair (Kd.int .u64) (Kd.int .u64))) (Kd.int .i64)) (Kd.pair (Kd.pair Kd.bool (Kd.pair (Kd.int .u64) (Kd.int .u64))) (Kd.int .i64)))).K w x l := h
  clear h
  obtain ⟨_, _, rfl, ⟨_, _, rfl, ⟨_, _, rfl, rfl, ⟨_, _, rfl, rfl, rfl⟩⟩, rfl⟩, ⟨_, _, rfl, ⟨_, _, rfl, ⟨_, _, rfl, rfl, ⟨_, _, rfl, rfl, rfl⟩⟩, rfl⟩, ⟨_, _, rfl, ⟨_, _, rfl, rfl, ⟨_, _, rfl, rfl, rfl⟩⟩, rfl⟩⟩⟩ := h'
  exact rfl
theorem star : "*" ++ "errors.errorString" = "*errors.errorString" := by decide
theorem err_row (u : TypeId) (h : Tryz.prog.typeName? 3 u = some "*errors.errorString") : u = 146 :=
  typeName_ptr_named (nm := "errors.errorString") (by rw [star]; kernel_rfl) (by kernel_rfl) (by decide) u (by rw [star]; exact h)
theorem of_laid {W : World} (hsh : W.ShapedOpen Tryz.prog) (h : laidMetH Tryz.prog Rows.prefixTellsRow.laid W) : PA.Laid W := by
  rw [MakeChecks.laidMetH_plain _ _ _ (by kernel_rfl)] at h
  exact ⟨hsh, Lib.tabIs_of_head (show Tryz.prog.globalNamed "internal/strconv.uint64pow10" = some 4 by kernel_rfl) (show (Tryz.prog.globals[4]?).map (·.type) = some 149 by kernel_rfl) Tryz.underlying149 Tryz.underlying22 (by kernel_rfl) (by kernel_rfl) h.tail.tail, Lib.tabIs_of_head (show Tryz.prog.globalNamed "math/bits.deBruijn64tab" = some 0 by kernel_rfl) (show (Tryz.prog.globals[0]?).map (·.type) = some 119 by kernel_rfl) Tryz.underlying119 Tryz.underlying5 (by kernel_rfl) (by kernel_rfl) h.tail, (by obtain ⟨_, _, hv_, _⟩ := laid_sentinel h.tail.tail.tail.tail.tail (show Tryz.prog.globalNamed "strconv.ErrSyntax" = some 2 by kernel_rfl) (show (Tryz.prog.globals[2]?).map (·.type) = some 63 by kernel_rfl) Tryz.underlying63 err_row Tryz.underlying146 Tryz.underlying148 rfl rfl Tryz.underlying9 (by kernel_rfl) (by kernel_rfl); exact ⟨_, _, hv_⟩), (by obtain ⟨_, _, hv_, _⟩ := laid_sentinel h.tail.tail.tail.tail (show Tryz.prog.globalNamed "strconv.ErrRange" = some 3 by kernel_rfl) (show (Tryz.prog.globals[3]?).map (·.type) = some 63 by kernel_rfl) Tryz.underlying63 err_row Tryz.underlying146 Tryz.underlying148 rfl rfl Tryz.underlying9 (by kernel_rfl) (by kernel_rfl); exact ⟨_, _, hv_⟩)⟩
set_option maxRecDepth 100000 in
theorem lifted (os : Os) (started : os.Started) (H : Type) (enc : TypeId × Value → H) :
    ReturnsInHanded {} Tryz.checked os 6 .any (fun w args => (Rows.prefixTellsSpec.pre enc Tryz.prog Tryz.f6 Rows.prefixTellsRow.domain false w args ∧ laidMetH Tryz.prog Rows.prefixTellsRow.laid w) ∧ sizedMet enc Tryz.prog Tryz.f6 (OpenSpec.ofChange Rows.prefixTellsSpec) false w args) (Rows.prefixTellsSpec.post enc Tryz.prog Tryz.f6 false true false false) := by
  refine returnsInHanded_laid (C := Tryz.checked) (X := fun w _ => laidMetH Tryz.prog Rows.prefixTellsRow.laid w) (fun _ _ _ hh h => h.of_heap hh) own started (by kernel_rfl) Tryz.func6
    (ChangeSpec.witness_shaped (enc := enc) (C := Tryz.checked) (os := os) (X := fun w _ => laidMetH Tryz.prog Rows.prefixTellsRow.laid w) false (World.laidAll Tryz.prog os Rows.prefixTellsRow.laid) #[.agg #[.bool false, .int .u64 0, .int .u64 0, .int .i64 0, .bool false, .int .u64 0, .int .u64 0, .int .i64 0, .bool false, .int .u64 0, .int .u64 0, .int .i64 0]] 8 (World.laidAll_os _ _ _)
      (World.shaped_of_ZipB (by kernel_rfl) (by kernel_rfl)) (by kernel_rfl) (by kernel_rfl) (by kernel_rfl)
      (by rw [MakeChecks.laidMetH_plain _ _ _ (by kernel_rfl)]; exact laidMet_laidAll _ (by kernel_rfl) (by kernel_rfl))) ?_
  intro W base args ds gs before hval0 hW hcnd hsz0 hL hshape _
  have hsz : (DataW.weightsEach Tryz.prog (Tryz.f6.params.toList ++ Rows.prefixTellsSpec.plain.varTypes Tryz.prog) (ds ++ gs)).all (· ≤ reachBytes) = true := hsz0
  have hval : ∀ (j : Nat) t v, Tryz.f6.params[j]? = some t → args[j]? = some v → Value.okWide Tryz.prog W .any base t v := hval0
  have hW' := hW
  obtain ⟨p, q, hA0, hV, rfl, hfz, hnd⟩ := hW
  have hA : DataW.TrodAll enc Tryz.prog W 0 (fun _ => true) true Tryz.f6.params.toList args.toList ds p := hA0
  rw [Tryz.params6] at hA hval hsz
  obtain ⟨v0, vs0, d0, ds0, p0, q0, hargs, rfl, rfl, h0, r0⟩ := trodAll_cons hA
  obtain ⟨rfl, rfl, rfl⟩ := trodAll_nil r0
  obtain rfl : args = #[v0] := by cases args; simp_all
  obtain ⟨rfl, rfl⟩ := trodVars_none hV
  have k0 := h0
  have lt0 : ∀ x ∈ p0, x.block < W.heap.size := by obtain ⟨m, hm⟩ := k0; exact DataW.trod_lt m _ _ _ hm
  have wt0 := weights_arg hsz 0 49 d0 rfl rfl
  obtain ⟨x0, cs0, rfl, hk0, hb0⟩ := opens_arg (d := (Kd.pair (Kd.pair (Kd.pair Kd.bool (Kd.pair (Kd.int .u64) (Kd.int .u64))) (Kd.int .i64)) (Kd.pair (Kd.pair (Kd.pair Kd.bool (Kd.pair (Kd.int .u64) (Kd.int .u64))) (Kd.int .i64)) (Kd.pair (Kd.pair Kd.bool (Kd.pair (Kd.int .u64) (Kd.int .u64))) (Kd.int .i64))))) (opens_struct Tryz.underlying49 (opensF_cons (opens_struct Tryz.underlying26 (opensF_cons (opens_struct Tryz.underlying24 (opensF_cons (opens_bool Tryz.underlying4) rfl (by kernel_rfl) (opensF_cons (opens_int Tryz.underlying22) rfl (by kernel_rfl) (opensF_one (opens_int Tryz.underlying22) rfl (by kernel_rfl)))) (by kernel_rfl)) rfl (by kernel_rfl) (opensF_one (opens_int Tryz.underlying3) rfl (by kernel_rfl))) (by kernel_rfl)) rfl (by kernel_rfl) (opensF_cons (opens_struct Tryz.underlying26 (opensF_cons (opens_struct Tryz.underlying24 (opensF_cons (opens_bool Tryz.underlying4) rfl (by kernel_rfl) (opensF_cons (opens_int Tryz.underlying22) rfl (by kernel_rfl) (opensF_one (opens_int Tryz.underlying22) rfl (by kernel_rfl)))) (by kernel_rfl)) rfl (by kernel_rfl) (opensF_one (opens_int Tryz.underlying3) rfl (by kernel_rfl))) (by kernel_rfl)) rfl (by kernel_rfl) (opensF_cons (opens_struct Tryz.underlying24 (opensF_cons (opens_bool Tryz.underlying4) rfl (by kernel_rfl) (opensF_cons (opens_int Tryz.underlying22) rfl (by kernel_rfl) (opensF_one (opens_int Tryz.underlying22) rfl (by kernel_rfl)))) (by kernel_rfl)) rfl (by kernel_rfl) (opensF_one (opens_int Tryz.underlying3) rfl (by kernel_rfl))))) (by kernel_rfl)) Tryz.underlying49 (hval 0 49 v0 rfl rfl) h0 wt0
  obtain rfl := open_t49 hk0
  clear hA0 hval0 hsz0 hsz
  have hLD := of_laid hshape hL
  clear hL hshape
  obtain ⟨k, hp⟩ := Pure.PrefixTells (x0.1.1.1) (x0.1.1.2.1) (x0.1.1.2.2) (x0.1.2) (x0.2.1.1.1) (x0.2.1.1.2.1) (x0.2.1.1.2.2) (x0.2.1.2) (x0.2.2.1.1) (x0.2.2.1.2.1) (x0.2.2.1.2.2) (x0.2.2.2) hb0.1.1.2.1 hb0.1.1.2.2 hb0.1.2 hb0.2.1.1.2.1 hb0.2.1.1.2.2 hb0.2.1.2 hb0.2.2.1.2.1 hb0.2.2.1.2.2 hb0.2.2.2
  refine (PA.ddilaw03_PrefixTells.calls k (x0.1.1.1) (x0.1.1.2.1) (x0.1.1.2.2) (x0.1.2) (x0.2.1.1.1) (x0.2.1.1.2.1) (x0.2.1.1.2.2) (x0.2.1.2) (x0.2.2.1.1) (x0.2.2.1.2.1) (x0.2.2.1.2.2) (x0.2.2.2) true W  hLD hp).mono fun e W' ⟨he, bel0⟩ => ?_
  have bel : Below W.heap.size W W' := bel0
  subst he
  exact ⟨_, rfl, _, _, _, [], _, [], hW', trodAll_mk1 (shut_bool Tryz.underlying4 _), (trodAll_cons_mk (Below.trod laidOut (by kernel_rfl) (of_decide_eq_true (by kernel_rfl)) k0 bel lt0) trodAll_mk0), rfl, bel.frame _, fun h => by cases h⟩
theorem over : Rows.prefixTellsRow.holds Tryz.pinned (OpenSpec.ofChange Rows.prefixTellsSpec) :=
  OpenClaim.holds_of_wide 6 Tryz.f6 rfl rfl rfl rfl rfl rfl rfl ⟨rfl, rfl, rfl, rfl, rfl⟩ rfl rfl rfl rfl rfl (by kernel_rfl) Tryz.func6 (by kernel_rfl)
    (of_decide_eq_true (by kernel_rfl)) (by unfold Func.isWrapper; first | (rw [if_pos (by decide +kernel)]; kernel_rfl) | (rw [if_neg (by decide +kernel)]; exact ⟨rfl, rfl⟩))
    (fun os started H enc _ => lifted os started H enc)
theorem proved : Rows.PrefixTellsCardSaid :=
  Claim7.holds_tied_plain_at .later [] [.data, .data, .data, .data, .sentinel, .sentinel, .pinned] true (true, "10a89bbbf6f7e3e80dd0c33d14d5459f0d7e3d6743a2f8af2026ac4e8890b728") true over (fun _ h => by cases h) (by kernel_rfl) (fun _ h => by cases h) prefixTells_row_tie rfl ⟨rfl, rfl⟩ (by kernel_rfl) rfl
    (fun f fn hf hfn => by
      obtain rfl : f = 6 := Option.some.inj ((show Tryz.prog.funcNamed "ddi/ddilaw03.PrefixTells" = some 6 by kernel_rfl).symm.trans hf) |>.symm
      obtain rfl : fn = Tryz.f6 := (Option.some.inj (Tryz.func6.symm.trans hfn)).symm
      exact ⟨by kernel_rfl, fun j t ht => by
        rw [Tryz.params6] at ht
        have hm : t ∈ [49] := by simpa using Array.mem_of_getElem? ht
        have hall : ([49].all fun u => !Tryz.prog.wantsStandIn u) = true := by kernel_rfl
        exact (show Tryz.prog.wantsStandIn t = false by simpa using List.all_eq_true.1 hall t hm)⟩)
    (by kernel_rfl)
#print axioms proved
end Go.Proofs.YteflcmmandlknaaGreatDoor.prefixTells
namespace Go.Proofs.YteflcmmandlknaaGreatDoor
/-- The row, under a short name, for the claim. -/
theorem prefixTells_holds : Rows.PrefixTellsCardSaid := prefixTells.proved
end Go.Proofs.YteflcmmandlknaaGreatDoor
