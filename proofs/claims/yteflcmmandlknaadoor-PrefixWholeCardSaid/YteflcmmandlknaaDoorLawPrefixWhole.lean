/-
  The row of the law PrefixWhole, out of its plain statement and the printed walk: for every input the law returns true, and each argument reads behind the call as before. Conditions: none beyond the given row.
-/
import Derived.Test.YteflcmmandlknaaDoorRows
import Derived.Test.YteflcmmandlknaaDoorPAx18
import Derived.Test.YteflcmmandlknaaDoorPurePrefixWhole
import Derived.Test.YteflcmmandlknaaDoorOpen
import Derived.WalkKit
import Derived.ProofKit
import Derived.OpenShut
import Derived.ShutString
import Derived.ChangeOld
import Derived.Below
import Derived.SizedLaws
import Derived.Test.YteflcmmandlknaaDoorWSized
import Derived.Test.YteflcmmandlknaaDoorOpenLaid
import Derived.Test.YteflcmmandlknaaDoorTie
import Derived.Test.YteflcmmandlknaaDoorCards
namespace Go.Proofs.YteflcmmandlknaaDoor.prefixWhole
open Go.ChangeShapes Go.WideShapes Go.ChangeAt Go.RowKit Go.Proofs.YteflcmmandlknaaDoorW.PrintWords
open Go.ChangeMaps (open_string shut_string)
open Go.Proofs.YteflcmmandlknaaDoor.Open
set_option linter.unusedVariables false
theorem own : ownKnob Tryd.prog.godebug = none := by kernel_rfl
theorem laidOut : laidOutB Tryd.prog = true := by kernel_rfl
theorem open_t36 {w : World} {x} {cs : Array Value} (h : (Kd.pair (Kd.pair Kd.bool (Kd.pair (Kd.int .u64) (Kd.int .u64))) (Kd.pair Kd.bool (Kd.pair (Kd.int .u64) (Kd.int .u64)))).K w x cs.toList) : cs = #[.bool (x.1.1), .int .u64 (x.1.2.1), .int .u64 (x.1.2.2), .bool (x.2.1), .int .u64 (x.2.2.1), .int .u64 (x.2.2.2)] := by
  obtain ⟨l⟩ := cs
  have h' : (Kd.pair (Kd.pair Kd.bool (Kd.pair (Kd.int .u64) (Kd.int .u64))) (Kd.pair Kd.bool (Kd.pair (Kd.int .u64) (Kd.int .u64)))).K w x l := h
  clear h
  obtain ⟨_, _, rfl, ⟨_, _, rfl, rfl, ⟨_, _, rfl, rfl, rfl⟩⟩, ⟨_, _, rfl, rfl, ⟨_, _, rfl, rfl, rfl⟩⟩⟩ := h'
  exact rfl
theorem open_t24 {w : World} {x} {cs : Array Value} (h : (Kd.pair Kd.bool (Kd.pair (Kd.int .u64) (Kd.int .u64))).K w x cs.toList) : cs = #[.bool (x.1), .int .u64 (x.2.1), .int .u64 (x.2.2)] := by
  obtain ⟨l⟩ := cs
  have h' : (Kd.pair Kd.bool (Kd.pair (Kd.int .u64) (Kd.int .u64))).K w x l := h
  clear h
  obtain ⟨_, _, rfl, rfl, ⟨_, _, rfl, rfl, rfl⟩⟩ := h'
  exact rfl
theorem star : "*" ++ "errors.errorString" = "*errors.errorString" := by decide
theorem err_row (u : TypeId) (h : Tryd.prog.typeName? 3 u = some "*errors.errorString") : u = 142 :=
  typeName_ptr_named (nm := "errors.errorString") (by rw [star]; kernel_rfl) (by kernel_rfl) (by decide) u (by rw [star]; exact h)
theorem of_laid {W : World} (hsh : W.ShapedOpen Tryd.prog) (h : laidMetH Tryd.prog Rows.prefixWholeRow.laid W) : PA.Laid W := by
  rw [MakeChecks.laidMetH_plain _ _ _ (by kernel_rfl)] at h
  exact ⟨hsh, Lib.tabIs_of_head (show Tryd.prog.globalNamed "internal/strconv.uint64pow10" = some 4 by kernel_rfl) (show (Tryd.prog.globals[4]?).map (·.type) = some 129 by kernel_rfl) Tryd.underlying129 Tryd.underlying22 (by kernel_rfl) (by kernel_rfl) h.tail.tail, Lib.tabIs_of_head (show Tryd.prog.globalNamed "math/bits.deBruijn64tab" = some 0 by kernel_rfl) (show (Tryd.prog.globals[0]?).map (·.type) = some 116 by kernel_rfl) Tryd.underlying116 Tryd.underlying5 (by kernel_rfl) (by kernel_rfl) h.tail, (by obtain ⟨_, _, hv_, _⟩ := laid_sentinel h.tail.tail.tail.tail.tail (show Tryd.prog.globalNamed "strconv.ErrSyntax" = some 2 by kernel_rfl) (show (Tryd.prog.globals[2]?).map (·.type) = some 71 by kernel_rfl) Tryd.underlying71 err_row Tryd.underlying142 Tryd.underlying144 rfl rfl Tryd.underlying9 (by kernel_rfl) (by kernel_rfl); exact ⟨_, _, hv_⟩), (by obtain ⟨_, _, hv_, _⟩ := laid_sentinel h.tail.tail.tail.tail (show Tryd.prog.globalNamed "strconv.ErrRange" = some 3 by kernel_rfl) (show (Tryd.prog.globals[3]?).map (·.type) = some 71 by kernel_rfl) Tryd.underlying71 err_row Tryd.underlying142 Tryd.underlying144 rfl rfl Tryd.underlying9 (by kernel_rfl) (by kernel_rfl); exact ⟨_, _, hv_⟩)⟩
set_option maxRecDepth 100000 in
theorem lifted (os : Os) (started : os.Started) (H : Type) (enc : TypeId × Value → H) :
    ReturnsInHanded {} Tryd.checked os 7 .any (fun w args => (Rows.prefixWholeSpec.pre enc Tryd.prog Tryd.f7 Rows.prefixWholeRow.domain false w args ∧ laidMetH Tryd.prog Rows.prefixWholeRow.laid w) ∧ sizedMet enc Tryd.prog Tryd.f7 (OpenSpec.ofChange Rows.prefixWholeSpec) false w args) (Rows.prefixWholeSpec.post enc Tryd.prog Tryd.f7 false true false false) := by
  refine returnsInHanded_laid (C := Tryd.checked) (X := fun w _ => laidMetH Tryd.prog Rows.prefixWholeRow.laid w) (fun _ _ _ hh h => h.of_heap hh) own started (by kernel_rfl) Tryd.func7
    (ChangeSpec.witness_shaped (enc := enc) (C := Tryd.checked) (os := os) (X := fun w _ => laidMetH Tryd.prog Rows.prefixWholeRow.laid w) false (World.laidAll Tryd.prog os Rows.prefixWholeRow.laid) #[.agg #[.bool false, .int .u64 0, .int .u64 0, .bool false, .int .u64 0, .int .u64 0], .agg #[.bool false, .int .u64 0, .int .u64 0]] 8 (World.laidAll_os _ _ _)
      (World.shaped_of_ZipB (by kernel_rfl) (by kernel_rfl)) (by kernel_rfl) (by kernel_rfl) (by kernel_rfl)
      (by rw [MakeChecks.laidMetH_plain _ _ _ (by kernel_rfl)]; exact laidMet_laidAll _ (by kernel_rfl) (by kernel_rfl))) ?_
  intro W base args ds gs before hval0 hW hcnd hsz0 hL hshape _
  have hsz : (DataW.weightsEach Tryd.prog (Tryd.f7.params.toList ++ Rows.prefixWholeSpec.plain.varTypes Tryd.prog) (ds ++ gs)).all (· ≤ reachBytes) = true := hsz0
  have hval : ∀ (j : Nat) t v, Tryd.f7.params[j]? = some t → args[j]? = some v → Value.okWide Tryd.prog W .any base t v := hval0
  have hW' := hW
  obtain ⟨p, q, hA0, hV, rfl, hfz, hnd⟩ := hW
  have hA : DataW.TrodAll enc Tryd.prog W 0 (fun _ => true) true Tryd.f7.params.toList args.toList ds p := hA0
  rw [Tryd.params7] at hA hval hsz
  obtain ⟨v0, vs0, d0, ds0, p0, q0, hargs, rfl, rfl, h0, r0⟩ := trodAll_cons hA
  obtain ⟨v1, vs1, d1, ds1, p1, q1, rfl, rfl, rfl, h1, r1⟩ := trodAll_cons r0
  obtain ⟨rfl, rfl, rfl⟩ := trodAll_nil r1
  obtain rfl : args = #[v0, v1] := by cases args; simp_all
  obtain ⟨rfl, rfl⟩ := trodVars_none hV
  have k0 := h0
  have lt0 : ∀ x ∈ p0, x.block < W.heap.size := by obtain ⟨m, hm⟩ := k0; exact DataW.trod_lt m _ _ _ hm
  have wt0 := weights_arg hsz 0 36 d0 rfl rfl
  obtain ⟨x0, cs0, rfl, hk0, hb0⟩ := opens_arg (d := (Kd.pair (Kd.pair Kd.bool (Kd.pair (Kd.int .u64) (Kd.int .u64))) (Kd.pair Kd.bool (Kd.pair (Kd.int .u64) (Kd.int .u64))))) (opens_struct Tryd.underlying36 (opensF_cons (opens_struct Tryd.underlying24 (opensF_cons (opens_bool Tryd.underlying4) rfl (by kernel_rfl) (opensF_cons (opens_int Tryd.underlying22) rfl (by kernel_rfl) (opensF_one (opens_int Tryd.underlying22) rfl (by kernel_rfl)))) (by kernel_rfl)) rfl (by kernel_rfl) (opensF_one (opens_struct Tryd.underlying24 (opensF_cons (opens_bool Tryd.underlying4) rfl (by kernel_rfl) (opensF_cons (opens_int Tryd.underlying22) rfl (by kernel_rfl) (opensF_one (opens_int Tryd.underlying22) rfl (by kernel_rfl)))) (by kernel_rfl)) rfl (by kernel_rfl))) (by kernel_rfl)) Tryd.underlying36 (hval 0 36 v0 rfl rfl) h0 wt0
  obtain rfl := open_t36 hk0
  have k1 := h1
  have lt1 : ∀ x ∈ p1, x.block < W.heap.size := by obtain ⟨m, hm⟩ := k1; exact DataW.trod_lt m _ _ _ hm
  have wt1 := weights_arg hsz 1 24 d1 rfl rfl
  obtain ⟨x1, cs1, rfl, hk1, hb1⟩ := opens_arg (d := (Kd.pair Kd.bool (Kd.pair (Kd.int .u64) (Kd.int .u64)))) (opens_struct Tryd.underlying24 (opensF_cons (opens_bool Tryd.underlying4) rfl (by kernel_rfl) (opensF_cons (opens_int Tryd.underlying22) rfl (by kernel_rfl) (opensF_one (opens_int Tryd.underlying22) rfl (by kernel_rfl)))) (by kernel_rfl)) Tryd.underlying24 (hval 1 24 v1 rfl rfl) h1 wt1
  obtain rfl := open_t24 hk1
  clear hA0 hval0 hsz0 hsz
  have hLD := of_laid hshape hL
  clear hL hshape
  obtain ⟨k, hp⟩ := Pure.PrefixWhole (x0.1.1) (x0.1.2.1) (x0.1.2.2) (x0.2.1) (x0.2.2.1) (x0.2.2.2) (x1.1) (x1.2.1) (x1.2.2) hb0.1.2.1 hb0.1.2.2 hb0.2.2.1 hb0.2.2.2 hb1.2.1 hb1.2.2
  refine (PA.ddilaw03_PrefixWhole.calls k (x0.1.1) (x0.1.2.1) (x0.1.2.2) (x0.2.1) (x0.2.2.1) (x0.2.2.2) (x1.1) (x1.2.1) (x1.2.2) true W  hLD hp).mono fun e W' ⟨he, bel0⟩ => ?_
  have bel : Below W.heap.size W W' := bel0
  subst he
  exact ⟨_, rfl, _, _, _, [], _, [], hW', trodAll_mk1 (shut_bool Tryd.underlying4 _), (trodAll_cons_mk (Below.trod laidOut (by kernel_rfl) (of_decide_eq_true (by kernel_rfl)) k0 bel lt0) (trodAll_cons_mk (Below.trod laidOut (by kernel_rfl) (of_decide_eq_true (by kernel_rfl)) k1 bel lt1) trodAll_mk0)), rfl, bel.frame _, fun h => by cases h⟩
theorem over : Rows.prefixWholeRow.holds Tryd.pinned (OpenSpec.ofChange Rows.prefixWholeSpec) :=
  OpenClaim.holds_of_wide 7 Tryd.f7 rfl rfl rfl rfl rfl rfl rfl ⟨rfl, rfl, rfl, rfl, rfl⟩ rfl rfl rfl rfl rfl (by kernel_rfl) Tryd.func7 (by kernel_rfl)
    (of_decide_eq_true (by kernel_rfl)) (by unfold Func.isWrapper; first | (rw [if_pos (by decide +kernel)]; kernel_rfl) | (rw [if_neg (by decide +kernel)]; exact ⟨rfl, rfl⟩))
    (fun os started H enc _ => lifted os started H enc)
theorem proved : Rows.PrefixWholeCardSaid :=
  Claim7.holds_tied_plain_at .later [] [.data, .data, .data, .data, .sentinel, .sentinel, .pinned] true (true, "9e4d4259594171193099c9e8047fda21a047ce89f55b673e151f006c195a3c59") true over (fun _ h => by cases h) (by kernel_rfl) (fun _ h => by cases h) prefixWhole_row_tie rfl ⟨rfl, rfl⟩ (by kernel_rfl) rfl
    (fun f fn hf hfn => by
      obtain rfl : f = 7 := Option.some.inj ((show Tryd.prog.funcNamed "ddi/ddilaw03.PrefixWhole" = some 7 by kernel_rfl).symm.trans hf) |>.symm
      obtain rfl : fn = Tryd.f7 := (Option.some.inj (Tryd.func7.symm.trans hfn)).symm
      exact ⟨by kernel_rfl, fun j t ht => by
        rw [Tryd.params7] at ht
        have hm : t ∈ [36, 24] := by simpa using Array.mem_of_getElem? ht
        have hall : ([36, 24].all fun u => !Tryd.prog.wantsStandIn u) = true := by kernel_rfl
        exact (show Tryd.prog.wantsStandIn t = false by simpa using List.all_eq_true.1 hall t hm)⟩)
    (by kernel_rfl)
#print axioms proved
end Go.Proofs.YteflcmmandlknaaDoor.prefixWhole
namespace Go.Proofs.YteflcmmandlknaaDoor
/-- The row, under a short name, for the claim. -/
theorem prefixWhole_holds : Rows.PrefixWholeCardSaid := prefixWhole.proved
end Go.Proofs.YteflcmmandlknaaDoor
