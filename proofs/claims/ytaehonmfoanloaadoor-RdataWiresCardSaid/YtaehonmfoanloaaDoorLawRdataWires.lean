/-
  The row of the law RdataWires, out of its plain statement and the printed walk: for every input the law returns true, and each argument reads behind the call as before. Conditions: none beyond the given row.
-/
import Derived.Test.YtaehonmfoanloaaDoorRows
import Derived.Test.YtaehonmfoanloaaDoorOpen
import Derived.Test.YtaehonmfoanloaaDoorRlWires
import Derived.Test.YtaehonmfoanloaaDoorRdCon
import Derived.Test.YtaehonmfoanloaaDoorNum
import Derived.WalkKit
import Derived.ProofKit
import Derived.OpenShut
import Derived.ShutString
import Derived.ChangeOld
import Derived.Below
import Derived.SizedLaws
import Derived.Test.YtaehonmfoanloaaDoorWSized
import Derived.Test.YtaehonmfoanloaaDoorOpenLaid
import Derived.Test.YtaehonmfoanloaaDoorTie
import Derived.Test.YtaehonmfoanloaaDoorCards
namespace Go.Proofs.YtaehonmfoanloaaDoor.rdataWires
open Go.ChangeShapes Go.WideShapes Go.ChangeAt Go.RowKit Go.Proofs.YtaehonmfoanloaaDoorW.PrintWords
open Go.ChangeMaps (open_string shut_string)
open Go.Proofs.YtaehonmfoanloaaDoor.Open
set_option linter.unusedVariables false
theorem own : ownKnob Tryd.prog.godebug = none := by kernel_rfl
theorem laidOut : laidOutB Tryd.prog = true := by kernel_rfl
theorem open_t26 {w : World} {x} {cs : Array Value} (h : (Kd.pair (Kd.pair Kd.bool (Kd.pair (Kd.int .u64) (Kd.int .u64))) (Kd.pair Kd.string (Kd.pair Kd.string (Kd.pair Kd.string (Kd.pair (Kd.int .i64) (Kd.pair (Kd.int .i64) (Kd.pair (Kd.int .i64) (Kd.pair (Kd.int .i64) (Kd.pair (Kd.int .i64) (Kd.pair (Kd.int .i64) (Kd.int .u64))))))))))).K w x cs.toList) : cs = #[.bool (x.1.1), .int .u64 (x.1.2.1), .int .u64 (x.1.2.2), .string (x.2.1), .string (x.2.2.1), .string (x.2.2.2.1), .int .i64 (x.2.2.2.2.1), .int .i64 (x.2.2.2.2.2.1), .int .i64 (x.2.2.2.2.2.2.1), .int .i64 (x.2.2.2.2.2.2.2.1), .int .i64 (x.2.2.2.2.2.2.2.2.1), .int .i64 (x.2.2.2.2.2.2.2.2.2.1), .int .u64 (x.2.2.2.2.2.2.2.2.2.2)] := by
  obtain ⟨l⟩ := cs
  have h' : (Kd.pair (Kd.pair Kd.bool (Kd.pair (Kd.int .u64) (Kd.int .u64))) (Kd.pair Kd.string (Kd.pair Kd.string (Kd.pair Kd.string (Kd.pair (Kd.int .i64) (Kd.pair (Kd.int .i64) (Kd.pair (Kd.int .i64) (Kd.pair (Kd.int .i64) (Kd.pair (Kd.int .i64) (Kd.pair (Kd.int .i64) (Kd.int .u64))))))))))).K w x l := h
  clear h
  obtain ⟨_, _, rfl, ⟨_, _, rfl, rfl, ⟨_, _, rfl, rfl, rfl⟩⟩, ⟨_, _, rfl, rfl, ⟨_, _, rfl, rfl, ⟨_, _, rfl, rfl, ⟨_, _, rfl, rfl, ⟨_, _, rfl, rfl, ⟨_, _, rfl, rfl, ⟨_, _, rfl, rfl, ⟨_, _, rfl, rfl, ⟨_, _, rfl, rfl, rfl⟩⟩⟩⟩⟩⟩⟩⟩⟩⟩ := h'
  exact rfl
set_option maxRecDepth 100000 in
theorem lifted (os : Os) (started : os.Started) (H : Type) (enc : TypeId × Value → H) :
    ReturnsInHanded {} Tryd.checked os 5 .any (fun w args => (Rows.rdataWiresSpec.pre enc Tryd.prog Tryd.f5 Rows.rdataWiresRow.domain false w args ∧ laidMetH Tryd.prog Rows.rdataWiresRow.laid w) ∧ sizedMet enc Tryd.prog Tryd.f5 (OpenSpec.ofChange Rows.rdataWiresSpec) false w args) (Rows.rdataWiresSpec.post enc Tryd.prog Tryd.f5 false true false false) := by
  refine returnsInHanded_laid (C := Tryd.checked) (X := fun w _ => laidMetH Tryd.prog Rows.rdataWiresRow.laid w) (fun _ _ _ hh h => h.of_heap hh) own started (by kernel_rfl) Tryd.func5
    (ChangeSpec.witness_shaped (enc := enc) (C := Tryd.checked) (os := os) (X := fun w _ => laidMetH Tryd.prog Rows.rdataWiresRow.laid w) false (World.laidAll Tryd.prog os Rows.rdataWiresRow.laid) #[.int .i64 0, .agg #[.bool false, .int .u64 0, .int .u64 0, .string ByteArray.empty, .string ByteArray.empty, .string ByteArray.empty, .int .i64 0, .int .i64 0, .int .i64 0, .int .i64 0, .int .i64 0, .int .i64 0, .int .u64 0]] 8 (World.laidAll_os _ _ _)
      (World.shaped_of_ZipB (by kernel_rfl) (by kernel_rfl)) (by kernel_rfl) (by kernel_rfl) (by kernel_rfl)
      (by rw [MakeChecks.laidMetH_plain _ _ _ (by kernel_rfl)]; exact laidMet_laidAll _ (by kernel_rfl) (by kernel_rfl))) ?_
  intro W base args ds gs before hval0 hW hcnd hsz0 hL hshape _
  have hsz : (DataW.weightsEach Tryd.prog (Tryd.f5.params.toList ++ Rows.rdataWiresSpec.plain.varTypes Tryd.prog) (ds ++ gs)).all (· ≤ reachBytes) = true := hsz0
  have hval : ∀ (j : Nat) t v, Tryd.f5.params[j]? = some t → args[j]? = some v → Value.okWide Tryd.prog W .any base t v := hval0
  have hW' := hW
  obtain ⟨p, q, hA0, hV, rfl, hfz, hnd⟩ := hW
  have hA : DataW.TrodAll enc Tryd.prog W 0 (fun _ => true) true Tryd.f5.params.toList args.toList ds p := hA0
  rw [Tryd.params5] at hA hval hsz
  obtain ⟨v0, vs0, d0, ds0, p0, q0, hargs, rfl, rfl, h0, r0⟩ := trodAll_cons hA
  obtain ⟨v1, vs1, d1, ds1, p1, q1, rfl, rfl, rfl, h1, r1⟩ := trodAll_cons r0
  obtain ⟨rfl, rfl, rfl⟩ := trodAll_nil r1
  obtain rfl : args = #[v0, v1] := by cases args; simp_all
  obtain ⟨rfl, rfl⟩ := trodVars_none hV
  have k0 := h0
  have lt0 : ∀ x ∈ p0, x.block < W.heap.size := by obtain ⟨m, hm⟩ := k0; exact DataW.trod_lt m _ _ _ hm
  have wt0 := weights_arg hsz 0 3 d0 rfl rfl
  obtain ⟨x0, rfl, rfl, rfl, hb0⟩ := open_int Tryd.underlying3 (hval 0 3 v0 rfl rfl) h0
  have k1 := h1
  have lt1 : ∀ x ∈ p1, x.block < W.heap.size := by obtain ⟨m, hm⟩ := k1; exact DataW.trod_lt m _ _ _ hm
  have wt1 := weights_arg hsz 1 26 d1 rfl rfl
  obtain ⟨x1, cs1, rfl, hk1, hb1⟩ := opens_arg (d := (Kd.pair (Kd.pair Kd.bool (Kd.pair (Kd.int .u64) (Kd.int .u64))) (Kd.pair Kd.string (Kd.pair Kd.string (Kd.pair Kd.string (Kd.pair (Kd.int .i64) (Kd.pair (Kd.int .i64) (Kd.pair (Kd.int .i64) (Kd.pair (Kd.int .i64) (Kd.pair (Kd.int .i64) (Kd.pair (Kd.int .i64) (Kd.int .u64)))))))))))) (opens_struct Tryd.underlying26 (opensF_cons (opens_struct Tryd.underlying24 (opensF_cons (opens_bool Tryd.underlying4) rfl (by kernel_rfl) (opensF_cons (opens_int Tryd.underlying22) rfl (by kernel_rfl) (opensF_one (opens_int Tryd.underlying22) rfl (by kernel_rfl)))) (by kernel_rfl)) rfl (by kernel_rfl) (opensF_cons (opens_string Tryd.underlying9) rfl (by kernel_rfl) (opensF_cons (opens_string Tryd.underlying9) rfl (by kernel_rfl) (opensF_cons (opens_string Tryd.underlying9) rfl (by kernel_rfl) (opensF_cons (opens_int Tryd.underlying3) rfl (by kernel_rfl) (opensF_cons (opens_int Tryd.underlying3) rfl (by kernel_rfl) (opensF_cons (opens_int Tryd.underlying3) rfl (by kernel_rfl) (opensF_cons (opens_int Tryd.underlying3) rfl (by kernel_rfl) (opensF_cons (opens_int Tryd.underlying3) rfl (by kernel_rfl) (opensF_cons (opens_int Tryd.underlying3) rfl (by kernel_rfl) (opensF_one (opens_int Tryd.underlying22) rfl (by kernel_rfl)))))))))))) (by kernel_rfl)) Tryd.underlying26 (hval 1 26 v1 rfl rfl) h1 wt1
  obtain rfl := open_t26 hk1
  clear hA0 hval0 hsz0 hsz
  clear hL
  refine (Hand.wires_sp Hand.lsp x0 ⟨(x1.1.1), (x1.1.2.1), (x1.1.2.2), (x1.2.1), (x1.2.2.1), (x1.2.2.2.1), (x1.2.2.2.2.1), (x1.2.2.2.2.2.1), (x1.2.2.2.2.2.2.1), (x1.2.2.2.2.2.2.2.1), (x1.2.2.2.2.2.2.2.2.1), (x1.2.2.2.2.2.2.2.2.2.1), (x1.2.2.2.2.2.2.2.2.2.2)⟩ ⟨(Num.u64_of_wf hb1.2.2.2.2.2.2.2.2.2.2).1, (Num.u64_of_wf hb1.2.2.2.2.2.2.2.2.2.2).2, (Num.u64_of_wf hb1.1.2.1).1, (Num.u64_of_wf hb1.1.2.1).2, (Num.u64_of_wf hb1.1.2.2).1, (Num.u64_of_wf hb1.1.2.2).2⟩ W hshape).mono fun e W' ⟨he, bel0⟩ => ?_
  have bel : Below W.heap.size W W' := bel0
  subst he
  exact ⟨_, rfl, _, _, _, [], _, [], hW', trodAll_mk1 (shut_bool Tryd.underlying4 _), (trodAll_cons_mk (Below.trod laidOut (by kernel_rfl) (of_decide_eq_true (by kernel_rfl)) k0 bel lt0) (trodAll_cons_mk (Below.trod laidOut (by kernel_rfl) (of_decide_eq_true (by kernel_rfl)) k1 bel lt1) trodAll_mk0)), rfl, bel.frame _, fun h => by cases h⟩
theorem over : Rows.rdataWiresRow.holds Tryd.pinned (OpenSpec.ofChange Rows.rdataWiresSpec) :=
  OpenClaim.holds_of_wide 5 Tryd.f5 rfl rfl rfl rfl rfl rfl rfl ⟨rfl, rfl, rfl, rfl, rfl⟩ rfl rfl rfl rfl rfl (by kernel_rfl) Tryd.func5 (by kernel_rfl)
    (of_decide_eq_true (by kernel_rfl)) (by unfold Func.isWrapper; first | (rw [if_pos (by decide +kernel)]; kernel_rfl) | (rw [if_neg (by decide +kernel)]; exact ⟨rfl, rfl⟩))
    (fun os started H enc _ => lifted os started H enc)
theorem proved : Rows.RdataWiresCardSaid :=
  Claim7.holds_tied_plain_at .later [] [.data, .pinned] true (true, "ec26516fe8d787cc7b90b925f63785f2afc7cf6df178d3491f2bd6a7759f3e8b") true over (fun _ h => by cases h) (by kernel_rfl) (fun _ h => by cases h) rdataWires_row_tie rfl ⟨rfl, rfl⟩ (by kernel_rfl) rfl
    (fun f fn hf hfn => by
      obtain rfl : f = 5 := Option.some.inj ((show Tryd.prog.funcNamed "ddi/ddilaw05.RdataWires" = some 5 by kernel_rfl).symm.trans hf) |>.symm
      obtain rfl : fn = Tryd.f5 := (Option.some.inj (Tryd.func5.symm.trans hfn)).symm
      exact ⟨by kernel_rfl, fun j t ht => by
        rw [Tryd.params5] at ht
        have hm : t ∈ [3, 26] := by simpa using Array.mem_of_getElem? ht
        have hall : ([3, 26].all fun u => !Tryd.prog.wantsStandIn u) = true := by kernel_rfl
        exact (show Tryd.prog.wantsStandIn t = false by simpa using List.all_eq_true.1 hall t hm)⟩)
    (by kernel_rfl)
#print axioms proved
end Go.Proofs.YtaehonmfoanloaaDoor.rdataWires
namespace Go.Proofs.YtaehonmfoanloaaDoor
/-- The row, under a short name, for the claim. -/
theorem rdataWires_holds : Rows.RdataWiresCardSaid := rdataWires.proved
end Go.Proofs.YtaehonmfoanloaaDoor
