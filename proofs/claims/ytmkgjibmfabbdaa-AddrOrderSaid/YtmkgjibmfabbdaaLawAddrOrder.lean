/-
  The row of the law AddrOrder, out of its plain statement and the printed walk: for every input the law returns true, and each argument reads behind the call as before. Conditions: none beyond the given row.
-/
import Derived.Test.YtmkgjibmfabbdaaRows
import Derived.Test.YtmkgjibmfabbdaaQx3
import Derived.Test.YtmkgjibmfabbdaaPureAddrOrder
import Derived.Test.YtmkgjibmfabbdaaOpen
import Derived.WalkKit
import Derived.ProofKit
import Derived.OpenShut
import Derived.ShutString
import Derived.ChangeOld
import Derived.Below
import Derived.SizedLaws
import Derived.Test.YtmkgjibmfabbdaaWSized
namespace Go.Proofs.Ytmkgjibmfabbdaa.addrOrder
open Go.ChangeShapes Go.WideShapes Go.ChangeAt Go.RowKit Go.Proofs.YtmkgjibmfabbdaaW.PrintWords
open Go.ChangeMaps (open_string shut_string)
open Go.Proofs.Ytmkgjibmfabbdaa.Open
set_option linter.unusedVariables false
theorem own : ownKnob Try.prog.godebug = none := by kernel_rfl
theorem laidOut : laidOutB Try.prog = true := by kernel_rfl
theorem open_t25 {w : World} {x} {cs : Array Value} (h : (Kd.pair (Kd.pair Kd.bool (Kd.pair (Kd.int .u64) (Kd.int .u64))) (Kd.pair (Kd.pair Kd.bool (Kd.pair (Kd.int .u64) (Kd.int .u64))) (Kd.pair Kd.bool (Kd.pair (Kd.int .u64) (Kd.int .u64))))).K w x cs.toList) : cs = #[.bool (x.1.1), .int .u64 (x.1.2.1), .int .u64 (x.1.2.2), .bool (x.2.1.1), .int .u64 (x.2.1.2.1), .int .u64 (x.2.1.2.2), .bool (x.2.2.1), .int .u64 (x.2.2.2.1), .int .u64 (x.2.2.2.2)] := by
  obtain ⟨l⟩ := cs
  have h' : (Kd.pair (Kd.pair Kd.bool (Kd.pair (Kd.int .u64) (Kd.int .u64))) (Kd.pair (Kd.pair Kd.bool (Kd.pair (Kd.int .u64) (Kd.int .u64))) (Kd.pair Kd.bool (Kd.pair (Kd.int .u64) (Kd.int .u64))))).K w x l := h
  clear h
  obtain ⟨_, _, rfl, ⟨_, _, rfl, rfl, ⟨_, _, rfl, rfl, rfl⟩⟩, ⟨_, _, rfl, ⟨_, _, rfl, rfl, ⟨_, _, rfl, rfl, rfl⟩⟩, ⟨_, _, rfl, rfl, ⟨_, _, rfl, rfl, rfl⟩⟩⟩⟩ := h'
  exact rfl
set_option maxRecDepth 100000 in
theorem lifted (os : Os) (started : os.Started) (H : Type) (enc : TypeId × Value → H) :
    ReturnsInHanded {} Try.checked os 3 .any (Rows.addrOrderSpec.pre6 enc Try.prog Try.f3 Rows.addrOrderRow.domain false) (Rows.addrOrderSpec.post enc Try.prog Try.f3 false true false false) := by
  refine returnsInHanded_of_change_sized (C := Try.checked) own started (by kernel_rfl) Try.func3
    (ChangeSpec.witness6 (enc := enc) (C := Try.checked) false ⟨#[], #[.agg #[.bool false, .int .u64 0, .int .u64 0, .bool false, .int .u64 0, .int .u64 0, .bool false, .int .u64 0, .int .u64 0]], []⟩ 8 (by kernel_rfl) (by kernel_rfl) (by kernel_rfl) (by kernel_rfl)) ?_
  intro W base args ds gs before hval0 hW hcnd hsz0 _
  have hsz : (DataW.weightsEach Try.prog (Try.f3.params.toList ++ Rows.addrOrderSpec.plain.varTypes Try.prog) (ds ++ gs)).all (· ≤ reachBytes) = true := hsz0
  have hval : ∀ (j : Nat) t v, Try.f3.params[j]? = some t → args[j]? = some v → Value.okWide Try.prog W .any base t v := hval0
  have hW' := hW
  obtain ⟨p, q, hA0, hV, rfl, hfz, hnd⟩ := hW
  have hA : DataW.TrodAll enc Try.prog W 0 (fun _ => true) true Try.f3.params.toList args.toList ds p := hA0
  rw [Try.params3] at hA hval hsz
  obtain ⟨v0, vs0, d0, ds0, p0, q0, hargs, rfl, rfl, h0, r0⟩ := trodAll_cons hA
  obtain ⟨rfl, rfl, rfl⟩ := trodAll_nil r0
  obtain rfl : args = #[v0] := by cases args; simp_all
  obtain ⟨rfl, rfl⟩ := trodVars_none hV
  have k0 := h0
  have lt0 : ∀ x ∈ p0, x.block < W.heap.size := by obtain ⟨m, hm⟩ := k0; exact DataW.trod_lt m _ _ _ hm
  have wt0 := weights_arg hsz 0 25 d0 rfl rfl
  obtain ⟨x0, cs0, rfl, hk0, hb0⟩ := opens_arg_array (d := (Kd.pair (Kd.pair Kd.bool (Kd.pair (Kd.int .u64) (Kd.int .u64))) (Kd.pair (Kd.pair Kd.bool (Kd.pair (Kd.int .u64) (Kd.int .u64))) (Kd.pair Kd.bool (Kd.pair (Kd.int .u64) (Kd.int .u64)))))) (opens_array Try.underlying25 (opensA_cons (opens_struct Try.underlying24 (opensF_cons (opens_bool Try.underlying4) rfl (by kernel_rfl) (opensF_cons (opens_int Try.underlying22) rfl (by kernel_rfl) (opensF_one (opens_int Try.underlying22) rfl (by kernel_rfl)))) (by kernel_rfl)) (opensA_cons (opens_struct Try.underlying24 (opensF_cons (opens_bool Try.underlying4) rfl (by kernel_rfl) (opensF_cons (opens_int Try.underlying22) rfl (by kernel_rfl) (opensF_one (opens_int Try.underlying22) rfl (by kernel_rfl)))) (by kernel_rfl)) (opensA_one (opens_struct Try.underlying24 (opensF_cons (opens_bool Try.underlying4) rfl (by kernel_rfl) (opensF_cons (opens_int Try.underlying22) rfl (by kernel_rfl) (opensF_one (opens_int Try.underlying22) rfl (by kernel_rfl)))) (by kernel_rfl))))) (by kernel_rfl) (by kernel_rfl)) Try.underlying25 (hval 0 25 v0 rfl rfl) h0 wt0
  obtain rfl := open_t25 hk0
  clear hA0 hval0 hsz0 hsz
  obtain ⟨k, hp⟩ := Pure.AddrOrder (x0.1.1) (x0.1.2.1) (x0.1.2.2) (x0.2.1.1) (x0.2.1.2.1) (x0.2.1.2.2) (x0.2.2.1) (x0.2.2.2.1) (x0.2.2.2.2) hb0.1.2.1 hb0.1.2.2 hb0.2.1.2.1 hb0.2.1.2.2 hb0.2.2.2.1 hb0.2.2.2.2
  refine (Q.ddilaw02_AddrOrder.calls k (x0.1.1) (x0.1.2.1) (x0.1.2.2) (x0.2.1.1) (x0.2.1.2.1) (x0.2.1.2.2) (x0.2.2.1) (x0.2.2.2.1) (x0.2.2.2.2) true W  hp).mono fun e W' ⟨he, bel0⟩ => ?_
  have bel : Below W.heap.size W W' := bel0
  subst he
  exact ⟨_, rfl, _, _, _, [], _, [], hW', trodAll_mk1 (shut_bool Try.underlying4 _), (trodAll_cons_mk (Below.trod laidOut (by kernel_rfl) (of_decide_eq_true (by kernel_rfl)) k0 bel lt0) trodAll_mk0), rfl, bel.frame _, fun h => by cases h⟩
theorem over : Rows.addrOrderRow.holds Try.pinned (OpenSpec.ofChange Rows.addrOrderSpec) :=
  OpenClaim.holds_of_wide 3 Try.f3 rfl rfl rfl rfl rfl rfl rfl ⟨rfl, rfl, rfl, rfl, rfl⟩ rfl rfl rfl rfl rfl (by kernel_rfl) Try.func3 (by kernel_rfl)
    (of_decide_eq_true (by kernel_rfl)) (by unfold Func.isWrapper; first | (rw [if_pos (by decide +kernel)]; kernel_rfl) | (rw [if_neg (by decide +kernel)]; exact ⟨rfl, rfl⟩))
    (fun os started H enc _ => lifted os started H enc)
theorem proved : Rows.AddrOrderSaid := over
#print axioms proved
end Go.Proofs.Ytmkgjibmfabbdaa.addrOrder
namespace Go.Proofs.Ytmkgjibmfabbdaa
/-- The row, under a short name, for the claim. -/
theorem addrOrder_holds : Rows.AddrOrderSaid := addrOrder.proved
end Go.Proofs.Ytmkgjibmfabbdaa
