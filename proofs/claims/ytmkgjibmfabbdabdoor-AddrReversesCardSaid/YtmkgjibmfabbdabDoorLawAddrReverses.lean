/-
  The row of the law AddrReverses, out of its plain statement and the printed walk: for every input the law returns true, and each argument reads behind the call as before. Conditions: none beyond the given row.
-/
import Derived.Test.YtmkgjibmfabbdabDoorRows
import Derived.Test.YtmkgjibmfabbdabDoorPAx8
import Derived.Test.YtmkgjibmfabbdabDoorPureAddrReverses
import Derived.Test.YtmkgjibmfabbdabDoorOpen
import Derived.WalkKit
import Derived.ProofKit
import Derived.OpenShut
import Derived.ShutString
import Derived.ChangeOld
import Derived.Below
import Derived.SizedLaws
import Derived.Test.YtmkgjibmfabbdabDoorWSized
import Derived.Test.YtmkgjibmfabbdabDoorOpenLaid
import Derived.Test.YtmkgjibmfabbdabDoorTie
import Derived.Test.YtmkgjibmfabbdabDoorCards
namespace Go.Proofs.YtmkgjibmfabbdabDoor.addrReverses
open Go.ChangeShapes Go.WideShapes Go.ChangeAt Go.RowKit Go.Proofs.YtmkgjibmfabbdabDoorW.PrintWords
open Go.ChangeMaps (open_string shut_string)
open Go.Proofs.YtmkgjibmfabbdabDoor.Open
set_option linter.unusedVariables false
theorem own : ownKnob Tryd.prog.godebug = none := by kernel_rfl
theorem laidOut : laidOutB Tryd.prog = true := by kernel_rfl
theorem open_t24 {w : World} {x} {cs : Array Value} (h : (Kd.pair Kd.bool (Kd.pair (Kd.int .u64) (Kd.int .u64))).K w x cs.toList) : cs = #[.bool (x.1), .int .u64 (x.2.1), .int .u64 (x.2.2)] := by
  obtain ⟨l⟩ := cs
  have h' : (Kd.pair Kd.bool (Kd.pair (Kd.int .u64) (Kd.int .u64))).K w x l := h
  clear h
  obtain ⟨_, _, rfl, rfl, ⟨_, _, rfl, rfl, rfl⟩⟩ := h'
  exact rfl
theorem of_laid {W : World} (hsh : W.ShapedOpen Tryd.prog) (h : laidMetH Tryd.prog Rows.addrReversesRow.laid W) : PA.Laid W := by
  rw [MakeChecks.laidMetH_plain _ _ _ (by kernel_rfl)] at h
  exact ⟨hsh, Lib.tabIs_of_head (show Tryd.prog.globalNamed "internal/strconv.uint64pow10" = some 0 by kernel_rfl) (show (Tryd.prog.globals[0]?).map (·.type) = some 87 by kernel_rfl) Tryd.underlying87 Tryd.underlying22 (by kernel_rfl) (by kernel_rfl) h.tail.tail, Lib.tabIs_of_head (show Tryd.prog.globalNamed "math/bits.deBruijn64tab" = some 3 by kernel_rfl) (show (Tryd.prog.globals[3]?).map (·.type) = some 104 by kernel_rfl) Tryd.underlying104 Tryd.underlying5 (by kernel_rfl) (by kernel_rfl) h.tail⟩
set_option maxRecDepth 100000 in
theorem lifted (os : Os) (started : os.Started) (H : Type) (enc : TypeId × Value → H) :
    ReturnsInHanded {} Tryd.checked os 3 .any (fun w args => (Rows.addrReversesSpec.pre enc Tryd.prog Tryd.f3 Rows.addrReversesRow.domain false w args ∧ laidMetH Tryd.prog Rows.addrReversesRow.laid w) ∧ sizedMet enc Tryd.prog Tryd.f3 (OpenSpec.ofChange Rows.addrReversesSpec) false w args) (Rows.addrReversesSpec.post enc Tryd.prog Tryd.f3 false true false false) := by
  refine returnsInHanded_laid (C := Tryd.checked) (X := fun w _ => laidMetH Tryd.prog Rows.addrReversesRow.laid w) (fun _ _ _ hh h => h.of_heap hh) own started (by kernel_rfl) Tryd.func3
    (ChangeSpec.witness_shaped (enc := enc) (C := Tryd.checked) (os := os) (X := fun w _ => laidMetH Tryd.prog Rows.addrReversesRow.laid w) false (World.laidAll Tryd.prog os Rows.addrReversesRow.laid) #[.agg #[.bool false, .int .u64 0, .int .u64 0], .string ByteArray.empty] 8 (World.laidAll_os _ _ _)
      (World.shaped_of_ZipB (by kernel_rfl) (by kernel_rfl)) (by kernel_rfl) (by kernel_rfl) (by kernel_rfl)
      (by rw [MakeChecks.laidMetH_plain _ _ _ (by kernel_rfl)]; exact laidMet_laidAll _ (by kernel_rfl) (by kernel_rfl))) ?_
  intro W base args ds gs before hval0 hW hcnd hsz0 hL hshape _
  have hsz : (DataW.weightsEach Tryd.prog (Tryd.f3.params.toList ++ Rows.addrReversesSpec.plain.varTypes Tryd.prog) (ds ++ gs)).all (· ≤ reachBytes) = true := hsz0
  have hval : ∀ (j : Nat) t v, Tryd.f3.params[j]? = some t → args[j]? = some v → Value.okWide Tryd.prog W .any base t v := hval0
  have hW' := hW
  obtain ⟨p, q, hA0, hV, rfl, hfz, hnd⟩ := hW
  have hA : DataW.TrodAll enc Tryd.prog W 0 (fun _ => true) true Tryd.f3.params.toList args.toList ds p := hA0
  rw [Tryd.params3] at hA hval hsz
  obtain ⟨v0, vs0, d0, ds0, p0, q0, hargs, rfl, rfl, h0, r0⟩ := trodAll_cons hA
  obtain ⟨v1, vs1, d1, ds1, p1, q1, rfl, rfl, rfl, h1, r1⟩ := trodAll_cons r0
  obtain ⟨rfl, rfl, rfl⟩ := trodAll_nil r1
  obtain rfl : args = #[v0, v1] := by cases args; simp_all
  obtain ⟨rfl, rfl⟩ := trodVars_none hV
  have k0 := h0
  have lt0 : ∀ x ∈ p0, x.block < W.heap.size := by obtain ⟨m, hm⟩ := k0; exact DataW.trod_lt m _ _ _ hm
  have wt0 := weights_arg hsz 0 24 d0 rfl rfl
  obtain ⟨x0, cs0, rfl, hk0, hb0⟩ := opens_arg (d := (Kd.pair Kd.bool (Kd.pair (Kd.int .u64) (Kd.int .u64)))) (opens_struct Tryd.underlying24 (opensF_cons (opens_bool Tryd.underlying4) rfl (by kernel_rfl) (opensF_cons (opens_int Tryd.underlying22) rfl (by kernel_rfl) (opensF_one (opens_int Tryd.underlying22) rfl (by kernel_rfl)))) (by kernel_rfl)) Tryd.underlying24 (hval 0 24 v0 rfl rfl) h0 wt0
  obtain rfl := open_t24 hk0
  have k1 := h1
  have lt1 : ∀ x ∈ p1, x.block < W.heap.size := by obtain ⟨m, hm⟩ := k1; exact DataW.trod_lt m _ _ _ hm
  have wt1 := weights_arg hsz 1 9 d1 rfl rfl
  obtain ⟨x1, rfl, rfl, rfl, y1⟩ := open_string Tryd.underlying9 (hval 1 9 v1 rfl rfl) h1
  have hb1 : x1.size ≤ 140737488351232 := by
    have z := wt1 x1.data.toList.length (by simp [DataW.weights])
    rw [Array.length_toList] at z
    exact z
  clear hA0 hval0 hsz0 hsz
  have hLD := of_laid hshape hL
  clear hL hshape
  obtain ⟨k, hp⟩ := Pure.AddrReverses (x0.1) (x0.2.1) (x0.2.2) x1 hb0.2.1 hb0.2.2 hb1
  refine (PA.ddilaw02_AddrReverses.calls k (x0.1) (x0.2.1) (x0.2.2) x1 true W  hLD hp).mono fun e W' ⟨he, bel0⟩ => ?_
  have bel : Below W.heap.size W W' := bel0
  subst he
  exact ⟨_, rfl, _, _, _, [], _, [], hW', trodAll_mk1 (shut_bool Tryd.underlying4 _), (trodAll_cons_mk (Below.trod laidOut (by kernel_rfl) (of_decide_eq_true (by kernel_rfl)) k0 bel lt0) (trodAll_cons_mk (Below.trod laidOut (by kernel_rfl) (of_decide_eq_true (by kernel_rfl)) k1 bel lt1) trodAll_mk0)), rfl, bel.frame _, fun h => by cases h⟩
theorem over : Rows.addrReversesRow.holds Tryd.pinned (OpenSpec.ofChange Rows.addrReversesSpec) :=
  OpenClaim.holds_of_wide 3 Tryd.f3 rfl rfl rfl rfl rfl rfl rfl ⟨rfl, rfl, rfl, rfl, rfl⟩ rfl rfl rfl rfl rfl (by kernel_rfl) Tryd.func3 (by kernel_rfl)
    (of_decide_eq_true (by kernel_rfl)) (by unfold Func.isWrapper; first | (rw [if_pos (by decide +kernel)]; kernel_rfl) | (rw [if_neg (by decide +kernel)]; exact ⟨rfl, rfl⟩))
    (fun os started H enc _ => lifted os started H enc)
theorem proved : Rows.AddrReversesCardSaid :=
  Claim7.holds_tied_plain_at .later [] [.data, .data, .data, .data, .pinned] true (true, "8f28e960f94c03731d22646476d1af42d9585b8683749f686a231fa1dcb51775") false over (fun _ h => by cases h) (by kernel_rfl) (fun _ h => by cases h) addrReverses_row_tie rfl ⟨rfl, rfl⟩ (by kernel_rfl) rfl
    (fun f fn hf hfn => by
      obtain rfl : f = 3 := Option.some.inj ((show Tryd.prog.funcNamed "ddi/ddilaw02.AddrReverses" = some 3 by kernel_rfl).symm.trans hf) |>.symm
      obtain rfl : fn = Tryd.f3 := (Option.some.inj (Tryd.func3.symm.trans hfn)).symm
      exact ⟨by kernel_rfl, fun j t ht => by
        rw [Tryd.params3] at ht
        have hm : t ∈ [24, 9] := by simpa using Array.mem_of_getElem? ht
        have hall : ([24, 9].all fun u => !Tryd.prog.wantsStandIn u) = true := by kernel_rfl
        exact (show Tryd.prog.wantsStandIn t = false by simpa using List.all_eq_true.1 hall t hm)⟩)
    (by kernel_rfl)
#print axioms proved
end Go.Proofs.YtmkgjibmfabbdabDoor.addrReverses
namespace Go.Proofs.YtmkgjibmfabbdabDoor
/-- The row, under a short name, for the claim. -/
theorem addrReverses_holds : Rows.AddrReversesCardSaid := addrReverses.proved
end Go.Proofs.YtmkgjibmfabbdabDoor
