/-
  The law RdataBack, walked: it returns true. Conditions: what its callees return (LSp), numbers of their types.
-/
import Derived.Test.YtaehonmfoanloaaDoorRlAwake
namespace Go.Proofs.YtaehonmfoanloaaDoor.Hand
open Go.RowKit Go.Proofs.YtaehonmfoanloaaDoorW.PrintWords Go.Proofs.YtaehonmfoanloaaDoor.RdW
set_option maxHeartbeats 40000000
set_option maxRecDepth 100000
set_option linter.all false
attribute [local go_sem high] eqD
theorem back_sp (S : LSp) (t : Int) (x : D) (hx : x.wf) (w : World) (sh : w.ShapedOpen Tryd.prog) :
    Calls Tryd.prog 7 #[.int .i64 t, x.v] w fun e w' => e = .returned (.bool true) ∧ Below w.heap.size w w' := by
  have hu := Tryd.underlying26
  have HX := Aside0.mk hx
  clear hx
  obtain ⟨v6, hi, lo, host, mail, text, a, b, c, d, e, f, bits, hxe⟩ : ∃ v6 hi lo host mail text a b c d e f bits, x = ⟨v6, hi, lo, host, mail, text, a, b, c, d, e, f, bits⟩ := ⟨_, _, _, _, _, _, _, _, _, _, _, _, _, rfl⟩
  have hxv : x.v = .agg #[.bool v6, .int .u64 hi, .int .u64 lo, .string host, .string mail, .string text, .int .i64 a, .int .i64 b, .int .i64 c, .int .i64 d, .int .i64 e, .int .i64 f, .int .u64 bits] := by rw [hxe]; rfl
  have HXV := Aside0.mk hxv
  have heq : D.eqb ⟨v6, hi, lo, host, mail, text, a, b, c, d, e, f, bits⟩ ⟨v6, hi, lo, host, mail, text, a, b, c, d, e, f, bits⟩ = true := (D.eqb_iff _ _).2 rfl
  have HO : Aside0 (Own w (w.alloc (.cells #[.bool v6, .int .u64 hi, .int .u64 lo, .string host, .string mail, .string text, .int .i64 a, .int .i64 b, .int .i64 c, .int .i64 d, .int .i64 e, .int .i64 f, .int .u64 bits] 26)) #[.bool v6, .int .u64 hi, .int .u64 lo, .string host, .string mail, .string text, .int .i64 a, .int .i64 b, .int .i64 c, .int .i64 d, .int .i64 e, .int .i64 f, .int .u64 bits] 26) := ⟨Own.new _ _ _⟩
  have hn : (strOf []).toList = [] := by rw [toList_by, by_strOf]
  rw [hxv]
  clear hxe hxv
  go_enter Tryd.func7, Tryd.ntmps7
  go_wp2_with fail
  refine (awake_sp S _ (shb sh HO.out.below)).mono ?_
  rintro e_ w1 ⟨rfl, hb⟩
  replace HO := Aside0.mk (HO.out.call hb)
  clear hb
  obtain ⟨hc, hf⟩ := HO.out.cells
  go_wp2_with fail
  have hs := short_sp x (shortB x) rfl w1
  rw [HXV.out] at hs
  refine hs.mono ?_
  clear hs
  rintro e_ w2 ⟨rfl, hb⟩
  replace HO := Aside0.mk (HO.out.call hb)
  clear hb hc hf
  obtain ⟨hc, hf⟩ := HO.out.cells
  cases hs : shortB x with
  | false =>
    go_wp2
    go_ret
    exact ⟨rfl, HO.out.below⟩
  | true =>
    have HK := Aside0.mk (ok_of HX.out hs)
    clear hs
    go_wp2_with fail
    have hw := S.wire t x w2 HK.out (shb sh HO.out.below)
    rw [HXV.out] at hw
    refine hw.mono ?_
    clear hw
    rintro e_ w3 ⟨rfl, hb⟩
    replace HO := Aside0.mk (HO.out.call hb)
    clear hb hc hf
    obtain ⟨hc, hf⟩ := HO.out.cells
    go_wp2_with fail
    refine (S.known t w3).mono ?_
    rintro e_ w4 ⟨rfl, hb⟩
    replace HO := Aside0.mk (HO.out.call hb)
    clear hb hc hf
    obtain ⟨hc, hf⟩ := HO.out.cells
    cases hk : knownB t with
    | false =>
      rw [show wireS t x = ([], 4) by unfold wireS; rw [hk]; rfl]
      go_wp2
      go_ret
      exact ⟨rfl, HO.out.below⟩
    | true =>
      have HKN := Aside0.mk hk
      clear hk
      go_wp2_with fail
      have hv := S.valid t x w4 HK.out (shb sh HO.out.below)
      rw [HXV.out] at hv
      refine hv.mono ?_
      clear hv
      rintro e_ w5 ⟨rfl, hb⟩
      replace HO := Aside0.mk (HO.out.call hb)
      clear hb hc hf
      obtain ⟨hc, hf⟩ := HO.out.cells
      cases hv : validS t x with
      | false =>
        rw [show wireS t x = ([], 5) by unfold wireS; rw [HKN.out, hv]; rfl]
        go_wp2
        go_ret
        exact ⟨rfl, HO.out.below⟩
      | true =>
        rw [show wireS t x = (wireF (flds t) x, 0) by unfold wireS; rw [HKN.out, hv]; rfl]
        go_wp2_with fail
        have hr := S.read t (strOf (wireF (flds t) x)) w5 (Nat.le_trans (wireF_size t x HK.out) (by decide)) (shb sh HO.out.below)
        rw [show (strOf (wireF (flds t) x)).data.toList = wireF (flds t) x from rfl, back_law HK.out hv, HXV.out] at hr
        refine hr.mono ?_
        clear hr
        rintro e_ w6 ⟨rfl, hb⟩
        replace HO := Aside0.mk (HO.out.call hb)
        clear hb hc hf
        obtain ⟨hc, hf⟩ := HO.out.cells
        have hlt := HO.out.lt
        go_wp2
        go_ret
        exact ⟨rfl, al HO.out.below _⟩
end Go.Proofs.YtaehonmfoanloaaDoor.Hand
