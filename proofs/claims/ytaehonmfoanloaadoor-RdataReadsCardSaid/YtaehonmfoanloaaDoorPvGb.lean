/-
  The program's Valid of data of the type NSEC, walked: it returns validS. Conditions: what the functions that it calls return (PSp), strings of the reach.
-/
import Derived.Test.YtaehonmfoanloaaDoorPvSp
import Derived.Test.YtaehonmfoanloaaDoorRdBit
import Derived.Deep.RegionHeld3
namespace Go.Proofs.YtaehonmfoanloaaDoor.Hand
open Go.RowKit Go.Proofs.YtaehonmfoanloaaDoorW.PrintWords Go.Proofs.YtaehonmfoanloaaDoor.RdW
set_option maxHeartbeats 8000000
set_option maxRecDepth 100000
set_option linter.all false
attribute [local go_sem high] eqD
theorem pv47_bits (S : PSp) (x : D) (hs1 : x.host.size ≤ 100000) (hs2 : x.mail.size ≤ 100000) (hb0 : 0 ≤ x.bits) (hb1 : x.bits < 18446744073709551616) (h0 : D.eqb x { D.z with host := x.host, bits := x.bits } = true) (h1 : nameB x.host = true) (h2 : (x.bits != 0) = false) (w : World) (sh : w.ShapedOpen Tryd.prog) :
    Calls Tryd.prog 13 #[.int .i64 47, x.v] w fun e w' => e = .returned (.bool (validS 47 x)) ∧ Below w.heap.size w w' := by
  have hu := Tryd.underlying26
  have hv := Tryd.underlying24
  obtain ⟨v6, hi, lo, host, mail, text, a, b, c, d, e, f, bits⟩ := x
  have HO : Aside0 (Own w (w.alloc (.cells #[.bool v6, .int .u64 hi, .int .u64 lo, .string host, .string mail, .string text, .int .i64 a, .int .i64 b, .int .i64 c, .int .i64 d, .int .i64 e, .int .i64 f, .int .u64 bits] 26)) #[.bool v6, .int .u64 hi, .int .u64 lo, .string host, .string mail, .string text, .int .i64 a, .int .i64 b, .int .i64 c, .int .i64 d, .int .i64 e, .int .i64 f, .int .u64 bits] 26) := ⟨Own.new _ _ _⟩
  show Calls Tryd.prog 13 #[_, .agg #[.bool v6, .int .u64 hi, .int .u64 lo, .string host, .string mail, .string text, .int .i64 a, .int .i64 b, .int .i64 c, .int .i64 d, .int .i64 e, .int .i64 f, .int .u64 bits]] w _
  replace h0 : D.eqb ⟨v6, hi, lo, host, mail, text, a, b, c, d, e, f, bits⟩ ⟨false, 0, 0, host, ⟨#[]⟩, ⟨#[]⟩, 0, 0, 0, 0, 0, 0, bits⟩ = true := h0
  dsimp only at hs1 hs2 hb0 hb1 h1 h2
  obtain ⟨r, hr⟩ : ∃ r, validS 47 ⟨v6, hi, lo, host, mail, text, a, b, c, d, e, f, bits⟩ = r := ⟨_, rfl⟩
  rw [hr]
  have HN := Aside0.mk (andNot_all bits hb0 hb1)
  have HR := Aside0.mk (show (D.eqb ⟨v6, hi, lo, host, mail, text, a, b, c, d, e, f, bits⟩ ⟨false, 0, 0, host, ⟨#[]⟩, ⟨#[]⟩, 0, 0, 0, 0, 0, 0, bits⟩ && (nameB host && ((bits != 0) && setB bits))) = r by rw [D.eqb_comm]; exact hr)
  clear hr hb0 hb1
  go_enter Tryd.func13, Tryd.ntmps13
  go_wp2_with fail
  (first | (go_region_with ((go_at_call 27; (with_reducible refine (S.name _ _ (by assumption) (by assumption) sh HO.out.drew.below).mono ?_); rintro e_ w1 ⟨rfl, hb⟩; replace HO := Aside0.mk (HO.out.drew.call hb); clear hb; obtain ⟨hc, hf⟩ := HO.out.cells))) | fail "region")
  all_goals
    go_wp2
    go_ret
    exact ⟨ret_bool (by have h_ := HR.out; simp [*] at h_; simp [h_, HN.out]), HO.out.below⟩
end Go.Proofs.YtaehonmfoanloaaDoor.Hand
