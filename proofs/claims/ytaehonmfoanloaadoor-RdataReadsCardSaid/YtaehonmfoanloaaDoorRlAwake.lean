/-
  The laws' own functions short and awake, walked. Conditions: each theorem's own.
-/
import Derived.Test.YtaehonmfoanloaaDoorRdLaw
namespace Go.Proofs.YtaehonmfoanloaaDoor.Hand
open Go.RowKit Go.Proofs.YtaehonmfoanloaaDoorW.PrintWords Go.Proofs.YtaehonmfoanloaaDoor.RdW
set_option maxHeartbeats 40000000
set_option maxRecDepth 100000
set_option linter.all false
theorem short_sp (x : D) (r : Bool) (hr : shortB x = r) (w : World) :
    Calls Tryd.prog 11 #[x.v] w fun e w' => e = .returned (.bool r) ∧ Below w.heap.size w w' := by
  have hu := Tryd.underlying26
  obtain ⟨v6, hi, lo, host, mail, text, a, b, c, d, e, f, bits⟩ := x
  have HO : Aside0 (Own w (w.alloc (.cells #[.bool v6, .int .u64 hi, .int .u64 lo, .string host, .string mail, .string text, .int .i64 a, .int .i64 b, .int .i64 c, .int .i64 d, .int .i64 e, .int .i64 f, .int .u64 bits] 26)) #[.bool v6, .int .u64 hi, .int .u64 lo, .string host, .string mail, .string text, .int .i64 a, .int .i64 b, .int .i64 c, .int .i64 d, .int .i64 e, .int .i64 f, .int .u64 bits] 26) := ⟨Own.new _ _ _⟩
  show Calls Tryd.prog 11 #[.agg #[.bool v6, .int .u64 hi, .int .u64 lo, .string host, .string mail, .string text, .int .i64 a, .int .i64 b, .int .i64 c, .int .i64 d, .int .i64 e, .int .i64 f, .int .u64 bits]] w _
  have HR := Aside0.mk (show (decide (host.size ≤ 400) && (decide (mail.size ≤ 400) && decide (text.size ≤ 400))) = r from hr)
  clear hr
  by_cases h1 : (host.size : Int) ≤ 400 <;> by_cases h2 : (mail.size : Int) ≤ 400 <;> by_cases h3 : (text.size : Int) ≤ 400
  all_goals
    go_enter Tryd.func11, Tryd.ntmps11
    go_wp2_with fail
    go_ret
    exact ⟨ret_bool (by have h := HR.out; rw [← h]; simp; omega), HO.out.below⟩
def mx : D := { D.z with a := 10, host := ⟨#[97, 46]⟩ }
theorem mx_ok : mx.ok := ⟨by decide, by decide, by decide, by decide, by decide, by decide, by decide, by decide, by decide⟩
theorem mx_wire : wireS 15 mx = ([0, 10, 1, 97, 0], 0) := by decide +kernel
theorem mx_read : readS 15 [0, 10, 1, 65, 0] = (mx, 0) := by
  have h : ((readS 15 [0, 10, 1, 65, 0]).1.eqb mx && (readS 15 [0, 10, 1, 65, 0]).2 == 0) = true := by decide +kernel
  rw [Bool.and_eq_true, D.eqb_iff, beq_iff_eq] at h
  exact Prod.ext h.1 h.2
theorem awake_sp (S : LSp) (w : World) (sh : w.ShapedOpen Tryd.prog) :
    Calls Tryd.prog 14 #[] w fun e w' => e = .returned (.bool true) ∧ Below w.heap.size w w' := by
  have hu := Tryd.underlying26
  go_enter Tryd.func14, Tryd.ntmps14
  go_wp2_with fail
  have e1 : (strOf [0, 10, 1, 97, 0]).toList = [0, 10, 1, 97, 0] := by rw [toList_by, by_strOf]
  have e2 : (⟨#[97, 46]⟩ : ByteArray).toList = [97, 46] := by rw [toList_by]; rfl
  have hw := S.wire 15 mx w mx_ok sh
  rw [mx_wire] at hw
  refine hw.mono ?_
  clear hw
  rintro e_ w1 ⟨rfl, hb⟩
  have HB := Aside0.mk hb
  clear hb
  go_wp2_with fail
  have hr := S.read 15 ⟨#[0, 10, 1, 65, 0]⟩ w1 (by decide) (shb sh HB.out)
  rw [show (⟨#[0, 10, 1, 65, 0]⟩ : ByteArray).data.toList = [0, 10, 1, 65, 0] from rfl, mx_read, show (mx, (0 : Int)).1.v = .agg #[.bool false, .int .u64 0, .int .u64 0, .string ⟨#[97, 46]⟩, .string ⟨#[]⟩, .string ⟨#[]⟩, .int .i64 10, .int .i64 0, .int .i64 0, .int .i64 0, .int .i64 0, .int .i64 0, .int .u64 0] from rfl] at hr
  refine hr.mono ?_
  clear hr
  rintro e_ w2 ⟨rfl, hb⟩
  replace HB := Aside0.mk (HB.out.trans (hb.mono HB.out.size))
  clear hb
  go_wp2
  go_ret
  exact ⟨rfl, al HB.out _⟩
end Go.Proofs.YtaehonmfoanloaaDoor.Hand
