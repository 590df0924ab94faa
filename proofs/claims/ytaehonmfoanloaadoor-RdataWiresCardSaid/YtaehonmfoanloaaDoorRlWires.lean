/-
  The law RdataWires, walked: it returns true. Conditions: what its callees return (LSp), numbers of their types.
-/
import Derived.Test.YtaehonmfoanloaaDoorRlAwake
import Derived.Test.YtaehonmfoanloaaDoorRwAll
import Derived.Deep.RegionHeld3
namespace Go.Proofs.YtaehonmfoanloaaDoor.Hand
open Go.RowKit Go.Proofs.YtaehonmfoanloaaDoorW.PrintWords Go.Proofs.YtaehonmfoanloaaDoor.RdW
set_option maxHeartbeats 40000000
set_option maxRecDepth 100000
set_option linter.all false
attribute [local go_sem high] eqD
theorem wires_sp (S : LSp) (t : Int) (x : D) (hx : x.wf) (w : World) (sh : w.ShapedOpen Tryd.prog) :
    Calls Tryd.prog 5 #[.int .i64 t, x.v] w fun e w' => e = .returned (.bool true) ∧ Below w.heap.size w w' := by
  have hu := Tryd.underlying26
  have HX := Aside0.mk hx
  clear hx
  obtain ⟨v6, hi, lo, host, mail, text, a, b, c, d, e, f, bits, hxe⟩ : ∃ v6 hi lo host mail text a b c d e f bits, x = ⟨v6, hi, lo, host, mail, text, a, b, c, d, e, f, bits⟩ := ⟨_, _, _, _, _, _, _, _, _, _, _, _, _, rfl⟩
  have hxv : x.v = .agg #[.bool v6, .int .u64 hi, .int .u64 lo, .string host, .string mail, .string text, .int .i64 a, .int .i64 b, .int .i64 c, .int .i64 d, .int .i64 e, .int .i64 f, .int .u64 bits] := by rw [hxe]; rfl
  have HXV := Aside0.mk hxv
  have HO : Aside0 (Own w (w.alloc (.cells #[.bool v6, .int .u64 hi, .int .u64 lo, .string host, .string mail, .string text, .int .i64 a, .int .i64 b, .int .i64 c, .int .i64 d, .int .i64 e, .int .i64 f, .int .u64 bits] 26)) #[.bool v6, .int .u64 hi, .int .u64 lo, .string host, .string mail, .string text, .int .i64 a, .int .i64 b, .int .i64 c, .int .i64 d, .int .i64 e, .int .i64 f, .int .u64 bits] 26) := ⟨Own.new _ _ _⟩
  rw [hxv]
  clear hxe hxv
  go_enter Tryd.func5, Tryd.ntmps5
  go_wp2_with fail
  refine (awake_sp S _ (shb sh HO.out.below)).mono ?_
  rintro e_ w1 ⟨rfl, hb⟩
  replace HO := Aside0.mk (HO.out.call hb)
  clear hb
  obtain ⟨hc, hf⟩ := HO.out.cells
  go_wp2_with fail
  have hs := short_sp x (shortB x) rfl w1
  rw [HXV.out] at hs
  refine hs.mono ?_
  clear hs
  rintro e_ w2 ⟨rfl, hb⟩
  replace HO := Aside0.mk (HO.out.call hb)
  clear hb hc hf
  obtain ⟨hc, hf⟩ := HO.out.cells
  cases hs : shortB x with
  | false =>
    go_wp2
    go_ret
    exact ⟨rfl, HO.out.below⟩
  | true =>
    have hxk := ok_of HX.out hs
    have k1 := fun w sh => S.valid t x w hxk sh
    have k2 := fun w => rvalid_sp t x w hxk
    have k3 := fun w sh => S.wire t x w hxk sh
    have k4 := fun w => rwire_sp t x w hxk
    rw [HXV.out] at k1 k2 k3 k4
    obtain ⟨r, hr⟩ : ∃ r, validS t x = r := ⟨_, rfl⟩
    rw [hr] at k1 k2
    obtain ⟨s, hs1⟩ : ∃ s, strOf (wireS t x).1 = s := ⟨_, rfl⟩
    obtain ⟨n, hn1⟩ : ∃ n, (wireS t x).2 = n := ⟨_, rfl⟩
    rw [hs1, hn1] at k3 k4
    have K1 := Aside0.mk k1
    have K2 := Aside0.mk k2
    have K3 := Aside0.mk k3
    have K4 := Aside0.mk k4
    clear hs hxk k1 k2 k3 k4 hr hs1 hn1
    cases r
    all_goals
      go_wp2_with fail
      (first
        | (go_region_held3 (fun w' => (∀ o, w'.cell? ⟨w.heap.size, o, none⟩ = (#[.bool v6, .int .u64 hi, .int .u64 lo, .string host, .string mail, .string text, .int .i64 a, .int .i64 b, .int .i64 c, .int .i64 d, .int .i64 e, .int .i64 f, .int .u64 bits] : Array Value)[o]?) ∧ Own w w' #[.bool v6, .int .u64 hi, .int .u64 lo, .string host, .string mail, .string text, .int .i64 a, .int .i64 b, .int .i64 c, .int .i64 d, .int .i64 e, .int .i64 f, .int .u64 bits] 26) ((first | assumption | exact Own.s HO.out.drew | exact Own.s (Own.call HO.out.drew hb) | exact Own.s (Own.call (And.right (by assumption)) hb))) (first
            | (go_at_call 13; (with_reducible refine (K1.out _ (shb sh (And.right ‹_ ∧ Own w _ _ _›).below)).mono ?_); rintro e_ wq ⟨rfl, hb⟩)
            | (go_at_call 15; (with_reducible refine (K2.out _).mono ?_); rintro e_ wq ⟨rfl, hb⟩)))
        | fail "held")
      all_goals
        have HP := Aside0.mk (And.right ‹(∀ o, World.cell? wq ⟨w.heap.size, o, none⟩ = _) ∧ Own w wq _ _›)
        clear HO hc hf
        have HO := HP
        clear HP hb
        obtain ⟨hc, hf⟩ := HO.out.cells
        go_wp2_with fail
        refine (K3.out _ (shb sh HO.out.below)).mono ?_
        rintro e_ w4 ⟨rfl, hb⟩
        replace HO := Aside0.mk (HO.out.call hb)
        clear hb hc hf
        obtain ⟨hc, hf⟩ := HO.out.cells
        go_wp2_with fail
        refine (K4.out _).mono ?_
        rintro e_ w5 ⟨rfl, hb⟩
        replace HO := Aside0.mk (HO.out.call hb)
        clear hb hc hf
        go_wp2
        go_ret
        exact ⟨ret_bool (by simp), HO.out.below⟩
end Go.Proofs.YtaehonmfoanloaaDoor.Hand
