/-
  The law RdataReads, walked: it returns true. Conditions: what its callees return (LSp).
-/
import Derived.Test.YtaehonmfoanloaaDoorRlAwake
import Derived.Test.YtaehonmfoanloaaDoorRfRead
import Derived.Deep.RegionHeld3
namespace Go.Proofs.YtaehonmfoanloaaDoor.Hand
open Go.RowKit Go.Proofs.YtaehonmfoanloaaDoorW.PrintWords Go.Proofs.YtaehonmfoanloaaDoor.RdW
set_option maxHeartbeats 40000000
set_option maxRecDepth 100000
set_option linter.all false
attribute [local go_sem high] eqD
theorem reads_sp (S : LSp) (t : Int) (s : ByteArray) (w : World) (sh : w.ShapedOpen Tryd.prog) :
    Calls Tryd.prog 6 #[.int .i64 t, .string s] w fun e w' => e = .returned (.bool true) ∧ Below w.heap.size w w' := by
  have hu := Tryd.underlying26
  by_cases hs : (2000 : Int) < (s.size : Int)
  · go_enter Tryd.func6, Tryd.ntmps6
    go_wp2_with fail
    refine (awake_sp S _ sh).mono ?_
    rintro e_ w1 ⟨rfl, hb⟩
    have HB := Aside0.mk hb
    clear hb
    go_wp2
    go_ret
    exact ⟨rfl, HB.out⟩
  have HS := Aside0.mk (show s.size ≤ 1000000 by omega)
  have k1 := fun W shW => S.read t s W HS.out shW
  have k2 := fun W => rread_sp t s HS.out W
  obtain ⟨x, hx⟩ : ∃ x, (readS t s.data.toList).1 = x := ⟨_, rfl⟩
  obtain ⟨n, hn⟩ : ∃ n, (readS t s.data.toList).2 = n := ⟨_, rfl⟩
  rw [hx, hn] at k1 k2
  obtain ⟨v6, hi, lo, host, mail, text, a, b, c, d, e, f, bits⟩ := x
  have K1 : Aside0 (∀ W : World, W.ShapedOpen Tryd.prog → Calls Tryd.prog 18 #[.int .i64 t, .string s] W fun ee w' => ee = .returned (.tuple #[.agg #[.bool v6, .int .u64 hi, .int .u64 lo, .string host, .string mail, .string text, .int .i64 a, .int .i64 b, .int .i64 c, .int .i64 d, .int .i64 e, .int .i64 f, .int .u64 bits], .int .i64 n]) ∧ Below W.heap.size W w') := ⟨k1⟩
  have K2 : Aside0 (∀ W : World, Calls Tryd.prog 19 #[.int .i64 t, .string s] W fun ee w' => ee = .returned (.tuple #[.agg #[.bool v6, .int .u64 hi, .int .u64 lo, .string host, .string mail, .string text, .int .i64 a, .int .i64 b, .int .i64 c, .int .i64 d, .int .i64 e, .int .i64 f, .int .u64 bits], .int .i64 n]) ∧ Below W.heap.size W w') := ⟨k2⟩
  clear k1 k2 hx hn
  have heq : D.eqb ⟨v6, hi, lo, host, mail, text, a, b, c, d, e, f, bits⟩ ⟨v6, hi, lo, host, mail, text, a, b, c, d, e, f, bits⟩ = true := (D.eqb_iff _ _).2 rfl
  go_enter Tryd.func6, Tryd.ntmps6
  go_wp2_with fail
  refine (awake_sp S _ sh).mono ?_
  rintro e_ w1 ⟨rfl, hb⟩
  have HB := Aside0.mk hb
  clear hb
  go_wp2_with fail
  refine (K1.out _ (shb sh HB.out)).mono ?_
  rintro e_ w2 ⟨rfl, hb⟩
  replace HB := Aside0.mk (HB.out.trans (hb.mono HB.out.size))
  clear hb
  have HO : Aside0 (Own w2 (w2.alloc (.cells #[.bool v6, .int .u64 hi, .int .u64 lo, .string host, .string mail, .string text, .int .i64 a, .int .i64 b, .int .i64 c, .int .i64 d, .int .i64 e, .int .i64 f, .int .u64 bits] 26)) #[.bool v6, .int .u64 hi, .int .u64 lo, .string host, .string mail, .string text, .int .i64 a, .int .i64 b, .int .i64 c, .int .i64 d, .int .i64 e, .int .i64 f, .int .u64 bits] 26) := ⟨Own.new _ _ _⟩
  go_wp2_with fail
  refine (K2.out _).mono ?_
  rintro e_ w3 ⟨rfl, hb⟩
  replace HO := Aside0.mk (HO.out.call hb)
  clear hb
  obtain ⟨hc, hf⟩ := HO.out.cells
  have hlt := HO.out.lt
  go_wp2
  go_ret
  exact ⟨ret_bool (by simp), al (HB.out.trans (HO.out.below.mono HB.out.size)) _⟩
end Go.Proofs.YtaehonmfoanloaaDoor.Hand
