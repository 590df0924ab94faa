/-
  The law RdataOrder, walked: it returns true. Conditions: what its callees return (LSp), numbers of their types.
-/
import Derived.Test.YtaehonmfoanloaaDoorRlAwake
import Derived.Test.YtaehonmfoanloaaDoorRdCmp
import Derived.Deep.RegionHeld3
import Derived.Deep.DeepCutAuto
import Derived.Deep.CutBlock
namespace Go.Proofs.YtaehonmfoanloaaDoor.Hand
open Go.RowKit Go.Proofs.YtaehonmfoanloaaDoorW.PrintWords Go.Proofs.YtaehonmfoanloaaDoor.RdW
set_option maxHeartbeats 40000000
set_option maxRecDepth 100000
set_option linter.all false
attribute [local go_sem high] eqD
theorem m20_ok : ({ D.z with a := 20, host := ⟨#[97, 46]⟩ } : D).ok := ⟨by decide, by decide, by decide, by decide, by decide, by decide, by decide, by decide, by decide⟩
theorem m10_ok : ({ D.z with a := 10, host := ⟨#[122, 46]⟩ } : D).ok := ⟨by decide, by decide, by decide, by decide, by decide, by decide, by decide, by decide, by decide⟩
theorem m_cmp : cmpS 15 { D.z with a := 20, host := ⟨#[97, 46]⟩ } { D.z with a := 10, host := ⟨#[122, 46]⟩ } = 1 := by decide +kernel
/-- Three blocks of data. -/
structure Own3 (w W : World) (g5 g6 g7 : Nat) (c5 c6 c7 : Array Value) : Prop where
  below : Below w.heap.size w W
  b5 : W.heap[g5]? = some (.cells c5 26 (0, 0))
  b6 : W.heap[g6]? = some (.cells c6 26 (0, 0))
  b7 : W.heap[g7]? = some (.cells c7 26 (0, 0))
theorem Own3.call {w W V : World} {g5 g6 g7 : Nat} {c5 c6 c7 : Array Value} (h : Own3 w W g5 g6 g7 c5 c6 c7) (hb : Below W.heap.size W V) : Own3 w V g5 g6 g7 c5 c6 c7 :=
  ⟨h.below.trans (hb.mono h.below.size), (hb.block _ (lt_of_blk h.b5)).trans h.b5, (hb.block _ (lt_of_blk h.b6)).trans h.b6, (hb.block _ (lt_of_blk h.b7)).trans h.b7⟩
theorem Own3.drew {w W : World} {g5 g6 g7 : Nat} {c5 c6 c7 : Array Value} (h : Own3 w W g5 g6 g7 c5 c6 c7) : Own3 w W.drew g5 g6 g7 c5 c6 c7 := ⟨dr h.below, h.b5, h.b6, h.b7⟩
theorem Own3.s {w W : World} {g5 g6 g7 : Nat} {c5 c6 c7 : Array Value} (h : Own3 w W g5 g6 g7 c5 c6 c7) : ((∀ o, W.cell? ⟨g5, o, none⟩ = c5[o]?) ∧ (∀ o, W.cell? ⟨g6, o, none⟩ = c6[o]?) ∧ (∀ o, W.cell? ⟨g7, o, none⟩ = c7[o]?)) ∧ Own3 w W g5 g6 g7 c5 c6 c7 :=
  ⟨⟨(cells_of_blk h.b5).1, (cells_of_blk h.b6).1, (cells_of_blk h.b7).1⟩, h⟩
theorem three (w : World) (a b c : Obj) : (((w.alloc a).alloc b).alloc c).heap[w.heap.size]? = some a ∧ (((w.alloc a).alloc b).alloc c).heap[w.heap.size + 1]? = some b ∧ (((w.alloc a).alloc b).alloc c).heap[w.heap.size + 1 + 1]? = some c := by
  refine ⟨?_, ?_, ?_⟩
  · show (((w.heap.push a).push b).push c)[w.heap.size]? = _
    rw [Array.getElem?_push, Array.getElem?_push, Array.getElem?_push]
    simp
    omega
  · show (((w.heap.push a).push b).push c)[w.heap.size + 1]? = _
    rw [Array.getElem?_push, Array.getElem?_push]
    simp
  · show (((w.heap.push a).push b).push c)[w.heap.size + 1 + 1]? = _
    rw [Array.getElem?_push]
    simp
theorem order_sp (S : LSp) (t : Int) (x y z : D) (hx : x.wf) (hy : y.wf) (hz : z.wf) (w : World) (sh : w.ShapedOpen Tryd.prog) :
    Calls Tryd.prog 4 #[.int .i64 t, .agg #[.bool x.v6, .int .u64 x.hi, .int .u64 x.lo, .string x.host, .string x.mail, .string x.text, .int .i64 x.a, .int .i64 x.b, .int .i64 x.c, .int .i64 x.d, .int .i64 x.e, .int .i64 x.f, .int .u64 x.bits, .bool y.v6, .int .u64 y.hi, .int .u64 y.lo, .string y.host, .string y.mail, .string y.text, .int .i64 y.a, .int .i64 y.b, .int .i64 y.c, .int .i64 y.d, .int .i64 y.e, .int .i64 y.f, .int .u64 y.bits, .bool z.v6, .int .u64 z.hi, .int .u64 z.lo, .string z.host, .string z.mail, .string z.text, .int .i64 z.a, .int .i64 z.b, .int .i64 z.c, .int .i64 z.d, .int .i64 z.e, .int .i64 z.f, .int .u64 z.bits]] w fun e w' => e = .returned (.bool true) ∧ Below w.heap.size w w' := by
  have hu := Tryd.underlying26
  have hu3 := Tryd.underlying30
  obtain ⟨a0, a1, a2, a3, a4, a5, a6, a7, a8, a9, a10, a11, a12, hxe⟩ : ∃ a0 a1 a2 a3 a4 a5 a6 a7 a8 a9 a10 a11 a12, x = ⟨a0, a1, a2, a3, a4, a5, a6, a7, a8, a9, a10, a11, a12⟩ := ⟨_, _, _, _, _, _, _, _, _, _, _, _, _, rfl⟩
  obtain ⟨b0, b1, b2, b3, b4, b5, b6, b7, b8, b9, b10, b11, b12, hye⟩ : ∃ b0 b1 b2 b3 b4 b5 b6 b7 b8 b9 b10 b11 b12, y = ⟨b0, b1, b2, b3, b4, b5, b6, b7, b8, b9, b10, b11, b12⟩ := ⟨_, _, _, _, _, _, _, _, _, _, _, _, _, rfl⟩
  obtain ⟨c0, c1, c2, c3, c4, c5, c6, c7, c8, c9, c10, c11, c12, hze⟩ : ∃ c0 c1 c2 c3 c4 c5 c6 c7 c8 c9 c10 c11 c12, z = ⟨c0, c1, c2, c3, c4, c5, c6, c7, c8, c9, c10, c11, c12⟩ := ⟨_, _, _, _, _, _, _, _, _, _, _, _, _, rfl⟩
  have hxv : x.v = .agg #[.bool a0, .int .u64 a1, .int .u64 a2, .string a3, .string a4, .string a5, .int .i64 a6, .int .i64 a7, .int .i64 a8, .int .i64 a9, .int .i64 a10, .int .i64 a11, .int .u64 a12] := by rw [hxe]; rfl
  have hyv : y.v = .agg #[.bool b0, .int .u64 b1, .int .u64 b2, .string b3, .string b4, .string b5, .int .i64 b6, .int .i64 b7, .int .i64 b8, .int .i64 b9, .int .i64 b10, .int .i64 b11, .int .u64 b12] := by rw [hye]; rfl
  have hzv : z.v = .agg #[.bool c0, .int .u64 c1, .int .u64 c2, .string c3, .string c4, .string c5, .int .i64 c6, .int .i64 c7, .int .i64 c8, .int .i64 c9, .int .i64 c10, .int .i64 c11, .int .u64 c12] := by rw [hze]; rfl
  have HXV := Aside0.mk hxv
  have HYV := Aside0.mk hyv
  have HZV := Aside0.mk hzv
  have HXE := Aside0.mk hxe
  have HYE := Aside0.mk hye
  have HX := Aside0.mk hx
  have HY := Aside0.mk hy
  have HZ := Aside0.mk hz
  have HO : Aside0 (Own w (w.alloc (.cells #[.bool a0, .int .u64 a1, .int .u64 a2, .string a3, .string a4, .string a5, .int .i64 a6, .int .i64 a7, .int .i64 a8, .int .i64 a9, .int .i64 a10, .int .i64 a11, .int .u64 a12, .bool b0, .int .u64 b1, .int .u64 b2, .string b3, .string b4, .string b5, .int .i64 b6, .int .i64 b7, .int .i64 b8, .int .i64 b9, .int .i64 b10, .int .i64 b11, .int .u64 b12, .bool c0, .int .u64 c1, .int .u64 c2, .string c3, .string c4, .string c5, .int .i64 c6, .int .i64 c7, .int .i64 c8, .int .i64 c9, .int .i64 c10, .int .i64 c11, .int .u64 c12] 30)) #[.bool a0, .int .u64 a1, .int .u64 a2, .string a3, .string a4, .string a5, .int .i64 a6, .int .i64 a7, .int .i64 a8, .int .i64 a9, .int .i64 a10, .int .i64 a11, .int .u64 a12, .bool b0, .int .u64 b1, .int .u64 b2, .string b3, .string b4, .string b5, .int .i64 b6, .int .i64 b7, .int .i64 b8, .int .i64 b9, .int .i64 b10, .int .i64 b11, .int .u64 b12, .bool c0, .int .u64 c1, .int .u64 c2, .string c3, .string c4, .string c5, .int .i64 c6, .int .i64 c7, .int .i64 c8, .int .i64 c9, .int .i64 c10, .int .i64 c11, .int .u64 c12] 30) := ⟨Own.new _ _ _⟩
  rw [show (#[.bool x.v6, .int .u64 x.hi, .int .u64 x.lo, .string x.host, .string x.mail, .string x.text, .int .i64 x.a, .int .i64 x.b, .int .i64 x.c, .int .i64 x.d, .int .i64 x.e, .int .i64 x.f, .int .u64 x.bits, .bool y.v6, .int .u64 y.hi, .int .u64 y.lo, .string y.host, .string y.mail, .string y.text, .int .i64 y.a, .int .i64 y.b, .int .i64 y.c, .int .i64 y.d, .int .i64 y.e, .int .i64 y.f, .int .u64 y.bits, .bool z.v6, .int .u64 z.hi, .int .u64 z.lo, .string z.host, .string z.mail, .string z.text, .int .i64 z.a, .int .i64 z.b, .int .i64 z.c, .int .i64 z.d, .int .i64 z.e, .int .i64 z.f, .int .u64 z.bits] : Array Value) = #[.bool a0, .int .u64 a1, .int .u64 a2, .string a3, .string a4, .string a5, .int .i64 a6, .int .i64 a7, .int .i64 a8, .int .i64 a9, .int .i64 a10, .int .i64 a11, .int .u64 a12, .bool b0, .int .u64 b1, .int .u64 b2, .string b3, .string b4, .string b5, .int .i64 b6, .int .i64 b7, .int .i64 b8, .int .i64 b9, .int .i64 b10, .int .i64 b11, .int .u64 b12, .bool c0, .int .u64 c1, .int .u64 c2, .string c3, .string c4, .string c5, .int .i64 c6, .int .i64 c7, .int .i64 c8, .int .i64 c9, .int .i64 c10, .int .i64 c11, .int .u64 c12] by rw [hxe, hye, hze]]
  clear hxe hye hze hxv hyv hzv hx hy hz
  go_enter Tryd.func4, Tryd.ntmps4
  go_wp2_with fail
  have hcm := compare_sp S 15 _ _ m20_ok m10_ok (w.alloc (.cells #[.bool a0, .int .u64 a1, .int .u64 a2, .string a3, .string a4, .string a5, .int .i64 a6, .int .i64 a7, .int .i64 a8, .int .i64 a9, .int .i64 a10, .int .i64 a11, .int .u64 a12, .bool b0, .int .u64 b1, .int .u64 b2, .string b3, .string b4, .string b5, .int .i64 b6, .int .i64 b7, .int .i64 b8, .int .i64 b9, .int .i64 b10, .int .i64 b11, .int .u64 b12, .bool c0, .int .u64 c1, .int .u64 c2, .string c3, .string c4, .string c5, .int .i64 c6, .int .i64 c7, .int .i64 c8, .int .i64 c9, .int .i64 c10, .int .i64 c11, .int .u64 c12] 30)) (shb sh HO.out.below)
  rw [m_cmp] at hcm
  refine hcm.mono ?_
  clear hcm
  rintro e_ w1 ⟨rfl, hb⟩
  replace HO := Aside0.mk (HO.out.call hb)
  clear hb
  obtain ⟨hc, hf⟩ := HO.out.cells
  go_upto_region 3 with (fail)
  go_cut [5, 6, 7] (fun v5 v6 v7 wc => ∃ g5 g6 g7 : Nat, v5 = .pointer (some ⟨g5, 0, none⟩) ∧ v6 = .pointer (some ⟨g6, 0, none⟩) ∧ v7 = .pointer (some ⟨g7, 0, none⟩) ∧ Aside0 (Own3 w wc g5 g6 g7 #[.bool a0, .int .u64 a1, .int .u64 a2, .string a3, .string a4, .string a5, .int .i64 a6, .int .i64 a7, .int .i64 a8, .int .i64 a9, .int .i64 a10, .int .i64 a11, .int .u64 a12] #[.bool b0, .int .u64 b1, .int .u64 b2, .string b3, .string b4, .string b5, .int .i64 b6, .int .i64 b7, .int .i64 b8, .int .i64 b9, .int .i64 b10, .int .i64 b11, .int .u64 b12] #[.bool c0, .int .u64 c1, .int .u64 c2, .string c3, .string c4, .string c5, .int .i64 c6, .int .i64 c7, .int .i64 c8, .int .i64 c9, .int .i64 c10, .int .i64 c11, .int .u64 c12]))
  case first =>
    as_aux_lemma =>
      (go_region_held3 (fun w' => (∀ o, w'.cell? ⟨w.heap.size, o, none⟩ = (#[.bool a0, .int .u64 a1, .int .u64 a2, .string a3, .string a4, .string a5, .int .i64 a6, .int .i64 a7, .int .i64 a8, .int .i64 a9, .int .i64 a10, .int .i64 a11, .int .u64 a12, .bool b0, .int .u64 b1, .int .u64 b2, .string b3, .string b4, .string b5, .int .i64 b6, .int .i64 b7, .int .i64 b8, .int .i64 b9, .int .i64 b10, .int .i64 b11, .int .u64 b12, .bool c0, .int .u64 c1, .int .u64 c2, .string c3, .string c4, .string c5, .int .i64 c6, .int .i64 c7, .int .i64 c8, .int .i64 c9, .int .i64 c10, .int .i64 c11, .int .u64 c12] : Array Value)[o]?) ∧ Own w w' #[.bool a0, .int .u64 a1, .int .u64 a2, .string a3, .string a4, .string a5, .int .i64 a6, .int .i64 a7, .int .i64 a8, .int .i64 a9, .int .i64 a10, .int .i64 a11, .int .u64 a12, .bool b0, .int .u64 b1, .int .u64 b2, .string b3, .string b4, .string b5, .int .i64 b6, .int .i64 b7, .int .i64 b8, .int .i64 b9, .int .i64 b10, .int .i64 b11, .int .u64 b12, .bool c0, .int .u64 c1, .int .u64 c2, .string c3, .string c4, .string c5, .int .i64 c6, .int .i64 c7, .int .i64 c8, .int .i64 c9, .int .i64 c10, .int .i64 c11, .int .u64 c12] 30) ((refine Own.s ?_; (repeat (first | (with_reducible refine Own.drew ?_) | (with_reducible refine Own.call ?_ (al (Below.refl _ _) _)))); exact HO.out)) (fail))
      all_goals
        go_wp2_with fail
        go_meet
        case rel =>
          refine ⟨_, _, _, rfl, rfl, rfl, ⟨⟨?_, ?_, ?_, ?_⟩⟩⟩
          · (repeat (first | (with_reducible refine dr ?_) | (with_reducible refine al ?_ _)))
            exact HO.out.below
          · first | exact (three _ _ _ _).1 | exact (three _ _ _ _).2.1 | exact (three _ _ _ _).2.2
          · first | exact (three _ _ _ _).1 | exact (three _ _ _ _).2.1 | exact (three _ _ _ _).2.2
          · first | exact (three _ _ _ _).1 | exact (three _ _ _ _).2.1 | exact (three _ _ _ _).2.2
  case rest =>
    obtain ⟨g5, g6, g7, rfl, rfl, rfl, H3⟩ := hcut
    clear HO hc hf
    obtain ⟨hc5, hf5⟩ := cells_of_blk H3.out.b5
    obtain ⟨hc6, hf6⟩ := cells_of_blk H3.out.b6
    obtain ⟨hc7, hf7⟩ := cells_of_blk H3.out.b7
    go_wp2_with fail
    have hs := short_sp x (shortB x) rfl wc
    rw [HXV.out] at hs
    refine hs.mono ?_
    clear hs
    rintro e_ w2 ⟨rfl, hb⟩
    replace H3 := Aside0.mk (H3.out.call hb)
    clear hb hc5 hf5 hc6 hf6 hc7 hf7
    obtain ⟨hc5, hf5⟩ := cells_of_blk H3.out.b5
    obtain ⟨hc6, hf6⟩ := cells_of_blk H3.out.b6
    obtain ⟨hc7, hf7⟩ := cells_of_blk H3.out.b7
    cases hs : shortB x with
    | false =>
      go_wp2
      go_ret
      exact ⟨rfl, H3.out.below⟩
    | true =>
    have HXK := Aside0.mk (ok_of HX.out hs)
    clear hs
    go_wp2_with fail
    have hs := short_sp y (shortB y) rfl w2
    rw [HYV.out] at hs
    refine hs.mono ?_
    clear hs
    rintro e_ w3 ⟨rfl, hb⟩
    replace H3 := Aside0.mk (H3.out.call hb)
    clear hb hc5 hf5 hc6 hf6 hc7 hf7
    obtain ⟨hc5, hf5⟩ := cells_of_blk H3.out.b5
    obtain ⟨hc6, hf6⟩ := cells_of_blk H3.out.b6
    obtain ⟨hc7, hf7⟩ := cells_of_blk H3.out.b7
    cases hs : shortB y with
    | false =>
      go_wp2
      go_ret
      exact ⟨rfl, H3.out.below⟩
    | true =>
    have HYK := Aside0.mk (ok_of HY.out hs)
    clear hs
    go_wp2_with fail
    have hs := short_sp z (shortB z) rfl w3
    rw [HZV.out] at hs
    refine hs.mono ?_
    clear hs
    rintro e_ w4 ⟨rfl, hb⟩
    replace H3 := Aside0.mk (H3.out.call hb)
    clear hb hc5 hf5 hc6 hf6 hc7 hf7
    obtain ⟨hc5, hf5⟩ := cells_of_blk H3.out.b5
    obtain ⟨hc6, hf6⟩ := cells_of_blk H3.out.b6
    obtain ⟨hc7, hf7⟩ := cells_of_blk H3.out.b7
    cases hs : shortB z with
    | false =>
      go_wp2
      go_ret
      exact ⟨rfl, H3.out.below⟩
    | true =>
    have HZK := Aside0.mk (ok_of HZ.out hs)
    clear hs
    go_upto_region 6 with (fail)
    go_cut [8, 9, 10] (fun v8 v9 v10 wd => v8 = .int .i64 (cmpS t x y) ∧ v9 = .int .i64 (cmpS t y z) ∧ v10 = .int .i64 (cmpS t x z) ∧ Aside0 (Own3 w wd g5 g6 g7 #[.bool a0, .int .u64 a1, .int .u64 a2, .string a3, .string a4, .string a5, .int .i64 a6, .int .i64 a7, .int .i64 a8, .int .i64 a9, .int .i64 a10, .int .i64 a11, .int .u64 a12] #[.bool b0, .int .u64 b1, .int .u64 b2, .string b3, .string b4, .string b5, .int .i64 b6, .int .i64 b7, .int .i64 b8, .int .i64 b9, .int .i64 b10, .int .i64 b11, .int .u64 b12] #[.bool c0, .int .u64 c1, .int .u64 c2, .string c3, .string c4, .string c5, .int .i64 c6, .int .i64 c7, .int .i64 c8, .int .i64 c9, .int .i64 c10, .int .i64 c11, .int .u64 c12]))
    case first =>
      as_aux_lemma =>
        have k1 := compare_sp S t x y HXK.out HYK.out
        have k2 := compare_sp S t y z HYK.out HZK.out
        have k3 := compare_sp S t x z HXK.out HZK.out
        rw [HXV.out, HYV.out] at k1
        rw [HYV.out, HZV.out] at k2
        rw [HXV.out, HZV.out] at k3
        have K1 := Aside0.mk k1
        have K2 := Aside0.mk k2
        have K3 := Aside0.mk k3
        clear k1 k2 k3
        go_region_held3 (fun w' => ((∀ o, w'.cell? ⟨g5, o, none⟩ = (#[.bool a0, .int .u64 a1, .int .u64 a2, .string a3, .string a4, .string a5, .int .i64 a6, .int .i64 a7, .int .i64 a8, .int .i64 a9, .int .i64 a10, .int .i64 a11, .int .u64 a12] : Array Value)[o]?) ∧ (∀ o, w'.cell? ⟨g6, o, none⟩ = (#[.bool b0, .int .u64 b1, .int .u64 b2, .string b3, .string b4, .string b5, .int .i64 b6, .int .i64 b7, .int .i64 b8, .int .i64 b9, .int .i64 b10, .int .i64 b11, .int .u64 b12] : Array Value)[o]?) ∧ (∀ o, w'.cell? ⟨g7, o, none⟩ = (#[.bool c0, .int .u64 c1, .int .u64 c2, .string c3, .string c4, .string c5, .int .i64 c6, .int .i64 c7, .int .i64 c8, .int .i64 c9, .int .i64 c10, .int .i64 c11, .int .u64 c12] : Array Value)[o]?)) ∧ Own3 w w' g5 g6 g7 #[.bool a0, .int .u64 a1, .int .u64 a2, .string a3, .string a4, .string a5, .int .i64 a6, .int .i64 a7, .int .i64 a8, .int .i64 a9, .int .i64 a10, .int .i64 a11, .int .u64 a12] #[.bool b0, .int .u64 b1, .int .u64 b2, .string b3, .string b4, .string b5, .int .i64 b6, .int .i64 b7, .int .i64 b8, .int .i64 b9, .int .i64 b10, .int .i64 b11, .int .u64 b12] #[.bool c0, .int .u64 c1, .int .u64 c2, .string c3, .string c4, .string c5, .int .i64 c6, .int .i64 c7, .int .i64 c8, .int .i64 c9, .int .i64 c10, .int .i64 c11, .int .u64 c12]) (first | exact Own3.s H3.out.drew | exact Own3.s H3.out | exact Own3.s (Own3.call (And.right (by assumption)) hb)) (first
          | (go_at_call 10; (first | (with_reducible refine (K1.out _ (shb sh (And.right ‹_ ∧ Own3 w _ g5 g6 g7 _ _ _›).below)).mono ?_) | (with_reducible refine (K2.out _ (shb sh (And.right ‹_ ∧ Own3 w _ g5 g6 g7 _ _ _›).below)).mono ?_) | (with_reducible refine (K3.out _ (shb sh (And.right ‹_ ∧ Own3 w _ g5 g6 g7 _ _ _›).below)).mono ?_)); rintro e_ wq ⟨rfl, hb⟩))
        all_goals
          go_wp2_with fail
          go_meet
          case rel => exact ⟨rfl, rfl, rfl, ⟨And.right (by assumption)⟩⟩
    case rest =>
      obtain ⟨rfl, rfl, rfl, H3⟩ := hcut
      have k4 := compare_sp S t y x HYK.out HXK.out wc (shb sh H3.out.below)
      rw [HYV.out, HXV.out, cmp_neg t x y] at k4
      have HRG := Aside0.mk (cmp_range t x y)
      have HTR := Aside0.mk (cmp_trans t x y z)
      have HZR := Aside0.mk (cmp_zero t x y HXK.out HYK.out)
      have HFT := Aside0.mk (show validS t x = false → validS t y = true → cmpS t x y = 1 by intro h1 h2; unfold cmpS; rw [h1, h2]; rfl)
      have HTF := Aside0.mk (show validS t x = true → validS t y = false → cmpS t x y = -1 by intro h1 h2; unfold cmpS; rw [h1, h2]; rfl)
      have HFF := Aside0.mk (show validS t x = false → validS t y = false → cmpS t x y = 0 by intro h1 h2; unfold cmpS; rw [h1, h2]; rfl)
      generalize cmpS t x y = r1 at *
      generalize cmpS t y z = r2 at *
      generalize cmpS t x z = r3 at *
      have hr := HRG.out
      have q1 : ¬ r1 < -1 := by omega
      have q2 : ¬ r1 > 1 := by omega
      have q3 : wrap64 (-r1) = -r1 := by unfold wrap64; omega
      have q4 : IntKind.i64.wrap (-r1) = -r1 := (IntKind.wrap_i64 _).trans (by omega)
      clear hr
      obtain ⟨hc5, hf5⟩ := cells_of_blk H3.out.b5
      obtain ⟨hc6, hf6⟩ := cells_of_blk H3.out.b6
      obtain ⟨hc7, hf7⟩ := cells_of_blk H3.out.b7
      go_wp2_with fail
      refine k4.mono ?_
      clear k4
      rintro e_ w6 ⟨rfl, hb⟩
      replace H3 := Aside0.mk (H3.out.call hb)
      clear hb hc5 hf5 hc6 hf6 hc7 hf7
      go_upto_region 9 with (fail)
      go_cut [11, 12] (fun v11 v12 wf => v11 = .bool (validS t x) ∧ v12 = .bool (validS t y) ∧ Aside0 (Own3 w wf g5 g6 g7 #[.bool a0, .int .u64 a1, .int .u64 a2, .string a3, .string a4, .string a5, .int .i64 a6, .int .i64 a7, .int .i64 a8, .int .i64 a9, .int .i64 a10, .int .i64 a11, .int .u64 a12] #[.bool b0, .int .u64 b1, .int .u64 b2, .string b3, .string b4, .string b5, .int .i64 b6, .int .i64 b7, .int .i64 b8, .int .i64 b9, .int .i64 b10, .int .i64 b11, .int .u64 b12] #[.bool c0, .int .u64 c1, .int .u64 c2, .string c3, .string c4, .string c5, .int .i64 c6, .int .i64 c7, .int .i64 c8, .int .i64 c9, .int .i64 c10, .int .i64 c11, .int .u64 c12]))
      case first =>
        as_aux_lemma =>
          have k1 := fun W s => S.valid t x W HXK.out s
          have k2 := fun W s => S.valid t y W HYK.out s
          rw [HXV.out] at k1
          rw [HYV.out] at k2
          have K1 := Aside0.mk k1
          have K2 := Aside0.mk k2
          clear k1 k2
          go_region_held3 (fun w' => ((∀ o, w'.cell? ⟨g5, o, none⟩ = (#[.bool a0, .int .u64 a1, .int .u64 a2, .string a3, .string a4, .string a5, .int .i64 a6, .int .i64 a7, .int .i64 a8, .int .i64 a9, .int .i64 a10, .int .i64 a11, .int .u64 a12] : Array Value)[o]?) ∧ (∀ o, w'.cell? ⟨g6, o, none⟩ = (#[.bool b0, .int .u64 b1, .int .u64 b2, .string b3, .string b4, .string b5, .int .i64 b6, .int .i64 b7, .int .i64 b8, .int .i64 b9, .int .i64 b10, .int .i64 b11, .int .u64 b12] : Array Value)[o]?) ∧ (∀ o, w'.cell? ⟨g7, o, none⟩ = (#[.bool c0, .int .u64 c1, .int .u64 c2, .string c3, .string c4, .string c5, .int .i64 c6, .int .i64 c7, .int .i64 c8, .int .i64 c9, .int .i64 c10, .int .i64 c11, .int .u64 c12] : Array Value)[o]?)) ∧ Own3 w w' g5 g6 g7 #[.bool a0, .int .u64 a1, .int .u64 a2, .string a3, .string a4, .string a5, .int .i64 a6, .int .i64 a7, .int .i64 a8, .int .i64 a9, .int .i64 a10, .int .i64 a11, .int .u64 a12] #[.bool b0, .int .u64 b1, .int .u64 b2, .string b3, .string b4, .string b5, .int .i64 b6, .int .i64 b7, .int .i64 b8, .int .i64 b9, .int .i64 b10, .int .i64 b11, .int .u64 b12] #[.bool c0, .int .u64 c1, .int .u64 c2, .string c3, .string c4, .string c5, .int .i64 c6, .int .i64 c7, .int .i64 c8, .int .i64 c9, .int .i64 c10, .int .i64 c11, .int .u64 c12]) (first | exact Own3.s H3.out.drew | exact Own3.s H3.out | exact Own3.s (Own3.call (And.right (by assumption)) hb)) (first
            | (go_at_call 13; (first | (with_reducible refine (K1.out _ (shb sh (And.right ‹_ ∧ Own3 w _ g5 g6 g7 _ _ _›).below)).mono ?_) | (with_reducible refine (K2.out _ (shb sh (And.right ‹_ ∧ Own3 w _ g5 g6 g7 _ _ _›).below)).mono ?_)); rintro e_ wq ⟨rfl, hb⟩))
          all_goals
            go_wp2_with fail
            go_meet
            case rel => exact ⟨rfl, rfl, ⟨And.right (by assumption)⟩⟩
      case rest =>
        obtain ⟨rfl, rfl, H3⟩ := hcut
        have hr := HRG.out
        clear q1 q2 q3 q4
        cases vx : validS t x with
        | false =>
          cases vy : validS t y with
          | false =>
            obtain rfl : r1 = 0 := HFF.out vx vy
            clear hr vx vy
            by_cases p2 : r2 > 0
            · go_wp2
              go_ret
              exact ⟨rfl, H3.out.below⟩
            · have p3 : r3 ≤ 0 := HTR.out (by decide) (by omega)
              go_wp2
              go_ret
              exact ⟨rfl, H3.out.below⟩
          | true =>
            obtain rfl : r1 = 1 := HFT.out vx vy
            clear hr vx vy
            go_wp2
            go_ret
            exact ⟨rfl, H3.out.below⟩
        | true =>
          cases vy : validS t y with
          | false =>
            obtain rfl : r1 = -1 := HTF.out vx vy
            clear hr vx vy
            by_cases p2 : r2 > 0
            · go_wp2
              go_ret
              exact ⟨rfl, H3.out.below⟩
            · have p3 : r3 ≤ 0 := HTR.out (by decide) (by omega)
              go_wp2
              go_ret
              exact ⟨rfl, H3.out.below⟩
          | true =>
            have hz := HZR.out vx vy
            clear vx vy
            obtain ⟨hc5, hf5⟩ := cells_of_blk H3.out.b5
            obtain ⟨hc6, hf6⟩ := cells_of_blk H3.out.b6
            rcases hr with rfl | rfl | rfl
            · have he : D.eqb ⟨a0, a1, a2, a3, a4, a5, a6, a7, a8, a9, a10, a11, a12⟩ ⟨b0, b1, b2, b3, b4, b5, b6, b7, b8, b9, b10, b11, b12⟩ = false := by
                rw [← HXE.out, ← HYE.out, ← Bool.not_eq_true, D.eqb_iff]; intro e; exact absurd (hz.2 e) (by decide)
              clear hz
              by_cases p2 : r2 > 0
              · go_wp2
                go_ret
                exact ⟨rfl, H3.out.below⟩
              · have p3 : r3 ≤ 0 := HTR.out (by decide) (by omega)
                go_wp2
                go_ret
                exact ⟨rfl, H3.out.below⟩
            · have he : D.eqb ⟨a0, a1, a2, a3, a4, a5, a6, a7, a8, a9, a10, a11, a12⟩ ⟨b0, b1, b2, b3, b4, b5, b6, b7, b8, b9, b10, b11, b12⟩ = true := by
                rw [← HXE.out, ← HYE.out, D.eqb_iff]; exact hz.1 rfl
              clear hz
              by_cases p2 : r2 > 0
              · go_wp2
                go_ret
                exact ⟨rfl, H3.out.below⟩
              · have p3 : r3 ≤ 0 := HTR.out (by decide) (by omega)
                go_wp2
                go_ret
                exact ⟨rfl, H3.out.below⟩
            · have he : D.eqb ⟨a0, a1, a2, a3, a4, a5, a6, a7, a8, a9, a10, a11, a12⟩ ⟨b0, b1, b2, b3, b4, b5, b6, b7, b8, b9, b10, b11, b12⟩ = false := by
                rw [← HXE.out, ← HYE.out, ← Bool.not_eq_true, D.eqb_iff]; intro e; exact absurd (hz.2 e) (by decide)
              clear hz
              go_wp2
              go_ret
              exact ⟨rfl, H3.out.below⟩
end Go.Proofs.YtaehonmfoanloaaDoor.Hand
