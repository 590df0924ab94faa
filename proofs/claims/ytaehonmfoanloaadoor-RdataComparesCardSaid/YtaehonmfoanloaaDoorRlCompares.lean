/-
  The reference's Compare, and the law RdataCompares, walked: it returns true. Conditions: what its callees return (LSp), numbers of their types.
-/
import Derived.Test.YtaehonmfoanloaaDoorRlAwake
import Derived.Test.YtaehonmfoanloaaDoorRwAll
import Derived.Test.YtaehonmfoanloaaDoorRdCmp
import Derived.Deep.RegionHeld3
import Derived.Laws.Cover1
namespace Go.Proofs.YtaehonmfoanloaaDoor.Hand
open Go.RowKit Go.Proofs.YtaehonmfoanloaaDoorW.PrintWords Go.Proofs.YtaehonmfoanloaaDoor.RdW
set_option maxHeartbeats 40000000
set_option maxRecDepth 100000
set_option linter.all false
attribute [local go_sem high] eqD
theorem less_cb : ∀ a b : List UInt8, Op.bytesLess a b = decide (Lib.compareBytes a b = -1)
  | [], [] => by simp [Op.bytesLess, Lib.compareBytes]
  | [], _ :: _ => by simp [Op.bytesLess, Lib.compareBytes]
  | _ :: _, [] => by simp [Op.bytesLess, Lib.compareBytes]
  | a :: xs, b :: ys => by
    have ih := less_cb xs ys
    rw [Op.bytesLess, Lib.compareBytes, ih]
    by_cases h1 : a < b
    · simp [h1]
    · by_cases h2 : b < a
      · have : (a == b) = false := by rw [beq_eq_false_iff_ne]; intro e; rw [e] at h2; exact absurd h2 (UInt8.lt_irrefl b)
        simp [h1, h2, this]
      · have : a = b := by apply UInt8.toNat_inj.1; rw [UInt8.lt_iff_toNat_lt] at h1 h2; omega
        simp [this]
theorem less_f {s t : ByteArray} (h : Lib.compareBytes s.data.toList t.data.toList = -1) : Op.bytesLess s.toList t.toList = true := by
  rw [less_cb, ByteArray.toList_eq, ByteArray.toList_eq, h]; rfl
theorem less_n {s t : ByteArray} (h : Lib.compareBytes s.data.toList t.data.toList ≠ -1) : Op.bytesLess s.toList t.toList = false := by
  rw [less_cb, ByteArray.toList_eq, ByteArray.toList_eq]; simp [h]
theorem same_f {s t : ByteArray} (h : Lib.compareBytes s.data.toList t.data.toList = 0) : (s.toList == t.toList) = true := by
  rw [ByteArray.toList_eq, ByteArray.toList_eq, beq_iff_eq]; exact (cb_zero _ _).1 h
theorem same_n {s t : ByteArray} (h : Lib.compareBytes s.data.toList t.data.toList ≠ 0) : (s.toList == t.toList) = false := by
  rw [ByteArray.toList_eq, ByteArray.toList_eq, beq_eq_false_iff_ne]; exact fun e => h ((cb_zero _ _).2 e)
theorem rcompare_sp (t : Int) (x y : D) (hx : x.ok) (hy : y.ok) (w : World) :
    Calls Tryd.prog 12 #[.int .i64 t, x.v, y.v] w fun e w' => e = .returned (.int .i64 (cmpS t x y)) ∧ Below w.heap.size w w' := by
  have hu := Tryd.underlying26
  have HX := Aside0.mk hx
  have HY := Aside0.mk hy
  clear hx hy
  obtain ⟨a0, a1, a2, a3, a4, a5, a6, a7, a8, a9, a10, a11, a12, hxe⟩ : ∃ a0 a1 a2 a3 a4 a5 a6 a7 a8 a9 a10 a11 a12, x = ⟨a0, a1, a2, a3, a4, a5, a6, a7, a8, a9, a10, a11, a12⟩ := ⟨_, _, _, _, _, _, _, _, _, _, _, _, _, rfl⟩
  obtain ⟨b0, b1, b2, b3, b4, b5, b6, b7, b8, b9, b10, b11, b12, hye⟩ : ∃ b0 b1 b2 b3 b4 b5 b6 b7 b8 b9 b10 b11 b12, y = ⟨b0, b1, b2, b3, b4, b5, b6, b7, b8, b9, b10, b11, b12⟩ := ⟨_, _, _, _, _, _, _, _, _, _, _, _, _, rfl⟩
  have hxv : x.v = .agg #[.bool a0, .int .u64 a1, .int .u64 a2, .string a3, .string a4, .string a5, .int .i64 a6, .int .i64 a7, .int .i64 a8, .int .i64 a9, .int .i64 a10, .int .i64 a11, .int .u64 a12] := by rw [hxe]; rfl
  have hyv : y.v = .agg #[.bool b0, .int .u64 b1, .int .u64 b2, .string b3, .string b4, .string b5, .int .i64 b6, .int .i64 b7, .int .i64 b8, .int .i64 b9, .int .i64 b10, .int .i64 b11, .int .u64 b12] := by rw [hye]; rfl
  have HXV := Aside0.mk hxv
  have HYV := Aside0.mk hyv
  have HO : Aside0 (Own2 w ((w.alloc (.cells #[.bool a0, .int .u64 a1, .int .u64 a2, .string a3, .string a4, .string a5, .int .i64 a6, .int .i64 a7, .int .i64 a8, .int .i64 a9, .int .i64 a10, .int .i64 a11, .int .u64 a12] 26)).alloc (.cells #[.bool b0, .int .u64 b1, .int .u64 b2, .string b3, .string b4, .string b5, .int .i64 b6, .int .i64 b7, .int .i64 b8, .int .i64 b9, .int .i64 b10, .int .i64 b11, .int .u64 b12] 26)) #[.bool a0, .int .u64 a1, .int .u64 a2, .string a3, .string a4, .string a5, .int .i64 a6, .int .i64 a7, .int .i64 a8, .int .i64 a9, .int .i64 a10, .int .i64 a11, .int .u64 a12] 26 (w.heap.size + 1) #[.bool b0, .int .u64 b1, .int .u64 b2, .string b3, .string b4, .string b5, .int .i64 b6, .int .i64 b7, .int .i64 b8, .int .i64 b9, .int .i64 b10, .int .i64 b11, .int .u64 b12] 26) := by
    have h := Own2.new (Own.new w #[.bool a0, .int .u64 a1, .int .u64 a2, .string a3, .string a4, .string a5, .int .i64 a6, .int .i64 a7, .int .i64 a8, .int .i64 a9, .int .i64 a10, .int .i64 a11, .int .u64 a12] 26) #[.bool b0, .int .u64 b1, .int .u64 b2, .string b3, .string b4, .string b5, .int .i64 b6, .int .i64 b7, .int .i64 b8, .int .i64 b9, .int .i64 b10, .int .i64 b11, .int .u64 b12] 26
    rw [show (w.alloc (.cells #[.bool a0, .int .u64 a1, .int .u64 a2, .string a3, .string a4, .string a5, .int .i64 a6, .int .i64 a7, .int .i64 a8, .int .i64 a9, .int .i64 a10, .int .i64 a11, .int .u64 a12] 26)).heap.size = w.heap.size + 1 by show (w.heap.push _).size = _; simp] at h
    exact ⟨h⟩
  rw [hxv, hyv]
  obtain ⟨r, hr⟩ : ∃ r, cmpS t x y = r := ⟨_, rfl⟩
  rw [hr]
  have HR := Aside0.mk hr
  clear hxe hxv hye hyv hr
  go_enter Tryd.func12, Tryd.ntmps12
  go_wp2_with fail
  have hw := rwire_sp t x ((w.alloc (.cells #[.bool a0, .int .u64 a1, .int .u64 a2, .string a3, .string a4, .string a5, .int .i64 a6, .int .i64 a7, .int .i64 a8, .int .i64 a9, .int .i64 a10, .int .i64 a11, .int .u64 a12] 26)).alloc (.cells #[.bool b0, .int .u64 b1, .int .u64 b2, .string b3, .string b4, .string b5, .int .i64 b6, .int .i64 b7, .int .i64 b8, .int .i64 b9, .int .i64 b10, .int .i64 b11, .int .u64 b12] 26)) HX.out
  rw [HXV.out] at hw
  refine hw.mono ?_
  clear hw
  rintro e_ w1 ⟨rfl, hb⟩
  replace HO := Aside0.mk (HO.out.call hb)
  clear hb
  obtain ⟨hc, hf⟩ := HO.out.own.cells
  obtain ⟨hd, hg⟩ := cells_of_blk HO.out.blk
  go_wp2_with fail
  have hw := rwire_sp t y w1 HY.out
  rw [HYV.out] at hw
  refine hw.mono ?_
  clear hw
  rintro e_ w2 ⟨rfl, hb⟩
  replace HO := Aside0.mk (HO.out.call hb)
  clear hb hc hf hd hg
  cases vx : validS t x with
  | false =>
    cases vy : validS t y with
    | false =>
      rw [show wireS t x = ([], if knownB t then 5 else 4) by unfold wireS; rw [vx]; cases knownB t <;> rfl, show wireS t y = ([], if knownB t then 5 else 4) by unfold wireS; rw [vy]; cases knownB t <;> rfl]
      obtain rfl : r = 0 := by rw [← HR.out]; unfold cmpS; rw [vx, vy]; rfl
      cases knownB t
      all_goals
        go_wp2
        go_ret
        exact ⟨rfl, HO.out.own.below⟩
    | true =>
      rw [show wireS t x = ([], 5) by unfold wireS; rw [vx, (valid_used vy).1]; rfl, show wireS t y = (wireF (flds t) y, 0) by unfold wireS; rw [vy, (valid_used vy).1]; rfl]
      obtain rfl : r = 1 := by rw [← HR.out]; unfold cmpS; rw [vx, vy]; rfl
      go_wp2
      go_ret
      exact ⟨rfl, HO.out.own.below⟩
  | true =>
    cases vy : validS t y with
    | false =>
      rw [show wireS t x = (wireF (flds t) x, 0) by unfold wireS; rw [vx, (valid_used vx).1]; rfl, show wireS t y = ([], 5) by unfold wireS; rw [vy, (valid_used vx).1]; rfl]
      obtain rfl : r = -1 := by rw [← HR.out]; unfold cmpS; rw [vx, vy]; rfl
      go_wp2
      go_ret
      exact ⟨rfl, HO.out.own.below⟩
    | true =>
      rw [show wireS t x = (wireF (flds t) x, 0) by unfold wireS; rw [vx, (valid_used vx).1]; rfl, show wireS t y = (wireF (flds t) y, 0) by unfold wireS; rw [vy, (valid_used vy).1]; rfl]
      have HCM := Aside0.mk (show Lib.compareBytes (strOf (wireF (flds t) x)).data.toList (strOf (wireF (flds t) y)).data.toList = r by rw [← HR.out]; unfold cmpS; rw [vx, vy]; rfl)
      clear vx vy
      generalize strOf (wireF (flds t) x) = s1 at *
      generalize strOf (wireF (flds t) y) = s2 at *
      have hcm := HCM.out
      have hrg := cb_range s1.data.toList s2.data.toList
      rw [hcm] at hrg
      rcases hrg with rfl | rfl | rfl
      · have hl := less_f hcm
        clear hcm
        go_wp2
        go_ret
        exact ⟨rfl, HO.out.own.below⟩
      · have hl := less_n (s := s1) (t := s2) (by rw [hcm]; decide)
        have he := same_f hcm
        clear hcm
        go_wp2
        go_ret
        exact ⟨rfl, HO.out.own.below⟩
      · have hl := less_n (s := s1) (t := s2) (by rw [hcm]; decide)
        have he := same_n (s := s1) (t := s2) (by rw [hcm]; decide)
        clear hcm
        go_wp2
        go_ret
        exact ⟨rfl, HO.out.own.below⟩
theorem m_ok1 : ({ D.z with a := 10, host := ⟨#[122, 46]⟩ } : D).ok := ⟨by decide, by decide, by decide, by decide, by decide, by decide, by decide, by decide, by decide⟩
theorem m_ok2 : ({ D.z with a := 20, host := ⟨#[97, 46]⟩ } : D).ok := ⟨by decide, by decide, by decide, by decide, by decide, by decide, by decide, by decide, by decide⟩
theorem m_cmp1 : cmpS 15 { D.z with a := 10, host := ⟨#[122, 46]⟩ } { D.z with a := 20, host := ⟨#[97, 46]⟩ } = -1 := by decide +kernel
theorem Own2.drew {w W : World} {cs cs' : Array Value} {T T' : TypeId} {g : Nat} (h : Own2 w W cs T g cs' T') : Own2 w W.drew cs T g cs' T' := ⟨h.own.drew, h.blk⟩
theorem Own2.s {w W : World} {cs cs' : Array Value} {T T' : TypeId} {g : Nat} (h : Own2 w W cs T g cs' T') : ((∀ o, W.cell? ⟨w.heap.size, o, none⟩ = cs[o]?) ∧ (∀ o, W.cell? ⟨g, o, none⟩ = cs'[o]?)) ∧ Own2 w W cs T g cs' T' := ⟨⟨h.own.cells.1, (cells_of_blk h.blk).1⟩, h⟩
theorem compares_sp (S : LSp) (t : Int) (x y : D) (hx : x.wf) (hy : y.wf) (w : World) (sh : w.ShapedOpen Tryd.prog) :
    Calls Tryd.prog 3 #[.int .i64 t, x.v, y.v] w fun e w' => e = .returned (.bool true) ∧ Below w.heap.size w w' := by
  have hu := Tryd.underlying26
  have HX := Aside0.mk hx
  have HY := Aside0.mk hy
  clear hx hy
  obtain ⟨a0, a1, a2, a3, a4, a5, a6, a7, a8, a9, a10, a11, a12, hxe⟩ : ∃ a0 a1 a2 a3 a4 a5 a6 a7 a8 a9 a10 a11 a12, x = ⟨a0, a1, a2, a3, a4, a5, a6, a7, a8, a9, a10, a11, a12⟩ := ⟨_, _, _, _, _, _, _, _, _, _, _, _, _, rfl⟩
  obtain ⟨b0, b1, b2, b3, b4, b5, b6, b7, b8, b9, b10, b11, b12, hye⟩ : ∃ b0 b1 b2 b3 b4 b5 b6 b7 b8 b9 b10 b11 b12, y = ⟨b0, b1, b2, b3, b4, b5, b6, b7, b8, b9, b10, b11, b12⟩ := ⟨_, _, _, _, _, _, _, _, _, _, _, _, _, rfl⟩
  have hxv : x.v = .agg #[.bool a0, .int .u64 a1, .int .u64 a2, .string a3, .string a4, .string a5, .int .i64 a6, .int .i64 a7, .int .i64 a8, .int .i64 a9, .int .i64 a10, .int .i64 a11, .int .u64 a12] := by rw [hxe]; rfl
  have hyv : y.v = .agg #[.bool b0, .int .u64 b1, .int .u64 b2, .string b3, .string b4, .string b5, .int .i64 b6, .int .i64 b7, .int .i64 b8, .int .i64 b9, .int .i64 b10, .int .i64 b11, .int .u64 b12] := by rw [hye]; rfl
  have HXV := Aside0.mk hxv
  have HYV := Aside0.mk hyv
  have HO : Aside0 (Own2 w ((w.alloc (.cells #[.bool a0, .int .u64 a1, .int .u64 a2, .string a3, .string a4, .string a5, .int .i64 a6, .int .i64 a7, .int .i64 a8, .int .i64 a9, .int .i64 a10, .int .i64 a11, .int .u64 a12] 26)).alloc (.cells #[.bool b0, .int .u64 b1, .int .u64 b2, .string b3, .string b4, .string b5, .int .i64 b6, .int .i64 b7, .int .i64 b8, .int .i64 b9, .int .i64 b10, .int .i64 b11, .int .u64 b12] 26)) #[.bool a0, .int .u64 a1, .int .u64 a2, .string a3, .string a4, .string a5, .int .i64 a6, .int .i64 a7, .int .i64 a8, .int .i64 a9, .int .i64 a10, .int .i64 a11, .int .u64 a12] 26 (w.heap.size + 1) #[.bool b0, .int .u64 b1, .int .u64 b2, .string b3, .string b4, .string b5, .int .i64 b6, .int .i64 b7, .int .i64 b8, .int .i64 b9, .int .i64 b10, .int .i64 b11, .int .u64 b12] 26) := by
    have h := Own2.new (Own.new w #[.bool a0, .int .u64 a1, .int .u64 a2, .string a3, .string a4, .string a5, .int .i64 a6, .int .i64 a7, .int .i64 a8, .int .i64 a9, .int .i64 a10, .int .i64 a11, .int .u64 a12] 26) #[.bool b0, .int .u64 b1, .int .u64 b2, .string b3, .string b4, .string b5, .int .i64 b6, .int .i64 b7, .int .i64 b8, .int .i64 b9, .int .i64 b10, .int .i64 b11, .int .u64 b12] 26
    rw [show (w.alloc (.cells #[.bool a0, .int .u64 a1, .int .u64 a2, .string a3, .string a4, .string a5, .int .i64 a6, .int .i64 a7, .int .i64 a8, .int .i64 a9, .int .i64 a10, .int .i64 a11, .int .u64 a12] 26)).heap.size = w.heap.size + 1 by show (w.heap.push _).size = _; simp] at h
    exact ⟨h⟩
  rw [hxv, hyv]
  clear hxe hxv hye hyv
  go_enter Tryd.func3, Tryd.ntmps3
  go_wp2_with fail
  have hcm := compare_sp S 15 _ _ m_ok1 m_ok2 ((w.alloc (.cells #[.bool a0, .int .u64 a1, .int .u64 a2, .string a3, .string a4, .string a5, .int .i64 a6, .int .i64 a7, .int .i64 a8, .int .i64 a9, .int .i64 a10, .int .i64 a11, .int .u64 a12] 26)).alloc (.cells #[.bool b0, .int .u64 b1, .int .u64 b2, .string b3, .string b4, .string b5, .int .i64 b6, .int .i64 b7, .int .i64 b8, .int .i64 b9, .int .i64 b10, .int .i64 b11, .int .u64 b12] 26)) (shb sh HO.out.own.below)
  rw [m_cmp1] at hcm
  refine hcm.mono ?_
  clear hcm
  rintro e_ w1 ⟨rfl, hb⟩
  replace HO := Aside0.mk (HO.out.call hb)
  clear hb
  obtain ⟨hc, hf⟩ := HO.out.own.cells
  obtain ⟨hd, hg⟩ := cells_of_blk HO.out.blk
  go_wp2_with fail
  have hs := short_sp x (shortB x) rfl w1
  rw [HXV.out] at hs
  refine hs.mono ?_
  clear hs
  rintro e_ w2 ⟨rfl, hb⟩
  replace HO := Aside0.mk (HO.out.call hb)
  clear hb hc hf hd hg
  obtain ⟨hc, hf⟩ := HO.out.own.cells
  obtain ⟨hd, hg⟩ := cells_of_blk HO.out.blk
  cases hs : shortB x with
  | false =>
    go_wp2
    go_ret
    exact ⟨rfl, HO.out.own.below⟩
  | true =>
  have HXK := Aside0.mk (ok_of HX.out hs)
  clear hs
  go_wp2_with fail
  have hs := short_sp y (shortB y) rfl w2
  rw [HYV.out] at hs
  refine hs.mono ?_
  clear hs
  rintro e_ w3 ⟨rfl, hb⟩
  replace HO := Aside0.mk (HO.out.call hb)
  clear hb hc hf hd hg
  obtain ⟨hc, hf⟩ := HO.out.own.cells
  obtain ⟨hd, hg⟩ := cells_of_blk HO.out.blk
  cases hs : shortB y with
  | false =>
    go_wp2
    go_ret
    exact ⟨rfl, HO.out.own.below⟩
  | true =>
  have HYK := Aside0.mk (ok_of HY.out hs)
  clear hs
  have k1 := fun w sh => compare_sp S t x y HXK.out HYK.out w sh
  have k2 := fun w => rcompare_sp t x y HXK.out HYK.out w
  rw [HXV.out, HYV.out] at k1 k2
  generalize cmpS t x y = r at k1 k2
  have K1 := Aside0.mk k1
  have K2 := Aside0.mk k2
  clear k1 k2
  go_wp2_with fail
  (first
    | (go_region_held3 (fun w' => ((∀ o, w'.cell? ⟨w.heap.size, o, none⟩ = (#[.bool a0, .int .u64 a1, .int .u64 a2, .string a3, .string a4, .string a5, .int .i64 a6, .int .i64 a7, .int .i64 a8, .int .i64 a9, .int .i64 a10, .int .i64 a11, .int .u64 a12] : Array Value)[o]?) ∧ (∀ o, w'.cell? ⟨w.heap.size + 1, o, none⟩ = (#[.bool b0, .int .u64 b1, .int .u64 b2, .string b3, .string b4, .string b5, .int .i64 b6, .int .i64 b7, .int .i64 b8, .int .i64 b9, .int .i64 b10, .int .i64 b11, .int .u64 b12] : Array Value)[o]?)) ∧ Own2 w w' #[.bool a0, .int .u64 a1, .int .u64 a2, .string a3, .string a4, .string a5, .int .i64 a6, .int .i64 a7, .int .i64 a8, .int .i64 a9, .int .i64 a10, .int .i64 a11, .int .u64 a12] 26 (w.heap.size + 1) #[.bool b0, .int .u64 b1, .int .u64 b2, .string b3, .string b4, .string b5, .int .i64 b6, .int .i64 b7, .int .i64 b8, .int .i64 b9, .int .i64 b10, .int .i64 b11, .int .u64 b12] 26) ((first | assumption | exact Own2.s HO.out.drew | exact Own2.s HO.out | exact Own2.s (Own2.call (And.right (by assumption)) hb))) (first
        | (go_at_call 10; (with_reducible refine (K1.out _ (shb sh (And.right ‹_ ∧ Own2 w _ _ _ _ _ _›).own.below)).mono ?_); rintro e_ wq ⟨rfl, hb⟩)
        | (go_at_call 12; (with_reducible refine (K2.out _).mono ?_); rintro e_ wq ⟨rfl, hb⟩)))
    | fail "held")
  all_goals
    have HP := Aside0.mk (And.right ‹_ ∧ Own2 w wq _ _ _ _ _›)
    clear HO hc hf hd hg hb
    go_wp2
    go_ret
    exact ⟨ret_bool (by simp), HP.out.own.below⟩
end Go.Proofs.YtaehonmfoanloaaDoor.Hand
