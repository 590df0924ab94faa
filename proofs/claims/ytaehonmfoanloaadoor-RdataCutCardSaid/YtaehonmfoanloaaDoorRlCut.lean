/-
  The law RdataCut, walked: it returns true. Conditions: what its callees return (LSp), numbers of their types.
-/
import Derived.Test.YtaehonmfoanloaaDoorRlAwake
import Derived.Test.YtaehonmfoanloaaDoorRdLaw
namespace Go.Proofs.YtaehonmfoanloaaDoor.Hand
open Go.RowKit Go.Proofs.YtaehonmfoanloaaDoorW.PrintWords Go.Proofs.YtaehonmfoanloaaDoor.RdW
set_option maxHeartbeats 40000000
set_option maxRecDepth 100000
set_option linter.all false
attribute [local go_sem high] eqD
theorem bset {w W : World} (h : Below w.heap.size w W) {b : Nat} (hb : w.heap.size ≤ b) (o : Nat) (u : Value) : Below w.heap.size w (W.setCell ⟨b, o, none⟩ u) :=
  ⟨h.os, h.tape, h.output, by have := h.size; simpa [World.setCell] using this, fun k hk => (Below.heap_setCell _ _ _ _ (by show k ≠ b; omega)).trans (h.block k hk)⟩
theorem cut_sp (S : LSp) (t n : Int) (x : D) (hx : x.wf) (w : World) (sh : w.ShapedOpen Tryd.prog) :
    Calls Tryd.prog 9 #[.int .i64 t, x.v, .int .i64 n] w fun e w' => e = .returned (.bool true) ∧ Below w.heap.size w w' := by
  have hu := Tryd.underlying26
  have hbl : Tryd.prog.built 26 [] = some #[(.bool false), (.int .u64 0), (.int .u64 0), (.string (⟨#[]⟩ : ByteArray)), (.string (⟨#[]⟩ : ByteArray)), (.string (⟨#[]⟩ : ByteArray)), (.int .i64 0), (.int .i64 0), (.int .i64 0), (.int .i64 0), (.int .i64 0), (.int .i64 0), (.int .u64 0)] := by kernel_rfl
  have heq : D.eqb ⟨false, 0, 0, ⟨#[]⟩, ⟨#[]⟩, ⟨#[]⟩, 0, 0, 0, 0, 0, 0, 0⟩ ⟨false, 0, 0, ⟨#[]⟩, ⟨#[]⟩, ⟨#[]⟩, 0, 0, 0, 0, 0, 0, 0⟩ = true := (D.eqb_iff _ _).2 rfl
  have HX := Aside0.mk hx
  clear hx
  obtain ⟨v6, hi, lo, host, mail, text, a, b, c, d, e, f, bits, hxe⟩ : ∃ v6 hi lo host mail text a b c d e f bits, x = ⟨v6, hi, lo, host, mail, text, a, b, c, d, e, f, bits⟩ := ⟨_, _, _, _, _, _, _, _, _, _, _, _, _, rfl⟩
  have hxv : x.v = .agg #[.bool v6, .int .u64 hi, .int .u64 lo, .string host, .string mail, .string text, .int .i64 a, .int .i64 b, .int .i64 c, .int .i64 d, .int .i64 e, .int .i64 f, .int .u64 bits] := by rw [hxe]; rfl
  have HXV := Aside0.mk hxv
  have HO : Aside0 (Own w (w.alloc (.cells #[.bool v6, .int .u64 hi, .int .u64 lo, .string host, .string mail, .string text, .int .i64 a, .int .i64 b, .int .i64 c, .int .i64 d, .int .i64 e, .int .i64 f, .int .u64 bits] 26)) #[.bool v6, .int .u64 hi, .int .u64 lo, .string host, .string mail, .string text, .int .i64 a, .int .i64 b, .int .i64 c, .int .i64 d, .int .i64 e, .int .i64 f, .int .u64 bits] 26) := ⟨Own.new _ _ _⟩
  rw [hxv]
  clear hxe hxv
  go_enter Tryd.func9, Tryd.ntmps9
  go_wp2_with fail
  refine (awake_sp S _ (shb sh HO.out.below)).mono ?_
  rintro e_ w1 ⟨rfl, hb⟩
  replace HO := Aside0.mk (HO.out.call hb)
  clear hb
  obtain ⟨hc, hf⟩ := HO.out.cells
  by_cases h1 : t = 43
  · subst h1
    go_wp2
    go_ret
    exact ⟨rfl, HO.out.below⟩
  by_cases h2 : t = 46
  · subst h2
    go_wp2
    go_ret
    exact ⟨rfl, HO.out.below⟩
  by_cases h3 : t = 48
  · subst h3
    go_wp2
    go_ret
    exact ⟨rfl, HO.out.below⟩
  have b1 : (t == 43) = false := beq_eq_false_iff_ne.2 h1
  have b2 : (t == 46) = false := beq_eq_false_iff_ne.2 h2
  have b3 : (t == 48) = false := beq_eq_false_iff_ne.2 h3
  go_wp2_with fail
  have hs := short_sp x (shortB x) rfl w1
  rw [HXV.out] at hs
  refine hs.mono ?_
  clear hs
  rintro e_ w2 ⟨rfl, hb⟩
  replace HO := Aside0.mk (HO.out.call hb)
  clear hb hc hf
  obtain ⟨hc, hf⟩ := HO.out.cells
  cases hs : shortB x with
  | false =>
    go_wp2
    go_ret
    exact ⟨rfl, HO.out.below⟩
  | true =>
    have HK := Aside0.mk (ok_of HX.out hs)
    clear hs
    go_wp2_with fail
    have hw := S.wire t x w2 HK.out (shb sh HO.out.below)
    rw [HXV.out] at hw
    refine hw.mono ?_
    clear hw
    rintro e_ w3 ⟨rfl, hb⟩
    replace HO := Aside0.mk (HO.out.call hb)
    clear hb hc hf
    obtain ⟨hc, hf⟩ := HO.out.cells
    cases hv : validS t x with
    | false =>
      have hws : wireS t x = ([], if knownB t then 5 else 4) := by unfold wireS; rw [hv]; cases knownB t <;> rfl
      rw [hws]
      cases hk : knownB t
      · go_wp2
        go_ret
        exact ⟨rfl, HO.out.below⟩
      · go_wp2
        go_ret
        exact ⟨rfl, HO.out.below⟩
    | true =>
      have hws : wireS t x = (wireF (flds t) x, 0) := by unfold wireS; rw [(valid_used hv).1, hv]; rfl
      rw [hws]
      have hz := wireF_size t x HK.out
      have HZ := Aside0.mk hz
      have HT := Aside0.mk (trail_law HK.out hv h1 h2 h3 0)
      have HC := Aside0.mk (cut_law HK.out hv h1 h2 h3)
      clear hv hws h1 h2 h3
      obtain ⟨l, hl⟩ : ∃ l, wireF (flds t) x = l := ⟨_, rfl⟩
      rw [hl] at HZ HT HC hz ⊢
      have hadd : (strOf l).size + 1 ≤ 9223372036854775807 := by omega
      have hadd2 : ¬ ((9223372036854775807 : Int) < ((strOf l).size : Int) + 1) := by omega
      go_wp2_with fail
      have hr := S.read t (strOf l ++ ⟨#[0]⟩) w3 (by rw [ByteArray.size_append]; have := HZ.out; show (strOf l).size + 1 ≤ 1000000; omega) (shb sh HO.out.below)
      rw [show (strOf l ++ (⟨#[0]⟩ : ByteArray)).data.toList = l ++ [0] by rw [show (⟨#[0]⟩ : ByteArray) = strOf [0] from rfl, strOf_app]; rfl, HT.out, show (D.z, (8 : Int)).1.v = .agg #[.bool false, .int .u64 0, .int .u64 0, .string ⟨#[]⟩, .string ⟨#[]⟩, .string ⟨#[]⟩, .int .i64 0, .int .i64 0, .int .i64 0, .int .i64 0, .int .i64 0, .int .i64 0, .int .u64 0] from rfl] at hr
      refine hr.mono ?_
      clear hr
      rintro e_ w4 ⟨rfl, hb⟩
      replace HO := Aside0.mk (HO.out.call hb)
      clear hb hc hf hadd hadd2 hz
      have HO2 := Aside0.mk (Own2.new HO.out #[.bool false, .int .u64 0, .int .u64 0, .string ⟨#[]⟩, .string ⟨#[]⟩, .string ⟨#[]⟩, .int .i64 0, .int .i64 0, .int .i64 0, .int .i64 0, .int .i64 0, .int .i64 0, .int .u64 0] 26)
      by_cases hn0 : n < 0
      · go_wp2
        go_ret
        exact ⟨rfl, al HO.out.below _⟩
      by_cases hn1 : (n : Int) ≥ ((strOf l).size : Int)
      · go_wp2
        go_ret
        exact ⟨rfl, al HO.out.below _⟩
      have hn2 : 0 ≤ n := by omega
      have hn3 : n ≤ ((strOf l).size : Int) := by omega
      have hn4 : ¬ ((strOf l).size : Int) ≤ n := by omega
      go_wp2_with fail
      have hcut := HC.out n.toNat (by have : (strOf l).size = l.length := rfl; omega)
      have HCUT := Aside0.mk hcut
      clear hcut
      have hr := S.read t ((strOf l).extract 0 n.toNat) (w4.alloc (.cells #[.bool false, .int .u64 0, .int .u64 0, .string ⟨#[]⟩, .string ⟨#[]⟩, .string ⟨#[]⟩, .int .i64 0, .int .i64 0, .int .i64 0, .int .i64 0, .int .i64 0, .int .i64 0, .int .u64 0] 26)) (by rw [extract_strOf, strOf_size]; have h1 := HZ.out; rw [strOf_size] at h1; simp only [List.length_drop, List.length_take]; omega) (shb sh (al HO.out.below _))
      rw [show ((strOf l).extract 0 n.toNat).data.toList = l.take n.toNat by rw [extract_strOf, List.drop_zero]; rfl, HCUT.out, show (D.z, (6 : Int)).1.v = .agg #[.bool false, .int .u64 0, .int .u64 0, .string ⟨#[]⟩, .string ⟨#[]⟩, .string ⟨#[]⟩, .int .i64 0, .int .i64 0, .int .i64 0, .int .i64 0, .int .i64 0, .int .i64 0, .int .u64 0] from rfl] at hr
      refine hr.mono ?_
      clear hr
      rintro e_ w5 ⟨rfl, hb⟩
      replace HO2 := Aside0.mk (HO2.out.call hb)
      clear hb
      obtain ⟨hd, hg⟩ := cells_of_blk HO2.out.blk
      have hge : w.heap.size ≤ w4.heap.size := HO.out.below.size
      have HGE := Aside0.mk hge
      clear hge
      go_wp2
      go_ret
      refine ⟨rfl, ?_⟩
      iterate 13 (with_reducible refine bset ?_ HGE.out _ _)
      exact HO2.out.own.below
end Go.Proofs.YtaehonmfoanloaaDoor.Hand
