/-
  The law RdataAgain, walked: it returns true. Conditions: what its callees return (LSp).
-/
import Derived.Test.YtaehonmfoanloaaDoorRlAwake
import Derived.Test.YtaehonmfoanloaaDoorRdLaw
namespace Go.Proofs.YtaehonmfoanloaaDoor.Hand
open Go.RowKit Go.Proofs.YtaehonmfoanloaaDoorW.PrintWords Go.Proofs.YtaehonmfoanloaaDoor.RdW
set_option maxHeartbeats 40000000
set_option maxRecDepth 100000
set_option linter.all false
attribute [local go_sem high] eqD
theorem cap_iff : ∀ c : UInt8, cap c = true ↔ (65 ≤ c.toNat ∧ c.toNat ≤ 90) := byte_all (p := fun c => cap c = true ↔ (65 ≤ c.toNat ∧ c.toNat ≤ 90)) (by decide +kernel)
theorem nocap_step (s : ByteArray) (i : Nat) (h : i < s.size) (h1 : nocap (s.data.toList.take i) = true) (h2 : ¬ (65 ≤ (s[i]'h).toNat ∧ (s[i]'h).toNat ≤ 90)) : nocap (s.data.toList.take (i + 1)) = true := by
  have hc : cap (s[i]'h) = false := by
    rw [← Bool.not_eq_true, cap_iff]; exact h2
  have hl : i < s.data.toList.length := by rw [Array.length_toList]; exact h
  have e : s.data.toList[i] = s[i]'h := rfl
  rw [List.take_succ, List.getElem?_eq_getElem hl, e]
  unfold nocap at h1 ⊢
  rw [List.all_append, h1]
  simp [hc]
theorem again_sp (S : LSp) (t : Int) (s : ByteArray) (w : World) (sh : w.ShapedOpen Tryd.prog) :
    Calls Tryd.prog 8 #[.int .i64 t, .string s] w fun e w' => e = .returned (.bool true) ∧ Below w.heap.size w w' := by
  have hu := Tryd.underlying26
  have hbl : Tryd.prog.built 26 [] = some #[(.bool false), (.int .u64 0), (.int .u64 0), (.string (⟨#[]⟩ : ByteArray)), (.string (⟨#[]⟩ : ByteArray)), (.string (⟨#[]⟩ : ByteArray)), (.int .i64 0), (.int .i64 0), (.int .i64 0), (.int .i64 0), (.int .i64 0), (.int .i64 0), (.int .u64 0)] := by kernel_rfl
  go_enter Tryd.func8, Tryd.ntmps8
  go_wp2_with fail
  refine (awake_sp S _ sh).mono ?_
  rintro e_ w1 ⟨rfl, hb⟩
  have HB := Aside0.mk hb
  clear hb
  by_cases hl : (s.size : Int) > 2000
  · go_wp2
    go_ret
    exact ⟨rfl, HB.out⟩
  · have hsz : s.size ≤ 2000 := by omega
    have HS := Aside0.mk hsz
    clear hsz
    go_wp2_with fail
    have hr := S.read t s w1 (by have := HS.out; omega) (shb sh HB.out)
    refine hr.mono ?_
    clear hr
    rintro e_ w2 ⟨rfl, hb⟩
    have HO := Aside0.mk hb
    replace HB := Aside0.mk (HB.out.trans (hb.mono HB.out.size))
    clear hb HO
    have hla : (s.data.toList).length = s.size := by rw [Array.length_toList]; rfl
    have hok := readS_ok t s.data.toList (by omega)
    have hag := again_law t s.data.toList
    obtain ⟨y, n, hyn⟩ : ∃ y n, readS t s.data.toList = (y, n) := ⟨_, _, rfl⟩
    rw [hyn] at hok hag ⊢
    obtain ⟨v6, hi, lo, host, mail, text, a, b, c, d, e, f, bits, hxe⟩ : ∃ v6 hi lo host mail text a b c d e f bits, y = ⟨v6, hi, lo, host, mail, text, a, b, c, d, e, f, bits⟩ := ⟨_, _, _, _, _, _, _, _, _, _, _, _, _, rfl⟩
    have hxv : y.v = .agg #[.bool v6, .int .u64 hi, .int .u64 lo, .string host, .string mail, .string text, .int .i64 a, .int .i64 b, .int .i64 c, .int .i64 d, .int .i64 e, .int .i64 f, .int .u64 bits] := by rw [hxe]; rfl
    have HXV := Aside0.mk hxv
    have HXE := Aside0.mk hxe
    have HK := Aside0.mk hok
    have HG := Aside0.mk hag
    rw [show (y, n).1.v = .agg #[.bool v6, .int .u64 hi, .int .u64 lo, .string host, .string mail, .string text, .int .i64 a, .int .i64 b, .int .i64 c, .int .i64 d, .int .i64 e, .int .i64 f, .int .u64 bits] from hxv]
    clear hxe hxv hok hag hyn hla
    by_cases hn : n = 0
    · have hg := HG.out
      rcases hg with ⟨h1, _⟩ | ⟨_, h2, h3⟩
      · exact absurd hn h1
      have HV := Aside0.mk h2
      have HW := Aside0.mk h3
      clear h2 h3
      subst hn
      have HO := Aside0.mk (Own.new w2 #[.bool v6, .int .u64 hi, .int .u64 lo, .string host, .string mail, .string text, .int .i64 a, .int .i64 b, .int .i64 c, .int .i64 d, .int .i64 e, .int .i64 f, .int .u64 bits] 26)
      go_wp2_with fail
      have hv := S.valid t y (w2.alloc (.cells #[.bool v6, .int .u64 hi, .int .u64 lo, .string host, .string mail, .string text, .int .i64 a, .int .i64 b, .int .i64 c, .int .i64 d, .int .i64 e, .int .i64 f, .int .u64 bits] 26)) HK.out (shb sh (al HB.out _))
      rw [HXV.out, HV.out] at hv
      refine hv.mono ?_
      clear hv
      rintro e_ w3 ⟨rfl, hb⟩
      replace HO := Aside0.mk (HO.out.call hb)
      clear hb
      obtain ⟨hc, hf⟩ := HO.out.cells
      go_wp2_with fail
      go_loopw [7] (fun vi wr => ∃ i : Nat, vi = .int .i64 (i : Int) ∧ Aside0 (i ≤ s.size) ∧ Aside0 (nocap (s.data.toList.take i) = true) ∧ Aside0 (wr = w3)) (fun vi _ => s.size - (RowKit.intOf vi).toNat)
      case atStart => exact ⟨0, rfl, ⟨Nat.zero_le _⟩, ⟨rfl⟩, ⟨rfl⟩⟩
      case round =>
        obtain ⟨i, rfl, HI, HC, HWR⟩ := hrel
        obtain rfl := HWR.out
        by_cases hlt : i < s.size
        · have hltI : (i : Int) < (s.size : Int) := by omega
          have h0I : (0 : Int) ≤ (i : Int) := by omega
          by_cases h65 : (65 : Int) ≤ ((s[i]'hlt).toNat : Int) <;> by_cases h90 : ((s[i]'hlt).toNat : Int) ≤ 90
          · go_wp2_with fail
            go_ret
            exact ⟨rfl, HB.out.trans (HO.out.below.mono HB.out.size)⟩
          · have hs1 := nocap_step s i hlt HC.out (by omega)
            have HC1 := Aside0.mk hs1
            clear hs1 HC
            go_wp2_with fail
            go_roundw
            case rel => exact ⟨i + 1, by go_num, ⟨by omega⟩, HC1, ⟨trivial⟩⟩
            case measure => simp [RowKit.intOf]; omega
          · have hs1 := nocap_step s i hlt HC.out (by omega)
            have HC1 := Aside0.mk hs1
            clear hs1 HC
            go_wp2_with fail
            go_roundw
            case rel => exact ⟨i + 1, by go_num, ⟨by omega⟩, HC1, ⟨trivial⟩⟩
            case measure => simp [RowKit.intOf]; omega
          · have hs1 := nocap_step s i hlt HC.out (by omega)
            have HC1 := Aside0.mk hs1
            clear hs1 HC
            go_wp2_with fail
            go_roundw
            case rel => exact ⟨i + 1, by go_num, ⟨by omega⟩, HC1, ⟨trivial⟩⟩
            case measure => simp [RowKit.intOf]; omega
        · have hltI : ¬ (i : Int) < (s.size : Int) := by omega
          have hin : i = s.size := by have := HI.out; omega
          have hnc := HC.out
          rw [hin, List.take_of_length_le (by rw [Array.length_toList]; exact Nat.le_refl _)] at hnc
          have hwf := HW.out hnc
          have HWF := Aside0.mk (show strOf (wireF (flds t) y) = s by rw [hwf]; rfl)
          clear hnc hwf hin HC
          go_wp2_with fail
          have hkb := (valid_used HV.out).1
          have hws : wireS t y = (wireF (flds t) y, 0) := by unfold wireS; rw [hkb, HV.out]; rfl
          have hw := S.wire t y wr HK.out (shb sh (HB.out.trans (HO.out.below.mono HB.out.size)))
          rw [hws, HWF.out, HXV.out] at hw
          refine hw.mono ?_
          clear hw hws hkb
          rintro e_ w4 ⟨rfl, hb⟩
          replace HO := Aside0.mk (HO.out.call hb)
          clear hb
          go_wp2
          go_ret
          exact ⟨rfl, HB.out.trans (HO.out.below.mono HB.out.size)⟩
    · have hg := HG.out
      rcases hg with ⟨_, h1⟩ | ⟨h1, _⟩
      · have heq : D.eqb ⟨v6, hi, lo, host, mail, text, a, b, c, d, e, f, bits⟩ ⟨false, 0, 0, ⟨#[]⟩, ⟨#[]⟩, ⟨#[]⟩, 0, 0, 0, 0, 0, 0, 0⟩ = true := by rw [← HXE.out, D.eqb_iff]; exact h1
        clear h1
        go_wp2
        go_ret
        exact ⟨rfl, al HB.out _⟩
      · exact absurd h1 hn
end Go.Proofs.YtaehonmfoanloaaDoor.Hand
