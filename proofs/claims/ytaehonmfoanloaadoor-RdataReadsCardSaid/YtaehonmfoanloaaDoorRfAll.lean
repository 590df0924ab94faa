/-
  The reference's function 'signature', walked. Conditions: at most 1000000 bytes.
  The reference's function 'fields', walked, for texts and addresses. Conditions: at most 1000000 bytes.
  The reference's function 'fields', walked, a type each. Conditions: at most 1000000 bytes.
  The reference's function 'fields', walked, a type each. Conditions: at most 1000000 bytes.
  The reference's function 'fields', walked, for addresses. Conditions: at most 1000000 bytes.
  The reference's function 'fields', walked, for signatures. Conditions: at most 1000000 bytes.
  The reference's function 'fields', all types in one. Conditions: at most 1000000 bytes.
-/
import Derived.Test.YtaehonmfoanloaaDoorRfAt
namespace Go.Proofs.YtaehonmfoanloaaDoor.Hand
open Go.RowKit Go.Proofs.YtaehonmfoanloaaDoorW.PrintWords Go.Proofs.YtaehonmfoanloaaDoor.RdW Go.Proofs.YtaehonmfoanloaaDoor.PA
set_option maxHeartbeats 40000000
set_option maxRecDepth 100000
set_option linter.all false
/-- The byte of the algorithm: refused, taken, or an error stands already. -/
def Alg (s : ByteArray) (X : Xs) (Y : D) (v a e : Int) : Prop := (e = 0 ∧ v ≠ 253 ∧ stepX s 115 X = .error 7) ∨ (e = 0 ∧ v = 253 ∧ Inv s (stepX s 115 X) Y a e) ∨ (e ≠ 0 ∧ Inv s (stepX s 115 X) Y a e)
theorem alg_at (s : ByteArray) (hs : s.size ≤ 1000000) (X : Xs) (Y : D) (a e : Int) (h : Inv s X Y a e) (w : World) :
    Calls Tryd.prog 74 #[.string s, .agg #[.int .i64 a, .int .i64 e], .int .i64 1] w fun ee w' => (∃ v a' e', ee = .returned (.tuple #[.int .i64 v, .agg #[.int .i64 a', .int .i64 e']]) ∧ Alg s X Y v a' e') ∧ Below w.heap.size w w' := by
  cases X with
  | error n =>
    obtain ⟨he, hn⟩ := h
    subst he
    obtain ⟨k, hk⟩ := (Take_err s 1 a e hn).rounds
    exact (ddiref05_Take.calls k s a e 1 _ _ _ w hk).mono fun ee w' hh => ⟨⟨_, _, _, hh.1, Or.inr (Or.inr ⟨hn, inv_err rfl rfl hn⟩)⟩, hh.2⟩
  | ok u =>
    obtain ⟨x, p⟩ := u
    obtain ⟨rfl, rfl, rfl, hp⟩ := h
    have hT := Take_ev s hs 1 p (by omega) hp
    have hst : stepX s 115 (.ok (Y, p)) = match ((match rByte (rem s p) with
      | .error n => .error n
      | .ok (b, r') => if b = 253 then .ok (Y, r') else .error 7) : Rs D) with | .ok (y, rest) => .ok (y, s.size - rest.length) | .error n => .error n := rfl
    cases hr : rem s p with
    | nil =>
      rw [hr] at hT hst
      have hT : Ev (fun k => ddiref05_Take.f k s (p : Int) 0 ((1 : Nat) : Int)) (0, (s.size : Int), 6) := hT
      obtain ⟨k, hk⟩ := hT.rounds
      exact (ddiref05_Take.calls k s (p : Int) 0 1 _ _ _ w hk).mono fun ee w' hh => ⟨⟨_, _, _, hh.1, Or.inr (Or.inr ⟨by decide, inv_err hst rfl (by decide)⟩)⟩, hh.2⟩
    | cons b r =>
      rw [hr] at hT hst
      have hT : Ev (fun k => ddiref05_Take.f k s (p : Int) 0 ((1 : Nat) : Int)) (((0 * 256 + b.toNat : Nat) : Int), ((s.size - r.length : Nat) : Int), 0) := hT
      rw [Nat.zero_mul, Nat.zero_add] at hT
      obtain ⟨k, hk⟩ := hT.rounds
      refine (ddiref05_Take.calls k s (p : Int) 0 1 _ _ _ w hk).mono fun ee w' hh => ⟨⟨_, _, _, hh.1, ?_⟩, hh.2⟩
      by_cases hb : b = 253
      · have hst : stepX s 115 (.ok (Y, p)) = match ((if b = 253 then .ok (Y, r) else .error 7) : Rs D) with | .ok (y, rest) => .ok (y, s.size - rest.length) | .error n => .error n := hst
        rw [if_pos hb] at hst
        exact Or.inr (Or.inl ⟨rfl, by rw [hb]; rfl, inv_ok hst rfl rfl rfl (Nat.sub_le _ _)⟩)
      · have hst : stepX s 115 (.ok (Y, p)) = match ((if b = 253 then .ok (Y, r) else .error 7) : Rs D) with | .ok (y, rest) => .ok (y, s.size - rest.length) | .error n => .error n := hst
        rw [if_neg hb] at hst
        refine Or.inl ⟨rfl, fun h => hb (UInt8.toNat_inj.mp ?_), hst⟩
        have e : (253 : UInt8).toNat = 253 := rfl
        omega
theorem rsig (s : ByteArray) (hs : s.size ≤ 1000000) (w : World) :
    Calls Tryd.prog 76 #[.string s, .agg #[.int .i64 0, .int .i64 0]] w fun ee w' => (∃ Y a e, ee = .returned (.tuple #[D.v Y, .agg #[.int .i64 a, .int .i64 e]]) ∧ Inv s (readX s (flds 46) (.ok (D.z, 0))) Y a e) ∧ Below w.heap.size w w' := by
  have hu := Tryd.underlying26
  have hu2 := Tryd.underlying24
  have hu3 := Tryd.underlying67
  have HF := Aside0.mk (Fb.new w 0 0)
  have HI : Aside0 (Inv s (.ok (D.z, 0)) (⟨false, 0, 0, ⟨#[]⟩, ⟨#[]⟩, ⟨#[]⟩, 0, 0, 0, 0, 0, 0, 0⟩ : D) 0 0) := ⟨inv_ok rfl rfl rfl rfl (Nat.zero_le _)⟩
  go_enter Tryd.func76, Tryd.ntmps76
  go_wp2_with fail
  refine (show Calls Tryd.prog 74 #[.string s, .agg #[.int .i64 _, .int .i64 _], .int .i64 2] _ _ from number_at s hs 65 (by unfold numL; decide) _ _ _ _ HI.out _).mono ?_
  rintro e_ w1 ⟨⟨v1, a1, e1, rfl, hi⟩, hb⟩
  have HF' : Aside0 (Fb w w1 w.heap.size 0 0 #[.bool false, .int .u64 0, .int .u64 0, .string ⟨#[]⟩, .string ⟨#[]⟩, .string ⟨#[]⟩, .int .i64 0, .int .i64 0, .int .i64 0, .int .i64 0, .int .i64 0, .int .i64 0, .int .u64 0]) := ⟨HF.out.call hb⟩
  clear HF
  have HF := HF'
  clear HF'
  obtain ⟨hc, hf⟩ := cells_of_blk HF.out.cur
  obtain ⟨hd, hg⟩ := cells_of_blk HF.out.dat
  obtain ⟨hk, hm⟩ := cells_of_blk HF.out.resD
  dsimp only [D.z, D.cells] at hk
  obtain ⟨hp, hq⟩ := cells_of_blk HF.out.resC
  have hlt := lt_of_blk HF.out.dat
  have HI' : Aside0 (Inv s (stepX s 65 (.ok (D.z, 0))) (⟨false, 0, 0, ⟨#[]⟩, ⟨#[]⟩, ⟨#[]⟩, v1, 0, 0, 0, 0, 0, 0⟩ : D) a1 e1) := ⟨hi⟩
  clear hi HI hb
  have HI := HI'
  clear HI'
  go_wp2_with fail
  refine (alg_at s hs _ _ _ _ HI.out _).mono ?_
  rintro e_ w2 ⟨⟨v2, a2, e2, rfl, hi⟩, hb⟩
  have HF' : Aside0 (Fb w w2 w.heap.size a1 e1 #[.bool false, .int .u64 0, .int .u64 0, .string ⟨#[]⟩, .string ⟨#[]⟩, .string ⟨#[]⟩, .int .i64 v1, .int .i64 0, .int .i64 0, .int .i64 0, .int .i64 0, .int .i64 0, .int .u64 0]) := ⟨(HF.out.store (Nat.le_refl _) a1 e1 6 (.int .i64 v1)).call hb⟩
  clear HF hc hf hd hg hk hm hp hq hlt
  have HF := HF'
  clear HF'
  obtain ⟨hc, hf⟩ := cells_of_blk HF.out.cur
  obtain ⟨hd, hg⟩ := cells_of_blk HF.out.dat
  obtain ⟨hk, hm⟩ := cells_of_blk HF.out.resD
  dsimp only [D.z, D.cells] at hk
  obtain ⟨hp, hq⟩ := cells_of_blk HF.out.resC
  have hlt := lt_of_blk HF.out.dat
  have HX : Aside0 (stepX s 115 (stepX s 65 (.ok (D.z, 0))) = .error 7 → readX s (flds 46) (.ok (D.z, 0)) = .error 7) := ⟨fun h => by show readX s [98, 120, 121, 122, 70, 104, 114] (stepX s 115 (stepX s 65 (.ok (D.z, 0)))) = _; rw [h]; exact readX_error _ _ _⟩
  clear hb HI
  rcases hi with ⟨rfl, hv, hi⟩ | hi
  · have hv2 : (v2 != 253) = true := bne_iff_ne.mpr hv
    go_wp2_with fail
    go_region
    all_goals
      go_wp2
      obtain ⟨f1, f2, f3⟩ := (HF.out.stepC (Nat.le_refl _) a2 0).fin (Nat.le_refl _) (.bool false) (.int .u64 0) (.int .u64 0) (.string ⟨#[]⟩) (.string ⟨#[]⟩) (.string ⟨#[]⟩) (.int .i64 0) (.int .i64 0) (.int .i64 0) (.int .i64 0) (.int .i64 0) (.int .i64 0) (.int .u64 0) a2 7
      exact bodyPost_ret (results_cc rfl _ _ (w.heap.size + 1) (w.heap.size + 2) 26 67 #[.bool false, .int .u64 0, .int .u64 0, .string ⟨#[]⟩, .string ⟨#[]⟩, .string ⟨#[]⟩, .int .i64 0, .int .i64 0, .int .i64 0, .int .i64 0, .int .i64 0, .int .i64 0, .int .u64 0] #[.int .i64 a2, .int .i64 7] (0, 0) (0, 0) _ _ rfl f2 Tryd.underlying26 rfl (by kernel_rfl) rfl f3 Tryd.underlying67 rfl (by kernel_rfl)) rfl ⟨⟨(⟨false, 0, 0, ⟨#[]⟩, ⟨#[]⟩, ⟨#[]⟩, 0, 0, 0, 0, 0, 0, 0⟩ : D), _, _, rfl, inv_err (HX.out hi) rfl (by decide)⟩, f1⟩
  have HJ := Aside0.mk hi
  clear hi HX
  have hw : (e2 = 0 ∧ v2 = 253) ∨ (e2 == 0) = false := HJ.out.elim (fun h => Or.inl ⟨h.1, h.2.1⟩) (fun h => Or.inr (beq_eq_false_iff_ne.mpr h.1))
  have HI : Aside0 (Inv s (stepX s 115 (stepX s 65 (.ok (D.z, 0)))) (⟨false, 0, 0, ⟨#[]⟩, ⟨#[]⟩, ⟨#[]⟩, v1, 0, 0, 0, 0, 0, 0⟩ : D) a2 e2) := ⟨HJ.out.elim (fun h => h.2.2) (fun h => h.2)⟩
  clear HJ
  rcases hw with ⟨rfl, rfl⟩ | hw
  all_goals
    go_wp2_with fail
    refine (show Calls Tryd.prog 74 #[.string s, .agg #[.int .i64 _, .int .i64 _], .int .i64 1] _ _ from number_at s hs 98 (by unfold numL; decide) _ _ _ _ HI.out _).mono ?_
    rintro e_ w3 ⟨⟨v3, a3, e3, rfl, hi⟩, hb⟩
    have HF' : Aside0 (Fb w w3 w.heap.size a2 _ #[.bool false, .int .u64 0, .int .u64 0, .string ⟨#[]⟩, .string ⟨#[]⟩, .string ⟨#[]⟩, .int .i64 v1, .int .i64 0, .int .i64 0, .int .i64 0, .int .i64 0, .int .i64 0, .int .u64 0]) := ⟨(HF.out.stepC (Nat.le_refl _) a2 _).call hb⟩
    clear HF hc hf hd hg hk hm hp hq hlt
    have HF := HF'
    clear HF'
    obtain ⟨hc, hf⟩ := cells_of_blk HF.out.cur
    obtain ⟨hd, hg⟩ := cells_of_blk HF.out.dat
    obtain ⟨hk, hm⟩ := cells_of_blk HF.out.resD
    dsimp only [D.z, D.cells] at hk
    obtain ⟨hp, hq⟩ := cells_of_blk HF.out.resC
    have hlt := lt_of_blk HF.out.dat
    have HI' : Aside0 (Inv s (stepX s 98 (stepX s 115 (stepX s 65 (.ok (D.z, 0))))) (⟨false, 0, 0, ⟨#[]⟩, ⟨#[]⟩, ⟨#[]⟩, v1, v3, 0, 0, 0, 0, 0⟩ : D) a3 e3) := ⟨hi⟩
    clear hi HI hb
    have HI := HI'
    clear HI'
    go_wp2_with fail
    refine (show Calls Tryd.prog 74 #[.string s, .agg #[.int .i64 _, .int .i64 _], .int .i64 4] _ _ from number_at s hs 120 (by unfold numL; decide) _ _ _ _ HI.out _).mono ?_
    rintro e_ w4 ⟨⟨v4, a4, e4, rfl, hi⟩, hb⟩
    have HF' : Aside0 (Fb w w4 w.heap.size a3 e3 #[.bool false, .int .u64 0, .int .u64 0, .string ⟨#[]⟩, .string ⟨#[]⟩, .string ⟨#[]⟩, .int .i64 v1, .int .i64 v3, .int .i64 0, .int .i64 0, .int .i64 0, .int .i64 0, .int .u64 0]) := ⟨(HF.out.store (Nat.le_refl _) a3 e3 7 (.int .i64 v3)).call hb⟩
    clear HF hc hf hd hg hk hm hp hq hlt
    have HF := HF'
    clear HF'
    obtain ⟨hc, hf⟩ := cells_of_blk HF.out.cur
    obtain ⟨hd, hg⟩ := cells_of_blk HF.out.dat
    obtain ⟨hk, hm⟩ := cells_of_blk HF.out.resD
    dsimp only [D.z, D.cells] at hk
    obtain ⟨hp, hq⟩ := cells_of_blk HF.out.resC
    have hlt := lt_of_blk HF.out.dat
    have HI' : Aside0 (Inv s (stepX s 120 (stepX s 98 (stepX s 115 (stepX s 65 (.ok (D.z, 0)))))) (⟨false, 0, 0, ⟨#[]⟩, ⟨#[]⟩, ⟨#[]⟩, v1, v3, v4, 0, 0, 0, 0⟩ : D) a4 e4) := ⟨hi⟩
    clear hi HI hb
    have HI := HI'
    clear HI'
    go_wp2_with fail
    refine (show Calls Tryd.prog 74 #[.string s, .agg #[.int .i64 _, .int .i64 _], .int .i64 4] _ _ from number_at s hs 121 (by unfold numL; decide) _ _ _ _ HI.out _).mono ?_
    rintro e_ w5 ⟨⟨v5, a5, e5, rfl, hi⟩, hb⟩
    have HF' : Aside0 (Fb w w5 w.heap.size a4 e4 #[.bool false, .int .u64 0, .int .u64 0, .string ⟨#[]⟩, .string ⟨#[]⟩, .string ⟨#[]⟩, .int .i64 v1, .int .i64 v3, .int .i64 v4, .int .i64 0, .int .i64 0, .int .i64 0, .int .u64 0]) := ⟨(HF.out.store (Nat.le_refl _) a4 e4 8 (.int .i64 v4)).call hb⟩
    clear HF hc hf hd hg hk hm hp hq hlt
    have HF := HF'
    clear HF'
    obtain ⟨hc, hf⟩ := cells_of_blk HF.out.cur
    obtain ⟨hd, hg⟩ := cells_of_blk HF.out.dat
    obtain ⟨hk, hm⟩ := cells_of_blk HF.out.resD
    dsimp only [D.z, D.cells] at hk
    obtain ⟨hp, hq⟩ := cells_of_blk HF.out.resC
    have hlt := lt_of_blk HF.out.dat
    have HI' : Aside0 (Inv s (stepX s 121 (stepX s 120 (stepX s 98 (stepX s 115 (stepX s 65 (.ok (D.z, 0))))))) (⟨false, 0, 0, ⟨#[]⟩, ⟨#[]⟩, ⟨#[]⟩, v1, v3, v4, v5, 0, 0, 0⟩ : D) a5 e5) := ⟨hi⟩
    clear hi HI hb
    have HI := HI'
    clear HI'
    go_wp2_with fail
    refine (show Calls Tryd.prog 74 #[.string s, .agg #[.int .i64 _, .int .i64 _], .int .i64 4] _ _ from number_at s hs 122 (by unfold numL; decide) _ _ _ _ HI.out _).mono ?_
    rintro e_ w6 ⟨⟨v6, a6, e6, rfl, hi⟩, hb⟩
    have HF' : Aside0 (Fb w w6 w.heap.size a5 e5 #[.bool false, .int .u64 0, .int .u64 0, .string ⟨#[]⟩, .string ⟨#[]⟩, .string ⟨#[]⟩, .int .i64 v1, .int .i64 v3, .int .i64 v4, .int .i64 v5, .int .i64 0, .int .i64 0, .int .u64 0]) := ⟨(HF.out.store (Nat.le_refl _) a5 e5 9 (.int .i64 v5)).call hb⟩
    clear HF hc hf hd hg hk hm hp hq hlt
    have HF := HF'
    clear HF'
    obtain ⟨hc, hf⟩ := cells_of_blk HF.out.cur
    obtain ⟨hd, hg⟩ := cells_of_blk HF.out.dat
    obtain ⟨hk, hm⟩ := cells_of_blk HF.out.resD
    dsimp only [D.z, D.cells] at hk
    obtain ⟨hp, hq⟩ := cells_of_blk HF.out.resC
    have hlt := lt_of_blk HF.out.dat
    have HI' : Aside0 (Inv s (stepX s 122 (stepX s 121 (stepX s 120 (stepX s 98 (stepX s 115 (stepX s 65 (.ok (D.z, 0)))))))) (⟨false, 0, 0, ⟨#[]⟩, ⟨#[]⟩, ⟨#[]⟩, v1, v3, v4, v5, v6, 0, 0⟩ : D) a6 e6) := ⟨hi⟩
    clear hi HI hb
    have HI := HI'
    clear HI'
    go_wp2_with fail
    refine (show Calls Tryd.prog 74 #[.string s, .agg #[.int .i64 _, .int .i64 _], .int .i64 2] _ _ from number_at s hs 70 (by unfold numL; decide) _ _ _ _ HI.out _).mono ?_
    rintro e_ w7 ⟨⟨v7, a7, e7, rfl, hi⟩, hb⟩
    have HF' : Aside0 (Fb w w7 w.heap.size a6 e6 #[.bool false, .int .u64 0, .int .u64 0, .string ⟨#[]⟩, .string ⟨#[]⟩, .string ⟨#[]⟩, .int .i64 v1, .int .i64 v3, .int .i64 v4, .int .i64 v5, .int .i64 v6, .int .i64 0, .int .u64 0]) := ⟨(HF.out.store (Nat.le_refl _) a6 e6 10 (.int .i64 v6)).call hb⟩
    clear HF hc hf hd hg hk hm hp hq hlt
    have HF := HF'
    clear HF'
    obtain ⟨hc, hf⟩ := cells_of_blk HF.out.cur
    obtain ⟨hd, hg⟩ := cells_of_blk HF.out.dat
    obtain ⟨hk, hm⟩ := cells_of_blk HF.out.resD
    dsimp only [D.z, D.cells] at hk
    obtain ⟨hp, hq⟩ := cells_of_blk HF.out.resC
    have hlt := lt_of_blk HF.out.dat
    have HI' : Aside0 (Inv s (stepX s 70 (stepX s 122 (stepX s 121 (stepX s 120 (stepX s 98 (stepX s 115 (stepX s 65 (.ok (D.z, 0))))))))) (⟨false, 0, 0, ⟨#[]⟩, ⟨#[]⟩, ⟨#[]⟩, v1, v3, v4, v5, v6, v7, 0⟩ : D) a7 e7) := ⟨hi⟩
    clear hi HI hb
    have HI := HI'
    clear HI'
    go_wp2_with fail
    refine (name_at s hs 104 (by decide) _ _ _ _ HI.out _).mono ?_
    rintro e_ w8 ⟨⟨v8, a8, e8, rfl, hi⟩, hb⟩
    have HF' : Aside0 (Fb w w8 w.heap.size a7 e7 #[.bool false, .int .u64 0, .int .u64 0, .string ⟨#[]⟩, .string ⟨#[]⟩, .string ⟨#[]⟩, .int .i64 v1, .int .i64 v3, .int .i64 v4, .int .i64 v5, .int .i64 v6, .int .i64 v7, .int .u64 0]) := ⟨(HF.out.store (Nat.le_refl _) a7 e7 11 (.int .i64 v7)).call hb⟩
    clear HF hc hf hd hg hk hm hp hq hlt
    have HF := HF'
    clear HF'
    obtain ⟨hc, hf⟩ := cells_of_blk HF.out.cur
    obtain ⟨hd, hg⟩ := cells_of_blk HF.out.dat
    obtain ⟨hk, hm⟩ := cells_of_blk HF.out.resD
    dsimp only [D.z, D.cells] at hk
    obtain ⟨hp, hq⟩ := cells_of_blk HF.out.resC
    have hlt := lt_of_blk HF.out.dat
    have HI' : Aside0 (Inv s (stepX s 104 (stepX s 70 (stepX s 122 (stepX s 121 (stepX s 120 (stepX s 98 (stepX s 115 (stepX s 65 (.ok (D.z, 0)))))))))) (⟨false, 0, 0, v8, ⟨#[]⟩, ⟨#[]⟩, v1, v3, v4, v5, v6, v7, 0⟩ : D) a8 e8) := ⟨hi⟩
    clear hi HI hb
    have HI := HI'
    clear HI'
    go_wp2_with fail
    refine (rest_at s _ _ _ _ HI.out _).mono ?_
    rintro e_ w9 ⟨⟨v9, a9, e9, rfl, hi⟩, hb⟩
    have HF' : Aside0 (Fb w w9 w.heap.size a8 e8 #[.bool false, .int .u64 0, .int .u64 0, .string v8, .string ⟨#[]⟩, .string ⟨#[]⟩, .int .i64 v1, .int .i64 v3, .int .i64 v4, .int .i64 v5, .int .i64 v6, .int .i64 v7, .int .u64 0]) := ⟨(HF.out.store (Nat.le_refl _) a8 e8 3 (.string v8)).call hb⟩
    clear HF hc hf hd hg hk hm hp hq hlt
    have HF := HF'
    clear HF'
    obtain ⟨hc, hf⟩ := cells_of_blk HF.out.cur
    obtain ⟨hd, hg⟩ := cells_of_blk HF.out.dat
    obtain ⟨hk, hm⟩ := cells_of_blk HF.out.resD
    dsimp only [D.z, D.cells] at hk
    obtain ⟨hp, hq⟩ := cells_of_blk HF.out.resC
    have hlt := lt_of_blk HF.out.dat
    have HI' : Aside0 (Inv s (stepX s 114 (stepX s 104 (stepX s 70 (stepX s 122 (stepX s 121 (stepX s 120 (stepX s 98 (stepX s 115 (stepX s 65 (.ok (D.z, 0))))))))))) (⟨false, 0, 0, v8, ⟨#[]⟩, v9, v1, v3, v4, v5, v6, v7, 0⟩ : D) a9 e9) := ⟨hi⟩
    clear hi HI hb
    have HI := HI'
    clear HI'
    go_wp2_with fail
    go_region
    all_goals
      go_wp2
      obtain ⟨f1, f2, f3⟩ := (HF.out.store (Nat.le_refl _) a9 e9 5 (.string v9)).fin (Nat.le_refl _) (.bool false) (.int .u64 0) (.int .u64 0) (.string v8) (.string ⟨#[]⟩) (.string v9) (.int .i64 v1) (.int .i64 v3) (.int .i64 v4) (.int .i64 v5) (.int .i64 v6) (.int .i64 v7) (.int .u64 0) a9 e9
      exact bodyPost_ret (results_cc rfl _ _ (w.heap.size + 1) (w.heap.size + 2) 26 67 #[.bool false, .int .u64 0, .int .u64 0, .string v8, .string ⟨#[]⟩, .string v9, .int .i64 v1, .int .i64 v3, .int .i64 v4, .int .i64 v5, .int .i64 v6, .int .i64 v7, .int .u64 0] #[.int .i64 a9, .int .i64 e9] (0, 0) (0, 0) _ _ rfl f2 Tryd.underlying26 rfl (by kernel_rfl) rfl f3 Tryd.underlying67 rfl (by kernel_rfl)) rfl ⟨⟨(⟨false, 0, 0, v8, ⟨#[]⟩, v9, v1, v3, v4, v5, v6, v7, 0⟩ : D), _, _, rfl, HI.out⟩, f1⟩
end Go.Proofs.YtaehonmfoanloaaDoor.Hand
namespace Go.Proofs.YtaehonmfoanloaaDoor.Hand
open Go.RowKit Go.Proofs.YtaehonmfoanloaaDoorW.PrintWords Go.Proofs.YtaehonmfoanloaaDoor.RdW Go.Proofs.YtaehonmfoanloaaDoor.PA
set_option maxHeartbeats 40000000
set_option maxRecDepth 100000
set_option linter.all false
/-- What a byte at the start is taken as. -/
def Byte0 (s : ByteArray) (v a e : Int) : Prop := (v, a, e) = takeR s (rNum 1 0 (rem s 0))
theorem byte_at (s : ByteArray) (hs : s.size ≤ 1000000) (w : World) :
    Calls Tryd.prog 74 #[.string s, .agg #[.int .i64 0, .int .i64 0], .int .i64 1] w fun ee w' => (∃ v a e, ee = .returned (.tuple #[.int .i64 v, .agg #[.int .i64 a, .int .i64 e]]) ∧ Byte0 s v a e) ∧ Below w.heap.size w w' := by
  obtain ⟨k, hk⟩ := (Take_ev s hs 1 0 (by omega) (Nat.zero_le _)).rounds
  exact (ddiref05_Take.calls k s 0 0 1 _ _ _ w hk).mono fun ee w' hh => ⟨⟨_, _, _, hh.1, rfl⟩, hh.2⟩
theorem text_at (s : ByteArray) (hs : s.size ≤ 1000000) (v a e : Int) (h : Byte0 s v a e) (w : World) :
    Calls Tryd.prog 71 #[.string s, .agg #[.int .i64 a, .int .i64 e], .int .i64 v] w fun ee w' => (∃ t a' e', ee = .returned (.tuple #[.string t, .agg #[.int .i64 a', .int .i64 e']]) ∧ Inv s (stepX s 116 (.ok (D.z, 0))) { D.z with text := t } a' e') ∧ Below w.heap.size w w' := by
  have hst : stepX s 116 (.ok (D.z, 0)) = match ((match rByte (rem s 0) with
    | .error n => .error n
    | .ok (b, r') => mapR (rTake b.toNat r') fun l => { D.z with text := strOf l }) : Rs D) with | .ok (y, rest) => .ok (y, s.size - rest.length) | .error n => .error n := rfl
  unfold Byte0 at h
  cases hr : rem s 0 with
  | nil =>
    rw [hr] at h hst
    have h : (v, a, e) = (0, (s.size : Int), 6) := h
    simp only [Prod.mk.injEq] at h
    obtain ⟨rfl, rfl, rfl⟩ := h
    exact (ddiref05_run.calls s _ _ _ _ _ _ w (run_err s _ _ 6 (by decide))).mono fun ee w' hh => ⟨⟨_, _, _, hh.1, inv_err hst rfl (by decide)⟩, hh.2⟩
  | cons b r =>
    have hl := rem_len s 0
    rw [hr] at h hst hl
    simp only [List.length_cons] at hl
    have hp : s.size - r.length ≤ s.size := Nat.sub_le _ _
    have hrem : rem s (s.size - r.length) = r := (rem_suf (s := s) (p := 0) (q := r) (by rw [hr]; exact List.suffix_cons b r)).2
    have h : (v, a, e) = (((0 * 256 + b.toNat : Nat) : Int), ((s.size - r.length : Nat) : Int), 0) := h
    rw [Nat.zero_mul, Nat.zero_add] at h
    simp only [Prod.mk.injEq] at h
    obtain ⟨rfl, rfl, rfl⟩ := h
    have hb := b.toNat_lt
    have hrun := run_eq s hs b.toNat (s.size - r.length) (by omega) hp
    rw [hrem] at hrun
    refine (ddiref05_run.calls s _ _ _ _ _ _ w hrun).mono fun ee w' hh => ⟨⟨_, _, _, hh.1, ?_⟩, hh.2⟩
    have hst : stepX s 116 (.ok (D.z, 0)) = match mapR (rTake b.toNat r) (fun l => { D.z with text := strOf l }) with | .ok (y, rest) => .ok (y, s.size - rest.length) | .error n => .error n := hst
    cases hq : rTake b.toNat r with
    | error n =>
      rw [hq] at hst
      exact inv_err hst rfl (rTake_err hq)
    | ok u =>
      obtain ⟨l, rest⟩ := u
      rw [hq] at hst
      exact inv_ok hst rfl rfl rfl (Nat.sub_le _ _)
theorem rf16 (s : ByteArray) (hs : s.size ≤ 1000000) (w : World) :
    Calls Tryd.prog 50 #[.int .i64 16, .string s, .agg #[.int .i64 0, .int .i64 0]] w fun ee w' => (∃ Y a e, ee = .returned (.tuple #[D.v Y, .agg #[.int .i64 a, .int .i64 e]]) ∧ Inv s (readX s (flds 16) (.ok (D.z, 0))) Y a e) ∧ Below w.heap.size w w' := by
  have hu := Tryd.underlying26
  have hu2 := Tryd.underlying24
  have hu3 := Tryd.underlying67
  have HF := Aside0.mk (Fb.new w 0 0)
  go_enter Tryd.func50, Tryd.ntmps50
  go_wp2_with fail
  refine (byte_at s hs _).mono ?_
  rintro e_ w1 ⟨⟨v1, a1, e1, rfl, hi⟩, hb⟩
  have HF' : Aside0 (Fb w w1 w.heap.size 0 0 #[.bool false, .int .u64 0, .int .u64 0, .string ⟨#[]⟩, .string ⟨#[]⟩, .string ⟨#[]⟩, .int .i64 0, .int .i64 0, .int .i64 0, .int .i64 0, .int .i64 0, .int .i64 0, .int .u64 0]) := ⟨HF.out.call hb⟩
  clear HF hb
  have HF := HF'
  clear HF'
  have HI := Aside0.mk hi
  clear hi
  obtain ⟨hc, hf⟩ := cells_of_blk HF.out.cur
  obtain ⟨hd, hg⟩ := cells_of_blk HF.out.dat
  obtain ⟨hk, hm⟩ := cells_of_blk HF.out.resD
  dsimp only [D.z, D.cells] at hk
  obtain ⟨hp, hq⟩ := cells_of_blk HF.out.resC
  have hlt := lt_of_blk HF.out.dat
  go_wp2_with fail
  refine (text_at s hs _ _ _ HI.out _).mono ?_
  rintro e_ w2 ⟨⟨v2, a2, e2, rfl, hi⟩, hb⟩
  have HF' : Aside0 (Fb w w2 w.heap.size a1 e1 #[.bool false, .int .u64 0, .int .u64 0, .string ⟨#[]⟩, .string ⟨#[]⟩, .string ⟨#[]⟩, .int .i64 0, .int .i64 0, .int .i64 0, .int .i64 0, .int .i64 0, .int .i64 0, .int .u64 0]) := ⟨(HF.out.stepC (Nat.le_refl _) a1 e1).call hb⟩
  clear HF hb hc hf hd hg hk hm hp hq hlt HI
  have HF := HF'
  clear HF'
  have HI := Aside0.mk hi
  clear hi
  obtain ⟨hc, hf⟩ := cells_of_blk HF.out.cur
  obtain ⟨hd, hg⟩ := cells_of_blk HF.out.dat
  obtain ⟨hk, hm⟩ := cells_of_blk HF.out.resD
  dsimp only [D.z, D.cells] at hk
  obtain ⟨hp, hq⟩ := cells_of_blk HF.out.resC
  have hlt := lt_of_blk HF.out.dat
  go_wp2_with fail
  go_region
  all_goals
    go_wp2
    obtain ⟨f1, f2, f3⟩ := (HF.out.store (Nat.le_refl _) a2 e2 5 (.string v2)).fin (Nat.le_refl _) (.bool false) (.int .u64 0) (.int .u64 0) (.string ⟨#[]⟩) (.string ⟨#[]⟩) (.string v2) (.int .i64 0) (.int .i64 0) (.int .i64 0) (.int .i64 0) (.int .i64 0) (.int .i64 0) (.int .u64 0) a2 e2
    exact bodyPost_ret (results_cc rfl _ _ (w.heap.size + 1) (w.heap.size + 2) 26 67 #[.bool false, .int .u64 0, .int .u64 0, .string ⟨#[]⟩, .string ⟨#[]⟩, .string v2, .int .i64 0, .int .i64 0, .int .i64 0, .int .i64 0, .int .i64 0, .int .i64 0, .int .u64 0] #[.int .i64 a2, .int .i64 e2] (0, 0) (0, 0) _ _ rfl f2 Tryd.underlying26 rfl (by kernel_rfl) rfl f3 Tryd.underlying67 rfl (by kernel_rfl)) rfl ⟨⟨(⟨false, 0, 0, ⟨#[]⟩, ⟨#[]⟩, v2, 0, 0, 0, 0, 0, 0, 0⟩ : D), _, _, rfl, HI.out⟩, f1⟩
end Go.Proofs.YtaehonmfoanloaaDoor.Hand
namespace Go.Proofs.YtaehonmfoanloaaDoor.Hand
open Go.RowKit Go.Proofs.YtaehonmfoanloaaDoorW.PrintWords Go.Proofs.YtaehonmfoanloaaDoor.RdW
set_option maxHeartbeats 40000000
set_option maxRecDepth 100000
set_option linter.all false
theorem rf15 (s : ByteArray) (hs : s.size ≤ 1000000) (w : World) :
    Calls Tryd.prog 50 #[.int .i64 15, .string s, .agg #[.int .i64 0, .int .i64 0]] w fun ee w' => (∃ Y a e, ee = .returned (.tuple #[D.v Y, .agg #[.int .i64 a, .int .i64 e]]) ∧ Inv s (readX s (flds 15) (.ok (D.z, 0))) Y a e) ∧ Below w.heap.size w w' := by
  have hu := Tryd.underlying26
  have hu2 := Tryd.underlying24
  have hu3 := Tryd.underlying67
  have HF := Aside0.mk (Fb.new w 0 0)
  have HI : Aside0 (Inv s (.ok (D.z, 0)) (⟨false, 0, 0, ⟨#[]⟩, ⟨#[]⟩, ⟨#[]⟩, 0, 0, 0, 0, 0, 0, 0⟩ : D) 0 0) := ⟨inv_ok rfl rfl rfl rfl (Nat.zero_le _)⟩
  go_enter Tryd.func50, Tryd.ntmps50
  go_wp2_with fail
  refine (show Calls Tryd.prog 74 #[.string s, .agg #[.int .i64 _, .int .i64 _], .int .i64 2] _ _ from number_at s hs 65 (by unfold numL; decide) _ _ _ _ HI.out _).mono ?_
  rintro e_ w1 ⟨⟨v1, a1, e1, rfl, hi⟩, hb⟩
  have HF' : Aside0 (Fb w w1 w.heap.size 0 0 #[.bool false, .int .u64 0, .int .u64 0, .string ⟨#[]⟩, .string ⟨#[]⟩, .string ⟨#[]⟩, .int .i64 0, .int .i64 0, .int .i64 0, .int .i64 0, .int .i64 0, .int .i64 0, .int .u64 0]) := ⟨HF.out.call hb⟩
  clear HF
  have HF := HF'
  clear HF'
  have HI' : Aside0 (Inv s (stepX s 65 (.ok (D.z, 0))) (⟨false, 0, 0, ⟨#[]⟩, ⟨#[]⟩, ⟨#[]⟩, v1, 0, 0, 0, 0, 0, 0⟩ : D) a1 e1) := ⟨hi⟩
  clear hi HI hb
  have HI := HI'
  clear HI'
  obtain ⟨hc, hf⟩ := cells_of_blk HF.out.cur
  obtain ⟨hd, hg⟩ := cells_of_blk HF.out.dat
  obtain ⟨hk, hm⟩ := cells_of_blk HF.out.resD
  dsimp only [D.z, D.cells] at hk
  obtain ⟨hp, hq⟩ := cells_of_blk HF.out.resC
  have hlt := lt_of_blk HF.out.dat
  go_wp2_with fail
  refine (name_at s hs 104 (by decide) _ _ _ _ HI.out _).mono ?_
  rintro e_ w2 ⟨⟨v2, a2, e2, rfl, hi⟩, hb⟩
  have HF' : Aside0 (Fb w w2 w.heap.size a1 e1 #[.bool false, .int .u64 0, .int .u64 0, .string ⟨#[]⟩, .string ⟨#[]⟩, .string ⟨#[]⟩, .int .i64 v1, .int .i64 0, .int .i64 0, .int .i64 0, .int .i64 0, .int .i64 0, .int .u64 0]) := ⟨(HF.out.store (Nat.le_refl _) a1 e1 6 (.int .i64 v1)).call hb⟩
  clear HF hc hf hd hg hk hm hp hq hlt
  have HF := HF'
  clear HF'
  have HI' : Aside0 (Inv s (stepX s 104 (stepX s 65 (.ok (D.z, 0)))) (⟨false, 0, 0, v2, ⟨#[]⟩, ⟨#[]⟩, v1, 0, 0, 0, 0, 0, 0⟩ : D) a2 e2) := ⟨hi⟩
  clear hi HI hb
  have HI := HI'
  clear HI'
  obtain ⟨hc, hf⟩ := cells_of_blk HF.out.cur
  obtain ⟨hd, hg⟩ := cells_of_blk HF.out.dat
  obtain ⟨hk, hm⟩ := cells_of_blk HF.out.resD
  dsimp only [D.z, D.cells] at hk
  obtain ⟨hp, hq⟩ := cells_of_blk HF.out.resC
  have hlt := lt_of_blk HF.out.dat
  go_wp2_with fail
  go_region
  all_goals
    go_wp2
    obtain ⟨f1, f2, f3⟩ := (HF.out.store (Nat.le_refl _) a2 e2 3 (.string v2)).fin (Nat.le_refl _) (.bool false) (.int .u64 0) (.int .u64 0) (.string v2) (.string ⟨#[]⟩) (.string ⟨#[]⟩) (.int .i64 v1) (.int .i64 0) (.int .i64 0) (.int .i64 0) (.int .i64 0) (.int .i64 0) (.int .u64 0) a2 e2
    exact bodyPost_ret (results_cc rfl _ _ (w.heap.size + 1) (w.heap.size + 2) 26 67 #[.bool false, .int .u64 0, .int .u64 0, .string v2, .string ⟨#[]⟩, .string ⟨#[]⟩, .int .i64 v1, .int .i64 0, .int .i64 0, .int .i64 0, .int .i64 0, .int .i64 0, .int .u64 0] #[.int .i64 a2, .int .i64 e2] (0, 0) (0, 0) _ _ rfl f2 Tryd.underlying26 rfl (by kernel_rfl) rfl f3 Tryd.underlying67 rfl (by kernel_rfl)) rfl ⟨⟨(⟨false, 0, 0, v2, ⟨#[]⟩, ⟨#[]⟩, v1, 0, 0, 0, 0, 0, 0⟩ : D), _, _, rfl, HI.out⟩, f1⟩
theorem rf2 (s : ByteArray) (hs : s.size ≤ 1000000) (w : World) :
    Calls Tryd.prog 50 #[.int .i64 2, .string s, .agg #[.int .i64 0, .int .i64 0]] w fun ee w' => (∃ Y a e, ee = .returned (.tuple #[D.v Y, .agg #[.int .i64 a, .int .i64 e]]) ∧ Inv s (readX s (flds 2) (.ok (D.z, 0))) Y a e) ∧ Below w.heap.size w w' := by
  have hu := Tryd.underlying26
  have hu2 := Tryd.underlying24
  have hu3 := Tryd.underlying67
  have HF := Aside0.mk (Fb.new w 0 0)
  have HI : Aside0 (Inv s (.ok (D.z, 0)) (⟨false, 0, 0, ⟨#[]⟩, ⟨#[]⟩, ⟨#[]⟩, 0, 0, 0, 0, 0, 0, 0⟩ : D) 0 0) := ⟨inv_ok rfl rfl rfl rfl (Nat.zero_le _)⟩
  go_enter Tryd.func50, Tryd.ntmps50
  go_wp2_with fail
  refine (name_at s hs 104 (by decide) _ _ _ _ HI.out _).mono ?_
  rintro e_ w1 ⟨⟨v1, a1, e1, rfl, hi⟩, hb⟩
  have HF' : Aside0 (Fb w w1 w.heap.size 0 0 #[.bool false, .int .u64 0, .int .u64 0, .string ⟨#[]⟩, .string ⟨#[]⟩, .string ⟨#[]⟩, .int .i64 0, .int .i64 0, .int .i64 0, .int .i64 0, .int .i64 0, .int .i64 0, .int .u64 0]) := ⟨HF.out.call hb⟩
  clear HF
  have HF := HF'
  clear HF'
  have HI' : Aside0 (Inv s (stepX s 104 (.ok (D.z, 0))) (⟨false, 0, 0, v1, ⟨#[]⟩, ⟨#[]⟩, 0, 0, 0, 0, 0, 0, 0⟩ : D) a1 e1) := ⟨hi⟩
  clear hi HI hb
  have HI := HI'
  clear HI'
  obtain ⟨hc, hf⟩ := cells_of_blk HF.out.cur
  obtain ⟨hd, hg⟩ := cells_of_blk HF.out.dat
  obtain ⟨hk, hm⟩ := cells_of_blk HF.out.resD
  dsimp only [D.z, D.cells] at hk
  obtain ⟨hp, hq⟩ := cells_of_blk HF.out.resC
  have hlt := lt_of_blk HF.out.dat
  go_wp2_with fail
  go_region
  all_goals
    go_wp2
    obtain ⟨f1, f2, f3⟩ := (HF.out.store (Nat.le_refl _) a1 e1 3 (.string v1)).fin (Nat.le_refl _) (.bool false) (.int .u64 0) (.int .u64 0) (.string v1) (.string ⟨#[]⟩) (.string ⟨#[]⟩) (.int .i64 0) (.int .i64 0) (.int .i64 0) (.int .i64 0) (.int .i64 0) (.int .i64 0) (.int .u64 0) a1 e1
    exact bodyPost_ret (results_cc rfl _ _ (w.heap.size + 1) (w.heap.size + 2) 26 67 #[.bool false, .int .u64 0, .int .u64 0, .string v1, .string ⟨#[]⟩, .string ⟨#[]⟩, .int .i64 0, .int .i64 0, .int .i64 0, .int .i64 0, .int .i64 0, .int .i64 0, .int .u64 0] #[.int .i64 a1, .int .i64 e1] (0, 0) (0, 0) _ _ rfl f2 Tryd.underlying26 rfl (by kernel_rfl) rfl f3 Tryd.underlying67 rfl (by kernel_rfl)) rfl ⟨⟨(⟨false, 0, 0, v1, ⟨#[]⟩, ⟨#[]⟩, 0, 0, 0, 0, 0, 0, 0⟩ : D), _, _, rfl, HI.out⟩, f1⟩
theorem rf5 (s : ByteArray) (hs : s.size ≤ 1000000) (w : World) :
    Calls Tryd.prog 50 #[.int .i64 5, .string s, .agg #[.int .i64 0, .int .i64 0]] w fun ee w' => (∃ Y a e, ee = .returned (.tuple #[D.v Y, .agg #[.int .i64 a, .int .i64 e]]) ∧ Inv s (readX s (flds 5) (.ok (D.z, 0))) Y a e) ∧ Below w.heap.size w w' := by
  have hu := Tryd.underlying26
  have hu2 := Tryd.underlying24
  have hu3 := Tryd.underlying67
  have HF := Aside0.mk (Fb.new w 0 0)
  have HI : Aside0 (Inv s (.ok (D.z, 0)) (⟨false, 0, 0, ⟨#[]⟩, ⟨#[]⟩, ⟨#[]⟩, 0, 0, 0, 0, 0, 0, 0⟩ : D) 0 0) := ⟨inv_ok rfl rfl rfl rfl (Nat.zero_le _)⟩
  go_enter Tryd.func50, Tryd.ntmps50
  go_wp2_with fail
  refine (name_at s hs 104 (by decide) _ _ _ _ HI.out _).mono ?_
  rintro e_ w1 ⟨⟨v1, a1, e1, rfl, hi⟩, hb⟩
  have HF' : Aside0 (Fb w w1 w.heap.size 0 0 #[.bool false, .int .u64 0, .int .u64 0, .string ⟨#[]⟩, .string ⟨#[]⟩, .string ⟨#[]⟩, .int .i64 0, .int .i64 0, .int .i64 0, .int .i64 0, .int .i64 0, .int .i64 0, .int .u64 0]) := ⟨HF.out.call hb⟩
  clear HF
  have HF := HF'
  clear HF'
  have HI' : Aside0 (Inv s (stepX s 104 (.ok (D.z, 0))) (⟨false, 0, 0, v1, ⟨#[]⟩, ⟨#[]⟩, 0, 0, 0, 0, 0, 0, 0⟩ : D) a1 e1) := ⟨hi⟩
  clear hi HI hb
  have HI := HI'
  clear HI'
  obtain ⟨hc, hf⟩ := cells_of_blk HF.out.cur
  obtain ⟨hd, hg⟩ := cells_of_blk HF.out.dat
  obtain ⟨hk, hm⟩ := cells_of_blk HF.out.resD
  dsimp only [D.z, D.cells] at hk
  obtain ⟨hp, hq⟩ := cells_of_blk HF.out.resC
  have hlt := lt_of_blk HF.out.dat
  go_wp2_with fail
  go_region
  all_goals
    go_wp2
    obtain ⟨f1, f2, f3⟩ := (HF.out.store (Nat.le_refl _) a1 e1 3 (.string v1)).fin (Nat.le_refl _) (.bool false) (.int .u64 0) (.int .u64 0) (.string v1) (.string ⟨#[]⟩) (.string ⟨#[]⟩) (.int .i64 0) (.int .i64 0) (.int .i64 0) (.int .i64 0) (.int .i64 0) (.int .i64 0) (.int .u64 0) a1 e1
    exact bodyPost_ret (results_cc rfl _ _ (w.heap.size + 1) (w.heap.size + 2) 26 67 #[.bool false, .int .u64 0, .int .u64 0, .string v1, .string ⟨#[]⟩, .string ⟨#[]⟩, .int .i64 0, .int .i64 0, .int .i64 0, .int .i64 0, .int .i64 0, .int .i64 0, .int .u64 0] #[.int .i64 a1, .int .i64 e1] (0, 0) (0, 0) _ _ rfl f2 Tryd.underlying26 rfl (by kernel_rfl) rfl f3 Tryd.underlying67 rfl (by kernel_rfl)) rfl ⟨⟨(⟨false, 0, 0, v1, ⟨#[]⟩, ⟨#[]⟩, 0, 0, 0, 0, 0, 0, 0⟩ : D), _, _, rfl, HI.out⟩, f1⟩
theorem rf12 (s : ByteArray) (hs : s.size ≤ 1000000) (w : World) :
    Calls Tryd.prog 50 #[.int .i64 12, .string s, .agg #[.int .i64 0, .int .i64 0]] w fun ee w' => (∃ Y a e, ee = .returned (.tuple #[D.v Y, .agg #[.int .i64 a, .int .i64 e]]) ∧ Inv s (readX s (flds 12) (.ok (D.z, 0))) Y a e) ∧ Below w.heap.size w w' := by
  have hu := Tryd.underlying26
  have hu2 := Tryd.underlying24
  have hu3 := Tryd.underlying67
  have HF := Aside0.mk (Fb.new w 0 0)
  have HI : Aside0 (Inv s (.ok (D.z, 0)) (⟨false, 0, 0, ⟨#[]⟩, ⟨#[]⟩, ⟨#[]⟩, 0, 0, 0, 0, 0, 0, 0⟩ : D) 0 0) := ⟨inv_ok rfl rfl rfl rfl (Nat.zero_le _)⟩
  go_enter Tryd.func50, Tryd.ntmps50
  go_wp2_with fail
  refine (name_at s hs 104 (by decide) _ _ _ _ HI.out _).mono ?_
  rintro e_ w1 ⟨⟨v1, a1, e1, rfl, hi⟩, hb⟩
  have HF' : Aside0 (Fb w w1 w.heap.size 0 0 #[.bool false, .int .u64 0, .int .u64 0, .string ⟨#[]⟩, .string ⟨#[]⟩, .string ⟨#[]⟩, .int .i64 0, .int .i64 0, .int .i64 0, .int .i64 0, .int .i64 0, .int .i64 0, .int .u64 0]) := ⟨HF.out.call hb⟩
  clear HF
  have HF := HF'
  clear HF'
  have HI' : Aside0 (Inv s (stepX s 104 (.ok (D.z, 0))) (⟨false, 0, 0, v1, ⟨#[]⟩, ⟨#[]⟩, 0, 0, 0, 0, 0, 0, 0⟩ : D) a1 e1) := ⟨hi⟩
  clear hi HI hb
  have HI := HI'
  clear HI'
  obtain ⟨hc, hf⟩ := cells_of_blk HF.out.cur
  obtain ⟨hd, hg⟩ := cells_of_blk HF.out.dat
  obtain ⟨hk, hm⟩ := cells_of_blk HF.out.resD
  dsimp only [D.z, D.cells] at hk
  obtain ⟨hp, hq⟩ := cells_of_blk HF.out.resC
  have hlt := lt_of_blk HF.out.dat
  go_wp2_with fail
  go_region
  all_goals
    go_wp2
    obtain ⟨f1, f2, f3⟩ := (HF.out.store (Nat.le_refl _) a1 e1 3 (.string v1)).fin (Nat.le_refl _) (.bool false) (.int .u64 0) (.int .u64 0) (.string v1) (.string ⟨#[]⟩) (.string ⟨#[]⟩) (.int .i64 0) (.int .i64 0) (.int .i64 0) (.int .i64 0) (.int .i64 0) (.int .i64 0) (.int .u64 0) a1 e1
    exact bodyPost_ret (results_cc rfl _ _ (w.heap.size + 1) (w.heap.size + 2) 26 67 #[.bool false, .int .u64 0, .int .u64 0, .string v1, .string ⟨#[]⟩, .string ⟨#[]⟩, .int .i64 0, .int .i64 0, .int .i64 0, .int .i64 0, .int .i64 0, .int .i64 0, .int .u64 0] #[.int .i64 a1, .int .i64 e1] (0, 0) (0, 0) _ _ rfl f2 Tryd.underlying26 rfl (by kernel_rfl) rfl f3 Tryd.underlying67 rfl (by kernel_rfl)) rfl ⟨⟨(⟨false, 0, 0, v1, ⟨#[]⟩, ⟨#[]⟩, 0, 0, 0, 0, 0, 0, 0⟩ : D), _, _, rfl, HI.out⟩, f1⟩
theorem rf39 (s : ByteArray) (hs : s.size ≤ 1000000) (w : World) :
    Calls Tryd.prog 50 #[.int .i64 39, .string s, .agg #[.int .i64 0, .int .i64 0]] w fun ee w' => (∃ Y a e, ee = .returned (.tuple #[D.v Y, .agg #[.int .i64 a, .int .i64 e]]) ∧ Inv s (readX s (flds 39) (.ok (D.z, 0))) Y a e) ∧ Below w.heap.size w w' := by
  have hu := Tryd.underlying26
  have hu2 := Tryd.underlying24
  have hu3 := Tryd.underlying67
  have HF := Aside0.mk (Fb.new w 0 0)
  have HI : Aside0 (Inv s (.ok (D.z, 0)) (⟨false, 0, 0, ⟨#[]⟩, ⟨#[]⟩, ⟨#[]⟩, 0, 0, 0, 0, 0, 0, 0⟩ : D) 0 0) := ⟨inv_ok rfl rfl rfl rfl (Nat.zero_le _)⟩
  go_enter Tryd.func50, Tryd.ntmps50
  go_wp2_with fail
  refine (name_at s hs 104 (by decide) _ _ _ _ HI.out _).mono ?_
  rintro e_ w1 ⟨⟨v1, a1, e1, rfl, hi⟩, hb⟩
  have HF' : Aside0 (Fb w w1 w.heap.size 0 0 #[.bool false, .int .u64 0, .int .u64 0, .string ⟨#[]⟩, .string ⟨#[]⟩, .string ⟨#[]⟩, .int .i64 0, .int .i64 0, .int .i64 0, .int .i64 0, .int .i64 0, .int .i64 0, .int .u64 0]) := ⟨HF.out.call hb⟩
  clear HF
  have HF := HF'
  clear HF'
  have HI' : Aside0 (Inv s (stepX s 104 (.ok (D.z, 0))) (⟨false, 0, 0, v1, ⟨#[]⟩, ⟨#[]⟩, 0, 0, 0, 0, 0, 0, 0⟩ : D) a1 e1) := ⟨hi⟩
  clear hi HI hb
  have HI := HI'
  clear HI'
  obtain ⟨hc, hf⟩ := cells_of_blk HF.out.cur
  obtain ⟨hd, hg⟩ := cells_of_blk HF.out.dat
  obtain ⟨hk, hm⟩ := cells_of_blk HF.out.resD
  dsimp only [D.z, D.cells] at hk
  obtain ⟨hp, hq⟩ := cells_of_blk HF.out.resC
  have hlt := lt_of_blk HF.out.dat
  go_wp2_with fail
  go_region
  all_goals
    go_wp2
    obtain ⟨f1, f2, f3⟩ := (HF.out.store (Nat.le_refl _) a1 e1 3 (.string v1)).fin (Nat.le_refl _) (.bool false) (.int .u64 0) (.int .u64 0) (.string v1) (.string ⟨#[]⟩) (.string ⟨#[]⟩) (.int .i64 0) (.int .i64 0) (.int .i64 0) (.int .i64 0) (.int .i64 0) (.int .i64 0) (.int .u64 0) a1 e1
    exact bodyPost_ret (results_cc rfl _ _ (w.heap.size + 1) (w.heap.size + 2) 26 67 #[.bool false, .int .u64 0, .int .u64 0, .string v1, .string ⟨#[]⟩, .string ⟨#[]⟩, .int .i64 0, .int .i64 0, .int .i64 0, .int .i64 0, .int .i64 0, .int .i64 0, .int .u64 0] #[.int .i64 a1, .int .i64 e1] (0, 0) (0, 0) _ _ rfl f2 Tryd.underlying26 rfl (by kernel_rfl) rfl f3 Tryd.underlying67 rfl (by kernel_rfl)) rfl ⟨⟨(⟨false, 0, 0, v1, ⟨#[]⟩, ⟨#[]⟩, 0, 0, 0, 0, 0, 0, 0⟩ : D), _, _, rfl, HI.out⟩, f1⟩

end Go.Proofs.YtaehonmfoanloaaDoor.Hand
namespace Go.Proofs.YtaehonmfoanloaaDoor.Hand
open Go.RowKit Go.Proofs.YtaehonmfoanloaaDoorW.PrintWords Go.Proofs.YtaehonmfoanloaaDoor.RdW
set_option maxHeartbeats 40000000
set_option maxRecDepth 100000
set_option linter.all false
theorem rf33 (s : ByteArray) (hs : s.size ≤ 1000000) (w : World) :
    Calls Tryd.prog 50 #[.int .i64 33, .string s, .agg #[.int .i64 0, .int .i64 0]] w fun ee w' => (∃ Y a e, ee = .returned (.tuple #[D.v Y, .agg #[.int .i64 a, .int .i64 e]]) ∧ Inv s (readX s (flds 33) (.ok (D.z, 0))) Y a e) ∧ Below w.heap.size w w' := by
  have hu := Tryd.underlying26
  have hu2 := Tryd.underlying24
  have hu3 := Tryd.underlying67
  have HF := Aside0.mk (Fb.new w 0 0)
  have HI : Aside0 (Inv s (.ok (D.z, 0)) (⟨false, 0, 0, ⟨#[]⟩, ⟨#[]⟩, ⟨#[]⟩, 0, 0, 0, 0, 0, 0, 0⟩ : D) 0 0) := ⟨inv_ok rfl rfl rfl rfl (Nat.zero_le _)⟩
  go_enter Tryd.func50, Tryd.ntmps50
  go_wp2_with fail
  refine (show Calls Tryd.prog 74 #[.string s, .agg #[.int .i64 _, .int .i64 _], .int .i64 2] _ _ from number_at s hs 65 (by unfold numL; decide) _ _ _ _ HI.out _).mono ?_
  rintro e_ w1 ⟨⟨v1, a1, e1, rfl, hi⟩, hb⟩
  have HF' : Aside0 (Fb w w1 w.heap.size 0 0 #[.bool false, .int .u64 0, .int .u64 0, .string ⟨#[]⟩, .string ⟨#[]⟩, .string ⟨#[]⟩, .int .i64 0, .int .i64 0, .int .i64 0, .int .i64 0, .int .i64 0, .int .i64 0, .int .u64 0]) := ⟨HF.out.call hb⟩
  clear HF
  have HF := HF'
  clear HF'
  have HI' : Aside0 (Inv s (stepX s 65 (.ok (D.z, 0))) (⟨false, 0, 0, ⟨#[]⟩, ⟨#[]⟩, ⟨#[]⟩, v1, 0, 0, 0, 0, 0, 0⟩ : D) a1 e1) := ⟨hi⟩
  clear hi HI hb
  have HI := HI'
  clear HI'
  obtain ⟨hc, hf⟩ := cells_of_blk HF.out.cur
  obtain ⟨hd, hg⟩ := cells_of_blk HF.out.dat
  obtain ⟨hk, hm⟩ := cells_of_blk HF.out.resD
  dsimp only [D.z, D.cells] at hk
  obtain ⟨hp, hq⟩ := cells_of_blk HF.out.resC
  have hlt := lt_of_blk HF.out.dat
  go_wp2_with fail
  refine (show Calls Tryd.prog 74 #[.string s, .agg #[.int .i64 _, .int .i64 _], .int .i64 2] _ _ from number_at s hs 66 (by unfold numL; decide) _ _ _ _ HI.out _).mono ?_
  rintro e_ w2 ⟨⟨v2, a2, e2, rfl, hi⟩, hb⟩
  have HF' : Aside0 (Fb w w2 w.heap.size a1 e1 #[.bool false, .int .u64 0, .int .u64 0, .string ⟨#[]⟩, .string ⟨#[]⟩, .string ⟨#[]⟩, .int .i64 v1, .int .i64 0, .int .i64 0, .int .i64 0, .int .i64 0, .int .i64 0, .int .u64 0]) := ⟨(HF.out.store (Nat.le_refl _) a1 e1 6 (.int .i64 v1)).call hb⟩
  clear HF hc hf hd hg hk hm hp hq hlt
  have HF := HF'
  clear HF'
  have HI' : Aside0 (Inv s (stepX s 66 (stepX s 65 (.ok (D.z, 0)))) (⟨false, 0, 0, ⟨#[]⟩, ⟨#[]⟩, ⟨#[]⟩, v1, v2, 0, 0, 0, 0, 0⟩ : D) a2 e2) := ⟨hi⟩
  clear hi HI hb
  have HI := HI'
  clear HI'
  obtain ⟨hc, hf⟩ := cells_of_blk HF.out.cur
  obtain ⟨hd, hg⟩ := cells_of_blk HF.out.dat
  obtain ⟨hk, hm⟩ := cells_of_blk HF.out.resD
  dsimp only [D.z, D.cells] at hk
  obtain ⟨hp, hq⟩ := cells_of_blk HF.out.resC
  have hlt := lt_of_blk HF.out.dat
  go_wp2_with fail
  refine (show Calls Tryd.prog 74 #[.string s, .agg #[.int .i64 _, .int .i64 _], .int .i64 2] _ _ from number_at s hs 67 (by unfold numL; decide) _ _ _ _ HI.out _).mono ?_
  rintro e_ w3 ⟨⟨v3, a3, e3, rfl, hi⟩, hb⟩
  have HF' : Aside0 (Fb w w3 w.heap.size a2 e2 #[.bool false, .int .u64 0, .int .u64 0, .string ⟨#[]⟩, .string ⟨#[]⟩, .string ⟨#[]⟩, .int .i64 v1, .int .i64 v2, .int .i64 0, .int .i64 0, .int .i64 0, .int .i64 0, .int .u64 0]) := ⟨(HF.out.store (Nat.le_refl _) a2 e2 7 (.int .i64 v2)).call hb⟩
  clear HF hc hf hd hg hk hm hp hq hlt
  have HF := HF'
  clear HF'
  have HI' : Aside0 (Inv s (stepX s 67 (stepX s 66 (stepX s 65 (.ok (D.z, 0))))) (⟨false, 0, 0, ⟨#[]⟩, ⟨#[]⟩, ⟨#[]⟩, v1, v2, v3, 0, 0, 0, 0⟩ : D) a3 e3) := ⟨hi⟩
  clear hi HI hb
  have HI := HI'
  clear HI'
  obtain ⟨hc, hf⟩ := cells_of_blk HF.out.cur
  obtain ⟨hd, hg⟩ := cells_of_blk HF.out.dat
  obtain ⟨hk, hm⟩ := cells_of_blk HF.out.resD
  dsimp only [D.z, D.cells] at hk
  obtain ⟨hp, hq⟩ := cells_of_blk HF.out.resC
  have hlt := lt_of_blk HF.out.dat
  go_wp2_with fail
  refine (name_at s hs 104 (by decide) _ _ _ _ HI.out _).mono ?_
  rintro e_ w4 ⟨⟨v4, a4, e4, rfl, hi⟩, hb⟩
  have HF' : Aside0 (Fb w w4 w.heap.size a3 e3 #[.bool false, .int .u64 0, .int .u64 0, .string ⟨#[]⟩, .string ⟨#[]⟩, .string ⟨#[]⟩, .int .i64 v1, .int .i64 v2, .int .i64 v3, .int .i64 0, .int .i64 0, .int .i64 0, .int .u64 0]) := ⟨(HF.out.store (Nat.le_refl _) a3 e3 8 (.int .i64 v3)).call hb⟩
  clear HF hc hf hd hg hk hm hp hq hlt
  have HF := HF'
  clear HF'
  have HI' : Aside0 (Inv s (stepX s 104 (stepX s 67 (stepX s 66 (stepX s 65 (.ok (D.z, 0)))))) (⟨false, 0, 0, v4, ⟨#[]⟩, ⟨#[]⟩, v1, v2, v3, 0, 0, 0, 0⟩ : D) a4 e4) := ⟨hi⟩
  clear hi HI hb
  have HI := HI'
  clear HI'
  obtain ⟨hc, hf⟩ := cells_of_blk HF.out.cur
  obtain ⟨hd, hg⟩ := cells_of_blk HF.out.dat
  obtain ⟨hk, hm⟩ := cells_of_blk HF.out.resD
  dsimp only [D.z, D.cells] at hk
  obtain ⟨hp, hq⟩ := cells_of_blk HF.out.resC
  have hlt := lt_of_blk HF.out.dat
  go_wp2_with fail
  go_region
  all_goals
    go_wp2
    obtain ⟨f1, f2, f3⟩ := (HF.out.store (Nat.le_refl _) a4 e4 3 (.string v4)).fin (Nat.le_refl _) (.bool false) (.int .u64 0) (.int .u64 0) (.string v4) (.string ⟨#[]⟩) (.string ⟨#[]⟩) (.int .i64 v1) (.int .i64 v2) (.int .i64 v3) (.int .i64 0) (.int .i64 0) (.int .i64 0) (.int .u64 0) a4 e4
    exact bodyPost_ret (results_cc rfl _ _ (w.heap.size + 1) (w.heap.size + 2) 26 67 #[.bool false, .int .u64 0, .int .u64 0, .string v4, .string ⟨#[]⟩, .string ⟨#[]⟩, .int .i64 v1, .int .i64 v2, .int .i64 v3, .int .i64 0, .int .i64 0, .int .i64 0, .int .u64 0] #[.int .i64 a4, .int .i64 e4] (0, 0) (0, 0) _ _ rfl f2 Tryd.underlying26 rfl (by kernel_rfl) rfl f3 Tryd.underlying67 rfl (by kernel_rfl)) rfl ⟨⟨(⟨false, 0, 0, v4, ⟨#[]⟩, ⟨#[]⟩, v1, v2, v3, 0, 0, 0, 0⟩ : D), _, _, rfl, HI.out⟩, f1⟩
theorem rf6 (s : ByteArray) (hs : s.size ≤ 1000000) (w : World) :
    Calls Tryd.prog 50 #[.int .i64 6, .string s, .agg #[.int .i64 0, .int .i64 0]] w fun ee w' => (∃ Y a e, ee = .returned (.tuple #[D.v Y, .agg #[.int .i64 a, .int .i64 e]]) ∧ Inv s (readX s (flds 6) (.ok (D.z, 0))) Y a e) ∧ Below w.heap.size w w' := by
  have hu := Tryd.underlying26
  have hu2 := Tryd.underlying24
  have hu3 := Tryd.underlying67
  have HF := Aside0.mk (Fb.new w 0 0)
  have HI : Aside0 (Inv s (.ok (D.z, 0)) (⟨false, 0, 0, ⟨#[]⟩, ⟨#[]⟩, ⟨#[]⟩, 0, 0, 0, 0, 0, 0, 0⟩ : D) 0 0) := ⟨inv_ok rfl rfl rfl rfl (Nat.zero_le _)⟩
  go_enter Tryd.func50, Tryd.ntmps50
  go_wp2_with fail
  refine (name_at s hs 104 (by decide) _ _ _ _ HI.out _).mono ?_
  rintro e_ w1 ⟨⟨v1, a1, e1, rfl, hi⟩, hb⟩
  have HF' : Aside0 (Fb w w1 w.heap.size 0 0 #[.bool false, .int .u64 0, .int .u64 0, .string ⟨#[]⟩, .string ⟨#[]⟩, .string ⟨#[]⟩, .int .i64 0, .int .i64 0, .int .i64 0, .int .i64 0, .int .i64 0, .int .i64 0, .int .u64 0]) := ⟨HF.out.call hb⟩
  clear HF
  have HF := HF'
  clear HF'
  have HI' : Aside0 (Inv s (stepX s 104 (.ok (D.z, 0))) (⟨false, 0, 0, v1, ⟨#[]⟩, ⟨#[]⟩, 0, 0, 0, 0, 0, 0, 0⟩ : D) a1 e1) := ⟨hi⟩
  clear hi HI hb
  have HI := HI'
  clear HI'
  obtain ⟨hc, hf⟩ := cells_of_blk HF.out.cur
  obtain ⟨hd, hg⟩ := cells_of_blk HF.out.dat
  obtain ⟨hk, hm⟩ := cells_of_blk HF.out.resD
  dsimp only [D.z, D.cells] at hk
  obtain ⟨hp, hq⟩ := cells_of_blk HF.out.resC
  have hlt := lt_of_blk HF.out.dat
  go_wp2_with fail
  refine (name_at s hs 109 (by decide) _ _ _ _ HI.out _).mono ?_
  rintro e_ w2 ⟨⟨v2, a2, e2, rfl, hi⟩, hb⟩
  have HF' : Aside0 (Fb w w2 w.heap.size a1 e1 #[.bool false, .int .u64 0, .int .u64 0, .string v1, .string ⟨#[]⟩, .string ⟨#[]⟩, .int .i64 0, .int .i64 0, .int .i64 0, .int .i64 0, .int .i64 0, .int .i64 0, .int .u64 0]) := ⟨(HF.out.store (Nat.le_refl _) a1 e1 3 (.string v1)).call hb⟩
  clear HF hc hf hd hg hk hm hp hq hlt
  have HF := HF'
  clear HF'
  have HI' : Aside0 (Inv s (stepX s 109 (stepX s 104 (.ok (D.z, 0)))) (⟨false, 0, 0, v1, v2, ⟨#[]⟩, 0, 0, 0, 0, 0, 0, 0⟩ : D) a2 e2) := ⟨hi⟩
  clear hi HI hb
  have HI := HI'
  clear HI'
  obtain ⟨hc, hf⟩ := cells_of_blk HF.out.cur
  obtain ⟨hd, hg⟩ := cells_of_blk HF.out.dat
  obtain ⟨hk, hm⟩ := cells_of_blk HF.out.resD
  dsimp only [D.z, D.cells] at hk
  obtain ⟨hp, hq⟩ := cells_of_blk HF.out.resC
  have hlt := lt_of_blk HF.out.dat
  go_wp2_with fail
  refine (show Calls Tryd.prog 74 #[.string s, .agg #[.int .i64 _, .int .i64 _], .int .i64 4] _ _ from number_at s hs 118 (by unfold numL; decide) _ _ _ _ HI.out _).mono ?_
  rintro e_ w3 ⟨⟨v3, a3, e3, rfl, hi⟩, hb⟩
  have HF' : Aside0 (Fb w w3 w.heap.size a2 e2 #[.bool false, .int .u64 0, .int .u64 0, .string v1, .string v2, .string ⟨#[]⟩, .int .i64 0, .int .i64 0, .int .i64 0, .int .i64 0, .int .i64 0, .int .i64 0, .int .u64 0]) := ⟨(HF.out.store (Nat.le_refl _) a2 e2 4 (.string v2)).call hb⟩
  clear HF hc hf hd hg hk hm hp hq hlt
  have HF := HF'
  clear HF'
  have HI' : Aside0 (Inv s (stepX s 118 (stepX s 109 (stepX s 104 (.ok (D.z, 0))))) (⟨false, 0, 0, v1, v2, ⟨#[]⟩, v3, 0, 0, 0, 0, 0, 0⟩ : D) a3 e3) := ⟨hi⟩
  clear hi HI hb
  have HI := HI'
  clear HI'
  obtain ⟨hc, hf⟩ := cells_of_blk HF.out.cur
  obtain ⟨hd, hg⟩ := cells_of_blk HF.out.dat
  obtain ⟨hk, hm⟩ := cells_of_blk HF.out.resD
  dsimp only [D.z, D.cells] at hk
  obtain ⟨hp, hq⟩ := cells_of_blk HF.out.resC
  have hlt := lt_of_blk HF.out.dat
  go_wp2_with fail
  refine (show Calls Tryd.prog 74 #[.string s, .agg #[.int .i64 _, .int .i64 _], .int .i64 4] _ _ from number_at s hs 119 (by unfold numL; decide) _ _ _ _ HI.out _).mono ?_
  rintro e_ w4 ⟨⟨v4, a4, e4, rfl, hi⟩, hb⟩
  have HF' : Aside0 (Fb w w4 w.heap.size a3 e3 #[.bool false, .int .u64 0, .int .u64 0, .string v1, .string v2, .string ⟨#[]⟩, .int .i64 v3, .int .i64 0, .int .i64 0, .int .i64 0, .int .i64 0, .int .i64 0, .int .u64 0]) := ⟨(HF.out.store (Nat.le_refl _) a3 e3 6 (.int .i64 v3)).call hb⟩
  clear HF hc hf hd hg hk hm hp hq hlt
  have HF := HF'
  clear HF'
  have HI' : Aside0 (Inv s (stepX s 119 (stepX s 118 (stepX s 109 (stepX s 104 (.ok (D.z, 0)))))) (⟨false, 0, 0, v1, v2, ⟨#[]⟩, v3, v4, 0, 0, 0, 0, 0⟩ : D) a4 e4) := ⟨hi⟩
  clear hi HI hb
  have HI := HI'
  clear HI'
  obtain ⟨hc, hf⟩ := cells_of_blk HF.out.cur
  obtain ⟨hd, hg⟩ := cells_of_blk HF.out.dat
  obtain ⟨hk, hm⟩ := cells_of_blk HF.out.resD
  dsimp only [D.z, D.cells] at hk
  obtain ⟨hp, hq⟩ := cells_of_blk HF.out.resC
  have hlt := lt_of_blk HF.out.dat
  go_wp2_with fail
  refine (show Calls Tryd.prog 74 #[.string s, .agg #[.int .i64 _, .int .i64 _], .int .i64 4] _ _ from number_at s hs 120 (by unfold numL; decide) _ _ _ _ HI.out _).mono ?_
  rintro e_ w5 ⟨⟨v5, a5, e5, rfl, hi⟩, hb⟩
  have HF' : Aside0 (Fb w w5 w.heap.size a4 e4 #[.bool false, .int .u64 0, .int .u64 0, .string v1, .string v2, .string ⟨#[]⟩, .int .i64 v3, .int .i64 v4, .int .i64 0, .int .i64 0, .int .i64 0, .int .i64 0, .int .u64 0]) := ⟨(HF.out.store (Nat.le_refl _) a4 e4 7 (.int .i64 v4)).call hb⟩
  clear HF hc hf hd hg hk hm hp hq hlt
  have HF := HF'
  clear HF'
  have HI' : Aside0 (Inv s (stepX s 120 (stepX s 119 (stepX s 118 (stepX s 109 (stepX s 104 (.ok (D.z, 0))))))) (⟨false, 0, 0, v1, v2, ⟨#[]⟩, v3, v4, v5, 0, 0, 0, 0⟩ : D) a5 e5) := ⟨hi⟩
  clear hi HI hb
  have HI := HI'
  clear HI'
  obtain ⟨hc, hf⟩ := cells_of_blk HF.out.cur
  obtain ⟨hd, hg⟩ := cells_of_blk HF.out.dat
  obtain ⟨hk, hm⟩ := cells_of_blk HF.out.resD
  dsimp only [D.z, D.cells] at hk
  obtain ⟨hp, hq⟩ := cells_of_blk HF.out.resC
  have hlt := lt_of_blk HF.out.dat
  go_wp2_with fail
  refine (show Calls Tryd.prog 74 #[.string s, .agg #[.int .i64 _, .int .i64 _], .int .i64 4] _ _ from number_at s hs 121 (by unfold numL; decide) _ _ _ _ HI.out _).mono ?_
  rintro e_ w6 ⟨⟨v6, a6, e6, rfl, hi⟩, hb⟩
  have HF' : Aside0 (Fb w w6 w.heap.size a5 e5 #[.bool false, .int .u64 0, .int .u64 0, .string v1, .string v2, .string ⟨#[]⟩, .int .i64 v3, .int .i64 v4, .int .i64 v5, .int .i64 0, .int .i64 0, .int .i64 0, .int .u64 0]) := ⟨(HF.out.store (Nat.le_refl _) a5 e5 8 (.int .i64 v5)).call hb⟩
  clear HF hc hf hd hg hk hm hp hq hlt
  have HF := HF'
  clear HF'
  have HI' : Aside0 (Inv s (stepX s 121 (stepX s 120 (stepX s 119 (stepX s 118 (stepX s 109 (stepX s 104 (.ok (D.z, 0)))))))) (⟨false, 0, 0, v1, v2, ⟨#[]⟩, v3, v4, v5, v6, 0, 0, 0⟩ : D) a6 e6) := ⟨hi⟩
  clear hi HI hb
  have HI := HI'
  clear HI'
  obtain ⟨hc, hf⟩ := cells_of_blk HF.out.cur
  obtain ⟨hd, hg⟩ := cells_of_blk HF.out.dat
  obtain ⟨hk, hm⟩ := cells_of_blk HF.out.resD
  dsimp only [D.z, D.cells] at hk
  obtain ⟨hp, hq⟩ := cells_of_blk HF.out.resC
  have hlt := lt_of_blk HF.out.dat
  go_wp2_with fail
  refine (show Calls Tryd.prog 74 #[.string s, .agg #[.int .i64 _, .int .i64 _], .int .i64 4] _ _ from number_at s hs 122 (by unfold numL; decide) _ _ _ _ HI.out _).mono ?_
  rintro e_ w7 ⟨⟨v7, a7, e7, rfl, hi⟩, hb⟩
  have HF' : Aside0 (Fb w w7 w.heap.size a6 e6 #[.bool false, .int .u64 0, .int .u64 0, .string v1, .string v2, .string ⟨#[]⟩, .int .i64 v3, .int .i64 v4, .int .i64 v5, .int .i64 v6, .int .i64 0, .int .i64 0, .int .u64 0]) := ⟨(HF.out.store (Nat.le_refl _) a6 e6 9 (.int .i64 v6)).call hb⟩
  clear HF hc hf hd hg hk hm hp hq hlt
  have HF := HF'
  clear HF'
  have HI' : Aside0 (Inv s (stepX s 122 (stepX s 121 (stepX s 120 (stepX s 119 (stepX s 118 (stepX s 109 (stepX s 104 (.ok (D.z, 0))))))))) (⟨false, 0, 0, v1, v2, ⟨#[]⟩, v3, v4, v5, v6, v7, 0, 0⟩ : D) a7 e7) := ⟨hi⟩
  clear hi HI hb
  have HI := HI'
  clear HI'
  obtain ⟨hc, hf⟩ := cells_of_blk HF.out.cur
  obtain ⟨hd, hg⟩ := cells_of_blk HF.out.dat
  obtain ⟨hk, hm⟩ := cells_of_blk HF.out.resD
  dsimp only [D.z, D.cells] at hk
  obtain ⟨hp, hq⟩ := cells_of_blk HF.out.resC
  have hlt := lt_of_blk HF.out.dat
  go_wp2_with fail
  go_region
  all_goals
    go_wp2
    obtain ⟨f1, f2, f3⟩ := (HF.out.store (Nat.le_refl _) a7 e7 10 (.int .i64 v7)).fin (Nat.le_refl _) (.bool false) (.int .u64 0) (.int .u64 0) (.string v1) (.string v2) (.string ⟨#[]⟩) (.int .i64 v3) (.int .i64 v4) (.int .i64 v5) (.int .i64 v6) (.int .i64 v7) (.int .i64 0) (.int .u64 0) a7 e7
    exact bodyPost_ret (results_cc rfl _ _ (w.heap.size + 1) (w.heap.size + 2) 26 67 #[.bool false, .int .u64 0, .int .u64 0, .string v1, .string v2, .string ⟨#[]⟩, .int .i64 v3, .int .i64 v4, .int .i64 v5, .int .i64 v6, .int .i64 v7, .int .i64 0, .int .u64 0] #[.int .i64 a7, .int .i64 e7] (0, 0) (0, 0) _ _ rfl f2 Tryd.underlying26 rfl (by kernel_rfl) rfl f3 Tryd.underlying67 rfl (by kernel_rfl)) rfl ⟨⟨(⟨false, 0, 0, v1, v2, ⟨#[]⟩, v3, v4, v5, v6, v7, 0, 0⟩ : D), _, _, rfl, HI.out⟩, f1⟩
theorem rf43 (s : ByteArray) (hs : s.size ≤ 1000000) (w : World) :
    Calls Tryd.prog 50 #[.int .i64 43, .string s, .agg #[.int .i64 0, .int .i64 0]] w fun ee w' => (∃ Y a e, ee = .returned (.tuple #[D.v Y, .agg #[.int .i64 a, .int .i64 e]]) ∧ Inv s (readX s (flds 43) (.ok (D.z, 0))) Y a e) ∧ Below w.heap.size w w' := by
  have hu := Tryd.underlying26
  have hu2 := Tryd.underlying24
  have hu3 := Tryd.underlying67
  have HF := Aside0.mk (Fb.new w 0 0)
  have HI : Aside0 (Inv s (.ok (D.z, 0)) (⟨false, 0, 0, ⟨#[]⟩, ⟨#[]⟩, ⟨#[]⟩, 0, 0, 0, 0, 0, 0, 0⟩ : D) 0 0) := ⟨inv_ok rfl rfl rfl rfl (Nat.zero_le _)⟩
  go_enter Tryd.func50, Tryd.ntmps50
  go_wp2_with fail
  refine (show Calls Tryd.prog 74 #[.string s, .agg #[.int .i64 _, .int .i64 _], .int .i64 2] _ _ from number_at s hs 65 (by unfold numL; decide) _ _ _ _ HI.out _).mono ?_
  rintro e_ w1 ⟨⟨v1, a1, e1, rfl, hi⟩, hb⟩
  have HF' : Aside0 (Fb w w1 w.heap.size 0 0 #[.bool false, .int .u64 0, .int .u64 0, .string ⟨#[]⟩, .string ⟨#[]⟩, .string ⟨#[]⟩, .int .i64 0, .int .i64 0, .int .i64 0, .int .i64 0, .int .i64 0, .int .i64 0, .int .u64 0]) := ⟨HF.out.call hb⟩
  clear HF
  have HF := HF'
  clear HF'
  have HI' : Aside0 (Inv s (stepX s 65 (.ok (D.z, 0))) (⟨false, 0, 0, ⟨#[]⟩, ⟨#[]⟩, ⟨#[]⟩, v1, 0, 0, 0, 0, 0, 0⟩ : D) a1 e1) := ⟨hi⟩
  clear hi HI hb
  have HI := HI'
  clear HI'
  obtain ⟨hc, hf⟩ := cells_of_blk HF.out.cur
  obtain ⟨hd, hg⟩ := cells_of_blk HF.out.dat
  obtain ⟨hk, hm⟩ := cells_of_blk HF.out.resD
  dsimp only [D.z, D.cells] at hk
  obtain ⟨hp, hq⟩ := cells_of_blk HF.out.resC
  have hlt := lt_of_blk HF.out.dat
  go_wp2_with fail
  refine (show Calls Tryd.prog 74 #[.string s, .agg #[.int .i64 _, .int .i64 _], .int .i64 1] _ _ from number_at s hs 98 (by unfold numL; decide) _ _ _ _ HI.out _).mono ?_
  rintro e_ w2 ⟨⟨v2, a2, e2, rfl, hi⟩, hb⟩
  have HF' : Aside0 (Fb w w2 w.heap.size a1 e1 #[.bool false, .int .u64 0, .int .u64 0, .string ⟨#[]⟩, .string ⟨#[]⟩, .string ⟨#[]⟩, .int .i64 v1, .int .i64 0, .int .i64 0, .int .i64 0, .int .i64 0, .int .i64 0, .int .u64 0]) := ⟨(HF.out.store (Nat.le_refl _) a1 e1 6 (.int .i64 v1)).call hb⟩
  clear HF hc hf hd hg hk hm hp hq hlt
  have HF := HF'
  clear HF'
  have HI' : Aside0 (Inv s (stepX s 98 (stepX s 65 (.ok (D.z, 0)))) (⟨false, 0, 0, ⟨#[]⟩, ⟨#[]⟩, ⟨#[]⟩, v1, v2, 0, 0, 0, 0, 0⟩ : D) a2 e2) := ⟨hi⟩
  clear hi HI hb
  have HI := HI'
  clear HI'
  obtain ⟨hc, hf⟩ := cells_of_blk HF.out.cur
  obtain ⟨hd, hg⟩ := cells_of_blk HF.out.dat
  obtain ⟨hk, hm⟩ := cells_of_blk HF.out.resD
  dsimp only [D.z, D.cells] at hk
  obtain ⟨hp, hq⟩ := cells_of_blk HF.out.resC
  have hlt := lt_of_blk HF.out.dat
  go_wp2_with fail
  refine (show Calls Tryd.prog 74 #[.string s, .agg #[.int .i64 _, .int .i64 _], .int .i64 1] _ _ from number_at s hs 99 (by unfold numL; decide) _ _ _ _ HI.out _).mono ?_
  rintro e_ w3 ⟨⟨v3, a3, e3, rfl, hi⟩, hb⟩
  have HF' : Aside0 (Fb w w3 w.heap.size a2 e2 #[.bool false, .int .u64 0, .int .u64 0, .string ⟨#[]⟩, .string ⟨#[]⟩, .string ⟨#[]⟩, .int .i64 v1, .int .i64 v2, .int .i64 0, .int .i64 0, .int .i64 0, .int .i64 0, .int .u64 0]) := ⟨(HF.out.store (Nat.le_refl _) a2 e2 7 (.int .i64 v2)).call hb⟩
  clear HF hc hf hd hg hk hm hp hq hlt
  have HF := HF'
  clear HF'
  have HI' : Aside0 (Inv s (stepX s 99 (stepX s 98 (stepX s 65 (.ok (D.z, 0))))) (⟨false, 0, 0, ⟨#[]⟩, ⟨#[]⟩, ⟨#[]⟩, v1, v2, v3, 0, 0, 0, 0⟩ : D) a3 e3) := ⟨hi⟩
  clear hi HI hb
  have HI := HI'
  clear HI'
  obtain ⟨hc, hf⟩ := cells_of_blk HF.out.cur
  obtain ⟨hd, hg⟩ := cells_of_blk HF.out.dat
  obtain ⟨hk, hm⟩ := cells_of_blk HF.out.resD
  dsimp only [D.z, D.cells] at hk
  obtain ⟨hp, hq⟩ := cells_of_blk HF.out.resC
  have hlt := lt_of_blk HF.out.dat
  go_wp2_with fail
  refine (rest_at s _ _ _ _ HI.out _).mono ?_
  rintro e_ w4 ⟨⟨v4, a4, e4, rfl, hi⟩, hb⟩
  have HF' : Aside0 (Fb w w4 w.heap.size a3 e3 #[.bool false, .int .u64 0, .int .u64 0, .string ⟨#[]⟩, .string ⟨#[]⟩, .string ⟨#[]⟩, .int .i64 v1, .int .i64 v2, .int .i64 v3, .int .i64 0, .int .i64 0, .int .i64 0, .int .u64 0]) := ⟨(HF.out.store (Nat.le_refl _) a3 e3 8 (.int .i64 v3)).call hb⟩
  clear HF hc hf hd hg hk hm hp hq hlt
  have HF := HF'
  clear HF'
  have HI' : Aside0 (Inv s (stepX s 114 (stepX s 99 (stepX s 98 (stepX s 65 (.ok (D.z, 0)))))) (⟨false, 0, 0, ⟨#[]⟩, ⟨#[]⟩, v4, v1, v2, v3, 0, 0, 0, 0⟩ : D) a4 e4) := ⟨hi⟩
  clear hi HI hb
  have HI := HI'
  clear HI'
  obtain ⟨hc, hf⟩ := cells_of_blk HF.out.cur
  obtain ⟨hd, hg⟩ := cells_of_blk HF.out.dat
  obtain ⟨hk, hm⟩ := cells_of_blk HF.out.resD
  dsimp only [D.z, D.cells] at hk
  obtain ⟨hp, hq⟩ := cells_of_blk HF.out.resC
  have hlt := lt_of_blk HF.out.dat
  go_wp2_with fail
  go_region
  all_goals
    go_wp2
    obtain ⟨f1, f2, f3⟩ := (HF.out.store (Nat.le_refl _) a4 e4 5 (.string v4)).fin (Nat.le_refl _) (.bool false) (.int .u64 0) (.int .u64 0) (.string ⟨#[]⟩) (.string ⟨#[]⟩) (.string v4) (.int .i64 v1) (.int .i64 v2) (.int .i64 v3) (.int .i64 0) (.int .i64 0) (.int .i64 0) (.int .u64 0) a4 e4
    exact bodyPost_ret (results_cc rfl _ _ (w.heap.size + 1) (w.heap.size + 2) 26 67 #[.bool false, .int .u64 0, .int .u64 0, .string ⟨#[]⟩, .string ⟨#[]⟩, .string v4, .int .i64 v1, .int .i64 v2, .int .i64 v3, .int .i64 0, .int .i64 0, .int .i64 0, .int .u64 0] #[.int .i64 a4, .int .i64 e4] (0, 0) (0, 0) _ _ rfl f2 Tryd.underlying26 rfl (by kernel_rfl) rfl f3 Tryd.underlying67 rfl (by kernel_rfl)) rfl ⟨⟨(⟨false, 0, 0, ⟨#[]⟩, ⟨#[]⟩, v4, v1, v2, v3, 0, 0, 0, 0⟩ : D), _, _, rfl, HI.out⟩, f1⟩
theorem rf48 (s : ByteArray) (hs : s.size ≤ 1000000) (w : World) :
    Calls Tryd.prog 50 #[.int .i64 48, .string s, .agg #[.int .i64 0, .int .i64 0]] w fun ee w' => (∃ Y a e, ee = .returned (.tuple #[D.v Y, .agg #[.int .i64 a, .int .i64 e]]) ∧ Inv s (readX s (flds 48) (.ok (D.z, 0))) Y a e) ∧ Below w.heap.size w w' := by
  have hu := Tryd.underlying26
  have hu2 := Tryd.underlying24
  have hu3 := Tryd.underlying67
  have HF := Aside0.mk (Fb.new w 0 0)
  have HI : Aside0 (Inv s (.ok (D.z, 0)) (⟨false, 0, 0, ⟨#[]⟩, ⟨#[]⟩, ⟨#[]⟩, 0, 0, 0, 0, 0, 0, 0⟩ : D) 0 0) := ⟨inv_ok rfl rfl rfl rfl (Nat.zero_le _)⟩
  go_enter Tryd.func50, Tryd.ntmps50
  go_wp2_with fail
  refine (show Calls Tryd.prog 74 #[.string s, .agg #[.int .i64 _, .int .i64 _], .int .i64 2] _ _ from number_at s hs 65 (by unfold numL; decide) _ _ _ _ HI.out _).mono ?_
  rintro e_ w1 ⟨⟨v1, a1, e1, rfl, hi⟩, hb⟩
  have HF' : Aside0 (Fb w w1 w.heap.size 0 0 #[.bool false, .int .u64 0, .int .u64 0, .string ⟨#[]⟩, .string ⟨#[]⟩, .string ⟨#[]⟩, .int .i64 0, .int .i64 0, .int .i64 0, .int .i64 0, .int .i64 0, .int .i64 0, .int .u64 0]) := ⟨HF.out.call hb⟩
  clear HF
  have HF := HF'
  clear HF'
  have HI' : Aside0 (Inv s (stepX s 65 (.ok (D.z, 0))) (⟨false, 0, 0, ⟨#[]⟩, ⟨#[]⟩, ⟨#[]⟩, v1, 0, 0, 0, 0, 0, 0⟩ : D) a1 e1) := ⟨hi⟩
  clear hi HI hb
  have HI := HI'
  clear HI'
  obtain ⟨hc, hf⟩ := cells_of_blk HF.out.cur
  obtain ⟨hd, hg⟩ := cells_of_blk HF.out.dat
  obtain ⟨hk, hm⟩ := cells_of_blk HF.out.resD
  dsimp only [D.z, D.cells] at hk
  obtain ⟨hp, hq⟩ := cells_of_blk HF.out.resC
  have hlt := lt_of_blk HF.out.dat
  go_wp2_with fail
  refine (show Calls Tryd.prog 74 #[.string s, .agg #[.int .i64 _, .int .i64 _], .int .i64 1] _ _ from number_at s hs 98 (by unfold numL; decide) _ _ _ _ HI.out _).mono ?_
  rintro e_ w2 ⟨⟨v2, a2, e2, rfl, hi⟩, hb⟩
  have HF' : Aside0 (Fb w w2 w.heap.size a1 e1 #[.bool false, .int .u64 0, .int .u64 0, .string ⟨#[]⟩, .string ⟨#[]⟩, .string ⟨#[]⟩, .int .i64 v1, .int .i64 0, .int .i64 0, .int .i64 0, .int .i64 0, .int .i64 0, .int .u64 0]) := ⟨(HF.out.store (Nat.le_refl _) a1 e1 6 (.int .i64 v1)).call hb⟩
  clear HF hc hf hd hg hk hm hp hq hlt
  have HF := HF'
  clear HF'
  have HI' : Aside0 (Inv s (stepX s 98 (stepX s 65 (.ok (D.z, 0)))) (⟨false, 0, 0, ⟨#[]⟩, ⟨#[]⟩, ⟨#[]⟩, v1, v2, 0, 0, 0, 0, 0⟩ : D) a2 e2) := ⟨hi⟩
  clear hi HI hb
  have HI := HI'
  clear HI'
  obtain ⟨hc, hf⟩ := cells_of_blk HF.out.cur
  obtain ⟨hd, hg⟩ := cells_of_blk HF.out.dat
  obtain ⟨hk, hm⟩ := cells_of_blk HF.out.resD
  dsimp only [D.z, D.cells] at hk
  obtain ⟨hp, hq⟩ := cells_of_blk HF.out.resC
  have hlt := lt_of_blk HF.out.dat
  go_wp2_with fail
  refine (show Calls Tryd.prog 74 #[.string s, .agg #[.int .i64 _, .int .i64 _], .int .i64 1] _ _ from number_at s hs 99 (by unfold numL; decide) _ _ _ _ HI.out _).mono ?_
  rintro e_ w3 ⟨⟨v3, a3, e3, rfl, hi⟩, hb⟩
  have HF' : Aside0 (Fb w w3 w.heap.size a2 e2 #[.bool false, .int .u64 0, .int .u64 0, .string ⟨#[]⟩, .string ⟨#[]⟩, .string ⟨#[]⟩, .int .i64 v1, .int .i64 v2, .int .i64 0, .int .i64 0, .int .i64 0, .int .i64 0, .int .u64 0]) := ⟨(HF.out.store (Nat.le_refl _) a2 e2 7 (.int .i64 v2)).call hb⟩
  clear HF hc hf hd hg hk hm hp hq hlt
  have HF := HF'
  clear HF'
  have HI' : Aside0 (Inv s (stepX s 99 (stepX s 98 (stepX s 65 (.ok (D.z, 0))))) (⟨false, 0, 0, ⟨#[]⟩, ⟨#[]⟩, ⟨#[]⟩, v1, v2, v3, 0, 0, 0, 0⟩ : D) a3 e3) := ⟨hi⟩
  clear hi HI hb
  have HI := HI'
  clear HI'
  obtain ⟨hc, hf⟩ := cells_of_blk HF.out.cur
  obtain ⟨hd, hg⟩ := cells_of_blk HF.out.dat
  obtain ⟨hk, hm⟩ := cells_of_blk HF.out.resD
  dsimp only [D.z, D.cells] at hk
  obtain ⟨hp, hq⟩ := cells_of_blk HF.out.resC
  have hlt := lt_of_blk HF.out.dat
  go_wp2_with fail
  refine (rest_at s _ _ _ _ HI.out _).mono ?_
  rintro e_ w4 ⟨⟨v4, a4, e4, rfl, hi⟩, hb⟩
  have HF' : Aside0 (Fb w w4 w.heap.size a3 e3 #[.bool false, .int .u64 0, .int .u64 0, .string ⟨#[]⟩, .string ⟨#[]⟩, .string ⟨#[]⟩, .int .i64 v1, .int .i64 v2, .int .i64 v3, .int .i64 0, .int .i64 0, .int .i64 0, .int .u64 0]) := ⟨(HF.out.store (Nat.le_refl _) a3 e3 8 (.int .i64 v3)).call hb⟩
  clear HF hc hf hd hg hk hm hp hq hlt
  have HF := HF'
  clear HF'
  have HI' : Aside0 (Inv s (stepX s 114 (stepX s 99 (stepX s 98 (stepX s 65 (.ok (D.z, 0)))))) (⟨false, 0, 0, ⟨#[]⟩, ⟨#[]⟩, v4, v1, v2, v3, 0, 0, 0, 0⟩ : D) a4 e4) := ⟨hi⟩
  clear hi HI hb
  have HI := HI'
  clear HI'
  obtain ⟨hc, hf⟩ := cells_of_blk HF.out.cur
  obtain ⟨hd, hg⟩ := cells_of_blk HF.out.dat
  obtain ⟨hk, hm⟩ := cells_of_blk HF.out.resD
  dsimp only [D.z, D.cells] at hk
  obtain ⟨hp, hq⟩ := cells_of_blk HF.out.resC
  have hlt := lt_of_blk HF.out.dat
  go_wp2_with fail
  go_region
  all_goals
    go_wp2
    obtain ⟨f1, f2, f3⟩ := (HF.out.store (Nat.le_refl _) a4 e4 5 (.string v4)).fin (Nat.le_refl _) (.bool false) (.int .u64 0) (.int .u64 0) (.string ⟨#[]⟩) (.string ⟨#[]⟩) (.string v4) (.int .i64 v1) (.int .i64 v2) (.int .i64 v3) (.int .i64 0) (.int .i64 0) (.int .i64 0) (.int .u64 0) a4 e4
    exact bodyPost_ret (results_cc rfl _ _ (w.heap.size + 1) (w.heap.size + 2) 26 67 #[.bool false, .int .u64 0, .int .u64 0, .string ⟨#[]⟩, .string ⟨#[]⟩, .string v4, .int .i64 v1, .int .i64 v2, .int .i64 v3, .int .i64 0, .int .i64 0, .int .i64 0, .int .u64 0] #[.int .i64 a4, .int .i64 e4] (0, 0) (0, 0) _ _ rfl f2 Tryd.underlying26 rfl (by kernel_rfl) rfl f3 Tryd.underlying67 rfl (by kernel_rfl)) rfl ⟨⟨(⟨false, 0, 0, ⟨#[]⟩, ⟨#[]⟩, v4, v1, v2, v3, 0, 0, 0, 0⟩ : D), _, _, rfl, HI.out⟩, f1⟩
theorem rf47 (s : ByteArray) (hs : s.size ≤ 1000000) (w : World) :
    Calls Tryd.prog 50 #[.int .i64 47, .string s, .agg #[.int .i64 0, .int .i64 0]] w fun ee w' => (∃ Y a e, ee = .returned (.tuple #[D.v Y, .agg #[.int .i64 a, .int .i64 e]]) ∧ Inv s (readX s (flds 47) (.ok (D.z, 0))) Y a e) ∧ Below w.heap.size w w' := by
  have hu := Tryd.underlying26
  have hu2 := Tryd.underlying24
  have hu3 := Tryd.underlying67
  have HF := Aside0.mk (Fb.new w 0 0)
  have HI : Aside0 (Inv s (.ok (D.z, 0)) (⟨false, 0, 0, ⟨#[]⟩, ⟨#[]⟩, ⟨#[]⟩, 0, 0, 0, 0, 0, 0, 0⟩ : D) 0 0) := ⟨inv_ok rfl rfl rfl rfl (Nat.zero_le _)⟩
  go_enter Tryd.func50, Tryd.ntmps50
  go_wp2_with fail
  refine (name_at s hs 104 (by decide) _ _ _ _ HI.out _).mono ?_
  rintro e_ w1 ⟨⟨v1, a1, e1, rfl, hi⟩, hb⟩
  have HF' : Aside0 (Fb w w1 w.heap.size 0 0 #[.bool false, .int .u64 0, .int .u64 0, .string ⟨#[]⟩, .string ⟨#[]⟩, .string ⟨#[]⟩, .int .i64 0, .int .i64 0, .int .i64 0, .int .i64 0, .int .i64 0, .int .i64 0, .int .u64 0]) := ⟨HF.out.call hb⟩
  clear HF
  have HF := HF'
  clear HF'
  have HI' : Aside0 (Inv s (stepX s 104 (.ok (D.z, 0))) (⟨false, 0, 0, v1, ⟨#[]⟩, ⟨#[]⟩, 0, 0, 0, 0, 0, 0, 0⟩ : D) a1 e1) := ⟨hi⟩
  clear hi HI hb
  have HI := HI'
  clear HI'
  obtain ⟨hc, hf⟩ := cells_of_blk HF.out.cur
  obtain ⟨hd, hg⟩ := cells_of_blk HF.out.dat
  obtain ⟨hk, hm⟩ := cells_of_blk HF.out.resD
  dsimp only [D.z, D.cells] at hk
  obtain ⟨hp, hq⟩ := cells_of_blk HF.out.resC
  have hlt := lt_of_blk HF.out.dat
  go_wp2_with fail
  refine (bits_at s hs _ _ _ _ HI.out _).mono ?_
  rintro e_ w2 ⟨⟨v2, a2, e2, rfl, hi⟩, hb⟩
  have HF' : Aside0 (Fb w w2 w.heap.size a1 e1 #[.bool false, .int .u64 0, .int .u64 0, .string v1, .string ⟨#[]⟩, .string ⟨#[]⟩, .int .i64 0, .int .i64 0, .int .i64 0, .int .i64 0, .int .i64 0, .int .i64 0, .int .u64 0]) := ⟨(HF.out.store (Nat.le_refl _) a1 e1 3 (.string v1)).call hb⟩
  clear HF hc hf hd hg hk hm hp hq hlt
  have HF := HF'
  clear HF'
  have HI' : Aside0 (Inv s (stepX s 110 (stepX s 104 (.ok (D.z, 0)))) (⟨false, 0, 0, v1, ⟨#[]⟩, ⟨#[]⟩, 0, 0, 0, 0, 0, 0, v2⟩ : D) a2 e2) := ⟨hi⟩
  clear hi HI hb
  have HI := HI'
  clear HI'
  obtain ⟨hc, hf⟩ := cells_of_blk HF.out.cur
  obtain ⟨hd, hg⟩ := cells_of_blk HF.out.dat
  obtain ⟨hk, hm⟩ := cells_of_blk HF.out.resD
  dsimp only [D.z, D.cells] at hk
  obtain ⟨hp, hq⟩ := cells_of_blk HF.out.resC
  have hlt := lt_of_blk HF.out.dat
  go_wp2_with fail
  go_region
  all_goals
    go_wp2
    obtain ⟨f1, f2, f3⟩ := (HF.out.store (Nat.le_refl _) a2 e2 12 (.int .u64 v2)).fin (Nat.le_refl _) (.bool false) (.int .u64 0) (.int .u64 0) (.string v1) (.string ⟨#[]⟩) (.string ⟨#[]⟩) (.int .i64 0) (.int .i64 0) (.int .i64 0) (.int .i64 0) (.int .i64 0) (.int .i64 0) (.int .u64 v2) a2 e2
    exact bodyPost_ret (results_cc rfl _ _ (w.heap.size + 1) (w.heap.size + 2) 26 67 #[.bool false, .int .u64 0, .int .u64 0, .string v1, .string ⟨#[]⟩, .string ⟨#[]⟩, .int .i64 0, .int .i64 0, .int .i64 0, .int .i64 0, .int .i64 0, .int .i64 0, .int .u64 v2] #[.int .i64 a2, .int .i64 e2] (0, 0) (0, 0) _ _ rfl f2 Tryd.underlying26 rfl (by kernel_rfl) rfl f3 Tryd.underlying67 rfl (by kernel_rfl)) rfl ⟨⟨(⟨false, 0, 0, v1, ⟨#[]⟩, ⟨#[]⟩, 0, 0, 0, 0, 0, 0, v2⟩ : D), _, _, rfl, HI.out⟩, f1⟩

end Go.Proofs.YtaehonmfoanloaaDoor.Hand
namespace Go.Proofs.YtaehonmfoanloaaDoor.Hand
open Go.RowKit Go.Proofs.YtaehonmfoanloaaDoorW.PrintWords Go.Proofs.YtaehonmfoanloaaDoor.RdW Go.Proofs.YtaehonmfoanloaaDoor.PA
set_option maxHeartbeats 40000000
set_option maxRecDepth 100000
set_option linter.all false
theorem Fb.putA {w V : World} {g : Nat} {a e : Int} {cs : Array Value} (h : Fb w V g a e cs) (hg : w.heap.size ≤ g) (x y z : Value) (o : Obj) : Fb w ((((V.setCell ⟨g + 1 + 1 + 1, 0, none⟩ x).setCell ⟨g + 1 + 1 + 1, 1, none⟩ y).setCell ⟨g + 1 + 1 + 1, 2, none⟩ z).alloc o) g a e (((cs.setIfInBounds 0 x).setIfInBounds 1 y).setIfInBounds 2 z) := by
  have h3 := ((h.stepD hg 0 x).stepD hg 1 y).stepD hg 2 z
  exact ⟨al h3.below o, alloc_keep h3.cur, alloc_keep h3.resD, alloc_keep h3.resC, alloc_keep h3.dat⟩
theorem Fb.drewn {w V : World} {g : Nat} {a e : Int} {cs : Array Value} (h : Fb w V g a e cs) : Fb w V.drew g a e cs := ⟨dr h.below, h.cur, h.resD, h.resC, h.dat⟩
/-- The run of bytes at the start: short, or these. -/
def Run1 (s m : ByteArray) (a e : Int) : Prop := (rTake 4 (rem s 0) = .error 6 ∧ e = 6) ∨ ∃ l rest, rTake 4 (rem s 0) = .ok (l, rest) ∧ l.length = 4 ∧ m = strOf l ∧ a = ((s.size - rest.length : Nat) : Int) ∧ e = 0
theorem run1_at (s : ByteArray) (hs : s.size ≤ 1000000) (w : World) :
    Calls Tryd.prog 71 #[.string s, .agg #[.int .i64 0, .int .i64 0], .int .i64 4] w fun ee w' => (∃ m a e, ee = .returned (.tuple #[.string m, .agg #[.int .i64 a, .int .i64 e]]) ∧ Run1 s m a e) ∧ Below w.heap.size w w' := by
  have hrun := run_eq s hs 4 0 (by omega) (Nat.zero_le _)
  refine (ddiref05_run.calls s 0 0 4 _ _ _ w hrun).mono fun ee w' hh => ⟨⟨_, _, _, hh.1, ?_⟩, hh.2⟩
  unfold Run1
  unfold rTake
  by_cases h : 4 ≤ (rem s 0).length
  · rw [if_pos h]
    exact Or.inr ⟨_, _, rfl, List.length_take_of_le h, rfl, rfl, rfl⟩
  · rw [if_neg h]
    exact Or.inl ⟨rfl, rfl⟩
theorem addr1_at (l : List UInt8) (hl : l.length = 4) (w : World) :
    Calls Tryd.prog 72 #[.string (strOf l)] w fun ee w' => ee = .returned (.tuple #[.agg #[.bool false, .int .u64 0, .int .u64 ((val l 0 : Nat) : Int)], .int .i64 0]) ∧ Below w.heap.size w w' := by
  obtain ⟨k, hk⟩ := (rRead4_ev l hl).rounds
  exact ddiref02_Read.calls k _ _ _ _ _ w hk
theorem rf1 (s : ByteArray) (hs : s.size ≤ 1000000) (w : World) :
    Calls Tryd.prog 50 #[.int .i64 1, .string s, .agg #[.int .i64 0, .int .i64 0]] w fun ee w' => (∃ Y a e, ee = .returned (.tuple #[D.v Y, .agg #[.int .i64 a, .int .i64 e]]) ∧ Inv s (readX s (flds 1) (.ok (D.z, 0))) Y a e) ∧ Below w.heap.size w w' := by
  have hu := Tryd.underlying26
  have hu2 := Tryd.underlying24
  have hu3 := Tryd.underlying67
  have HF := Aside0.mk (Fb.new w 0 0)
  have hst : Aside0 (stepX s 52 (.ok (D.z, 0)) = match mapR (rTake 4 (rem s 0)) (fun l => { D.z with v6 := false, hi := 0, lo := ((val l 0 : Nat) : Int) }) with | .ok (y, rest) => .ok (y, s.size - rest.length) | .error n => .error n) := ⟨rfl⟩
  go_enter Tryd.func50, Tryd.ntmps50
  go_wp2_with fail
  refine (run1_at s hs _).mono ?_
  rintro e_ w1 ⟨⟨v1, a1, e1, rfl, hi⟩, hb⟩
  have HF' : Aside0 (Fb w w1 w.heap.size 0 0 #[.bool false, .int .u64 0, .int .u64 0, .string ⟨#[]⟩, .string ⟨#[]⟩, .string ⟨#[]⟩, .int .i64 0, .int .i64 0, .int .i64 0, .int .i64 0, .int .i64 0, .int .i64 0, .int .u64 0]) := ⟨HF.out.call hb⟩
  clear HF hb
  have HF := HF'
  clear HF'
  obtain ⟨hc, hf⟩ := cells_of_blk HF.out.cur
  obtain ⟨hd, hg⟩ := cells_of_blk HF.out.dat
  obtain ⟨hk, hm⟩ := cells_of_blk HF.out.resD
  dsimp only [D.z, D.cells] at hk
  obtain ⟨hp, hq⟩ := cells_of_blk HF.out.resC
  have hlt := lt_of_blk HF.out.dat
  rcases hi with ⟨hq, rfl⟩ | ⟨l, rest, hq, hll, rfl, rfl, rfl⟩
  · have HI : Aside0 (Inv s (stepX s 52 (.ok (D.z, 0))) (⟨false, 0, 0, ⟨#[]⟩, ⟨#[]⟩, ⟨#[]⟩, 0, 0, 0, 0, 0, 0, 0⟩ : D) a1 6) := ⟨inv_err (n := 6) (by rw [hst.out, hq]; rfl) rfl (by decide)⟩
    clear hq hst
    go_wp2_with fail
    go_region
    all_goals
      go_wp2
      obtain ⟨f1, f2, f3⟩ := (HF.out.stepC (Nat.le_refl _) a1 6).fin (Nat.le_refl _) (.bool false) (.int .u64 0) (.int .u64 0) (.string ⟨#[]⟩) (.string ⟨#[]⟩) (.string ⟨#[]⟩) (.int .i64 0) (.int .i64 0) (.int .i64 0) (.int .i64 0) (.int .i64 0) (.int .i64 0) (.int .u64 0) a1 6
      exact bodyPost_ret (results_cc rfl _ _ (w.heap.size + 1) (w.heap.size + 2) 26 67 #[.bool false, .int .u64 0, .int .u64 0, .string ⟨#[]⟩, .string ⟨#[]⟩, .string ⟨#[]⟩, .int .i64 0, .int .i64 0, .int .i64 0, .int .i64 0, .int .i64 0, .int .i64 0, .int .u64 0] #[.int .i64 a1, .int .i64 6] (0, 0) (0, 0) _ _ rfl f2 Tryd.underlying26 rfl (by kernel_rfl) rfl f3 Tryd.underlying67 rfl (by kernel_rfl)) rfl ⟨⟨(⟨false, 0, 0, ⟨#[]⟩, ⟨#[]⟩, ⟨#[]⟩, 0, 0, 0, 0, 0, 0, 0⟩ : D), _, _, rfl, HI.out⟩, f1⟩
  · have HI : Aside0 (Inv s (stepX s 52 (.ok (D.z, 0))) (⟨false, ((0)), ((((val l 0 : Nat) : Int))), ⟨#[]⟩, ⟨#[]⟩, ⟨#[]⟩, 0, 0, 0, 0, 0, 0, 0⟩ : D) ((s.size - rest.length : Nat) : Int) 0) := ⟨inv_ok (by rw [hst.out, hq]; rfl) rfl rfl rfl (Nat.sub_le _ _)⟩
    clear hq hst
    generalize ((s.size - rest.length : Nat) : Int) = a1 at HI ⊢
    go_wp2_with fail
    refine (addr1_at l hll _).mono ?_
    rintro e_ w2 ⟨rfl, hb⟩
    have HF' : Aside0 (Fb w w2 w.heap.size a1 0 #[.bool false, .int .u64 0, .int .u64 0, .string ⟨#[]⟩, .string ⟨#[]⟩, .string ⟨#[]⟩, .int .i64 0, .int .i64 0, .int .i64 0, .int .i64 0, .int .i64 0, .int .i64 0, .int .u64 0]) := ⟨(HF.out.stepC (Nat.le_refl _) a1 0).call hb⟩
    clear HF hb hc hf hd hg hk hm hp hq hlt
    have HF := HF'
    clear HF'
    obtain ⟨hc, hf⟩ := cells_of_blk HF.out.cur
    obtain ⟨hd, hg⟩ := cells_of_blk HF.out.dat
    obtain ⟨hk, hm⟩ := cells_of_blk HF.out.resD
    dsimp only [D.z, D.cells] at hk
    obtain ⟨hp, hq⟩ := cells_of_blk HF.out.resC
    have hlt := lt_of_blk HF.out.dat
    have HG : Aside0 (Fb w ((((w2.setCell ⟨w.heap.size + 1 + 1 + 1, 0, none⟩ (.bool false)).setCell ⟨w.heap.size + 1 + 1 + 1, 1, none⟩ (.int .u64 (0))).setCell ⟨w.heap.size + 1 + 1 + 1, 2, none⟩ (.int .u64 (((val l 0 : Nat) : Int)))).alloc (.cells #[.bool false, .int .u64 (0), .int .u64 (((val l 0 : Nat) : Int))] 24)) w.heap.size a1 0 #[.bool false, .int .u64 ((0)), .int .u64 ((((val l 0 : Nat) : Int))), .string ⟨#[]⟩, .string ⟨#[]⟩, .string ⟨#[]⟩, .int .i64 0, .int .i64 0, .int .i64 0, .int .i64 0, .int .i64 0, .int .i64 0, .int .u64 0]) := ⟨HF.out.putA (Nat.le_refl _) _ _ _ _⟩
    obtain ⟨hd', hg'⟩ := cells_of_blk HG.out.dat
    obtain ⟨hc', hf'⟩ := cells_of_blk HG.out.cur
    obtain ⟨hk', hm'⟩ := cells_of_blk HG.out.resD
    dsimp only [D.z, D.cells] at hk'
    obtain ⟨hp', hq'⟩ := cells_of_blk HG.out.resC
    go_wp2_with fail
    go_region
    all_goals
      go_wp2
      obtain ⟨f1, f2, f3⟩ := HG.out.fin (Nat.le_refl _) (.bool false) (.int .u64 ((0))) (.int .u64 ((((val l 0 : Nat) : Int)))) (.string ⟨#[]⟩) (.string ⟨#[]⟩) (.string ⟨#[]⟩) (.int .i64 0) (.int .i64 0) (.int .i64 0) (.int .i64 0) (.int .i64 0) (.int .i64 0) (.int .u64 0) a1 0
      exact bodyPost_ret (results_cc rfl _ _ (w.heap.size + 1) (w.heap.size + 2) 26 67 #[.bool false, .int .u64 ((0)), .int .u64 ((((val l 0 : Nat) : Int))), .string ⟨#[]⟩, .string ⟨#[]⟩, .string ⟨#[]⟩, .int .i64 0, .int .i64 0, .int .i64 0, .int .i64 0, .int .i64 0, .int .i64 0, .int .u64 0] #[.int .i64 a1, .int .i64 0] (0, 0) (0, 0) _ _ rfl f2 Tryd.underlying26 rfl (by kernel_rfl) rfl f3 Tryd.underlying67 rfl (by kernel_rfl)) rfl ⟨⟨(⟨false, ((0)), ((((val l 0 : Nat) : Int))), ⟨#[]⟩, ⟨#[]⟩, ⟨#[]⟩, 0, 0, 0, 0, 0, 0, 0⟩ : D), _, _, rfl, HI.out⟩, f1⟩
/-- The run of bytes at the start: short, or these. -/
def Run28 (s m : ByteArray) (a e : Int) : Prop := (rTake 16 (rem s 0) = .error 6 ∧ e = 6) ∨ ∃ l rest, rTake 16 (rem s 0) = .ok (l, rest) ∧ l.length = 16 ∧ m = strOf l ∧ a = ((s.size - rest.length : Nat) : Int) ∧ e = 0
theorem run28_at (s : ByteArray) (hs : s.size ≤ 1000000) (w : World) :
    Calls Tryd.prog 71 #[.string s, .agg #[.int .i64 0, .int .i64 0], .int .i64 16] w fun ee w' => (∃ m a e, ee = .returned (.tuple #[.string m, .agg #[.int .i64 a, .int .i64 e]]) ∧ Run28 s m a e) ∧ Below w.heap.size w w' := by
  have hrun := run_eq s hs 16 0 (by omega) (Nat.zero_le _)
  refine (ddiref05_run.calls s 0 0 16 _ _ _ w hrun).mono fun ee w' hh => ⟨⟨_, _, _, hh.1, ?_⟩, hh.2⟩
  unfold Run28
  unfold rTake
  by_cases h : 16 ≤ (rem s 0).length
  · rw [if_pos h]
    exact Or.inr ⟨_, _, rfl, List.length_take_of_le h, rfl, rfl, rfl⟩
  · rw [if_neg h]
    exact Or.inl ⟨rfl, rfl⟩
theorem addr28_at (l : List UInt8) (hl : l.length = 16) (w : World) :
    Calls Tryd.prog 72 #[.string (strOf l)] w fun ee w' => ee = .returned (.tuple #[.agg #[.bool true, .int .u64 ((val (l.take 8) 0 : Nat) : Int), .int .u64 ((val (l.drop 8) 0 : Nat) : Int)], .int .i64 0]) ∧ Below w.heap.size w w' := by
  obtain ⟨k, hk⟩ := (rRead16_ev l hl).rounds
  exact ddiref02_Read.calls k _ _ _ _ _ w hk
theorem rf28 (s : ByteArray) (hs : s.size ≤ 1000000) (w : World) :
    Calls Tryd.prog 50 #[.int .i64 28, .string s, .agg #[.int .i64 0, .int .i64 0]] w fun ee w' => (∃ Y a e, ee = .returned (.tuple #[D.v Y, .agg #[.int .i64 a, .int .i64 e]]) ∧ Inv s (readX s (flds 28) (.ok (D.z, 0))) Y a e) ∧ Below w.heap.size w w' := by
  have hu := Tryd.underlying26
  have hu2 := Tryd.underlying24
  have hu3 := Tryd.underlying67
  have HF := Aside0.mk (Fb.new w 0 0)
  have hst : Aside0 (stepX s 54 (.ok (D.z, 0)) = match mapR (rTake 16 (rem s 0)) (fun l => { D.z with v6 := true, hi := ((val (l.take 8) 0 : Nat) : Int), lo := ((val (l.drop 8) 0 : Nat) : Int) }) with | .ok (y, rest) => .ok (y, s.size - rest.length) | .error n => .error n) := ⟨rfl⟩
  go_enter Tryd.func50, Tryd.ntmps50
  go_wp2_with fail
  refine (run28_at s hs _).mono ?_
  rintro e_ w1 ⟨⟨v1, a1, e1, rfl, hi⟩, hb⟩
  have HF' : Aside0 (Fb w w1 w.heap.size 0 0 #[.bool false, .int .u64 0, .int .u64 0, .string ⟨#[]⟩, .string ⟨#[]⟩, .string ⟨#[]⟩, .int .i64 0, .int .i64 0, .int .i64 0, .int .i64 0, .int .i64 0, .int .i64 0, .int .u64 0]) := ⟨HF.out.call hb⟩
  clear HF hb
  have HF := HF'
  clear HF'
  obtain ⟨hc, hf⟩ := cells_of_blk HF.out.cur
  obtain ⟨hd, hg⟩ := cells_of_blk HF.out.dat
  obtain ⟨hk, hm⟩ := cells_of_blk HF.out.resD
  dsimp only [D.z, D.cells] at hk
  obtain ⟨hp, hq⟩ := cells_of_blk HF.out.resC
  have hlt := lt_of_blk HF.out.dat
  rcases hi with ⟨hq, rfl⟩ | ⟨l, rest, hq, hll, rfl, rfl, rfl⟩
  · have HI : Aside0 (Inv s (stepX s 54 (.ok (D.z, 0))) (⟨false, 0, 0, ⟨#[]⟩, ⟨#[]⟩, ⟨#[]⟩, 0, 0, 0, 0, 0, 0, 0⟩ : D) a1 6) := ⟨inv_err (n := 6) (by rw [hst.out, hq]; rfl) rfl (by decide)⟩
    clear hq hst
    go_wp2_with fail
    go_region
    all_goals
      go_wp2
      obtain ⟨f1, f2, f3⟩ := (HF.out.stepC (Nat.le_refl _) a1 6).fin (Nat.le_refl _) (.bool false) (.int .u64 0) (.int .u64 0) (.string ⟨#[]⟩) (.string ⟨#[]⟩) (.string ⟨#[]⟩) (.int .i64 0) (.int .i64 0) (.int .i64 0) (.int .i64 0) (.int .i64 0) (.int .i64 0) (.int .u64 0) a1 6
      exact bodyPost_ret (results_cc rfl _ _ (w.heap.size + 1) (w.heap.size + 2) 26 67 #[.bool false, .int .u64 0, .int .u64 0, .string ⟨#[]⟩, .string ⟨#[]⟩, .string ⟨#[]⟩, .int .i64 0, .int .i64 0, .int .i64 0, .int .i64 0, .int .i64 0, .int .i64 0, .int .u64 0] #[.int .i64 a1, .int .i64 6] (0, 0) (0, 0) _ _ rfl f2 Tryd.underlying26 rfl (by kernel_rfl) rfl f3 Tryd.underlying67 rfl (by kernel_rfl)) rfl ⟨⟨(⟨false, 0, 0, ⟨#[]⟩, ⟨#[]⟩, ⟨#[]⟩, 0, 0, 0, 0, 0, 0, 0⟩ : D), _, _, rfl, HI.out⟩, f1⟩
  · have HI : Aside0 (Inv s (stepX s 54 (.ok (D.z, 0))) (⟨true, ((((val (l.take 8) 0 : Nat) : Int))), ((((val (l.drop 8) 0 : Nat) : Int))), ⟨#[]⟩, ⟨#[]⟩, ⟨#[]⟩, 0, 0, 0, 0, 0, 0, 0⟩ : D) ((s.size - rest.length : Nat) : Int) 0) := ⟨inv_ok (by rw [hst.out, hq]; rfl) rfl rfl rfl (Nat.sub_le _ _)⟩
    clear hq hst
    generalize ((s.size - rest.length : Nat) : Int) = a1 at HI ⊢
    go_wp2_with fail
    refine (addr28_at l hll _).mono ?_
    rintro e_ w2 ⟨rfl, hb⟩
    have HF' : Aside0 (Fb w w2 w.heap.size a1 0 #[.bool false, .int .u64 0, .int .u64 0, .string ⟨#[]⟩, .string ⟨#[]⟩, .string ⟨#[]⟩, .int .i64 0, .int .i64 0, .int .i64 0, .int .i64 0, .int .i64 0, .int .i64 0, .int .u64 0]) := ⟨(HF.out.stepC (Nat.le_refl _) a1 0).call hb⟩
    clear HF hb hc hf hd hg hk hm hp hq hlt
    have HF := HF'
    clear HF'
    obtain ⟨hc, hf⟩ := cells_of_blk HF.out.cur
    obtain ⟨hd, hg⟩ := cells_of_blk HF.out.dat
    obtain ⟨hk, hm⟩ := cells_of_blk HF.out.resD
    dsimp only [D.z, D.cells] at hk
    obtain ⟨hp, hq⟩ := cells_of_blk HF.out.resC
    have hlt := lt_of_blk HF.out.dat
    have HG : Aside0 (Fb w ((((w2.setCell ⟨w.heap.size + 1 + 1 + 1, 0, none⟩ (.bool true)).setCell ⟨w.heap.size + 1 + 1 + 1, 1, none⟩ (.int .u64 (((val (l.take 8) 0 : Nat) : Int)))).setCell ⟨w.heap.size + 1 + 1 + 1, 2, none⟩ (.int .u64 (((val (l.drop 8) 0 : Nat) : Int)))).alloc (.cells #[.bool true, .int .u64 (((val (l.take 8) 0 : Nat) : Int)), .int .u64 (((val (l.drop 8) 0 : Nat) : Int))] 24)) w.heap.size a1 0 #[.bool true, .int .u64 ((((val (l.take 8) 0 : Nat) : Int))), .int .u64 ((((val (l.drop 8) 0 : Nat) : Int))), .string ⟨#[]⟩, .string ⟨#[]⟩, .string ⟨#[]⟩, .int .i64 0, .int .i64 0, .int .i64 0, .int .i64 0, .int .i64 0, .int .i64 0, .int .u64 0]) := ⟨HF.out.putA (Nat.le_refl _) _ _ _ _⟩
    obtain ⟨hd', hg'⟩ := cells_of_blk HG.out.dat
    obtain ⟨hc', hf'⟩ := cells_of_blk HG.out.cur
    obtain ⟨hk', hm'⟩ := cells_of_blk HG.out.resD
    dsimp only [D.z, D.cells] at hk'
    obtain ⟨hp', hq'⟩ := cells_of_blk HG.out.resC
    go_wp2_with fail
    go_region
    all_goals
      go_wp2
      obtain ⟨f1, f2, f3⟩ := HG.out.fin (Nat.le_refl _) (.bool true) (.int .u64 ((((val (l.take 8) 0 : Nat) : Int)))) (.int .u64 ((((val (l.drop 8) 0 : Nat) : Int)))) (.string ⟨#[]⟩) (.string ⟨#[]⟩) (.string ⟨#[]⟩) (.int .i64 0) (.int .i64 0) (.int .i64 0) (.int .i64 0) (.int .i64 0) (.int .i64 0) (.int .u64 0) a1 0
      exact bodyPost_ret (results_cc rfl _ _ (w.heap.size + 1) (w.heap.size + 2) 26 67 #[.bool true, .int .u64 ((((val (l.take 8) 0 : Nat) : Int))), .int .u64 ((((val (l.drop 8) 0 : Nat) : Int))), .string ⟨#[]⟩, .string ⟨#[]⟩, .string ⟨#[]⟩, .int .i64 0, .int .i64 0, .int .i64 0, .int .i64 0, .int .i64 0, .int .i64 0, .int .u64 0] #[.int .i64 a1, .int .i64 0] (0, 0) (0, 0) _ _ rfl f2 Tryd.underlying26 rfl (by kernel_rfl) rfl f3 Tryd.underlying67 rfl (by kernel_rfl)) rfl ⟨⟨(⟨true, ((((val (l.take 8) 0 : Nat) : Int))), ((((val (l.drop 8) 0 : Nat) : Int))), ⟨#[]⟩, ⟨#[]⟩, ⟨#[]⟩, 0, 0, 0, 0, 0, 0, 0⟩ : D), _, _, rfl, HI.out⟩, f1⟩
end Go.Proofs.YtaehonmfoanloaaDoor.Hand
namespace Go.Proofs.YtaehonmfoanloaaDoor.Hand
open Go.RowKit Go.Proofs.YtaehonmfoanloaaDoorW.PrintWords Go.Proofs.YtaehonmfoanloaaDoor.RdW
set_option maxHeartbeats 40000000
set_option maxRecDepth 100000
set_option linter.all false
theorem finB0 {w V : World} {g : Nat} {cs : Array Value} (hg : w.heap.size ≤ g) (hb : Below w.heap.size w V) (h1 : V.heap[g + 1]? = some (.cells cs 26 (0, 0))) (h2 : V.heap[g + 2]? = some (.cells #[.int .i64 0, .int .i64 0] 67 (0, 0))) (p q : Int) :
    Below w.heap.size w ((V.setCell ⟨g + 2, 0, none⟩ (.int .i64 p)).setCell ⟨g + 2, 1, none⟩ (.int .i64 q)) ∧ ((V.setCell ⟨g + 2, 0, none⟩ (.int .i64 p)).setCell ⟨g + 2, 1, none⟩ (.int .i64 q)).heap[g + 1]? = some (.cells cs 26 (0, 0)) ∧ ((V.setCell ⟨g + 2, 0, none⟩ (.int .i64 p)).setCell ⟨g + 2, 1, none⟩ (.int .i64 q)).heap[g + 2]? = some (.cells #[.int .i64 p, .int .i64 q] 67 (0, 0)) := by
  have h3 := far (far h1 (show g + 1 ≠ g + 2 by omega) 0 (.int .i64 p)) (show g + 1 ≠ g + 2 by omega) 1 (.int .i64 q)
  have h4 := set2 h2 (.int .i64 p) (.int .i64 q)
  have h5 := setNew (setNew hb (show w.heap.size ≤ g + 2 by omega) 0 (.int .i64 p)) (show w.heap.size ≤ g + 2 by omega) 1 (.int .i64 q)
  exact ⟨h5, h3, h4⟩
theorem Fb.fin0 {w V : World} {g : Nat} {a e : Int} {cs : Array Value} (h : Fb w V g a e cs) (hg : w.heap.size ≤ g) (y0 y1 y2 y3 y4 y5 y6 y7 y8 y9 y10 y11 y12 : Value) (p q : Int) :
    Below w.heap.size w (((((((((((((((V.setCell ⟨g + 1, 0, none⟩ y0).setCell ⟨g + 1, 1, none⟩ y1).setCell ⟨g + 1, 2, none⟩ y2).setCell ⟨g + 1, 3, none⟩ y3).setCell ⟨g + 1, 4, none⟩ y4).setCell ⟨g + 1, 5, none⟩ y5).setCell ⟨g + 1, 6, none⟩ y6).setCell ⟨g + 1, 7, none⟩ y7).setCell ⟨g + 1, 8, none⟩ y8).setCell ⟨g + 1, 9, none⟩ y9).setCell ⟨g + 1, 10, none⟩ y10).setCell ⟨g + 1, 11, none⟩ y11).setCell ⟨g + 1, 12, none⟩ y12).setCell ⟨g + 2, 0, none⟩ (.int .i64 p)).setCell ⟨g + 2, 1, none⟩ (.int .i64 q)) ∧ (((((((((((((((V.setCell ⟨g + 1, 0, none⟩ y0).setCell ⟨g + 1, 1, none⟩ y1).setCell ⟨g + 1, 2, none⟩ y2).setCell ⟨g + 1, 3, none⟩ y3).setCell ⟨g + 1, 4, none⟩ y4).setCell ⟨g + 1, 5, none⟩ y5).setCell ⟨g + 1, 6, none⟩ y6).setCell ⟨g + 1, 7, none⟩ y7).setCell ⟨g + 1, 8, none⟩ y8).setCell ⟨g + 1, 9, none⟩ y9).setCell ⟨g + 1, 10, none⟩ y10).setCell ⟨g + 1, 11, none⟩ y11).setCell ⟨g + 1, 12, none⟩ y12).setCell ⟨g + 2, 0, none⟩ (.int .i64 p)).setCell ⟨g + 2, 1, none⟩ (.int .i64 q)).heap[g + 1]? = some (.cells #[y0, y1, y2, y3, y4, y5, y6, y7, y8, y9, y10, y11, y12] 26 (0, 0)) ∧ (((((((((((((((V.setCell ⟨g + 1, 0, none⟩ y0).setCell ⟨g + 1, 1, none⟩ y1).setCell ⟨g + 1, 2, none⟩ y2).setCell ⟨g + 1, 3, none⟩ y3).setCell ⟨g + 1, 4, none⟩ y4).setCell ⟨g + 1, 5, none⟩ y5).setCell ⟨g + 1, 6, none⟩ y6).setCell ⟨g + 1, 7, none⟩ y7).setCell ⟨g + 1, 8, none⟩ y8).setCell ⟨g + 1, 9, none⟩ y9).setCell ⟨g + 1, 10, none⟩ y10).setCell ⟨g + 1, 11, none⟩ y11).setCell ⟨g + 1, 12, none⟩ y12).setCell ⟨g + 2, 0, none⟩ (.int .i64 p)).setCell ⟨g + 2, 1, none⟩ (.int .i64 q)).heap[g + 2]? = some (.cells #[.int .i64 p, .int .i64 q] 67 (0, 0)) :=
  finB0 hg (h.fin13 hg y0 y1 y2 y3 y4 y5 y6 y7 y8 y9 y10 y11 y12).1 (h.fin13 hg y0 y1 y2 y3 y4 y5 y6 y7 y8 y9 y10 y11 y12).2.1 (h.fin13 hg y0 y1 y2 y3 y4 y5 y6 y7 y8 y9 y10 y11 y12).2.2 p q
theorem rf46 (s : ByteArray) (hs : s.size ≤ 1000000) (w : World) :
    Calls Tryd.prog 50 #[.int .i64 46, .string s, .agg #[.int .i64 0, .int .i64 0]] w fun ee w' => (∃ Y a e, ee = .returned (.tuple #[D.v Y, .agg #[.int .i64 a, .int .i64 e]]) ∧ Inv s (readX s (flds 46) (.ok (D.z, 0))) Y a e) ∧ Below w.heap.size w w' := by
  have hu := Tryd.underlying26
  have hu2 := Tryd.underlying24
  have hu3 := Tryd.underlying67
  have HF := Aside0.mk (Fb.new w 0 0)
  go_enter Tryd.func50, Tryd.ntmps50
  go_wp2_with fail
  refine (rsig s hs _).mono ?_
  rintro e_ w1 ⟨⟨⟨y0, y1, y2, y3, y4, y5, y6, y7, y8, y9, y10, y11, y12⟩, a1, e1, rfl, hi⟩, hb⟩
  have HI := Aside0.mk hi
  clear hi
  have HF' : Aside0 (Fb w w1 w.heap.size 0 0 #[.bool false, .int .u64 0, .int .u64 0, .string ⟨#[]⟩, .string ⟨#[]⟩, .string ⟨#[]⟩, .int .i64 0, .int .i64 0, .int .i64 0, .int .i64 0, .int .i64 0, .int .i64 0, .int .u64 0]) := ⟨HF.out.call hb⟩
  clear HF hb
  have HF := HF'
  clear HF'
  obtain ⟨hc, hf⟩ := cells_of_blk HF.out.cur
  obtain ⟨hd, hg⟩ := cells_of_blk HF.out.dat
  obtain ⟨hk, hm⟩ := cells_of_blk HF.out.resD
  dsimp only [D.z, D.cells] at hk
  obtain ⟨hp, hq⟩ := cells_of_blk HF.out.resC
  have hlt := lt_of_blk HF.out.dat
  dsimp only [D.v, D.cells]
  go_wp2_with fail
  obtain ⟨f1, f2, f3⟩ := HF.out.fin0 (Nat.le_refl _) (.bool y0) (.int .u64 y1) (.int .u64 y2) (.string y3) (.string y4) (.string y5) (.int .i64 y6) (.int .i64 y7) (.int .i64 y8) (.int .i64 y9) (.int .i64 y10) (.int .i64 y11) (.int .u64 y12) a1 e1
  exact bodyPost_ret (results_cc rfl _ _ (w.heap.size + 1) (w.heap.size + 2) 26 67 #[.bool y0, .int .u64 y1, .int .u64 y2, .string y3, .string y4, .string y5, .int .i64 y6, .int .i64 y7, .int .i64 y8, .int .i64 y9, .int .i64 y10, .int .i64 y11, .int .u64 y12] #[.int .i64 a1, .int .i64 e1] (0, 0) (0, 0) _ _ rfl f2 Tryd.underlying26 rfl (by kernel_rfl) rfl f3 Tryd.underlying67 rfl (by kernel_rfl)) rfl ⟨⟨(⟨y0, y1, y2, y3, y4, y5, y6, y7, y8, y9, y10, y11, y12⟩ : D), _, _, rfl, HI.out⟩, f1⟩
end Go.Proofs.YtaehonmfoanloaaDoor.Hand
namespace Go.Proofs.YtaehonmfoanloaaDoor.Hand
open Go.RowKit Go.Proofs.YtaehonmfoanloaaDoorW.PrintWords Go.Proofs.YtaehonmfoanloaaDoor.RdW
set_option linter.all false
theorem rfields_known (t : Int) (s : ByteArray) (hs : s.size ≤ 1000000) (w : World) (hk : knownB t = true) :
    Calls Tryd.prog 50 #[.int .i64 t, .string s, .agg #[.int .i64 0, .int .i64 0]] w fun ee w' => (∃ Y a e, ee = .returned (.tuple #[D.v Y, .agg #[.int .i64 a, .int .i64 e]]) ∧ Inv s (readX s (flds t) (.ok (D.z, 0))) Y a e) ∧ Below w.heap.size w w' := by
  rw [knownB_iff] at hk
  rcases hk with rfl | rfl | rfl | rfl | rfl | rfl | rfl | rfl | rfl | rfl | rfl | rfl | rfl | rfl
  · exact rf1 s hs w
  · exact rf2 s hs w
  · exact rf5 s hs w
  · exact rf6 s hs w
  · exact rf12 s hs w
  · exact rf15 s hs w
  · exact rf16 s hs w
  · exact rf28 s hs w
  · exact rf33 s hs w
  · exact rf39 s hs w
  · exact rf43 s hs w
  · exact rf46 s hs w
  · exact rf47 s hs w
  · exact rf48 s hs w
/-- What 'fields' comes to, told by readF. -/
def FitF (t : Int) (s : ByteArray) (Y : D) (a e : Int) : Prop := (∃ n, readF (flds t) s.data.toList D.z = .error n ∧ e = n ∧ n ≠ 0) ∨ ∃ rest, readF (flds t) s.data.toList D.z = .ok (Y, rest) ∧ a = ((s.size - rest.length : Nat) : Int) ∧ e = 0
theorem rfields_sp (t : Int) (s : ByteArray) (hs : s.size ≤ 1000000) (w : World) (hk : knownB t = true) :
    Calls Tryd.prog 50 #[.int .i64 t, .string s, .agg #[.int .i64 0, .int .i64 0]] w fun ee w' => (∃ Y a e, ee = .returned (.tuple #[D.v Y, .agg #[.int .i64 a, .int .i64 e]]) ∧ FitF t s Y a e) ∧ Below w.heap.size w w' := by
  refine (rfields_known t s hs w hk).mono fun ee w' hh => ⟨?_, hh.2⟩
  obtain ⟨Y, a, e, h1, h2⟩ := hh.1
  refine ⟨Y, a, e, h1, ?_⟩
  have ha : allL (flds t) := flds_all t hk
  have hne : flds t ≠ [] := by
    rw [knownB_iff] at hk
    rcases hk with rfl | rfl | rfl | rfl | rfl | rfl | rfl | rfl | rfl | rfl | rfl | rfl | rfl | rfl <;> decide
  rw [readX_eq s (flds t) D.z 0 ha] at h2
  have hrem : rem s 0 = s.data.toList := List.drop_zero
  rw [hrem] at h2
  unfold FitF
  cases hr : readF (flds t) s.data.toList D.z with
  | error n =>
    rw [hr] at h2
    exact Or.inl ⟨n, rfl, h2.1, h2.2⟩
  | ok u =>
    obtain ⟨y, rest⟩ := u
    rw [hr] at h2
    cases hf : flds t with
    | nil => exact absurd hf hne
    | cons c cs =>
      rw [hf] at h2
      obtain ⟨rfl, h3, h4, _⟩ := h2
      exact Or.inr ⟨rest, rfl, h3, h4⟩
end Go.Proofs.YtaehonmfoanloaaDoor.Hand
