/-
  What is printed is read as the same prefix. Conditions: each theorem's own.
-/
import Derived.Test.YteflcmmandlknaaDoorPAx4
import Derived.Test.YteflcmmandlknaaDoorPAx5
import Derived.Test.YteflcmmandlknaaDoorPAx8
import Derived.Test.YteflcmmandlknaaDoorPAx13
import Derived.Test.YteflcmmandlknaaDoorPAx14
import Derived.Test.YteflcmmandlknaaDoorAddrT
import Derived.Test.YteflcmmandlknaaDoorPrxZ
import Derived.Test.YteflcmmandlknaaDoorPrxT
namespace Go.Proofs.YteflcmmandlknaaDoor.PrxBk
open Go.RowKit Go.Proofs.YteflcmmandlknaaDoorW.PrintWords Go.Proofs.YteflcmmandlknaaDoor.Num Go.Proofs.YteflcmmandlknaaDoor.AddrP Go.Proofs.YteflcmmandlknaaDoor.Qa Go.Proofs.YteflcmmandlknaaDoor.Tx Go.Proofs.YteflcmmandlknaaDoor.Flds Go.Proofs.YteflcmmandlknaaDoor.PrxN Go.Proofs.YteflcmmandlknaaDoor.PrxS Go.Proofs.YteflcmmandlknaaDoor.PrxT Go.Proofs.YteflcmmandlknaaDoor.PrxZ Go.Proofs.YteflcmmandlknaaDoor.PA
set_option linter.unusedVariables false
set_option linter.unusedSimpArgs false
set_option maxRecDepth 100000

theorem hexd47 : ∀ i : Fin 16, hexd i.val ≠ 47 := by decide
theorem hexText47 (n : Nat) (h : n < 65536) : (47 : UInt8) ∉ hexText n := by
  have hh : ∀ d, d < 16 → ¬ (47 : UInt8) = hexd d := fun d hd e => hexd47 ⟨d, hd⟩ e.symm
  unfold hexText
  by_cases h1 : n < 16
  · rw [if_pos h1]
    simp only [List.mem_cons, List.not_mem_nil, or_false]
    exact hh n h1
  · rw [if_neg h1]
    by_cases h2 : n < 256
    · rw [if_pos h2]
      simp only [List.mem_cons, List.not_mem_nil, or_false, not_or]
      exact ⟨hh _ (by omega), hh _ (by omega)⟩
    · rw [if_neg h2]
      by_cases h3 : n < 4096
      · rw [if_pos h3]
        simp only [List.mem_cons, List.not_mem_nil, or_false, not_or]
        exact ⟨hh _ (by omega), hh _ (by omega), hh _ (by omega)⟩
      · rw [if_neg h3]
        simp only [List.mem_cons, List.not_mem_nil, or_false, not_or]
        exact ⟨hh _ (by omega), hh _ (by omega), hh _ (by omega), hh _ (by omega)⟩
theorem join47 : ∀ fs : List (List UInt8), (∀ p, p ∈ fs → (47 : UInt8) ∉ p) → (47 : UInt8) ∉ joinC 58 fs
  | [], _ => by simp [joinC]
  | [p], h => by simpa [joinC] using h p (by simp)
  | p :: q :: fs, h => by
    have ih := join47 (q :: fs) (fun r hr => h r (List.mem_cons_of_mem _ hr))
    simp only [joinC, List.mem_append, List.mem_cons, not_or]
    exact ⟨h p (by simp), by decide, ih⟩
theorem J47 (l : List Int) (h : ∀ x, x ∈ l → Rg x) : (47 : UInt8) ∉ J l := by
  rw [J_join]
  refine join47 _ (fun p hp => ?_)
  obtain ⟨x, hx1, rfl⟩ := List.mem_map.mp hp
  have h0 := (h x hx1).1
  have h1 := (h x hx1).2
  exact hexText47 _ (by omega)
theorem dd47 : ∀ i : Fin 256, (47 : UInt8) ∉ dd i.val := by decide +kernel
theorem out47 (v : Bool) (hi lo : Int) (h : Vl v hi lo) : ∃ t : List UInt8, outP v hi lo = (bs t, 0) ∧ (47 : UInt8) ∉ t ∧ t.length ≤ 200 ∧ parseS t = (v, hi, lo, 0) := by
  obtain ⟨p1, p2⟩ := parse_out v hi lo h
  unfold outP at p1 p2 ⊢
  by_cases hv : v = true
  · rw [if_pos hv] at p1 p2 ⊢
    refine ⟨out6 (grp8 hi lo), rfl, ?_, ?_, ?_⟩
    · unfold out6
      have hg := grp8_rg hi lo
      by_cases c : (longest (grp8 hi lo)).2 < 2
      · rw [if_pos c]
        exact J47 _ hg
      · rw [if_neg c]
        simp only [List.mem_append, not_or]
        exact ⟨⟨J47 _ (fun x hx => hg x (List.mem_of_mem_take hx)), by decide⟩, J47 _ (fun x hx => hg x (List.mem_of_mem_drop hx))⟩
    · have h8 : (grp8 hi lo).length = 8 := rfl
      unfold out6
      by_cases c : (longest (grp8 hi lo)).2 < 2
      · rw [if_pos c]
        have := J_len (grp8 hi lo)
        omega
      · rw [if_neg c]
        have a1 := J_len ((grp8 hi lo).take (longest (grp8 hi lo)).1)
        have a2 := J_len ((grp8 hi lo).drop ((longest (grp8 hi lo)).1 + (longest (grp8 hi lo)).2))
        simp only [List.length_append, List.length_take, List.length_drop, List.length_cons, List.length_nil] at a1 a2 ⊢
        omega
    · have : by_ (bs (out6 (grp8 hi lo))) = out6 (grp8 hi lo) := bs_list _
      simp only [this] at p2
      exact p2
  · rw [if_neg hv] at p1 p2 ⊢
    have h2 : hi = 0 ∧ lo ≤ 4294967295 := h.2.2.resolve_left hv
    rw [if_pos h2] at p1 p2 ⊢
    refine ⟨out4 lo.toNat, rfl, ?_, ?_, ?_⟩
    · rw [out4_eq]
      have hd : ∀ n, n < 256 → (47 : UInt8) ∉ dd n := fun n hn => dd47 ⟨n, hn⟩
      simp only [List.mem_append, List.mem_cons, List.not_mem_nil, or_false, not_or]
      exact ⟨hd _ (by omega), by decide, hd _ (by omega), by decide, hd _ (by omega), by decide, hd _ (by omega)⟩
    · have := out4_len lo.toNat
      omega
    · have : by_ (bs (out4 lo.toNat)) = out4 lo.toNat := bs_list _
      simp only [this] at p2
      exact p2
theorem cut_piece (c : UInt8) (t d : List UInt8) (h : c ∉ t) : Lib.cut (t ++ c :: d) [c] = (t, d, true) := by
  have hi : Lib.index (t ++ c :: d) [c] = t.length := by
    refine Lib.index_first (by simp) ?_ (fun j hj => ?_)
    · simp [Lib.occAt]
    · unfold Lib.occAt
      rw [List.drop_append_of_le_length (by omega)]
      refine Str.occ_no (fun q e => ?_)
      cases hd : t.drop j with
      | nil => have := congrArg List.length hd; simp at this; omega
      | cons y r =>
        rw [hd] at e
        simp only [List.cons_append, List.cons.injEq] at e
        exact h (e.1 ▸ List.mem_of_mem_drop (i := j) (by rw [hd]; simp))
  unfold Lib.cut
  rw [hi, if_pos (by omega)]
  simp
theorem itoa_back : ∀ i : Fin 129, Lib.atoiAll (Lib.itoa (i.val : Int)) = .ok (i.val : Int) ∧ (Lib.itoa (i.val : Int)).length ≤ 3 := by decide +kernel
theorem itoa_at (n : Nat) (h : n ≤ 128) : Lib.atoiAll (Lib.itoa (n : Int)) = .ok (n : Int) ∧ (Lib.itoa (n : Int)).length ≤ 3 := itoa_back ⟨n, by omega⟩
theorem itoa_f (n : Nat) (h : n ≤ 128) : strconv_Itoa.f (n : Int) = some (bs (Lib.itoa (n : Int))) := by
  unfold strconv_Itoa.f
  rw [if_pos (by omega)]
  rfl
theorem vl_of {v : Bool} {N : Nat} (h : N < 2 ^ L v) : Vl v (iH N) (iL N) := by
  have hM := pow_L v
  refine ⟨u64_H (by omega), u64_L N, ?_⟩
  cases v
  · right
    have : (2 : Nat) ^ L false = 4294967296 := by decide
    unfold iH iL
    omega
  · exact Or.inl rfl
/-- The text of a prefix. -/
theorem print_ev {v : Bool} {N n : Nat} (hv : VP v N (n : Int)) : ∃ t : List UInt8, (47 : UInt8) ∉ t ∧ t.length ≤ 200 ∧ parseS t = (v, iH N, iL N, 0) ∧
    Ev (fun k => prefix_Print.f k v (iH N) (iL N) (n : Int)) (bs (t ++ 47 :: Lib.itoa (n : Int)), 0) := by
  have hM := pow_L v
  have hL := L_le v
  have hn : n ≤ 128 := by have := hv.2.2.1; omega
  have hl := vl_of hv.1
  obtain ⟨t, e1, e2, e3, e4⟩ := out47 v (iH N) (iL N) hl
  refine ⟨t, e2, e3, e4, ?_⟩
  have hp := Print_ev v (iH N) (iL N) hl.1 hl.2.1
  rw [e1] at hp
  obtain ⟨i1, i2⟩ := itoa_at n hn
  unfold prefix_Print.f
  refine ev_bind_const (Valid_eq v N n (by have := hv.1; omega)) (ev_if_pos (decide_eq_true hv) (Ev.bind hp ?_))
  have s1 : (bs t ++ (⟨#[47]⟩ : ByteArray)) = bs (t ++ [47]) := bs_app t [47]
  refine ev_if_pos (by rw [bs_size]; omega) (ev_bind_const (itoa_f n hn) ?_)
  rw [s1]
  refine ev_if_pos (by rw [bs_size, bs_size, List.length_append]; simp; omega) ?_
  rw [bs_app, List.append_assoc]
  exact Ev.now _
/-- It is read again. -/
theorem parse_ev {v : Bool} {N n : Nat} (hv : VP v N (n : Int)) {t : List UInt8} (h1 : (47 : UInt8) ∉ t) (h2 : t.length ≤ 200) (h3 : parseS t = (v, iH N, iL N, 0)) :
    Ev (fun k => prefix_Parse.f k (bs (t ++ 47 :: Lib.itoa (n : Int)))) (v, iH N, iL N, (n : Int), 0) := by
  have hM := pow_L v
  have hL := L_le v
  have hn : n ≤ 128 := by have := hv.2.2.1; omega
  obtain ⟨i1, i2⟩ := itoa_at n hn
  have hc : Lib.cut (bs (t ++ 47 :: Lib.itoa (n : Int))).data.toList [47] = (t, Lib.itoa (n : Int), true) := by
    rw [bs_list, cut_piece 47 t _ h1]
  have hpar : Ev (fun k => addr_Parse.f k (bs t)) (v, iH N, iL N, 0) := by
    have := addr_Parse_ev (bs t)
    rwa [show by_ (bs t) = t from bs_list t, h3] at this
  have hv8 : prefix_Valid.f v (iH N) (iL N) (n : Int) = some true := by
    rw [Valid_eq v N n (by have := hv.1; omega), decide_eq_true hv]
  have hr : pfx_rest (bs (Lib.itoa (n : Int))) v (iH N) (iL N) 0 = some (v, iH N, iL N, (n : Int), 0) := by
    unfold pfx_rest
    rw [if_pos rfl, bs_list, i1]
    simp only [itoa_f n hn, Option.bind_some, if_true, hv8]
  unfold prefix_Parse.f
  rw [hc]
  refine ev_if_pos ⟨by rw [bs_size, List.length_append, List.length_cons]; omega, by show (bs (Lib.itoa (n : Int))).size ≤ _; rw [bs_size]; omega⟩ (ev_if_pos rfl (Ev.bind hpar ?_))
  exact ev_const hr
section
variable {K0 : Nat} (haw : ∀ m, K0 ≤ m → ddilaw03_awake.f m = some true)
include haw
theorem back_no (v : Bool) (N : Nat) (b : Int) (va : Bool) (A : Nat) (g : N < M128) (ga : A < M128) (h : ¬ VP v N b) : Ev (fun k => ddilaw03_PrefixBack.f k v (iH N) (iL N) b va (iH A) (iL A)) true := by
  have he : Ev (fun k => ddilaw03_awake.f k) true := ⟨K0, haw⟩
  unfold ddilaw03_PrefixBack.f
  have hv := Valid_eq v N b g
  rw [decide_eq_false h] at hv
  have hp : ∀ k, prefix_Print.f k v (iH N) (iL N) b = some ((⟨#[]⟩ : ByteArray), 3) := fun k => by
    unfold prefix_Print.f
    rw [hv]
    rfl
  have hc := Contains_eq v N b va A g ga
  rw [decide_eq_false (fun q => h q.1)] at hc
  refine Ev.bind (ev_of_eq 0 hp) (ev_bind_const hv (ev_if_neg (by decide) (ev_if_pos rfl (ev_if_pos ?_ (ev_bind_const hc (ev_if_neg (by decide) (Ev.bind he (Ev.now _)))))))) 
  decide +kernel
theorem back_yes (v : Bool) (N n : Nat) (va : Bool) (A : Nat) (g : N < M128) (ga : A < M128) (h : VP v N (n : Int)) : Ev (fun k => ddilaw03_PrefixBack.f k v (iH N) (iL N) (n : Int) va (iH A) (iL A)) true := by
  have he : Ev (fun k => ddilaw03_awake.f k) true := ⟨K0, haw⟩
  have hM := pow_L v
  have hL := L_le v
  obtain ⟨t, t1, t2, t3, hpr⟩ := print_ev h
  have hpa := parse_ev h t1 t2 t3
  have hv := Valid_eq v N n g
  rw [decide_eq_true h] at hv
  have hb := Bounds_eq v N n g
  have hb' : BoundsS v N (n : Int) = _ := if_pos h
  rw [hb'] at hb
  have hp : 0 < 2 ^ (L v - n) := Nat.pow_pos (by decide)
  have hal := h.2.2.2
  rw [Int.toNat_natCast] at hal
  have h1 := h.1
  have hn : n ≤ L v := by have := h.2.2.1; omega
  have hlast : lastN v N (n : Int) = N + (2 ^ (L v - n) - 1) := by unfold lastN; rw [Int.toNat_natCast]
  have hfit : N + 2 ^ (L v - n) ≤ 2 ^ L v := by
    have e1 := Nat.div_add_mod N (2 ^ (L v - n))
    rw [hal, Nat.add_zero] at e1
    have e3 : 2 ^ L v = 2 ^ (L v - n) * 2 ^ n := by rw [← Nat.pow_add]; congr 1; omega
    have hlt : N / 2 ^ (L v - n) < 2 ^ n := by
      rw [Nat.div_lt_iff_lt_mul hp, Nat.mul_comm, ← e3]
      exact h1
    rw [e3]
    generalize 2 ^ (L v - n) = p at *
    generalize N / p = q at *
    rw [← e1]
    calc p * q + p = p * (q + 1) := by rw [Nat.mul_add, Nat.mul_one]
      _ ≤ p * 2 ^ n := Nat.mul_le_mul_left _ hlt
  have hin : ∀ (vb : Bool) (B : Nat), CT v N (n : Int) vb B ↔ v = vb ∧ N ≤ B ∧ B < N + 2 ^ (L v - n) := fun vb B => by
    rw [ct_iff h, Int.toNat_natCast]
    have hd : B / 2 ^ (L v - n) = N / 2 ^ (L v - n) ↔ N ≤ B ∧ B < N + 2 ^ (L v - n) := by
      obtain ⟨q, hq⟩ := Nat.dvd_of_mod_eq_zero hal
      generalize 2 ^ (L v - n) = p at *
      subst hq
      rw [Nat.mul_div_cancel_left _ hp, Nat.div_eq_iff hp, Nat.mul_comm q p]
      constructor <;> intro w <;> omega
    rw [hd]
    constructor
    · rintro ⟨a, _, c⟩; exact ⟨a, c⟩
    · rintro ⟨a, c⟩; exact ⟨a, by omega, c⟩
  have cf := Contains_eq v N (n : Int) v N g g
  rw [decide_eq_true ((hin v N).mpr ⟨rfl, by omega, by omega⟩)] at cf
  have gl : lastN v N (n : Int) < M128 := by rw [hlast]; omega
  have cl := Contains_eq v N (n : Int) v (lastN v N (n : Int)) g gl
  rw [decide_eq_true ((hin v _).mpr ⟨rfl, by omega, by omega⟩)] at cl
  have ho := Of_eq va A (n : Int) ga
  have hc := Contains_eq v N (n : Int) va A g ga
  unfold ddilaw03_PrefixBack.f
  refine Ev.bind hpr (ev_bind_const hv (ev_if_pos rfl (Ev.bind hpa (ev_bind_const hb (ev_if_pos rfl (ev_if_pos rfl (ev_if_neg (by simp) (ev_if_pos rfl (ev_if_neg (by simp) (ev_bind_const cf (ev_if_pos rfl (ev_bind_const cl ?_)))))))))))) 
  have hj1 : Ev (fun k => ddilaw03_PrefixBack.j1 k false v (iH N) (iL N) (n : Int) v (iH N) (iL N) v (iH (lastN v N (n : Int))) (iL (lastN v N (n : Int)))) true := by
    refine Ev.step (fun k => by rw [ddilaw03_PrefixBack.j1]) (ev_if_neg (by decide) ?_)
    refine ev_bind_const (Add1_eq v (lastN v N (n : Int)) (by omega)) ?_
    unfold AddS
    by_cases w : lastN v N (n : Int) + 1 < 2 ^ L v
    · rw [if_pos w]
      have ca := Contains_eq v N (n : Int) v (lastN v N (n : Int) + 1) g (by omega)
      rw [decide_eq_false (fun q => by have := ((hin v _).mp q).2.2; omega)] at ca
      exact ev_if_pos rfl (ev_bind_const ca (ev_if_neg (by decide) (Ev.bind he (Ev.now _))))
    · rw [if_neg w]
      exact ev_if_neg (by decide) (Ev.bind he (Ev.now _))
  refine Ev.step (fun k => by rw [ddilaw03_PrefixBack.j0]) (ev_if_neg (by decide) (ev_bind_const ho (ev_bind_const hc ?_)))
  by_cases w : A < 2 ^ L va ∧ (0 : Int) ≤ (n : Int) ∧ (n : Int) ≤ (L va : Int)
  · have hos : OfS va A (n : Int) = _ := if_pos w
    rw [hos, Int.toNat_natCast]
    refine ev_if_pos rfl ?_
    show Ev (fun k => ddilaw03_PrefixBack.j1 k (decide (CT v N (n : Int) va A) != ((va == v && (iH (A - A % 2 ^ (L va - n)) == iH N && (iL (A - A % 2 ^ (L va - n)) == iL N))) && ((n : Int) == (n : Int)))) _ _ _ _ _ _ _ _ _ _) true
    rw [eqB]
    have : (decide (CT v N (n : Int) va A) != decide (va = v ∧ A - A % 2 ^ (L va - n) = N ∧ (n : Int) = (n : Int))) = false := by
      by_cases q : CT v N (n : Int) va A
      · have q2 := q.2
        rw [Int.toNat_natCast] at q2
        rw [decide_eq_true q, decide_eq_true ⟨q2.1.symm, by rw [← q2.1]; exact q2.2.2, rfl⟩]
        rfl
      · rw [decide_eq_false q, decide_eq_false]
        · rfl
        · rintro ⟨rfl, q2, _⟩
          exact q ⟨h, rfl, w.1, by rw [Int.toNat_natCast]; exact q2⟩
    rw [this]
    exact hj1
  · have hos : OfS va A (n : Int) = _ := if_neg w
    rw [hos]
    refine ev_if_neg (by decide) ?_
    have : (decide (CT v N (n : Int) va A) != false) = false := by
      rw [decide_eq_false]
      · rfl
      · rintro ⟨_, rfl, q2, _⟩
        exact w ⟨q2, by omega, by omega⟩
    rw [this]
    exact hj1
end
end Go.Proofs.YteflcmmandlknaaDoor.PrxBk
