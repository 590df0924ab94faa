/-
  The reference's names, sets and numbers in plain words. Conditions: each theorem's own.
-/
import Derived.Test.YtaehonmfoanloaaDoorPAx5
import Derived.Test.YtaehonmfoanloaaDoorPAx6
import Derived.Test.YtaehonmfoanloaaDoorPAx4
import Derived.Test.YtaehonmfoanloaaDoorRdEvA
namespace Go.Proofs.YtaehonmfoanloaaDoor.Hand
open Go.RowKit Go.Proofs.YtaehonmfoanloaaDoorW.PrintWords Go.Proofs.YtaehonmfoanloaaDoorW.PrintLast Go.Proofs.YtaehonmfoanloaaDoorW.PrintMore Go.Proofs.YtaehonmfoanloaaDoor.Num Go.Proofs.YtaehonmfoanloaaDoor.Bits Go.Proofs.YtaehonmfoanloaaDoor.RdW Go.Proofs.YtaehonmfoanloaaDoor.Str Go.Proofs.YtaehonmfoanloaaDoor.PA
set_option linter.all false
/-! ### names -/
theorem isLabel_l0 (s : ByteArray) (hs : s.size ≤ 100000) : ∀ (r : List UInt8) (i : Nat), (by_ s).drop i = r → Ev (fun k => ddiref01_isLabel.l0 k s (i : Int)) (r.all okc)
  | [], i, hd => by
    have hj := drop_nil hd
    refine ev_of_eq 1 (fun k => ?_)
    rw [ddiref01_isLabel.l0, if_neg (by omega)]; rfl
  | c :: r, i, hd => by
    obtain ⟨h1, h2, h3⟩ := bt_drop hd
    have ih := isLabel_l0 s hs r (i + 1) h3
    have hc := okc_iff c
    rw [List.all_cons]
    refine Ev.step (f := fun k => if okc c = true then ddiref01_isLabel.l0 k s ((i + 1 : Nat) : Int) else some false) (fun k => ?_) ?_
    · rw [ddiref01_isLabel.l0, if_pos (by omega), if_pos (by omega), h2, wrap_s (by omega)]
      by_cases ho : okc c = true
      · rw [if_pos ho]
        have h := hc.1 ho
        repeat' split
        all_goals first | rfl | (exfalso; omega)
      · rw [if_neg ho]
        have h : ¬ _ := fun g => ho (hc.2 g)
        repeat' split
        all_goals first | rfl | (exfalso; omega)
    · by_cases ho : okc c = true
      · simp only [ho, if_true, Bool.true_and]; exact ih
      · simp only [ho, if_false, Bool.false_and, Bool.eq_false_iff.2 ho]; exact Ev.now _
theorem isLabel_ev (s : ByteArray) (hs : s.size ≤ 100000) : Ev (fun k => ddiref01_isLabel.f k s) (ordL (by_ s) || by_ s == [42]) := by
  have hl := by_length s
  unfold ddiref01_isLabel.f
  by_cases h42 : by_ s = [42]
  · refine ev_if_pos (by rw [toList_by]; exact h42) ?_
    rw [h42]; exact Ev.now _
  · refine ev_if_neg (by rw [toList_by]; exact h42) ?_
    rw [show (by_ s == [42]) = false by rw [beq_eq_false_iff_ne]; exact h42, Bool.or_false]
    by_cases h : by_ s = []
    · refine ev_if_pos (by rw [h] at hl; simp at hl; omega) ?_
      rw [h]
      exact ev_of_eq 1 (fun k => by rw [ddiref01_isLabel.j0, if_pos rfl]; rfl)
    · have h0 : 0 < s.size := by
        rcases Nat.eq_zero_or_pos s.size with g | g
        · exact absurd (List.eq_nil_of_length_eq_zero (by omega)) h
        · exact g
      refine ev_if_neg (by omega) ?_
      have hn : (by_ s).isEmpty = false := by cases hc : by_ s with | nil => exact absurd hc h | cons a b => rfl
      unfold ordL
      rw [hn, hl]
      by_cases hb : s.size ≤ 63
      · refine Ev.step (fun k => by rw [ddiref01_isLabel.j0, if_neg (by simp; omega)]) ?_
        have := isLabel_l0 s hs (by_ s) 0 rfl
        simpa [hb] using this
      · refine Ev.step (fun k => by rw [ddiref01_isLabel.j0, if_pos (by simp; omega)]) ?_
        simpa [hb] using Ev.now false
/-- The labels that a scan finds. -/
def scanL (first : Bool) (p : List UInt8) : List UInt8 → Option (List (List UInt8))
  | [] => some []
  | c :: r => if c = 46 then (if (ordL p || p == [42]) = true then (if p = [42] then (if first then (scanL false [] r).map (p :: ·) else none) else (scanL false [] r).map (p :: ·)) else none) else scanL first (p ++ [c]) r
theorem ord42 : ordL [42] = false := by decide +kernel
theorem scan_ok (first : Bool) (p r : List UInt8) : scanL first p (46 :: r) = if (ordL p || (first && p == [42])) = true then (scanL false [] r).map (p :: ·) else none := by
  rw [scanL, if_pos rfl]
  by_cases h : p = [42]
  · subst h
    rw [ord42]
    cases first <;> simp
  · rw [show (p == [42]) = false by rw [beq_eq_false_iff_ne]; exact h]
    simp [h]
theorem scan_spec : ∀ (m : List UInt8) (first : Bool) (p : List UInt8), ∃ x xs, splitC 46 m = x :: xs ∧ scanL first p (m ++ [46]) = if ((ordL (p ++ x) || (first && (p ++ x) == [42])) && xs.all ordL) = true then some ((p ++ x) :: xs) else none
  | [], first, p => by
    refine ⟨[], [], rfl, ?_⟩
    rw [List.nil_append, scan_ok, List.append_nil]
    simp [scanL]
  | c :: r, first, p => by
    by_cases hc : c = 46
    · subst hc
      obtain ⟨y, ys, h1, h2⟩ := scan_spec r false []
      refine ⟨[], y :: ys, by unfold splitC; rw [if_pos rfl, h1], ?_⟩
      rw [List.cons_append, scan_ok, h2, List.append_nil]
      simp only [List.nil_append, Bool.false_and, Bool.or_false, List.all_cons]
      by_cases g1 : (ordL p || (first && p == [42])) = true
      · by_cases g2 : (ordL y && ys.all ordL) = true
        · rw [if_pos g1, if_pos g2]
          exact (if_pos (by rw [g1, g2]; rfl)).symm
        · rw [if_pos g1, if_neg g2]
          exact (if_neg (by rw [g1, Bool.true_and]; exact g2)).symm
      · rw [if_neg g1]
        exact (if_neg (by rw [Bool.eq_false_iff.2 g1]; simp)).symm
    · obtain ⟨y, ys, h1, h2⟩ := scan_spec r first (p ++ [c])
      refine ⟨c :: y, ys, splitC_cons_ne hc h1, ?_⟩
      have e : scanL first p (c :: r ++ [46]) = scanL first (p ++ [c]) (r ++ [46]) := by
        rw [List.cons_append]
        rw [scanL, if_neg hc]
      rw [e, h2, List.append_assoc, List.singleton_append]
theorem split_l0 (s : ByteArray) (hs : s.size ≤ 1000) : ∀ (r : List UInt8) (i a : Nat) (L : List ByteArray), (by_ s).drop i = r → a ≤ i → L.length ≤ i →
    Ev (fun k => ddiref01_split.l0 k s L (a : Int) (i : Int)) (match scanL (a == 0) (((by_ s).take i).drop a) r with | some ls => (L ++ ls.map strOf, true) | none => ([], false))
  | [], i, a, L, hd, ha, hL => by
    have hj := drop_nil hd
    refine ev_of_eq 1 (fun k => ?_)
    rw [ddiref01_split.l0, if_neg (by omega)]
    simp [scanL]
  | c :: r, i, a, L, hd, ha, hL => by
    obtain ⟨h1, h2, h3⟩ := bt_drop hd
    have hl := by_length s
    have hex : s.extract (a : Int).toNat (i : Int).toNat = strOf (((by_ s).take i).drop a) := by
      rw [Int.toNat_natCast, Int.toNat_natCast, ← by_extract, strOf_by]
    by_cases hc : c = 46
    · subst hc
      have ih := split_l0 s hs r (i + 1) (i + 1) (L ++ [strOf (((by_ s).take i).drop a)]) h3 (Nat.le_refl _) (by simp; omega)
      rw [show ((i + 1) == 0) = false from rfl, show ((by_ s).take (i + 1)).drop (i + 1) = [] from List.drop_of_length_le (by rw [List.length_take]; exact Nat.min_le_left _ _)] at ih
      rw [scan_ok]
      generalize hp : ((by_ s).take i).drop a = p at *
      have hsz : (strOf p).size ≤ 100000 := by
        rw [strOf_size, ← hp, List.length_drop, List.length_take]; omega
      have hlab := isLabel_ev (strOf p) hsz
      rw [by_strOf] at hlab
      refine Ev.step (f := fun k => (ddiref01_isLabel.f k (strOf p)).bind fun t => if t = true then (if p = [42] then (if (a : Int) > 0 then some ([], false) else ddiref01_split.l0 k s (L ++ [strOf p]) ((i + 1 : Nat) : Int) ((i + 1 : Nat) : Int)) else ddiref01_split.l0 k s (L ++ [strOf p]) ((i + 1 : Nat) : Int) ((i + 1 : Nat) : Int)) else some ([], false)) (fun k => ?_) ?_
      · have h46 : bt s (i : Int) = 46 := by rw [h2]; rfl
        rw [ddiref01_split.l0, if_pos (by omega), if_pos (by omega), if_pos h46, if_pos (by omega), if_pos (by omega), if_pos (by omega), hex, wrap_s (by omega)]
        simp only [toList_by, by_strOf]
        rw [if_pos (show L.length < 8796093022208 by omega)]
      · refine Ev.bind hlab ?_
        by_cases h42 : p = [42]
        · subst h42
          refine ev_if_pos (by decide +kernel) (ev_if_pos rfl ?_)
          rw [ord42]
          by_cases ha0 : a = 0
          · subst ha0
            refine ev_if_neg (by omega) ?_
            cases hsc : scanL false [] r with
            | none => rw [hsc] at ih; simpa using ih
            | some ls => rw [hsc] at ih; simpa [List.append_assoc] using ih
          · refine ev_if_pos (by omega) ?_
            rw [show (a == 0) = false by rw [beq_eq_false_iff_ne]; exact ha0]
            simpa using Ev.now (([] : List ByteArray), false)
        · rw [show (p == [42]) = false by rw [beq_eq_false_iff_ne]; exact h42, Bool.or_false, Bool.and_false, Bool.or_false]
          by_cases ho : ordL p = true
          · refine ev_if_pos ho (ev_if_neg h42 ?_)
            rw [if_pos ho]
            cases hsc : scanL false [] r with
            | none => rw [hsc] at ih; simpa using ih
            | some ls => rw [hsc] at ih; simpa [List.append_assoc] using ih
          · refine ev_if_neg ho ?_
            rw [if_neg ho]
            exact Ev.now _
    · have ih := split_l0 s hs r (i + 1) a L h3 (by omega) (by omega)
      have hp : ((by_ s).take (i + 1)).drop a = ((by_ s).take i).drop a ++ [c] := by
        have hlt : i < (by_ s).length := by omega
        have hg : (by_ s)[i]? = some c := by
          have := congrArg List.head? hd
          rwa [List.head?_drop] at this
        rw [List.take_succ, hg, Option.toList_some, List.drop_append_of_le_length (by rw [List.length_take]; omega)]
      rw [hp] at ih
      have e : scanL (a == 0) (((by_ s).take i).drop a) (c :: r) = scanL (a == 0) (((by_ s).take i).drop a ++ [c]) r := by
        rw [scanL, if_neg hc]
      rw [e]
      refine Ev.step (fun k => ?_) ih
      have h46 : ¬ bt s (i : Int) = 46 := by
        rw [h2]; intro g; apply hc; apply UInt8.toNat_inj.1
        show c.toNat = 46
        omega
      rw [ddiref01_split.l0, if_pos (by omega), if_pos (by omega), if_neg h46, wrap_s (by omega)]
theorem split_ev (n : ByteArray) (hs : n.size ≤ 100000) : Ev (fun k => ddiref01_split.f k n) (match labelsN (by_ n) with | some ls => (ls.map strOf, true) | none => ([], false)) := by
  have hl := by_length n
  unfold ddiref01_split.f
  by_cases h : by_ n = [46]
  · refine ev_if_pos (by rw [toList_by]; exact h) ?_
    rw [h]; exact Ev.now _
  · refine ev_if_neg (by rw [toList_by]; exact h) ?_
    have hno : ¬ (n.size < 255 ∧ (by_ n).getLast? = some 46 ∧ labelsOk (splitC 46 (by_ n).dropLast) = true) → labelsN (by_ n) = none := by
      intro g; unfold labelsN; rw [if_neg h, hl, if_neg g]
    by_cases h2 : n.size < 2
    · refine ev_if_pos (by omega) ?_
      have : labelsN (by_ n) = none := by
        apply hno
        rintro ⟨_, g, _⟩
        cases hb : by_ n with
        | nil => rw [hb] at g; cases g
        | cons c r =>
          cases r with
          | nil => rw [hb] at g; simp at g; rw [hb, g] at h; exact h rfl
          | cons d r => rw [hb] at hl; simp at hl; omega
      rw [this]
      exact ev_of_eq 1 (fun k => by rw [ddiref01_split.j0, if_pos rfl])
    · refine ev_if_neg (by omega) ?_
      by_cases h3 : n.size > 254
      · refine ev_if_pos (by omega) ?_
        rw [hno (fun g => by omega)]
        exact ev_of_eq 1 (fun k => by rw [ddiref01_split.j0, if_pos rfl])
      · refine ev_if_neg (by omega) ?_
        have hw : wrap64 ((n.size : Int) - 1) = ((n.size - 1 : Nat) : Int) := by rw [wrap64_id (by omega) (by omega)]; omega
        obtain ⟨c, d1, d2⟩ := drop_last (by_ n) (by omega)
        rw [hl] at d1
        obtain ⟨_, b2, _⟩ := bt_drop d1
        rw [hw]
        refine ev_if_pos (by omega) (ev_if_pos (by omega) ?_)
        rw [b2]
        by_cases hc : c = 46
        · subst hc
          obtain ⟨m, hm⟩ := List.getLast?_eq_some_iff.1 d2
          refine Ev.step (f := fun k => ddiref01_split.l0 k n [] ((0 : Nat) : Int) ((0 : Nat) : Int)) (fun k => by rw [ddiref01_split.j0, if_neg (by decide)]; rfl) ?_
          have hsc := split_l0 n (by omega) (by_ n) 0 0 [] rfl (Nat.le_refl _) (Nat.le_refl _)
          simp only [List.take_zero, List.drop_nil, List.nil_append, beq_self_eq_true] at hsc
          obtain ⟨x, xs, e1, e2⟩ := scan_spec m true []
          rw [← hm] at e2
          simp only [List.nil_append, Bool.true_and] at e2
          have hlN : labelsN (by_ n) = scanL true [] (by_ n) := by
            rw [e2]
            unfold labelsN
            rw [if_neg h, hl, hm, List.dropLast_concat, e1]
            have : (labelsOk (x :: xs) = true) ↔ (((ordL x || x == [42]) && xs.all ordL) = true) := by rfl
            by_cases hok : ((ordL x || x == [42]) && xs.all ordL) = true
            · rw [if_pos hok, if_pos ⟨by omega, by simp, hok⟩]
            · rw [if_neg hok, if_neg (fun g => hok g.2.2)]
          rw [hlN]
          exact hsc
        · have : labelsN (by_ n) = none := by
            apply hno
            rintro ⟨_, g, _⟩
            rw [d2] at g; exact hc (by simpa using g)
          rw [this]
          refine ev_of_eq 1 (fun k => ?_)
          rw [ddiref01_split.j0, if_pos (by
            rw [bne_iff_ne]
            intro g
            apply hc; apply UInt8.toNat_inj.1
            show c.toNat = 46
            omega)]
theorem rValid_ev (n : ByteArray) (hs : n.size ≤ 100000) : Ev (fun k => ddiref01_Valid.f k n) (nameB n) := by
  unfold ddiref01_Valid.f nameB
  refine Ev.bind (split_ev n hs) ?_
  show Ev _ (labelsN (by_ n)).isSome
  cases labelsN (by_ n) <;> exact Ev.now _
theorem nameB_pos {n : ByteArray} (h : nameB n = true) : ∃ c r, by_ n = c :: r := by
  cases hb : by_ n with
  | nil =>
    have : nameB n = (labelsN (by_ n)).isSome := rfl
    rw [this, hb] at h
    exact absurd h (by decide +kernel)
  | cons c r => exact ⟨c, r, rfl⟩
theorem rhost_ev (n : ByteArray) (hs : n.size ≤ 100000) : Ev (fun k => ddiref05_host.f k n) (hostB n) := by
  unfold ddiref05_host.f
  refine Ev.bind (rValid_ev n hs) ?_
  unfold hostB
  cases hv : nameB n with
  | false => exact ev_if_neg (by simp) (Ev.now _)
  | true =>
    obtain ⟨c, r, hb⟩ := nameB_pos hv
    obtain ⟨h1, h2, _⟩ := bt_drop (s := n) (i := 0) (c := c) (r := r) (by rw [List.drop_zero]; exact hb)
    refine ev_if_pos rfl (ev_if_pos (by omega) ?_)
    have e : (bt n 0 != 42) = !(n.data.toList.head? == some 42) := by
      rw [show n.data.toList = c :: r from hb]
      have h2 : bt n 0 = c.toNat := h2
      rw [h2]
      by_cases hc : c = 42
      · subst hc; rfl
      · rw [show ((c :: r).head? == some 42) = false by rw [beq_eq_false_iff_ne]; intro g; exact hc (by simpa using g)]
        rw [Bool.not_false, bne_iff_ne]
        intro g; apply hc; apply UInt8.toNat_inj.1
        show c.toNat = 42
        omega
    rw [Bool.true_and, ← e]
    exact Ev.now _
theorem rKnown_eq (t : Int) : ddiref05_Known.f t = some (knownB t) := by
  unfold ddiref05_Known.f ddiref05_Mnemonic.f
  by_cases hk : knownB t = true
  · revert t
    refine KT_all ?_ ?_ ?_ ?_ ?_ ?_ ?_ ?_ ?_ ?_ ?_ ?_ ?_ ?_ <;> decide +kernel
  · rw [Bool.eq_false_iff.2 hk]
    rw [knownB_iff] at hk
    unfold KT at hk
    simp only [not_or] at hk
    obtain ⟨n1, n2, n3, n4, n5, n6, n7, n8, n9, n10, n11, n12, n13, n14⟩ := hk
    rw [if_neg n1, if_neg n2, if_neg n3, if_neg n4, if_neg n5, if_neg n6, if_neg n7, if_neg n8, if_neg n9, if_neg n10, if_neg n11, if_neg n12, if_neg n13, if_neg n14]
    decide +kernel
/-! ### sets -/
def allB (s : Nat) (t : Nat) : Nat → Bool
  | 0 => true
  | d + 1 => (!(s.testBit t) || knownB (t : Int)) && allB s (t + 1) d
theorem all_l0 (s : Nat) (hs : s < 18446744073709551616) : ∀ (d t : Nat), t + d = 64 → Ev (fun k => ddiref05_all.l0 k (s : Int) (t : Int)) (allB s t d)
  | 0, t, ht => ev_of_eq 1 (fun k => by rw [ddiref05_all.l0, if_neg (by omega)]; rfl)
  | d + 1, t, ht => by
    have ih := all_l0 s hs d (t + 1) (by omega)
    have hw : IntKind.u64.wrap (t : Int) = (t : Int) := by rw [wrap_u64]; omega
    have hb := bit_test (a := s) (t := t) hs (by omega)
    rw [allB]
    refine Ev.step (f := fun k => if s.testBit t = true then (if knownB (t : Int) = true then ddiref05_all.l0 k (s : Int) ((t + 1 : Nat) : Int) else some false) else ddiref05_all.l0 k (s : Int) ((t + 1 : Nat) : Int)) (fun k => ?_) ?_
    · rw [ddiref05_all.l0, if_pos (by omega), hw, if_pos (by omega), wrap_s (by omega), rKnown_eq]
      by_cases h : s.testBit t = true
      · rw [if_pos (hb.2 h), if_pos h]; rfl
      · rw [if_neg (fun g => h (hb.1 g)), if_neg h]
    · by_cases h : s.testBit t = true
      · refine ev_if_pos h ?_
        rw [h]
        by_cases hk : knownB (t : Int) = true
        · refine ev_if_pos hk ?_
          rw [hk]; simpa using ih
        · refine ev_if_neg hk ?_
          rw [Bool.eq_false_iff.2 hk]; exact Ev.now _
      · refine ev_if_neg h ?_
        rw [Bool.eq_false_iff.2 h]; simpa using ih
theorem allB_iff (s : Nat) : ∀ (d t : Nat), allB s t d = true ↔ ∀ i, t ≤ i → i < t + d → s.testBit i = true → knownB (i : Int) = true
  | 0, t => by simp [allB]; intro i h1 h2; omega
  | d + 1, t => by
    rw [allB, Bool.and_eq_true, allB_iff s d (t + 1)]
    constructor
    · rintro ⟨h1, h2⟩ i hi1 hi2 hb
      by_cases e : i = t
      · subst e; rw [hb] at h1; simpa using h1
      · exact h2 i (by omega) (by omega) hb
    · intro h
      refine ⟨?_, fun i h1 h2 hb => h i (by omega) (by omega) hb⟩
      cases hb : s.testBit t with
      | false => rfl
      | true => have := h t (Nat.le_refl _) (by omega) hb; simpa using this
theorem allT_bit : ∀ i : Fin 64, allT.testBit i.val = knownB (i.val : Int) := by decide +kernel
theorem allB_only {s : Nat} (hs : s < 18446744073709551616) : allB s 0 64 = onlyT s := by
  rw [Bool.eq_iff_iff, allB_iff]
  unfold onlyT
  rw [beq_iff_eq]
  constructor
  · intro h
    apply Nat.eq_of_testBit_eq
    intro i
    rw [Nat.testBit_and]
    cases hb : s.testBit i with
    | false => rfl
    | true =>
      have hi : i < 64 := by
        rcases Nat.lt_or_ge i 64 with g | g
        · exact g
        · rw [bit_ge hs g] at hb; cases hb
      rw [allT_bit ⟨i, hi⟩]
      rw [h i (Nat.zero_le _) (by omega) hb]; rfl
  · intro h i _ hi hb
    have h2 := congrArg (fun n => n.testBit i) h
    simp only [Nat.testBit_and, hb, Bool.true_and] at h2
    rw [← allT_bit ⟨i, by omega⟩]; exact h2
theorem all_ref_ev (b : Int) (h0 : 0 ≤ b) (h1 : b < 18446744073709551616) : Ev (fun k => ddiref05_all.f k b) (setB b) := by
  obtain ⟨s, rfl⟩ : ∃ m : Nat, b = m := ⟨b.toNat, by omega⟩
  unfold ddiref05_all.f setB
  rw [Int.toNat_natCast, ← allB_only (by omega)]
  exact all_l0 s (by omega) 64 0 rfl
theorem ref_addr_Valid_eq (v : Bool) (hi lo : Int) : ddiref02_Valid.f v hi lo = some (addrB v hi lo) := by
  unfold ddiref02_Valid.f addrB
  cases v
  · by_cases h : hi = 0
    · have : (lo < 4294967296) = (lo ≤ 4294967295) := by apply propext; omega
      simp [h, this]
    · simp [h]
  · simp
end Go.Proofs.YtaehonmfoanloaaDoor.Hand
