/-
  Domain names of addresses: what addr.FromReverse answers: the address whose name it is, or none. Conditions: none beyond the numbers' kinds.
-/
import Derived.Test.YtmkgjibmfabbdabDoorRevS
import Derived.Test.YtmkgjibmfabbdabDoorPAx5
import Derived.Test.YtmkgjibmfabbdabDoorPAx6
import Derived.Test.YtmkgjibmfabbdabDoorPAx11
namespace Go.Proofs.YtmkgjibmfabbdabDoor.Rv
open Go.RowKit Go.Proofs.YtmkgjibmfabbdabDoorW.PrintWords Go.Proofs.YtmkgjibmfabbdabDoorW.PrintLast Go.Proofs.YtmkgjibmfabbdabDoor.Num Go.Proofs.YtmkgjibmfabbdabDoor.Str Go.Proofs.YtmkgjibmfabbdabDoor.Flds Go.Proofs.YtmkgjibmfabbdabDoor.PA Go.Proofs.YtmkgjibmfabbdabDoor.AddrP Go.Proofs.YtmkgjibmfabbdabDoor.Qs Go.Proofs.YtmkgjibmfabbdabDoor.AdW
set_option linter.unusedVariables false
set_option linter.unusedSimpArgs false

/-- A label of one hexadecimal digit. -/
def litV : List UInt8 → Int × Bool
  | [c] => if dg (c.toNat : Int) < 0 then (0, false) else (dg (c.toNat : Int), true)
  | _ => (0, false)
theorem lit1_ev (s : ByteArray) : Ev (fun k => lit1 k s) (litV (by_ s)) := by
  have hl := by_length s
  unfold lit1
  by_cases h : s.size = 1
  · obtain ⟨c, hc⟩ : ∃ c, by_ s = [c] := by
      match hb : by_ s with
      | [c] => exact ⟨c, rfl⟩
      | [] => rw [hb] at hl; simp at hl; omega
      | _ :: _ :: _ => rw [hb] at hl; simp at hl; omega
    have hbt := (bt_drop (s := s) (i := 0) (c := c) (r := []) (by rw [List.drop_zero, hc])).2.1
    have hu := u8_range c
    rw [hc]
    refine ev_if_pos h ?_
    have hbt' : bt s 0 = (c.toNat : Int) := hbt
    rw [hbt']
    refine Ev.bind (addr_digit_ev hu.1 hu.2) ?_
    unfold litV
    by_cases hd : dg (c.toNat : Int) < 0
    · simp only [if_pos hd]
      exact Ev.now _
    · have := dg_le (c.toNat : Int)
      simp only [if_neg hd]
      rw [wrap_u64_id ⟨by omega, by omega⟩]
      exact Ev.now _
  · refine ev_if_neg h ?_
    have e : litV (by_ s) = (0, false) := by
      match hb : by_ s with
      | [c] => rw [hb] at hl; simp at hl; omega
      | [] => rfl
      | _ :: _ :: _ => rfl
    rw [e]
    exact Ev.now _
/-- The labels' digits, the last first, into a number of two words. -/
def revP (r : List UInt8 → Int × Bool) (m q : Int) : List (List UInt8) → Int × Int → Option (Int × Int)
  | [], a => some a
  | x :: t, a => if (r x).2 = true then revP r m q t (Go.bits .or .u64 (IntKind.u64.wrap (a.1 * m)) (a.2 / q), Go.bits .or .u64 (IntKind.u64.wrap (a.2 * m)) (r x).1) else none
theorem revL_ev (f : Nat → ByteArray → Option (Int × Bool)) (r : List UInt8 → Int × Bool) (hf : ∀ s, Ev (fun k => f k s) (r (by_ s))) (m q : Int) : ∀ (l : List ByteArray) (a : Int × Int), Ev (fun k => revL (f k) m q l a) (revP r m q (l.map by_) a)
  | [], a => by
    show Ev (fun _ => some (some a)) (some a)
    exact Ev.now _
  | x :: t, a => by
    unfold revL
    rw [List.map_cons]
    unfold revP
    refine Ev.bind (hf x) ?_
    by_cases h : (r (by_ x)).2 = true
    · rw [if_pos h]
      refine ev_if_pos h ?_
      exact revL_ev f r hf m q t _
    · rw [if_neg h]
      refine ev_if_neg h ?_
      exact Ev.now _
theorem revP_app (r : List UInt8 → Int × Bool) (m q : Int) (y : List (List UInt8)) : ∀ (x : List (List UInt8)) (a : Int × Int), revP r m q (x ++ y) a = (revP r m q x a).bind (revP r m q y)
  | [], a => rfl
  | c :: x, a => by
    rw [List.cons_append, revP, revP]
    by_cases h : (r c).2 = true
    · rw [if_pos h, if_pos h]
      exact revP_app r m q y x _
    · rw [if_neg h, if_neg h]
      rfl
theorem or8' {x d : Int} (h0 : 0 ≤ d) (h1 : d ≤ 255) : Go.bits .or .u64 (IntKind.u64.wrap (x * 256)) d = (x * 256) % 18446744073709551616 + d := by
  rw [wrap_u64, or_u64 8 (by omega) (by omega) (by omega) h0 (by omega) (by omega)]
theorem or4' {x d : Int} (h0 : 0 ≤ d) (h1 : d ≤ 15) : Go.bits .or .u64 (IntKind.u64.wrap (x * 16)) d = (x * 16) % 18446744073709551616 + d := by
  rw [wrap_u64, or_u64 4 (by omega) (by omega) (by omega) h0 (by omega) (by omega)]
theorem horner8 (enc : Nat → List UInt8) (r : List UInt8 → Int × Bool) (hr : ∀ d, d < 256 → r (enc d) = ((d : Int), true)) : ∀ ds : List Nat, (∀ d, d ∈ ds → d < 256) → val 256 ds < 340282366920938463463374607431768211456 →
    revP r 256 72057594037927936 (ds.map enc).reverse (0, 0) = some (((val 256 ds / 18446744073709551616 : Nat) : Int), ((val 256 ds % 18446744073709551616 : Nat) : Int))
  | [], _, _ => rfl
  | d :: ds, h, hv => by
    have hd := h d (by simp)
    have hv' : d + 256 * val 256 ds < 340282366920938463463374607431768211456 := hv
    have ih := horner8 enc r hr ds (fun x hx => h x (by simp [hx])) (by omega)
    rw [List.map_cons, List.reverse_cons, revP_app, ih]
    simp only [Option.bind_some]
    rw [revP, hr d hd, if_pos rfl, revP]
    rw [show val 256 (d :: ds) = d + 256 * val 256 ds from rfl]
    simp only
    rw [or8' (by omega) (by omega), or8' (by omega) (by omega)]
    congr 1
    refine Prod.ext ?_ ?_
    · show _ = (((d + 256 * val 256 ds) / 18446744073709551616 : Nat) : Int)
      simp only
      omega
    · show _ = (((d + 256 * val 256 ds) % 18446744073709551616 : Nat) : Int)
      simp only
      omega
theorem horner4 (enc : Nat → List UInt8) (r : List UInt8 → Int × Bool) (hr : ∀ d, d < 16 → r (enc d) = ((d : Int), true)) : ∀ ds : List Nat, (∀ d, d ∈ ds → d < 16) → val 16 ds < 340282366920938463463374607431768211456 →
    revP r 16 1152921504606846976 (ds.map enc).reverse (0, 0) = some (((val 16 ds / 18446744073709551616 : Nat) : Int), ((val 16 ds % 18446744073709551616 : Nat) : Int))
  | [], _, _ => rfl
  | d :: ds, h, hv => by
    have hd := h d (by simp)
    have hv' : d + 16 * val 16 ds < 340282366920938463463374607431768211456 := hv
    have ih := horner4 enc r hr ds (fun x hx => h x (by simp [hx])) (by omega)
    rw [List.map_cons, List.reverse_cons, revP_app, ih]
    simp only [Option.bind_some]
    rw [revP, hr d hd, if_pos rfl, revP]
    rw [show val 16 (d :: ds) = d + 16 * val 16 ds from rfl]
    simp only
    rw [or4' (by omega) (by omega), or4' (by omega) (by omega)]
    congr 1
    refine Prod.ext ?_ ?_
    · show _ = (((d + 16 * val 16 ds) / 18446744073709551616 : Nat) : Int)
      simp only
      omega
    · show _ = (((d + 16 * val 16 ds) % 18446744073709551616 : Nat) : Int)
      simp only
      omega
theorem revP8_u64 : ∀ (l : List (List UInt8)) (a b : Int × Int), U64 a.1 → U64 a.2 → revP dec 256 72057594037927936 l a = some b → U64 b.1 ∧ U64 b.2
  | [], a, b, h1, h2, h => by
    simp only [revP, Option.some.injEq] at h
    subst h
    exact ⟨h1, h2⟩
  | x :: t, a, b, h1, h2, h => by
    rw [revP] at h
    split at h
    · rename_i hd
      have hr := dec_range (l := x)
      have hr2 := hr.2 hd
      have a1 := h2.1
      have a2 := h2.2
      rw [or8' (by omega) (by omega), or8' hr.1 hr2] at h
      exact revP8_u64 t _ b ⟨by simp only; omega, by simp only; omega⟩ ⟨by simp only; omega, by simp only; omega⟩ h
    · cases h
theorem litV_range (x : List UInt8) : 0 ≤ (litV x).1 ∧ (litV x).1 ≤ 15 := by
  unfold litV
  split
  · rename_i c
    have := dg_le (c.toNat : Int)
    split
    · exact ⟨by decide, by decide⟩
    · exact ⟨by simp only; omega, this⟩
  · exact ⟨by decide, by decide⟩
theorem revP4_u64 : ∀ (l : List (List UInt8)) (a b : Int × Int), U64 a.1 → U64 a.2 → revP litV 16 1152921504606846976 l a = some b → U64 b.1 ∧ U64 b.2
  | [], a, b, h1, h2, h => by
    simp only [revP, Option.some.injEq] at h
    subst h
    exact ⟨h1, h2⟩
  | x :: t, a, b, h1, h2, h => by
    rw [revP] at h
    split at h
    · have hr := litV_range x
      have a1 := h2.1
      have a2 := h2.2
      rw [or4' (by omega) (by omega), or4' hr.1 hr.2] at h
      exact revP4_u64 t _ b ⟨by simp only; omega, by simp only; omega⟩ ⟨by simp only; omega, by simp only; omega⟩ h
    · cases h
def suf8 : List UInt8 := 46 :: tail4
def suf4 : List UInt8 := 46 :: tail6
def rv8V (l : List UInt8) : Option (Int × Int) := if Lib.hasSuffix l suf8 = true then revP dec 256 72057594037927936 (splitC 46 (Lib.trimSuffix l suf8)).reverse (0, 0) else none
def rv6V (l : List UInt8) : Option (Int × Int) := if Lib.hasSuffix l suf4 = true then revP litV 16 1152921504606846976 (splitC 46 (Lib.trimSuffix l suf4)).reverse (0, 0) else none
theorem split_ev (X : List UInt8) (hX : X.length ≤ 1000) : ∃ F, strings_Split.f (⟨X.toArray⟩ : ByteArray) (⟨#[46]⟩ : ByteArray) = some F ∧ F.map by_ = splitC 46 X := by
  have hs := size_mk X
  refine ⟨Lib.splitB (⟨#[46]⟩ : ByteArray) 0 (Lib.countB (⟨X.toArray⟩ : ByteArray) (⟨#[46]⟩ : ByteArray)) (⟨X.toArray⟩ : ByteArray), ?_, ?_⟩
  · unfold strings_Split.f
    rw [if_pos (by omega), if_pos (by decide)]
  · rw [split_fields, by_mk]
theorem rv8_ev (n : ByteArray) (hn : n.size ≤ 100) : Ev (fun k => rv8 k n) (rv8V (by_ n)) := by
  have hl := by_length n
  unfold rv8 rv8V
  by_cases h : Lib.hasSuffix (by_ n) suf8 = true
  · rw [if_pos h]
    refine ev_if_pos h ?_
    have ht := Lib.trimSuffix_le (by_ n) suf8
    obtain ⟨F, hF, hm⟩ := split_ev (Lib.trimSuffix (by_ n) suf8) (by omega)
    refine ev_bind_const hF ?_
    have := revL_ev addr_decimal.f dec addr_decimal_ev 256 72057594037927936 F.reverse (0, 0)
    rw [List.map_reverse, hm] at this
    exact this
  · rw [if_neg h]
    refine ev_if_neg h ?_
    exact Ev.now _
theorem rv6_ev (n : ByteArray) (hn : n.size ≤ 100) : Ev (fun k => rv6 k n) (rv6V (by_ n)) := by
  have hl := by_length n
  unfold rv6 rv6V
  by_cases h : Lib.hasSuffix (by_ n) suf4 = true
  · rw [if_pos h]
    refine ev_if_pos h ?_
    have ht := Lib.trimSuffix_le (by_ n) suf4
    obtain ⟨F, hF, hm⟩ := split_ev (Lib.trimSuffix (by_ n) suf4) (by omega)
    refine ev_bind_const hF ?_
    have := revL_ev lit1 litV lit1_ev 16 1152921504606846976 F.reverse (0, 0)
    rw [List.map_reverse, hm] at this
    exact this
  · rw [if_neg h]
    refine ev_if_neg h ?_
    exact Ev.now _
theorem chk_ev (n : ByteArray) {v : Bool} {hi lo : Int} (h1 : U64 hi) (h2 : U64 lo) : Ev (fun k => chk k n v hi lo) (if (RevS v hi lo).2 = 0 ∧ (RevS v hi lo).1.toList = n.toList then (v, hi, lo, true) else (false, 0, 0, false)) := by
  unfold chk
  refine Ev.bind (addr_Reverse_ev h1 h2) ?_
  by_cases h : (RevS v hi lo).2 = 0 ∧ (RevS v hi lo).1.toList = n.toList
  · simp only [if_pos h]
    exact Ev.now _
  · simp only [if_neg h]
    exact Ev.now _
theorem RevS_yes {v : Bool} {hi lo : Int} (hv : vld v hi lo = true) : RevS v hi lo = (bs (revT v (lowB v hi lo)), 0) := if_pos hv
/-- No address has this name. -/
def Nobody (n : ByteArray) : Prop := ∀ v hi lo, U64 hi → U64 lo → vld v hi lo = true → revT v (lowB v hi lo) ≠ by_ n
theorem Nobody.chk {n : ByteArray} (h : Nobody n) {v : Bool} {hi lo : Int} (h1 : U64 hi) (h2 : U64 lo) : ¬ ((RevS v hi lo).2 = 0 ∧ (RevS v hi lo).1.toList = n.toList) := by
  rintro ⟨c1, c2⟩
  cases hv : vld v hi lo with
  | true =>
    rw [RevS_yes hv] at c2
    refine h v hi lo h1 h2 hv ?_
    have e : (bs (revT v (lowB v hi lo))).toList = revT v (lowB v hi lo) := by rw [ByteArray.toList_eq]; exact bs_list _
    rw [e, ByteArray.toList_eq] at c2
    exact c2
  | false =>
    unfold RevS at c1
    rw [hv, if_neg (by decide)] at c1
    exact absurd c1 (by decide)
theorem FR_no (n : ByteArray) (h : Nobody n) : Ev (fun k => addr_FromReverse.f k n) (false, 0, 0, false) := by
  unfold addr_FromReverse.f
  by_cases hn : n.size > 100
  · refine ev_if_pos hn ?_
    exact Ev.now _
  · refine ev_if_neg hn (Ev.bind (rv8_ev n (by omega)) ?_)
    have u0 : U64 0 := ⟨by decide, by decide⟩
    cases h8 : rv8V (by_ n) with
    | some a =>
      have hu : U64 a.1 ∧ U64 a.2 := by
        unfold rv8V at h8
        split at h8
        · exact revP8_u64 _ _ _ u0 u0 h8
        · cases h8
      have hc := chk_ev n (v := false) hu.1 hu.2
      rw [if_neg (h.chk hu.1 hu.2)] at hc
      exact hc
    | none =>
      show Ev (fun k => (rv6 k n).bind fun R => from6 k n R) _
      refine Ev.bind (rv6_ev n (by omega)) ?_
      cases h6 : rv6V (by_ n) with
      | some a =>
        have hu : U64 a.1 ∧ U64 a.2 := by
          unfold rv6V at h6
          split at h6
          · exact revP4_u64 _ _ _ u0 u0 h6
          · cases h6
        have hc := chk_ev n (v := true) hu.1 hu.2
        rw [if_neg (h.chk hu.1 hu.2)] at hc
        exact hc
      | none =>
        show Ev (fun k => (addr_Reverse.f k true 0 0).bind fun _ => some (false, 0, 0, false)) _
        exact Ev.bind (addr_Reverse_ev u0 u0) (Ev.now _)
theorem dots_join : ∀ F : List (List UInt8), F ≠ [] → dots F = joinC 46 F ++ [46]
  | [], h => absurd rfl h
  | [p], _ => by simp [dots, joinC]
  | p :: q :: qs, _ => by
    have ih := dots_join (q :: qs) (by simp)
    unfold dots at ih ⊢
    rw [List.map_cons, List.flatten_cons, ih, joinC]
    simp
theorem suffix_yes (X s : List UInt8) : Lib.hasSuffix (X ++ s) s = true := by
  unfold Lib.hasSuffix
  rw [List.isSuffixOf_iff_suffix]
  exact List.suffix_append X s
theorem trim_yes (X s : List UInt8) : Lib.trimSuffix (X ++ s) s = X := by
  unfold Lib.trimSuffix
  rw [if_pos (suffix_yes X s), List.length_append, Nat.add_sub_cancel]
  exact List.take_left
theorem suffix_no (Y : List UInt8) : ¬ Lib.hasSuffix (Y ++ tail6) suf8 = true := by
  unfold Lib.hasSuffix
  rw [List.isSuffixOf_iff_suffix]
  rintro ⟨t, ht⟩
  have h := congrArg List.reverse ht
  rw [List.reverse_append, List.reverse_append] at h
  have e1 : suf8.reverse = [46, 97, 112, 114, 97, 46, 114, 100, 100, 97, 45, 110, 105, 46] := by decide
  have e2 : tail6.reverse = [46, 97, 112, 114, 97, 46, 54, 112, 105] := by decide
  rw [e1, e2] at h
  simp at h
theorem dec_dd : ∀ i : Fin 256, dec (dd i.val) = ((i.val : Int), true) := by decide +kernel
theorem dd_free : ∀ i : Fin 256, (46 : UInt8) ∉ dd i.val := by decide +kernel
theorem lit_hexd : ∀ i : Fin 16, litV [hexd i.val] = ((i.val : Int), true) := by decide +kernel
theorem hexd_free : ∀ i : Fin 16, (46 : UInt8) ≠ hexd i.val := by decide
def nibs (L : List Nat) : List Nat := (L.map fun b => [b % 16, b / 16]).flatten
theorem nibs_lt (L : List Nat) (h : ∀ b, b ∈ L → b < 256) : ∀ d, d ∈ nibs L → d < 16 := by
  intro d hd
  unfold nibs at hd
  obtain ⟨l, hl, hd⟩ := List.mem_flatten.1 hd
  obtain ⟨b, hb, rfl⟩ := List.mem_map.1 hl
  have := h b hb
  simp only [List.mem_cons, List.not_mem_nil, or_false] at hd
  rcases hd with rfl | rfl <;> omega
theorem val_nibs : ∀ L : List Nat, val 16 (nibs L) = val 256 L
  | [] => rfl
  | b :: L => by
    have ih := val_nibs L
    unfold nibs at ih ⊢
    rw [List.map_cons, List.flatten_cons]
    show b % 16 + 16 * (b / 16 + 16 * val 16 (L.map fun b => [b % 16, b / 16]).flatten) = b + 256 * val 256 L
    rw [ih]
    omega
theorem flds4 (L : List Nat) : flds false L = L.map dd := by
  unfold flds
  induction L with
  | nil => rfl
  | cons b L ih => rw [List.map_cons, List.flatten_cons, ih]; rfl
theorem flds6 (L : List Nat) : flds true L = (nibs L).map (fun d => [hexd d]) := by
  unfold flds nibs
  induction L with
  | nil => rfl
  | cons b L ih => rw [List.map_cons, List.flatten_cons, ih]; rfl
theorem lowB_ne (v : Bool) (hi lo : Int) : lowB v hi lo ≠ [] := by
  unfold lowB
  split <;> simp [digs]
theorem revT_eq (v : Bool) (L : List Nat) (h : flds v L ≠ []) : revT v L = joinC 46 (flds v L) ++ (46 :: tl v) := by
  unfold revT
  rw [dots_join _ h]
  simp
theorem val_low {v : Bool} {hi lo : Int} (h1 : U64 hi) (h2 : U64 lo) (hv : vld v hi lo = true) : val 256 (lowB v hi lo) < 340282366920938463463374607431768211456 ∧ ((val 256 (lowB v hi lo) / 18446744073709551616 : Nat) : Int) = hi ∧ ((val 256 (lowB v hi lo) % 18446744073709551616 : Nat) : Int) = lo := by
  have a0 := h1.1
  have a1 := h1.2
  have b0 := h2.1
  have b1 := h2.2
  unfold lowB
  cases v with
  | true =>
    rw [if_pos rfl, val_app, digs_len, val_digs 256 (by decide) 8 _ (by show _ < 18446744073709551616; omega), val_digs 256 (by decide) 8 _ (by show _ < 18446744073709551616; omega)]
    rw [show (256 : Nat) ^ 8 = 18446744073709551616 from rfl]
    omega
  | false =>
    have h3 : hi = 0 ∧ lo < 4294967296 := by
      rcases vld_true hv with h | h
      · cases h
      · exact h.2
    obtain ⟨h3, h4⟩ := h3
    rw [if_neg (by decide), val_digs 256 (by decide) 4 _ (by show _ < 4294967296; omega)]
    omega
theorem flds_len (v : Bool) : ∀ L : List Nat, (dots (flds v L)).length ≤ 4 * L.length
  | [] => by simp [flds, dots]
  | b :: L => by
    have ih := flds_len v L
    have h1 := fl_len v b
    have e : flds v (b :: L) = fl v b ++ flds v L := by unfold flds; rw [List.map_cons, List.flatten_cons]
    rw [e, dots_app, List.length_append, List.length_cons]
    omega
theorem revT_len (v : Bool) (L : List Nat) (h : L.length ≤ 16) : (revT v L).length ≤ 77 := by
  have h1 := flds_len v L
  have ht : (tl v).length ≤ 13 := by unfold tl; split <;> decide
  unfold revT
  rw [List.length_append]
  omega
theorem flds_ne (v : Bool) (hi lo : Int) : flds v (lowB v hi lo) ≠ [] := by
  cases hL : lowB v hi lo with
  | nil => exact absurd hL (lowB_ne v hi lo)
  | cons b L =>
    unfold flds fl
    cases v <;> simp
theorem FR_yes {v : Bool} {hi lo : Int} (h1 : U64 hi) (h2 : U64 lo) (hv : vld v hi lo = true) : Ev (fun k => addr_FromReverse.f k (bs (revT v (lowB v hi lo)))) (v, hi, lo, true) := by
  have hlen := revT_len v (lowB v hi lo) (lowB_len v hi lo)
  have hb := lowB_lt v hi lo
  have hne := flds_ne v hi lo
  obtain ⟨hv1, hv2, hv3⟩ := val_low h1 h2 hv
  have hby : by_ (bs (revT v (lowB v hi lo))) = revT v (lowB v hi lo) := bs_list _
  have hsz : (bs (revT v (lowB v hi lo))).size ≤ 100 := by rw [bs_size]; omega
  have hchk := chk_ev (bs (revT v (lowB v hi lo))) (v := v) h1 h2
  rw [RevS_yes hv, if_pos ⟨rfl, rfl⟩] at hchk
  unfold addr_FromReverse.f
  refine ev_if_neg (by omega) (Ev.bind (rv8_ev _ hsz) ?_)
  rw [hby]
  cases v with
  | false =>
    have e : rv8V (revT false (lowB false hi lo)) = some (hi, lo) := by
      unfold rv8V
      rw [revT_eq _ _ hne, show (46 :: tl false) = suf8 from rfl, if_pos (suffix_yes _ _), trim_yes, flds4]
      rw [split_join 46 _ (by rw [← flds4]; exact hne) (by
        intro p hp
        obtain ⟨b, hb', rfl⟩ := List.mem_map.1 hp
        exact dd_free ⟨b, hb b hb'⟩)]
      rw [horner8 dd dec (fun d hd => dec_dd ⟨d, hd⟩) _ hb hv1, hv2, hv3]
    rw [e]
    exact hchk
  | true =>
    have e8 : rv8V (revT true (lowB true hi lo)) = none := by
      unfold rv8V revT
      exact if_neg (suffix_no _)
    rw [e8]
    show Ev (fun k => (rv6 k (bs (revT true (lowB true hi lo)))).bind fun R => from6 k (bs (revT true (lowB true hi lo))) R) _
    refine Ev.bind (rv6_ev _ hsz) ?_
    rw [hby]
    have e : rv6V (revT true (lowB true hi lo)) = some (hi, lo) := by
      unfold rv6V
      rw [revT_eq _ _ hne, show (46 :: tl true) = suf4 from rfl, if_pos (suffix_yes _ _), trim_yes, flds6]
      rw [split_join 46 _ (by rw [← flds6]; exact hne) (by
        intro p hp
        obtain ⟨b, hb', rfl⟩ := List.mem_map.1 hp
        have := nibs_lt _ hb b hb'
        simp only [List.mem_cons, List.not_mem_nil, or_false]
        exact hexd_free ⟨b, this⟩)]
      rw [horner4 (fun d => [hexd d]) litV (fun d hd => lit_hexd ⟨d, hd⟩) _ (nibs_lt _ hb) (by rw [val_nibs]; exact hv1), val_nibs, hv2, hv3]
    rw [e]
    exact hchk
end Go.Proofs.YtmkgjibmfabbdabDoor.Rv
