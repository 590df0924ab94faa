/-
  Texts of addresses: what addr.Print writes is read by addr.Parse as the same address; what Parse reads is an address. Conditions: numbers within their kinds.
-/
import Derived.Test.YteflcmmandlknaaDoorAddrPb
import Derived.Test.YteflcmmandlknaaDoorAddrQa
namespace Go.Proofs.YteflcmmandlknaaDoor.Tx
open Go.RowKit Go.Proofs.YteflcmmandlknaaDoorW.PrintWords Go.Proofs.YteflcmmandlknaaDoor.Num Go.Proofs.YteflcmmandlknaaDoor.Str Go.Proofs.YteflcmmandlknaaDoor.Flds Go.Proofs.YteflcmmandlknaaDoor.PA Go.Proofs.YteflcmmandlknaaDoor.AddrP Go.Proofs.YteflcmmandlknaaDoor.Qa
set_option linter.unusedVariables false
set_option linter.unusedSimpArgs false

def Rg (x : Int) : Prop := 0 ≤ x ∧ x < 65536
theorem or8 {x d : Int} (h0 : 0 ≤ d) (h1 : d ≤ 255) : Go.bits .or .u64 (IntKind.u64.wrap (x * 256)) d = IntKind.u64.wrap (IntKind.u64.wrap (x * 256) + d) := by
  rw [wrap_u64, wrap_u64, or_u64 8 (by omega) (by omega) (by omega) h0 (by omega) (by omega)]
  omega
theorem sh_val {x d : Int} (hx : 0 ≤ x) (hx1 : x < 281474976710656) (h : Rg d) : shift16 x d = x * 65536 + d := by
  have h0 := h.1
  have h1 := h.2
  unfold shift16
  rw [wrap_u64, wrap_u64, or_u64 16 (by omega) (by omega) (by omega) (by omega) (by omega) (by omega)]
  omega
theorem num4_val {a b c d : Int} (ha : Rg a) (hb : Rg b) (hc : Rg c) (hd : Rg d) : num4 a b c d = ((a * 65536 + b) * 65536 + c) * 65536 + d := by
  have a0 := ha.1
  have a1 := ha.2
  have b0 := hb.1
  have b1 := hb.2
  have c0 := hc.1
  have c1 := hc.2
  unfold num4
  have e : Go.bits .or .u64 0 (IntKind.u64.wrap a) = a := by
    rw [wrap_u64, or_u64 16 (by omega) (by omega) (by omega) (by omega) (by omega) (by omega)]
    omega
  rw [e, sh_val a0 (by omega) hb, sh_val (by omega) (by omega) hc, sh_val (by omega) (by omega) hd]
theorem w16 (x : Int) : IntKind.u16.wrap x = x % 65536 := rfl
theorem rg16 (x : Int) : Rg (IntKind.u16.wrap x) := by
  rw [w16]
  exact ⟨by omega, by omega⟩
theorem num4_hi (hi lo : Int) (h : U64 hi) : num4 (rd (grp8 hi lo) 0) (rd (grp8 hi lo) 1) (rd (grp8 hi lo) 2) (rd (grp8 hi lo) 3) = hi := by
  have h0 := h.1
  have h1 := h.2
  show num4 (IntKind.u16.wrap (hi / 281474976710656)) (IntKind.u16.wrap (hi / 4294967296)) (IntKind.u16.wrap (hi / 65536)) (IntKind.u16.wrap hi) = hi
  rw [num4_val (rg16 _) (rg16 _) (rg16 _) (rg16 _)]
  simp only [w16]
  omega
theorem num4_lo (hi lo : Int) (h : U64 lo) : num4 (rd (grp8 hi lo) 4) (rd (grp8 hi lo) 5) (rd (grp8 hi lo) 6) (rd (grp8 hi lo) 7) = lo := by
  have h0 := h.1
  have h1 := h.2
  show num4 (IntKind.u16.wrap (lo / 281474976710656)) (IntKind.u16.wrap (lo / 4294967296)) (IntKind.u16.wrap (lo / 65536)) (IntKind.u16.wrap lo) = lo
  rw [num4_val (rg16 _) (rg16 _) (rg16 _) (rg16 _)]
  simp only [w16]
  omega
theorem splitC_app (c : UInt8) (y : List UInt8) : ∀ x : List UInt8, splitC c (x ++ c :: y) = splitC c x ++ splitC c y
  | [] => by
    show splitC c (c :: y) = [[]] ++ splitC c y
    rw [splitC, if_pos rfl]
    rfl
  | a :: x => by
    have ih := splitC_app c y x
    by_cases ha : a = c
    · subst ha
      rw [List.cons_append, splitC, if_pos rfl, ih, splitC, if_pos rfl]
      rfl
    · cases hs : splitC c x with
      | nil => exact absurd hs (splitC_ne _ _)
      | cons p ps =>
        rw [hs] at ih
        rw [List.cons_append, splitC_cons_ne ha ih, splitC_cons_ne ha hs]
        rfl
theorem dg_hexd : ∀ i : Fin 16, dg ((hexd i.val).toNat : Int) = (i.val : Int) := by decide
theorem dgh (d : Nat) (h : d < 16) : dg ((hexd d).toNat : Int) = (d : Int) := dg_hexd ⟨d, h⟩
theorem hexd_ne : ∀ i : Fin 16, hexd i.val ≠ 58 := by decide
theorem grpL_step (d : Nat) (h : d < 16) (r : List UInt8) (n : Int) : grpL (hexd d :: r) n = grpL r (16 * n + d) := by
  rw [grpL, dgh d h, if_neg (by omega)]
theorem grp_hexText (n : Nat) (h : n < 65536) : grp (hexText n) = some (n : Int) := by
  unfold hexText
  by_cases h1 : n < 16
  · rw [if_pos h1]
    unfold grp
    rw [if_neg (by simp), grpL_step _ h1, grpL]
    congr 1
    omega
  · rw [if_neg h1]
    by_cases h2 : n < 256
    · rw [if_pos h2]
      unfold grp
      rw [if_neg (by simp), grpL_step _ (by omega), grpL_step _ (by omega), grpL]
      congr 1
      omega
    · rw [if_neg h2]
      by_cases h3 : n < 4096
      · rw [if_pos h3]
        unfold grp
        rw [if_neg (by simp), grpL_step _ (by omega), grpL_step _ (by omega), grpL_step _ (by omega), grpL]
        congr 1
        omega
      · rw [if_neg h3]
        unfold grp
        rw [if_neg (by simp), grpL_step _ (by omega), grpL_step _ (by omega), grpL_step _ (by omega), grpL_step _ (by omega), grpL]
        congr 1
        omega
theorem grp_hx (x : Int) (h : Rg x) : grp (hx x) = some x := by
  unfold hx
  have h0 := h.1
  have h1 := h.2
  rw [grp_hexText x.toNat (by omega)]
  congr 1
  omega
theorem hexText_free (n : Nat) (h : n < 65536) : (58 : UInt8) ∉ hexText n := by
  have hh : ∀ d, d < 16 → ¬ (58 : UInt8) = hexd d := fun d hd e => hexd_ne ⟨d, hd⟩ e.symm
  unfold hexText
  by_cases h1 : n < 16
  · rw [if_pos h1]
    simp only [List.mem_cons, List.not_mem_nil, or_false]
    exact hh n h1
  · rw [if_neg h1]
    by_cases h2 : n < 256
    · rw [if_pos h2]
      simp only [List.mem_cons, List.not_mem_nil, or_false, not_or]
      exact ⟨hh _ (by omega), hh _ (by omega)⟩
    · rw [if_neg h2]
      by_cases h3 : n < 4096
      · rw [if_pos h3]
        simp only [List.mem_cons, List.not_mem_nil, or_false, not_or]
        exact ⟨hh _ (by omega), hh _ (by omega), hh _ (by omega)⟩
      · rw [if_neg h3]
        simp only [List.mem_cons, List.not_mem_nil, or_false, not_or]
        exact ⟨hh _ (by omega), hh _ (by omega), hh _ (by omega), hh _ (by omega)⟩
theorem hx_free (x : Int) (h : Rg x) : (58 : UInt8) ∉ hx x := hexText_free _ (by have h0 := h.1; have h1 := h.2; omega)
theorem hx_ne (x : Int) : hx x ≠ [] := by
  unfold hx hexText
  by_cases h1 : x.toNat < 16
  · rw [if_pos h1]; simp
  · rw [if_neg h1]
    by_cases h2 : x.toNat < 256
    · rw [if_pos h2]; simp
    · rw [if_neg h2]
      by_cases h3 : x.toNat < 4096
      · rw [if_pos h3]; simp
      · rw [if_neg h3]; simp
theorem J_join : ∀ l : List Int, J l = joinC 58 (l.map hx)
  | [] => rfl
  | [x] => Lib.join_one _ _
  | x :: y :: r => by
    have ih := J_join (y :: r)
    unfold J at ih ⊢
    rw [List.map_cons, Lib.join_cons] at ih ⊢
    simp only [List.map_cons, joinC] at ih ⊢
    rw [← ih]
    rfl
theorem J_ne {l : List Int} (h : l ≠ []) : J l ≠ [] := by
  cases l with
  | nil => exact absurd rfl h
  | cons x r =>
    unfold J
    rw [List.map_cons, Lib.join_cons]
    intro hc
    exact hx_ne x (List.append_eq_nil_iff.1 hc).1
theorem split_J (l : List Int) (hl : l ≠ []) (hr : ∀ x, x ∈ l → Rg x) : splitC 58 (J l) = l.map hx := by
  rw [J_join]
  refine split_join 58 _ (by simpa using hl) (fun p hp => ?_)
  obtain ⟨x, hx', rfl⟩ := List.mem_map.1 hp
  exact hx_free x (hr x hx')
theorem vals_map : ∀ (l : List Int), (∀ x, x ∈ l → Rg x) → vals grp (l.map hx) = some l
  | [], _ => rfl
  | x :: r, h => by
    rw [List.map_cons, vals, grp_hx x (h x (by simp))]
    dsimp only
    rw [vals_map r (fun y hy => h y (by simp [hy]))]
    rfl
theorem lst_J (l : List Int) (hl : l.length ≤ 8) (hr : ∀ x, x ∈ l → Rg x) : lst (J l) = some l := by
  unfold lst
  by_cases h : l = []
  · subst h; rfl
  · rw [if_neg (J_ne h), split_J l h hr, listL_eq grp _ [] (by simp), vals_map l hr]
    simp only [Option.bind_some, List.length_nil, Nat.zero_add, List.nil_append]
    rw [if_pos hl]
theorem cutF_free : ∀ fs : List (List UInt8), (∀ p, p ∈ fs → p ≠ []) → cutF fs = none
  | [], _ => rfl
  | [p], _ => rfl
  | [p, q], _ => rfl
  | p :: q :: r :: qs, h => by
    have ih := cutF_free (q :: r :: qs) (fun x hx => h x (List.mem_cons_of_mem _ hx))
    have hq : q.isEmpty = false := by
      cases q with
      | nil => exact absurd rfl (h [] (by simp))
      | cons _ _ => rfl
    rw [cutF, hq, ih]
    rfl
theorem cutF_gap (F2 : List (List UInt8)) (h2 : F2 ≠ []) : ∀ F1 : List (List UInt8), F1 ≠ [] → (∀ p, p ∈ F1.tail → p ≠ []) → cutF (F1 ++ [] :: F2) = some (F1, F2)
  | [], h, _ => absurd rfl h
  | [p], _, _ => by
    cases F2 with
    | nil => exact absurd rfl h2
    | cons r qs => rfl
  | p :: q :: rest, _, ht => by
    have ih := cutF_gap F2 h2 (q :: rest) (by simp) (fun x hx => ht x (List.mem_cons_of_mem _ hx))
    have hq : q.isEmpty = false := by
      cases q with
      | nil => exact absurd rfl (ht [] (by simp))
      | cons _ _ => rfl
    cases hr : rest ++ [] :: F2 with
    | nil => simp at hr
    | cons r qs =>
      rw [List.cons_append, hr] at ih
      rw [List.cons_append, List.cons_append, hr, cutF, hq, ih]
      rfl
theorem six_gap (a b : List Int) (h : a.length + b.length ≤ 7) (ha : ∀ x, x ∈ a → Rg x) (hb : ∀ x, x ∈ b → Rg x) : sixV (J a ++ 58 :: 58 :: J b) = some (six8 a b) := by
  have hs : splitC 58 (J a ++ 58 :: 58 :: J b) = splitC 58 (J a) ++ [] :: splitC 58 (J b) := by
    rw [splitC_app, show splitC 58 (58 :: J b) = [] :: splitC 58 (J b) from by rw [splitC, if_pos rfl]]
  have ht : ∀ p, p ∈ (splitC 58 (J a)).tail → p ≠ [] := by
    by_cases h0 : a = []
    · subst h0
      intro p hp
      exact absurd hp (by show p ∉ ([[]] : List (List UInt8)).tail; simp)
    · rw [split_J a h0 ha]
      intro p hp
      obtain ⟨x, _, rfl⟩ := List.mem_map.1 (List.mem_of_mem_tail hp)
      exact hx_ne x
  unfold sixV
  rw [hs, cutF_gap _ (splitC_ne _ _) _ (splitC_ne _ _) ht]
  dsimp only
  rw [join_split, join_split, lst_J a (by omega) ha, lst_J b (by omega) hb]
  dsimp only
  rw [if_pos h]
theorem six_plain8 (g : List Int) (h : g.length = 8) (hr : ∀ x, x ∈ g → Rg x) : sixV (J g) = some g := by
  have hne : g ≠ [] := by intro e; rw [e] at h; simp at h
  unfold sixV
  rw [split_J g hne hr, cutF_free _ (fun p hp => by obtain ⟨x, _, rfl⟩ := List.mem_map.1 hp; exact hx_ne x), lst_J g (by omega) hr]
  dsimp only
  rw [if_pos h]
theorem zr_rep : ∀ l : List Int, l = List.replicate (l.takeWhile (· == 0)).length 0 ++ l.drop (l.takeWhile (· == 0)).length
  | [] => rfl
  | x :: r => by
    by_cases hx : x = 0
    · subst hx
      have ih := zr_rep r
      simp only [List.takeWhile_cons, beq_self_eq_true, if_true, List.length_cons, List.replicate_succ, List.drop_succ_cons, List.cons_append]
      rw [← ih]
    · have hb : (x == 0) = false := by simpa using hx
      simp only [List.takeWhile_cons, hb]
      rfl
theorem lfold_zr (g : List Int) : ∀ (l : List Nat) (p : Nat × Nat), (p.2 = 0 ∨ zr g p.1 = p.2) → ((l.foldl (lstep g) p).2 = 0 ∨ zr g (l.foldl (lstep g) p).1 = (l.foldl (lstep g) p).2)
  | [], p, h => h
  | i :: l, p, h => by
    rw [List.foldl_cons]
    refine lfold_zr g l _ ?_
    unfold lstep
    by_cases hz : zr g i > p.2
    · rw [if_pos hz]; exact Or.inr rfl
    · rw [if_neg hz]; exact h
theorem longest_zr (g : List Int) : (longest g).2 = 0 ∨ zr g (longest g).1 = (longest g).2 := lfold_zr g (List.range 8) (0, 0) (Or.inl rfl)
theorem six8_longest (g : List Int) (hg : g.length = 8) (h : ¬ (longest g).2 < 2) : six8 (g.take (longest g).1) (g.drop ((longest g).1 + (longest g).2)) = g := by
  have hle := longest_le g hg
  have hz : zr g (longest g).1 = (longest g).2 := by
    rcases longest_zr g with e | e
    · omega
    · exact e
  have hr := zr_rep (g.drop (longest g).1)
  have hz' : ((g.drop (longest g).1).takeWhile (· == 0)).length = (longest g).2 := hz
  rw [hz', List.drop_drop] at hr
  unfold six8
  rw [List.length_take, List.length_drop, hg, show 8 - min (longest g).1 8 - (8 - ((longest g).1 + (longest g).2)) = (longest g).2 by omega, ← hr]
  exact List.take_append_drop _ _
theorem J_len1 (l : List Int) (h : l ≠ []) : (J l).length + 1 ≤ 5 * l.length := by
  cases l with
  | nil => exact absurd rfl h
  | cons x r =>
    have h1 := hx_len x
    have h2 := tail_len r
    unfold J
    rw [List.map_cons, Lib.join_cons, List.length_append, List.length_cons]
    omega
theorem mem_split {c x : UInt8} (hx : x ≠ c) : ∀ {l : List UInt8}, x ∈ l → ∃ p ∈ splitC c l, x ∈ p
  | [], h => by simp at h
  | y :: l, h => by
    by_cases hy : y = c
    · subst hy
      have h' : x ∈ l := by
        rcases List.mem_cons.1 h with e | e
        · exact absurd e hx
        · exact e
      obtain ⟨p, hp, hxp⟩ := mem_split hx h'
      exact ⟨p, by rw [splitC, if_pos rfl]; exact List.mem_cons_of_mem _ hp, hxp⟩
    · cases hs : splitC c l with
      | nil => exact absurd hs (splitC_ne _ _)
      | cons q qs =>
        rw [splitC_cons_ne hy hs]
        rcases List.mem_cons.1 h with e | e
        · exact ⟨y :: q, by simp, by simp [e]⟩
        · obtain ⟨p, hp, hxp⟩ := mem_split hx e
          rw [hs] at hp
          rcases List.mem_cons.1 hp with rfl | hp
          · exact ⟨y :: p, by simp, by simp [hxp]⟩
          · exact ⟨p, by simp [hp], hxp⟩
theorem fourL_bad : ∀ {F : List (List UInt8)} (lo : Int) {p : List UInt8}, p ∈ F → (dec p).2 = false → fourL F lo = none
  | [], lo, p, h, _ => by simp at h
  | f :: fs, lo, p, h, hd => by
    unfold fourL
    split
    · rename_i hf
      rcases List.mem_cons.1 h with rfl | h
      · rw [hd] at hf; cases hf
      · exact fourL_bad _ h hd
    · rfl
theorem four_colon {l : List UInt8} (h : (58 : UInt8) ∈ l) : fourV l = none := by
  unfold fourV
  split
  · obtain ⟨p, hp, hx⟩ := mem_split (c := 46) (x := 58) (by decide) h
    exact fourL_bad 0 hp (dec_bad (x := 58) (by decide) hx)
  · rfl
theorem J_colon (g : List Int) (h : g.length = 8) : (58 : UInt8) ∈ J g := by
  match g, h with
  | x :: y :: r, _ =>
    rw [J_join]
    show (58 : UInt8) ∈ hx x ++ 58 :: joinC 58 (hx y :: r.map hx)
    simp
theorem parse_out6 (g : List Int) (hg : g.length = 8) (hr : ∀ x, x ∈ g → Rg x) : parseS (out6 g) = (true, num4 (rd g 0) (rd g 1) (rd g 2) (rd g 3), num4 (rd g 4) (rd g 5) (rd g 6) (rd g 7), 0) := by
  unfold parseS out6
  by_cases h : (longest g).2 < 2
  · rw [if_pos h]
    have hl := J_len1 g (by intro e; rw [e] at hg; simp at hg)
    rw [if_neg (by omega), four_colon (J_colon g hg), six_plain8 g hg hr]
  · rw [if_neg h]
    have hle := longest_le g hg
    have h1 := J_len (g.take (longest g).1)
    have h2 := J_len (g.drop ((longest g).1 + (longest g).2))
    rw [List.length_take] at h1
    rw [List.length_drop] at h2
    have e : J (g.take (longest g).1) ++ [58, 58] ++ J (g.drop ((longest g).1 + (longest g).2)) = J (g.take (longest g).1) ++ 58 :: 58 :: J (g.drop ((longest g).1 + (longest g).2)) := by simp
    rw [e, if_neg (by simp only [List.length_append, List.length_cons]; omega), four_colon (by simp),
      six_gap _ _ (by rw [List.length_take, List.length_drop]; omega) (fun x hx => hr x (List.mem_of_mem_take hx)) (fun x hx => hr x (List.mem_of_mem_drop hx)), six8_longest g hg h]
theorem dec_dd : ∀ i : Fin 256, dec (dd i.val) = ((i.val : Int), true) := by decide +kernel
theorem dec_at (n : Nat) (h : n < 256) : dec (dd n) = ((n : Int), true) := dec_dd ⟨n, h⟩
theorem dd_free : ∀ i : Fin 256, (46 : UInt8) ∉ dd i.val := by decide +kernel
theorem fourL_step (n : Nat) (h : n < 256) (fs : List (List UInt8)) (lo : Int) : fourL (dd n :: fs) lo = fourL fs (IntKind.u64.wrap (IntKind.u64.wrap (lo * 256) + n)) := by
  rw [fourL, dec_at n h, if_pos rfl, or8 (by omega) (by omega)]
theorem four_out4 (lo : Nat) (h : lo < 4294967296) : fourV (out4 lo) = some (lo : Int) := by
  have hs : splitC 46 (out4 lo) = [dd (lo / 16777216 % 256), dd (lo / 65536 % 256), dd (lo / 256 % 256), dd (lo % 256)] := by
    rw [out4_eq]
    have := split_join 46 [dd (lo / 16777216 % 256), dd (lo / 65536 % 256), dd (lo / 256 % 256), dd (lo % 256)] (by simp) (by
      intro p hp
      simp only [List.mem_cons, List.not_mem_nil, or_false] at hp
      rcases hp with rfl | rfl | rfl | rfl
      · exact dd_free ⟨_, Nat.mod_lt _ (by decide)⟩
      · exact dd_free ⟨_, Nat.mod_lt _ (by decide)⟩
      · exact dd_free ⟨_, Nat.mod_lt _ (by decide)⟩
      · exact dd_free ⟨_, Nat.mod_lt _ (by decide)⟩)
    exact this
  unfold fourV
  rw [hs, if_pos (by rfl), fourL_step _ (by omega), fourL_step _ (by omega), fourL_step _ (by omega), fourL_step _ (by omega), fourL]
  simp only [wrap_u64]
  congr 1
  omega
theorem parse_out4 (lo : Nat) (h : lo < 4294967296) : parseS (out4 lo) = (false, 0, (lo : Int), 0) := by
  unfold parseS
  have := out4_len lo
  rw [if_neg (by omega), four_out4 lo h]
/-- An address. -/
def Vl (v : Bool) (hi lo : Int) : Prop := U64 hi ∧ U64 lo ∧ (v = true ∨ (hi = 0 ∧ lo ≤ 4294967295))
theorem grp8_rg (hi lo : Int) : ∀ x, x ∈ grp8 hi lo → Rg x := grp_range hi lo
theorem parse_out (v : Bool) (hi lo : Int) (h : Vl v hi lo) : (outP v hi lo).2 = 0 ∧ parseS (by_ (outP v hi lo).1) = (v, hi, lo, 0) := by
  obtain ⟨h1, h2, h3⟩ := h
  unfold outP
  cases v with
  | true =>
    simp only [if_true]
    refine ⟨trivial, ?_⟩
    show parseS (by_ (bs (out6 (grp8 hi lo)))) = _
    rw [show by_ (bs (out6 (grp8 hi lo))) = out6 (grp8 hi lo) from bs_list _, parse_out6 _ rfl (grp8_rg hi lo), num4_hi hi lo h1, num4_lo hi lo h2]
  | false =>
    have h3' : hi = 0 ∧ lo ≤ 4294967295 := by
      rcases h3 with e | e
      · cases e
      · exact e
    simp only [Bool.false_eq_true, if_false, if_pos h3']
    refine ⟨trivial, ?_⟩
    have h20 := h2.1
    obtain ⟨h30, h31⟩ := h3'
    show parseS (by_ (bs (out4 lo.toNat))) = _
    rw [show by_ (bs (out4 lo.toNat)) = out4 lo.toNat from bs_list _, parse_out4 _ (by omega), h30, show ((lo.toNat : Nat) : Int) = lo by omega]
theorem vals_rg : ∀ (fs : List (List UInt8)) (v : List Int), vals grp fs = some v → ∀ x, x ∈ v → Rg x
  | [], v, h => by simp [vals] at h; subst h; simp
  | f :: fs, v, h => by
    unfold vals at h
    split at h
    · cases h
    · rename_i n hn
      obtain ⟨v', h', rfl⟩ := Option.map_eq_some_iff.1 h
      intro x hx
      rcases List.mem_cons.1 hx with rfl | hx
      · exact AddrP.grp_range hn
      · exact vals_rg fs v' h' x hx
theorem lst_rg {l : List UInt8} {v : List Int} (h : lst l = some v) : ∀ x, x ∈ v → Rg x := by
  unfold lst at h
  split at h
  · simp only [Option.some.injEq] at h; subst h; simp
  · rw [listL_eq grp _ [] (by simp)] at h
    obtain ⟨w, hw, h⟩ := Option.bind_eq_some_iff.1 h
    split at h
    · simp only [List.nil_append, Option.some.injEq] at h
      subst h
      exact vals_rg _ _ hw
    · cases h
theorem six_rg {l : List UInt8} {v : List Int} (h : sixV l = some v) : v.length = 8 ∧ ∀ x, x ∈ v → Rg x := by
  unfold sixV at h
  split at h
  · split at h
    · rename_i u hu
      split at h
      · rename_i h8
        simp only [Option.some.injEq] at h
        subst h
        exact ⟨h8, lst_rg hu⟩
      · cases h
    · cases h
  · split at h
    · rename_i a b ha hb
      split at h
      · rename_i h7
        simp only [Option.some.injEq] at h
        subst h
        refine ⟨by simp [six8]; omega, fun x hx => ?_⟩
        unfold six8 at hx
        rcases List.mem_append.1 hx with hx | hx
        · exact lst_rg ha x hx
        · rcases List.mem_append.1 hx with hx | hx
          · rw [(List.mem_replicate.1 hx).2]; exact ⟨by decide, by decide⟩
          · exact lst_rg hb x hx
      · cases h
    · cases h
theorem rd_rg {v : List Int} (h8 : v.length = 8) (h : ∀ x, x ∈ v → Rg x) (i : Nat) (hi : i < 8) : Rg (rd v (i : Int)) := by
  rw [rd_at v i (by omega)]
  exact h _ (List.getElem_mem _)
theorem num4_u64 {a b c d : Int} (ha : Rg a) (hb : Rg b) (hc : Rg c) (hd : Rg d) : U64 (num4 a b c d) := by
  rw [num4_val ha hb hc hd]
  have a0 := ha.1
  have a1 := ha.2
  have b0 := hb.1
  have b1 := hb.2
  have c0 := hc.1
  have c1 := hc.2
  have d0 := hd.1
  have d1 := hd.2
  exact ⟨by omega, by omega⟩
theorem fourL_one (f : List UInt8) (fs : List (List UInt8)) (lo r : Int) (h : fourL (f :: fs) lo = some r) : ∃ d : Int, 0 ≤ d ∧ d ≤ 255 ∧ fourL fs (IntKind.u64.wrap (IntKind.u64.wrap (lo * 256) + d)) = some r := by
  unfold fourL at h
  split at h
  · rename_i hd
    have hr := dec_range (l := f)
    refine ⟨(dec f).1, hr.1, hr.2 hd, ?_⟩
    rw [← or8 hr.1 (hr.2 hd)]
    exact h
  · cases h
theorem four_rg {l : List UInt8} {r : Int} (h : fourV l = some r) : 0 ≤ r ∧ r ≤ 4294967295 := by
  unfold fourV at h
  split at h
  · rename_i h4
    match hF : splitC 46 l, h4 with
    | [a, b, c, d], _ =>
      rw [hF] at h
      obtain ⟨x1, p1, q1, h⟩ := fourL_one _ _ _ _ h
      obtain ⟨x2, p2, q2, h⟩ := fourL_one _ _ _ _ h
      obtain ⟨x3, p3, q3, h⟩ := fourL_one _ _ _ _ h
      obtain ⟨x4, p4, q4, h⟩ := fourL_one _ _ _ _ h
      simp only [fourL, Option.some.injEq, wrap_u64] at h
      omega
  · cases h
theorem parse_ok {l : List UInt8} {v : Bool} {hi lo e : Int} (h : parseS l = (v, hi, lo, e)) : (e = 0 ∧ Vl v hi lo) ∨ (e = 3 ∧ v = false ∧ hi = 0 ∧ lo = 0) := by
  unfold parseS at h
  split at h
  · simp only [Prod.mk.injEq] at h
    obtain ⟨rfl, rfl, rfl, rfl⟩ := h
    exact Or.inr ⟨rfl, rfl, rfl, rfl⟩
  · split at h
    · rename_i r hr
      have h4 := four_rg hr
      simp only [Prod.mk.injEq] at h
      obtain ⟨rfl, rfl, rfl, rfl⟩ := h
      exact Or.inl ⟨rfl, ⟨by decide, by decide⟩, ⟨h4.1, by omega⟩, Or.inr ⟨rfl, h4.2⟩⟩
    · split at h
      · rename_i w hw
        obtain ⟨h8, hrg⟩ := six_rg hw
        simp only [Prod.mk.injEq] at h
        obtain ⟨rfl, rfl, rfl, rfl⟩ := h
        exact Or.inl ⟨rfl, num4_u64 (rd_rg h8 hrg 0 (by decide)) (rd_rg h8 hrg 1 (by decide)) (rd_rg h8 hrg 2 (by decide)) (rd_rg h8 hrg 3 (by decide)), num4_u64 (rd_rg h8 hrg 4 (by decide)) (rd_rg h8 hrg 5 (by decide)) (rd_rg h8 hrg 6 (by decide)) (rd_rg h8 hrg 7 (by decide)), Or.inl rfl⟩
      · simp only [Prod.mk.injEq] at h
        obtain ⟨rfl, rfl, rfl, rfl⟩ := h
        exact Or.inr ⟨rfl, rfl, rfl, rfl⟩
end Go.Proofs.YteflcmmandlknaaDoor.Tx
