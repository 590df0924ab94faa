/-
  The name of the zone of a prefix. Conditions: each theorem's own.
-/
import Derived.Test.YteflcmmandlknaaGreatDoorPAx4
import Derived.Test.YteflcmmandlknaaGreatDoorPAx8
import Derived.Test.YteflcmmandlknaaGreatDoorRevS
import Derived.Test.YteflcmmandlknaaGreatDoorPrxT
namespace Go.Proofs.YteflcmmandlknaaGreatDoor.PrxZn
open Go.RowKit Go.Proofs.YteflcmmandlknaaGreatDoorW.PrintWords Go.Proofs.YteflcmmandlknaaGreatDoor.Num Go.Proofs.YteflcmmandlknaaGreatDoor.Str Go.Proofs.YteflcmmandlknaaGreatDoor.Flds Go.Proofs.YteflcmmandlknaaGreatDoor.AddrP Go.Proofs.YteflcmmandlknaaGreatDoor.Qs Go.Proofs.YteflcmmandlknaaGreatDoor.AdW Go.Proofs.YteflcmmandlknaaGreatDoor.Rv Go.Proofs.YteflcmmandlknaaGreatDoor.PrxN Go.Proofs.YteflcmmandlknaaGreatDoor.PrxS Go.Proofs.YteflcmmandlknaaGreatDoor.PrxT Go.Proofs.YteflcmmandlknaaGreatDoor.PA
set_option linter.unusedVariables false
set_option linter.unusedSimpArgs false
set_option maxRecDepth 100000

def step (v : Bool) : Nat := if v = true then 4 else 8
def base (v : Bool) : Nat := if v = true then 16 else 256
def cnt (v : Bool) : Nat := if v = true then 32 else 4
def fld (v : Bool) (d : Nat) : List UInt8 := if v = true then [hexd d] else dd d
/-- The labels of an address, the lowest first. -/
def Fs (v : Bool) (N : Nat) : List (List UInt8) := (digs (base v) (cnt v) N).map (fld v)
theorem step_cnt (v : Bool) : step v * cnt v = L v := by cases v <;> rfl
theorem base_eq (v : Bool) : base v = 2 ^ step v := by cases v <;> rfl
theorem base_pos (v : Bool) : 0 < base v := by cases v <;> decide
theorem digs_mod (m : Nat) (hm : 0 < m) : ∀ (k N : Nat), digs m k (N % m ^ k) = digs m k N
  | 0, _ => rfl
  | k + 1, N => by
    have e1 : N % m ^ (k + 1) % m = N % m := Nat.mod_mod_of_dvd _ ⟨m ^ k, by rw [Nat.pow_succ, Nat.mul_comm]⟩
    have e2 : N % m ^ (k + 1) / m = N / m % m ^ k := by
      rw [Nat.pow_succ, Nat.mul_comm, Nat.mod_mul_right_div_self]
    rw [digs, digs, e1, e2, digs_mod m hm k]
theorem digs_add (m : Nat) : ∀ (a b N : Nat), digs m (a + b) N = digs m a N ++ digs m b (N / m ^ a)
  | 0, b, N => by simp [digs]
  | a + 1, b, N => by
    rw [show a + 1 + b = (a + b) + 1 by omega, digs, digs, digs_add m a b, List.cons_append, Nat.div_div_eq_div_mul, ← Nat.pow_succ']
theorem digs_drop (m : Nat) : ∀ (j k N : Nat), j ≤ k → (digs m k N).drop j = digs m (k - j) (N / m ^ j)
  | 0, k, N, _ => by simp
  | j + 1, 0, N, h => by omega
  | j + 1, k + 1, N, h => by
    rw [digs, List.drop_succ_cons, digs_drop m j k _ (by omega), Nat.div_div_eq_div_mul, ← Nat.pow_succ', show k + 1 - (j + 1) = k - j by omega]
theorem nib : ∀ (k N : Nat), ((digs 256 k N).map (fl true)).flatten = (digs 16 (2 * k) N).map (fun d => [hexd d])
  | 0, _ => rfl
  | k + 1, N => by
    rw [show 2 * (k + 1) = 2 * k + 1 + 1 by omega, digs, digs, digs]
    simp only [List.map_cons, List.flatten_cons]
    rw [nib k, show N / 256 = N / 16 / 16 by omega]
    have e1 : fl true (N % 256) = [[hexd (N % 256 % 16)], [hexd (N % 256 / 16)]] := rfl
    rw [e1, show N % 256 % 16 = N % 16 by omega, show N % 256 / 16 = N / 16 % 16 by omega]
    rfl
theorem map_flat {α β : Type} (f : α → β) (l : List α) : (l.map (fun x => [f x])).flatten = l.map f := by
  induction l with
  | nil => rfl
  | cons a l ih => simp [ih]
theorem flds_eq {v : Bool} {N : Nat} (h : N < 2 ^ L v) : flds v (lowB v (iH N) (iL N)) = Fs v N := by
  have hM := pow_L v
  have el : (iL N).toNat = N % 18446744073709551616 := by unfold iL; omega
  have eh : (iH N).toNat = N / 18446744073709551616 := by unfold iH; omega
  cases v
  · have e : (2 : Nat) ^ L false = 4294967296 := by decide
    have e0 : lowB false (iH N) (iL N) = digs 256 4 N := by
      unfold lowB
      rw [if_neg (by decide), el, Nat.mod_eq_of_lt (by omega)]
    rw [e0]
    show ((digs 256 4 N).map (fun b => [dd b])).flatten = (digs 256 4 N).map dd
    exact map_flat dd _
  · have e0 : lowB true (iH N) (iL N) = digs 256 8 (N % 18446744073709551616) ++ digs 256 8 (N / 18446744073709551616) := by
      unfold lowB
      rw [if_pos rfl, el, eh]
    unfold flds
    rw [e0, List.map_append, List.flatten_append, nib, nib]
    show _ = (digs 16 32 N).map (fun d => [hexd d])
    have e16 : (18446744073709551616 : Nat) = 16 ^ 16 := by decide
    rw [e16, digs_mod 16 (by decide), ← List.map_append, show (32 : Nat) = 16 + 16 from rfl, digs_add]
theorem hexd46 : ∀ i : Fin 16, hexd i.val ≠ 46 := by decide
theorem dd46 : ∀ i : Fin 256, (46 : UInt8) ∉ dd i.val := by decide +kernel
theorem hexd_inj : ∀ i j : Fin 16, hexd i.val = hexd j.val → i = j := by decide
theorem dec_dd : ∀ i : Fin 256, dec (dd i.val) = ((i.val : Int), true) := by decide +kernel
theorem fld_free (v : Bool) (d : Nat) (h : d < base v) : (46 : UInt8) ∉ fld v d := by
  cases v
  · exact dd46 ⟨d, h⟩
  · show (46 : UInt8) ∉ [hexd d]
    simp only [List.mem_cons, List.not_mem_nil, or_false]
    exact fun e => hexd46 ⟨d, h⟩ e.symm
theorem fld_inj (v : Bool) (d e : Nat) (h : d < base v) (g : e < base v) (q : fld v d = fld v e) : d = e := by
  cases v
  · have h1 := dec_dd ⟨d, h⟩
    have h2 := dec_dd ⟨e, g⟩
    have q' : dd d = dd e := q
    simp only at h1 h2
    rw [q', h2] at h1
    simp only [Prod.mk.injEq] at h1
    omega
  · have q' : [hexd d] = [hexd e] := q
    simp only [List.cons.injEq, and_true] at q'
    exact congrArg Fin.val (hexd_inj ⟨d, h⟩ ⟨e, g⟩ q')
theorem Fs_free (v : Bool) (N : Nat) : ∀ p, p ∈ Fs v N → (46 : UInt8) ∉ p := by
  intro p hp
  obtain ⟨d, hd, rfl⟩ := List.mem_map.mp hp
  exact fld_free v d (digs_lt _ (base_pos v) _ _ d hd)
theorem Fs_len (v : Bool) (N : Nat) : (Fs v N).length = cnt v := by unfold Fs; rw [List.length_map, digs_len]
theorem map_inj {v : Bool} : ∀ (a b : List Nat), (∀ d, d ∈ a → d < base v) → (∀ d, d ∈ b → d < base v) → a.map (fld v) = b.map (fld v) → a = b
  | [], [], _, _, _ => rfl
  | [], _ :: _, _, _, h => by simp at h
  | _ :: _, [], _, _, h => by simp at h
  | x :: a, y :: b, h1, h2, h => by
    simp only [List.map_cons, List.cons.injEq] at h
    rw [fld_inj v x y (h1 x (by simp)) (h2 y (by simp)) h.1, map_inj a b (fun d hd => h1 d (List.mem_cons_of_mem _ hd)) (fun d hd => h2 d (List.mem_cons_of_mem _ hd)) h.2]
/-- The labels from some place on are those of another address exactly if the numbers agree from there on. -/
theorem Fs_drop_iff {v : Bool} {A N m : Nat} (hA : A < 2 ^ L v) (hN : N < 2 ^ L v) (hm : m ≤ cnt v) : (Fs v A).drop m = (Fs v N).drop m ↔ A / 2 ^ (step v * m) = N / 2 ^ (step v * m) := by
  have hb := base_pos v
  have e : 2 ^ (step v * m) = base v ^ m := by rw [base_eq, Nat.pow_mul]
  have hlt : ∀ x, x < 2 ^ L v → x / base v ^ m < base v ^ (cnt v - m) := fun x hx => by
    rw [Nat.div_lt_iff_lt_mul (Nat.pow_pos hb), ← Nat.pow_add, show cnt v - m + m = cnt v by omega, base_eq, ← Nat.pow_mul, step_cnt]
    exact hx
  unfold Fs
  rw [← List.map_drop, ← List.map_drop, digs_drop _ m _ _ hm, digs_drop _ m _ _ hm, e]
  constructor
  · intro q
    have q2 := map_inj _ _ (digs_lt _ hb _ _) (digs_lt _ hb _ _) q
    have q3 := congrArg (val (base v)) q2
    rw [val_digs _ hb _ _ (hlt A hA), val_digs _ hb _ _ (hlt N hN)] at q3
    exact q3
  · intro q
    rw [q]
theorem dots_cons (p : List UInt8) (F : List (List UInt8)) (T : List UInt8) : dots (p :: F) ++ T = p ++ 46 :: (dots F ++ T) := by
  unfold dots
  simp
theorem split_dots (T : List UInt8) : ∀ F : List (List UInt8), (∀ p, p ∈ F → (46 : UInt8) ∉ p) → splitC 46 (dots F ++ T) = F ++ splitC 46 T
  | [], _ => rfl
  | p :: F, h => by
    rw [dots_cons, splitC_piece 46 p _ (h p (by simp)), split_dots T F (fun q hq => h q (List.mem_cons_of_mem _ hq)), List.cons_append]
theorem dots_end : ∀ F : List (List UInt8), F ≠ [] → ∃ u, dots F = u ++ [46]
  | [p], _ => ⟨p, by simp [dots]⟩
  | p :: q :: F, _ => by
    obtain ⟨u, hu⟩ := dots_end (q :: F) (by simp)
    refine ⟨p ++ [46] ++ u, ?_⟩
    have : dots (p :: q :: F) = p ++ [46] ++ dots (q :: F) := by simp [dots]
    rw [this, hu]
    simp only [List.append_assoc]
theorem splitC_app (c : UInt8) (y : List UInt8) : ∀ x : List UInt8, splitC c (x ++ c :: y) = splitC c x ++ splitC c y
  | [] => by simp [splitC]
  | a :: x => by
    by_cases h : a = c
    · subst h
      simp only [List.cons_append, splitC, if_true]
      rw [splitC_app a y x]
    · obtain ⟨p, ps, hp⟩ : ∃ p ps, splitC c x = p :: ps := by
        cases hs : splitC c x with
        | nil => exact absurd hs (splitC_ne c x)
        | cons p ps => exact ⟨p, ps, rfl⟩
      have hp2 : splitC c (x ++ c :: y) = p :: (ps ++ splitC c y) := by rw [splitC_app c y x, hp, List.cons_append]
      rw [List.cons_append, splitC_cons_ne h hp2, splitC_cons_ne h hp, List.cons_append]
theorem tl_split (v : Bool) : (splitC 46 (tl v)).length = 3 := by cases v <;> decide +kernel
theorem tl_inj : ∀ v w : Bool, splitC 46 (tl v) = splitC 46 (tl w) → v = w := by decide +kernel
/-- The name of the zone from label m on. -/
def zone (v : Bool) (N m : Nat) : List UInt8 := dots ((Fs v N).drop m) ++ tl v
def name (v : Bool) (N : Nat) : List UInt8 := dots (Fs v N) ++ tl v
theorem ends_iff {v : Bool} {N m : Nat} {va : Bool} {A : Nat} (hA : A < 2 ^ L va) (hN : N < 2 ^ L v) (hm : m ≤ cnt v) :
    (∃ w, name va A = w ++ zone v N m ∧ (w = [] ∨ ∃ u, w = u ++ [46])) ↔ v = va ∧ A / 2 ^ (step v * m) = N / 2 ^ (step v * m) := by
  constructor
  · rintro ⟨w, hw, hc⟩
    have hs1 : splitC 46 (name va A) = Fs va A ++ splitC 46 (tl va) := split_dots _ _ (Fs_free va A)
    have hs2 : splitC 46 (zone v N m) = (Fs v N).drop m ++ splitC 46 (tl v) := split_dots _ _ (fun p hp => Fs_free v N p (List.mem_of_mem_drop hp))
    obtain ⟨X, hX⟩ : ∃ X, splitC 46 (name va A) = X ++ splitC 46 (zone v N m) := by
      rcases hc with rfl | ⟨u, rfl⟩
      · exact ⟨[], by rw [hw]; rfl⟩
      · refine ⟨splitC 46 u, ?_⟩
        rw [hw, List.append_assoc, List.singleton_append, splitC_app]
    rw [hs1, hs2, ← List.append_assoc] at hX
    obtain ⟨h1, h2⟩ := List.append_inj' hX (by rw [tl_split, tl_split])
    have hv := tl_inj _ _ h2
    subst hv
    refine ⟨rfl, (Fs_drop_iff hA hN hm).mp ?_⟩
    have hl := congrArg List.length h1
    rw [List.length_append, List.length_drop, Fs_len, Fs_len] at hl
    have hx : X.length = m := by omega
    rw [h1, ← hx]
    simp
  · rintro ⟨rfl, h⟩
    have hd := (Fs_drop_iff hA hN hm).mpr h
    refine ⟨dots ((Fs v A).take m), ?_, ?_⟩
    · unfold name zone
      rw [← hd, ← List.append_assoc, ← dots_app, List.take_append_drop]
    · by_cases h0 : (Fs v A).take m = []
      · left; rw [h0]; rfl
      · right; exact dots_end _ h0
theorem cut_piece (c : UInt8) (t d : List UInt8) (h : c ∉ t) : Lib.cut (t ++ c :: d) [c] = (t, d, true) := by
  have hi : Lib.index (t ++ c :: d) [c] = t.length := by
    refine Lib.index_first (by simp) ?_ (fun j hj => ?_)
    · simp [Lib.occAt]
    · unfold Lib.occAt
      rw [List.drop_append_of_le_length (by omega)]
      refine Str.occ_no (fun q e => ?_)
      cases hd : t.drop j with
      | nil => have := congrArg List.length hd; simp at this; omega
      | cons y r =>
        rw [hd] at e
        simp only [List.cons_append, List.cons.injEq] at e
        exact h (e.1 ▸ List.mem_of_mem_drop (i := j) (by rw [hd]; simp))
  unfold Lib.cut
  rw [hi, if_pos (by omega)]
  simp
theorem zone_l0 (v : Bool) (x1 x2 b : Int) : ∀ (d : Nat) (F : List (List UInt8)) (i : Int), d ≤ F.length → (∀ p, p ∈ F → (46 : UInt8) ∉ p) → (dots F ++ tl v).length ≤ 1000 → i + (step v * d : Nat) = (L v : Int) → 0 ≤ i →
    Ev (fun k => prefix_Zone.l0 k (step v : Int) (bs (dots F ++ tl v)) i v x1 x2 b) (bs (dots (F.drop d) ++ tl v), true)
  | 0, F, i, _, _, _, hi, _ => by
    rw [Nat.mul_zero] at hi
    have hge : ¬ i < (L v : Int) := by omega
    refine Ev.step (fun k => by rw [prefix_Zone.l0]) ?_
    refine ev_bind_const (length_eq v x1 x2) (ev_if_neg hge ?_)
    exact Ev.now _
  | d + 1, [], i, h, _, _, _, _ => by simp at h
  | d + 1, p :: F, i, h, hf, hl, hi, h0 => by
    have hs : 0 < step v := by cases v <;> decide
    have hL := L_le v
    have hmul : step v * (d + 1) = step v * d + step v := Nat.mul_succ _ _
    rw [dots_cons] at hl ⊢
    have hlen : (dots F ++ tl v).length ≤ 1000 := by rw [List.length_append, List.length_cons] at hl; omega
    have ih := zone_l0 v x1 x2 b d F (i + step v) (by simpa using h) (fun q hq => hf q (List.mem_cons_of_mem _ hq)) hlen (by rw [hmul] at hi; omega) (by omega)
    have hc : strings_Cut.f (bs (p ++ 46 :: (dots F ++ tl v))) (⟨#[46]⟩ : ByteArray) = some (bs p, bs (dots F ++ tl v), true) := by
      unfold strings_Cut.f
      rw [if_pos (by rw [bs_size]; omega)]
      have e : (⟨#[46]⟩ : ByteArray).data.toList = [46] := rfl
      rw [bs_list, e, cut_piece 46 p _ (hf p (by simp))]
      rfl
    rw [hmul] at hi
    have hlt : i < (L v : Int) := by omega
    have hs8 : step v ≤ 8 := by cases v <;> decide
    have ew : wrap64 (i + (step v : Int)) = i + (step v : Int) := wrap64_id (by omega) (by omega)
    refine Ev.step (fun k => by rw [prefix_Zone.l0]) ?_
    refine ev_bind_const (length_eq v x1 x2) (ev_if_pos hlt (ev_bind_const hc ?_))
    rw [ew]
    exact ih
theorem fld_len (v : Bool) (d : Nat) : (fld v d).length ≤ 3 := by
  cases v
  · exact dd_len d
  · show [hexd d].length ≤ 3
    simp
theorem dots_len : ∀ F : List (List UInt8), (∀ p, p ∈ F → p.length ≤ 3) → (dots F).length ≤ 4 * F.length
  | [], _ => by simp [dots]
  | p :: F, h => by
    have := dots_len F (fun q hq => h q (List.mem_cons_of_mem _ hq))
    have h1 := h p (by simp)
    have e : dots (p :: F) = p ++ [46] ++ dots F := by simp [dots]
    rw [e]
    simp only [List.length_append, List.length_cons, List.length_nil]
    omega
theorem name_len (v : Bool) (N : Nat) : (name v N).length ≤ 1000 := by
  have h := dots_len (Fs v N) (fun p hp => by
    obtain ⟨d, _, rfl⟩ := List.mem_map.mp hp
    exact fld_len v d)
  rw [Fs_len] at h
  have h2 : cnt v ≤ 32 := by cases v <;> decide
  have h3 : (tl v).length ≤ 13 := by cases v <;> decide
  unfold name
  rw [List.length_append]
  omega
theorem rev_ev {v : Bool} {N : Nat} (h : N < 2 ^ L v) : Ev (fun k => addr_Reverse.f k v (iH N) (iL N)) (bs (name v N), 0) := by
  have hM := pow_L v
  have hr := addr_Reverse_ev (v := v) (u64_H (N := N) (by omega)) (u64_L N)
  have hv : vld v (iH N) (iL N) = true := by
    have e1 := addr_Valid_eq v (iH N) (iL N)
    have e2 := PrxS.addr_Valid_eq v N (by omega)
    rw [e1, decide_eq_true h] at e2
    exact Option.some.inj e2
  unfold RevS at hr
  rw [if_pos hv] at hr
  unfold revT at hr
  rw [flds_eq h] at hr
  exact hr
theorem rev_bad {v : Bool} {N : Nat} (g : N < M128) (h : ¬ N < 2 ^ L v) : Ev (fun k => addr_Reverse.f k v (iH N) (iL N)) ((⟨#[]⟩ : ByteArray), 3) := by
  have hr := addr_Reverse_ev (v := v) (u64_H g) (u64_L N)
  have hv : vld v (iH N) (iL N) = false := by
    have e1 := addr_Valid_eq v (iH N) (iL N)
    have e2 := PrxS.addr_Valid_eq v N g
    rw [e1, decide_eq_false h] at e2
    exact Option.some.inj e2
  unfold RevS at hr
  rw [hv, if_neg (by decide)] at hr
  exact hr
theorem tmod_iff (n s : Nat) (hs : 0 < s) : Int.tmod (n : Int) (s : Int) = 0 ↔ n % s = 0 := by
  rw [Int.tmod_eq_emod_of_nonneg (by omega)]
  omega
/-- What Zone answers. -/
theorem zone_yes {v : Bool} {N n : Nat} (h : VP v N (n : Int)) (hn : n % step v = 0) : Ev (fun k => prefix_Zone.f k v (iH N) (iL N) (n : Int)) (bs (zone v N (cnt v - n / step v)), true) := by
  have hM := pow_L v
  have hL := L_le v
  have hs : 0 < step v := by cases v <;> decide
  have hnL : n ≤ L v := by have := h.2.2.1; omega
  have hcnt := step_cnt v
  have e1 := Nat.div_add_mod n (step v)
  rw [hn, Nat.add_zero] at e1
  have hq : n / step v ≤ cnt v := by
    rw [Nat.div_le_iff_le_mul_add_pred hs]
    rw [Nat.mul_comm] at hcnt
    rw [Nat.mul_comm (step v)]
    omega
  have hmul : step v * (cnt v - n / step v) = L v - n := by rw [Nat.mul_sub, hcnt, e1]
  have hl0 := zone_l0 v (iH N) (iL N) (n : Int) (cnt v - n / step v) (Fs v N) (n : Int) (by rw [Fs_len]; exact Nat.sub_le _ _) (Fs_free v N) (name_len v N) (by rw [hmul]; omega) (by omega)
  have hv := Valid_eq v N (n : Int) (by have := h.1; omega)
  rw [decide_eq_true h] at hv
  have hj1 : Ev (fun k => prefix_Zone.j1 k (step v : Int) false v (iH N) (iL N) (n : Int)) (bs (zone v N (cnt v - n / step v)), true) :=
    Ev.step (fun k => by rw [prefix_Zone.j1]) (ev_if_neg (by decide) (Ev.bind (rev_ev h.1) (ev_if_pos rfl hl0)))
  have hb : (Int.tmod (n : Int) (step v : Int) != 0) = false := by
    rw [(tmod_iff n (step v) hs).mpr hn]
    rfl
  have hj0 : Ev (fun k => prefix_Zone.j0 k (step v : Int) v (iH N) (iL N) (n : Int)) (bs (zone v N (cnt v - n / step v)), true) := by
    have hne : ¬ ((step v : Nat) : Int) = 0 := by omega
    refine Ev.step (fun k => by rw [prefix_Zone.j0]) ?_
    refine ev_bind_const hv (ev_if_pos rfl (ev_if_neg hne ?_))
    rw [hb]
    exact hj1
  unfold prefix_Zone.f
  cases v
  · exact ev_if_neg (by decide) hj0
  · exact ev_if_pos rfl hj0
theorem zone_no {v : Bool} {N : Nat} {b : Int} (g : N < M128) (h : ¬ (VP v N b ∧ b.toNat % step v = 0)) : Ev (fun k => prefix_Zone.f k v (iH N) (iL N) b) ((⟨#[]⟩ : ByteArray), false) := by
  have hs : 0 < step v := by cases v <;> decide
  have hv := Valid_eq v N b g
  have hj1 : Ev (fun k => prefix_Zone.j1 k (step v : Int) true v (iH N) (iL N) b) ((⟨#[]⟩ : ByteArray), false) :=
    Ev.step (fun k => by rw [prefix_Zone.j1]) (ev_if_pos rfl (Ev.now _))
  have hj0 : Ev (fun k => prefix_Zone.j0 k (step v : Int) v (iH N) (iL N) b) ((⟨#[]⟩ : ByteArray), false) := by
    have hne : ¬ ((step v : Nat) : Int) = 0 := by omega
    refine Ev.step (fun k => by rw [prefix_Zone.j0]) ?_
    refine ev_bind_const hv ?_
    by_cases c : VP v N b
    · refine ev_if_pos (decide_eq_true c) (ev_if_neg hne ?_)
      obtain ⟨n, rfl⟩ : ∃ n : Nat, b = (n : Int) := ⟨b.toNat, by have := c.2.1; omega⟩
      have hb : (Int.tmod (n : Int) (step v : Int) != 0) = true := by
        rw [bne_iff_ne]
        exact fun e => h ⟨c, by rw [Int.toNat_natCast]; exact (tmod_iff n (step v) hs).mp e⟩
      rw [hb]
      exact hj1
    · exact ev_if_neg (by rw [decide_eq_false c]; decide) hj1
  unfold prefix_Zone.f
  cases v
  · exact ev_if_neg (by decide) hj0
  · exact ev_if_pos rfl hj0
end Go.Proofs.YteflcmmandlknaaGreatDoor.PrxZn
