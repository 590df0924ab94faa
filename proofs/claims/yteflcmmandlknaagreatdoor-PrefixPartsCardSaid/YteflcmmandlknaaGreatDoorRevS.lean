/-
  Domain names of addresses: what addr.Reverse answers, in plain words, and the numbers that digits are. Conditions: numbers within their kinds.
-/
import Derived.Test.YteflcmmandlknaaGreatDoorAdW
import Derived.Test.YteflcmmandlknaaGreatDoorAddrPb
import Derived.Test.YteflcmmandlknaaGreatDoorAddrQs
import Derived.Test.YteflcmmandlknaaGreatDoorPAx5
import Derived.Test.YteflcmmandlknaaGreatDoorPAx8
namespace Go.Proofs.YteflcmmandlknaaGreatDoor.Rv
open Go.RowKit Go.Proofs.YteflcmmandlknaaGreatDoorW.PrintWords Go.Proofs.YteflcmmandlknaaGreatDoorW.PrintLast Go.Proofs.YteflcmmandlknaaGreatDoor.Num Go.Proofs.YteflcmmandlknaaGreatDoor.Str Go.Proofs.YteflcmmandlknaaGreatDoor.Flds Go.Proofs.YteflcmmandlknaaGreatDoor.PA Go.Proofs.YteflcmmandlknaaGreatDoor.AddrP Go.Proofs.YteflcmmandlknaaGreatDoor.Qs Go.Proofs.YteflcmmandlknaaGreatDoor.AdW
set_option linter.unusedVariables false
set_option linter.unusedSimpArgs false

/-- The k low digits of a number in base m, the lowest first. -/
def digs (m : Nat) : Nat → Nat → List Nat
  | 0, _ => []
  | k + 1, N => N % m :: digs m k (N / m)
/-- The number of digits, the lowest first. -/
def val (m : Nat) : List Nat → Nat
  | [] => 0
  | d :: ds => d + m * val m ds
theorem digs_len (m : Nat) : ∀ (k N : Nat), (digs m k N).length = k
  | 0, _ => rfl
  | k + 1, N => by rw [digs, List.length_cons, digs_len m k]
theorem digs_lt (m : Nat) (hm : 0 < m) : ∀ (k N : Nat), ∀ d, d ∈ digs m k N → d < m
  | 0, _, d, h => by simp [digs] at h
  | k + 1, N, d, h => by
    rw [digs] at h
    rcases List.mem_cons.1 h with rfl | h
    · exact Nat.mod_lt _ hm
    · exact digs_lt m hm k _ d h
theorem val_digs (m : Nat) (hm : 0 < m) : ∀ (k N : Nat), N < m ^ k → val m (digs m k N) = N
  | 0, N, h => by rw [Nat.pow_zero] at h; show 0 = N; omega
  | k + 1, N, h => by
    have h' : N / m < m ^ k := by
      rw [Nat.div_lt_iff_lt_mul hm, ← Nat.pow_succ]
      exact h
    rw [digs, val, val_digs m hm k _ h', Nat.add_comm]
    exact Nat.div_add_mod N m
theorem val_app (m : Nat) : ∀ (a b : List Nat), val m (a ++ b) = val m a + m ^ a.length * val m b
  | [], b => by simp [val]
  | d :: a, b => by
    rw [List.cons_append, val, val_app m a b, val, List.length_cons, Nat.pow_succ, Nat.mul_add, Nat.add_assoc, ← Nat.mul_assoc, Nat.mul_comm m (m ^ a.length)]
/-- A byte's labels. -/
def fl (v : Bool) (b : Nat) : List (List UInt8) := if v = true then [[hexd (b % 16)], [hexd (b / 16)]] else [dd b]
def flds (v : Bool) (L : List Nat) : List (List UInt8) := (L.map (fl v)).flatten
def tail4 : List UInt8 := [105, 110, 45, 97, 100, 100, 114, 46, 97, 114, 112, 97, 46]
def tail6 : List UInt8 := [105, 112, 54, 46, 97, 114, 112, 97, 46]
def tl (v : Bool) : List UInt8 := if v = true then tail6 else tail4
def dots (F : List (List UInt8)) : List UInt8 := (F.map (· ++ [46])).flatten
/-- The name of these bytes, the lowest first. -/
def revT (v : Bool) (L : List Nat) : List UInt8 := dots (flds v L) ++ tl v
def lowB (v : Bool) (hi lo : Int) : List Nat := if v = true then digs 256 8 lo.toNat ++ digs 256 8 hi.toNat else digs 256 4 lo.toNat
def RevS (v : Bool) (hi lo : Int) : ByteArray × Int := if vld v hi lo = true then (bs (revT v (lowB v hi lo)), 0) else ((⟨#[]⟩ : ByteArray), 3)
theorem lowB_lt (v : Bool) (hi lo : Int) : ∀ b, b ∈ lowB v hi lo → b < 256 := by
  intro b hb
  unfold lowB at hb
  split at hb
  · rcases List.mem_append.1 hb with h | h
    · exact digs_lt 256 (by decide) _ _ b h
    · exact digs_lt 256 (by decide) _ _ b h
  · exact digs_lt 256 (by decide) _ _ b hb
theorem lowB_len (v : Bool) (hi lo : Int) : (lowB v hi lo).length ≤ 16 := by
  unfold lowB
  split
  · rw [List.length_append, digs_len, digs_len]; omega
  · rw [digs_len]; omega
theorem dots_app (a b : List (List UInt8)) : dots (a ++ b) = dots a ++ dots b := by
  unfold dots
  rw [List.map_append, List.flatten_append]
theorem fl_len (v : Bool) (b : Nat) : (dots (fl v b)).length ≤ 4 := by
  have h := dd_len b
  unfold fl
  split
  · simp [dots]
  · simp [dots]; omega
/-- The bytes of w from the m-th on are these, the lowest first. -/
def Low (w : ByteArray) (L : List Nat) : Prop := w.size = L.length ∧ ∀ i (h : i < L.length), bt w ((L.length - 1 - i : Nat) : Int) = (L[i] : Int)
theorem and15_u8 : ∀ b : Fin 256, Go.bits .and .u8 (b.val : Int) 15 = ((b.val % 16 : Nat) : Int) := by decide +kernel
theorem fu_dig (d : Nat) (h : d < 16) : strconv_FormatUint.f (IntKind.u64.wrap (d : Int)) 16 = some (bs [hexd d]) := by
  rw [fu16 (d : Int) (by omega) (by omega)]
  unfold hx hexText
  rw [Int.toNat_natCast, if_pos h]
theorem itoa_dig (b : Nat) (h : b < 256) : strconv_Itoa.f (wrap64 (b : Int)) = some (bs (dd b)) := by
  rw [wrap64_id (by omega) (by omega)]
  unfold strconv_Itoa.f
  rw [if_pos ⟨by omega, by omega⟩, Lib.itoa_nonneg, dd_eq b (by omega)]
  rfl
theorem rev_l0 (v : Bool) (hi lo : Int) (w : ByteArray) (L : List Nat) (hw : Low w L) (hL : L.length ≤ 16) (hb : ∀ b, b ∈ L → b < 256) : ∀ (d i : Nat) (O : List UInt8), i + d = L.length → O.length ≤ 4 * i →
    Ev (fun k => addr_Reverse.l0 k w (bs O) (bs (tl v)) ((d : Int) - 1) v hi lo) (bs (O ++ (dots (flds v (L.drop i)) ++ tl v)), 0)
  | 0, i, O, hi_, hO => by
    have hd : L.drop i = [] := List.drop_of_length_le (by omega)
    have ht : (tl v).length ≤ 13 := by unfold tl; split <;> decide
    refine Ev.step (fun k => by rw [addr_Reverse.l0]) (ev_if_neg (by omega) ?_)
    rw [hd, bs_app]
    refine ev_if_pos (by rw [bs_size, bs_size]; omega) ?_
    exact Ev.now _
  | d + 1, i, O, hi_, hO => by
    have hlt : i < L.length := by omega
    have hbi := hw.2 i hlt
    have hb' := hb L[i] (List.getElem_mem hlt)
    have hdrop : L.drop i = L[i] :: L.drop (i + 1) := List.drop_eq_getElem_cons hlt
    have hfl : flds v (L.drop i) = fl v L[i] ++ flds v (L.drop (i + 1)) := by
      rw [hdrop]
      unfold flds
      rw [List.map_cons, List.flatten_cons]
    have hidx : (((d + 1 : Nat) : Int) - 1) = ((L.length - 1 - i : Nat) : Int) := by omega
    have hnx : wrap64 (((L.length - 1 - i : Nat) : Int) - 1) = (d : Int) - 1 := by rw [wrap64_id (by omega) (by omega)]; omega
    have hsz := hw.1
    have e46 : (⟨#[46]⟩ : ByteArray) = bs [46] := rfl
    have hlen := fl_len v L[i]
    rw [hidx, hfl, dots_app]
    have ih := rev_l0 v hi lo w L hw hL hb d (i + 1) (O ++ dots (fl v L[i])) (by omega) (by rw [List.length_append]; omega)
    rw [← hnx, List.append_assoc, ← List.append_assoc (dots (fl v L[i]))] at ih
    refine Ev.step (fun k => by rw [addr_Reverse.l0]) (ev_if_pos (by omega) ?_)
    rw [hbi]
    cases v with
    | true =>
      have q1 : Go.bits .and .u8 (L[i] : Int) 15 = ((L[i] % 16 : Nat) : Int) := and15_u8 ⟨L[i], hb'⟩
      have q2 : (L[i] : Int) / 16 = ((L[i] / 16 : Nat) : Int) := by omega
      have ef : dots (fl true L[i]) = [hexd (L[i] % 16)] ++ ([46] ++ ([hexd (L[i] / 16)] ++ [46])) := by
        unfold fl dots
        simp
      rw [q1, q2]
      refine ev_if_pos rfl (ev_if_pos (by omega) (ev_if_pos (by omega) ?_))
      refine ev_bind_const (fu_dig _ (by omega)) (ev_if_pos (by rw [bs_size]; simp) ?_)
      refine ev_bind_const (fu_dig _ (by omega)) ?_
      rw [e46, bs_app, bs_app, bs_app, bs_app]
      refine ev_if_pos (by rw [bs_size, bs_size]; simp) (ev_if_pos (by rw [bs_size]; simp) (ev_if_pos (by rw [bs_size, bs_size]; simp only [List.length_append, List.length_cons, List.length_nil]; omega) ?_))
      rw [ef] at ih
      simp only [List.append_assoc] at ih ⊢
      exact ih
    | false =>
      have ef : dots (fl false L[i]) = dd L[i] ++ [46] := by
        unfold fl dots
        simp
      have hdd := dd_len L[i]
      refine ev_if_neg (by decide) (ev_if_pos (by omega) (ev_if_pos (by omega) ?_))
      refine ev_bind_const (itoa_dig _ hb') (ev_if_pos (by rw [bs_size]; omega) ?_)
      rw [e46, bs_app, bs_app]
      refine ev_if_pos (by rw [bs_size, bs_size]; simp only [List.length_append, List.length_cons, List.length_nil]; omega) ?_
      rw [ef] at ih ⊢
      simp only [List.append_assoc] at ih ⊢
      exact ih
theorem digs_snoc (m : Nat) : ∀ (k N : Nat), digs m (k + 1) N = digs m k N ++ [N / m ^ k % m]
  | 0, N => by simp [digs]
  | k + 1, N => by
    rw [digs, digs_snoc m k (N / m), digs, List.cons_append, Nat.div_div_eq_div_mul, ← Nat.pow_succ']
theorem oct_rev (n : Nat) : ∀ k : Nat, (octF k (n : Int)).reverse = (digs 256 k n).map (fun d : Nat => (d : Int))
  | 0 => rfl
  | k + 1 => by
    rw [octF, List.reverse_cons, oct_rev n k, digs_snoc, List.map_append]
    congr 1
theorem bt_nums (l : List Int) (i : Nat) (h : i < l.length) (h0 : 0 ≤ l[i]) (h1 : l[i] < 256) : bt (strOfNums l) (i : Int) = l[i] := by
  have hs : ((i : Int)).toNat < (strOfNums l).size := by rw [strOfNums_size, Int.toNat_natCast]; exact h
  rw [← bt_at _ _ hs]
  have e : (strOfNums l)[((i : Int)).toNat]'hs = UInt8.ofNat l[i].toNat := by
    show (strOfNums l).data[((i : Int)).toNat]'hs = _
    simp [strOfNums]
  rw [e]
  simp
  omega
theorem low_of {l : List Int} {L : List Nat} (h : l.reverse = L.map (fun d : Nat => (d : Int))) (hb : ∀ b, b ∈ L → b < 256) : Low (strOfNums l) L := by
  have hlen : l.length = L.length := by
    have := congrArg List.length h
    simpa using this
  refine ⟨by rw [strOfNums_size, hlen], fun i hi => ?_⟩
  have hlt : L.length - 1 - i < l.length := by omega
  have e : l[L.length - 1 - i] = (L[i] : Int) := by
    have h1 : l.reverse[i]? = (L.map (fun d : Nat => (d : Int)))[i]? := by rw [h]
    rw [List.getElem?_reverse (by omega), List.getElem?_map, List.getElem?_eq_getElem hi, hlen, List.getElem?_eq_getElem hlt] at h1
    simpa using h1
  have hbi := hb L[i] (List.getElem_mem hi)
  rw [bt_nums l _ hlt (by rw [e]; omega) (by rw [e]; omega), e]
theorem nums_app (a b : List Int) : strOfNums a ++ strOfNums b = strOfNums (a ++ b) := by
  apply ByteArray.ext
  simp [strOfNums, ByteArray.data_append]
theorem wire_low {v : Bool} {hi lo : Int} (h1 : U64 hi) (h2 : U64 lo) (hv : vld v hi lo = true) : (wireS v hi lo).2 = 0 ∧ Low (wireS v hi lo).1 (lowB v hi lo) := by
  obtain ⟨a, rfl⟩ : ∃ n : Nat, hi = n := ⟨hi.toNat, by have := h1.1; omega⟩
  obtain ⟨b, rfl⟩ : ∃ n : Nat, lo = n := ⟨lo.toNat, by have := h2.1; omega⟩
  unfold wireS
  rw [if_pos hv]
  have hb := lowB_lt v (a : Int) (b : Int)
  cases v with
  | true =>
    rw [if_pos rfl]
    refine ⟨rfl, ?_⟩
    show Low (strOfNums (octF 8 (a : Int)) ++ strOfNums (octF 8 (b : Int))) _
    rw [nums_app]
    refine low_of ?_ hb
    unfold lowB
    rw [if_pos rfl, List.reverse_append, oct_rev, oct_rev, List.map_append, Int.toNat_natCast, Int.toNat_natCast]
  | false =>
    rw [if_neg (by decide)]
    refine ⟨rfl, ?_⟩
    refine low_of ?_ hb
    unfold lowB
    rw [if_neg (by decide), oct_rev, Int.toNat_natCast]
theorem addr_Reverse_ev {v : Bool} {hi lo : Int} (h1 : U64 hi) (h2 : U64 lo) : Ev (fun k => addr_Reverse.f k v hi lo) (RevS v hi lo) := by
  unfold addr_Reverse.f RevS
  refine Ev.bind (addr_Wire_ev h1 h2) ?_
  cases hv : vld v hi lo with
  | false =>
    have e : wireS v hi lo = ((⟨#[]⟩ : ByteArray), 3) := by unfold wireS; rw [hv, if_neg (by decide)]
    rw [e, if_neg (by decide)]
    refine ev_if_neg (by decide) ?_
    exact Ev.now _
  | true =>
    obtain ⟨e0, hl⟩ := wire_low h1 h2 hv
    rw [if_pos rfl]
    have hb := lowB_lt v hi lo
    have hlen := lowB_len v hi lo
    have hrev := rev_l0 v hi lo _ _ hl hlen hb (lowB v hi lo).length 0 [] (by omega) (by simp)
    have hsz := hl.1
    rw [List.drop_zero, List.nil_append] at hrev
    refine ev_if_pos e0 ?_
    have hw : wrap64 (((wireS v hi lo).1.size : Int) - 1) = ((lowB v hi lo).length : Int) - 1 := by rw [wrap64_id (by omega) (by omega), hsz]
    cases v with
    | true =>
      refine ev_if_pos rfl (Ev.step (fun k => by rw [addr_Reverse.j0]) ?_)
      rw [hw]
      exact hrev
    | false =>
      refine ev_if_neg (by decide) (Ev.step (fun k => by rw [addr_Reverse.j0]) ?_)
      rw [hw]
      exact hrev
end Go.Proofs.YteflcmmandlknaaGreatDoor.Rv
