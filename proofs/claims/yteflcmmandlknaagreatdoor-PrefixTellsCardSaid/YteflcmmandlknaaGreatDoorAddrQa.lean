/-
  The text of an address, the program's side: what addr.text and addr.Print answer. Conditions: numbers within their kinds.
-/
import Derived.Test.YteflcmmandlknaaGreatDoorNum
import Derived.Lib.Join
import Derived.Test.YteflcmmandlknaaGreatDoorPAx4
import Derived.Test.YteflcmmandlknaaGreatDoorPAx10
namespace Go.Proofs.YteflcmmandlknaaGreatDoor.Qa
open Go.RowKit Go.Proofs.YteflcmmandlknaaGreatDoorW.PrintWords Go.Proofs.YteflcmmandlknaaGreatDoorW.PrintLast Go.Proofs.YteflcmmandlknaaGreatDoor.Num Go.Proofs.YteflcmmandlknaaGreatDoor.PA
set_option linter.unusedVariables false
set_option linter.unusedSimpArgs false

def bs (l : List UInt8) : ByteArray := ⟨l.toArray⟩
theorem bs_size (l : List UInt8) : (bs l).size = l.length := by simp [bs, ByteArray.size]
theorem bs_app (l m : List UInt8) : bs l ++ bs m = bs (l ++ m) := by
  apply ByteArray.ext
  simp [bs, ByteArray.data_append]
theorem bs_list (l : List UInt8) : (bs l).data.toList = l := by simp [bs]
def hx (x : Int) : List UInt8 := hexText x.toNat
def J (g : List Int) : List UInt8 := Lib.join (g.map hx) [58]
theorem hx_len (x : Int) : (hx x).length ≤ 4 := by
  unfold hx hexText
  by_cases h1 : x.toNat < 16
  · rw [if_pos h1]; simp
  · rw [if_neg h1]
    by_cases h2 : x.toNat < 256
    · rw [if_pos h2]; simp
    · rw [if_neg h2]
      by_cases h3 : x.toNat < 4096
      · rw [if_pos h3]; simp
      · rw [if_neg h3]; simp
theorem tail_len : ∀ (g : List Int), (Lib.joinTail [58] (g.map hx)).length ≤ 5 * g.length
  | [] => Nat.le_refl _
  | x :: r => by
    have h1 := hx_len x
    have h2 := tail_len r
    unfold Lib.joinTail at h2 ⊢
    simp only [List.map_cons, List.flatten_cons, List.length_append, List.length_cons, List.length_nil] at h2 ⊢
    omega
theorem J_len (g : List Int) : (J g).length ≤ 5 * g.length := by
  cases g with
  | nil => exact Nat.le_refl _
  | cons x r =>
    have h1 := hx_len x
    have h2 := tail_len r
    unfold J
    rw [List.map_cons, Lib.join_cons, List.length_append, List.length_cons]
    omega
theorem J_nil : J [] = [] := rfl
theorem J_snoc (l : List Int) (x : Int) : J (l ++ [x]) = if l = [] then hx x else J l ++ ([58] ++ hx x) := by
  cases l with
  | nil => rw [if_pos rfl]; exact Lib.join_one _ _
  | cons a r =>
    rw [if_neg (by simp)]
    unfold J
    rw [List.cons_append, List.map_cons, List.map_cons, Lib.join_cons, Lib.join_cons, List.map_append]
    unfold Lib.joinTail
    simp only [List.map_append, List.map_cons, List.map_nil, List.flatten_append, List.flatten_cons, List.flatten_nil, List.append_assoc, List.append_nil]
theorem fu16 (x : Int) (h0 : 0 ≤ x) (h1 : x < 65536) : strconv_FormatUint.f (IntKind.u64.wrap x) 16 = some (bs (hx x)) := by
  rw [wrap_u64_id ⟨h0, by omega⟩]
  unfold strconv_FormatUint.f
  rw [if_neg (by decide), if_pos rfl, if_pos ⟨h0, h1⟩]
  rfl
theorem rd_at (g : List Int) (i : Nat) (h : i < g.length) : rd g (i : Int) = g[i] := by
  unfold rd
  rw [Int.toNat_natCast, List.getD_eq_getElem?_getD, List.getElem?_eq_getElem h]
  rfl
theorem join_map (g : List Int) (hl : g.length ≤ 8) : strings_Join.f (g.map fun x => bs (hx x)) (⟨#[58]⟩ : ByteArray) = some (bs (J g)) := by
  unfold strings_Join.f
  have e : ((g.map fun x => bs (hx x)).map fun b => b.data.toList) = g.map hx := by
    rw [List.map_map]
    exact List.map_congr_left (fun x _ => bs_list _)
  have h := J_len g
  have e2 : (⟨#[58]⟩ : ByteArray).data.toList = [58] := rfl
  rw [if_pos (by rw [List.length_map]; omega), e, e2, if_pos (by show (J g).length ≤ _; omega)]
  rfl
theorem text_l0 (g : List Int) (hg : ∀ x, x ∈ g → 0 ≤ x ∧ x < 65536) (hl : g.length ≤ 8) : ∀ (d i : Nat) (L : List ByteArray), i + d = g.length → L.length = g.length → L.take i = (g.map fun x => bs (hx x)).take i → Ev (fun k => addr_text.l0 k g L (g.length : Int) (i : Int)) (bs (J g))
  | 0, i, L, hi, hL, ht => by
    have hi' : i = g.length := by omega
    rw [List.take_of_length_le (by omega), List.take_of_length_le (by rw [List.length_map]; omega)] at ht
    subst ht
    refine Ev.step (fun k => by rw [addr_text.l0]) (ev_if_neg (by omega) ?_)
    exact ev_bind_const (join_map g hl) (Ev.now _)
  | d + 1, i, L, hi, hL, ht => by
    have hlt : i < g.length := by omega
    have hx0 := hg g[i] (List.getElem_mem hlt)
    refine Ev.step (fun k => by rw [addr_text.l0]) (ev_if_pos (by omega) (ev_if_pos (by omega) (ev_if_pos (by omega) ?_)))
    rw [rd_at g i hlt]
    refine ev_bind_const (fu16 _ hx0.1 hx0.2) (ev_if_pos (by omega) ?_)
    rw [wrap64_id (by omega) (by omega), Int.toNat_natCast]
    refine text_l0 g hg hl d (i + 1) (L.set i (bs (hx g[i]))) (by omega) (by rw [List.length_set]; exact hL) ?_
    rw [List.take_add_one, List.take_add_one, List.getElem?_set_self (by omega), List.getElem?_map, List.getElem?_eq_getElem hlt]
    congr 1
    rw [List.take_set_of_le (Nat.le_refl _)]
    exact ht
theorem text_ev (g : List Int) (hg : ∀ x, x ∈ g → 0 ≤ x ∧ x < 65536) (hl : g.length ≤ 8) : Ev (fun k => addr_text.f k g) (bs (J g)) := by
  unfold addr_text.f
  refine ev_if_pos (by omega) (ev_if_pos (by omega) ?_)
  simp only [Option.bind_some]
  have e : ((List.replicate ((g.length : Int)).toNat (⟨#[]⟩ : ByteArray)).length : Int) = (g.length : Int) := by rw [List.length_replicate]; omega
  simp only [e]
  exact text_l0 g hg hl g.length 0 _ (by omega) (by rw [List.length_replicate]; omega) rfl
theorem u16_range (x : Int) : 0 ≤ IntKind.u16.wrap x ∧ IntKind.u16.wrap x < 65536 := by
  have h : IntKind.u16.wrap x = x % 65536 := rfl
  rw [h]
  omega
theorem grp_range (hi lo : Int) : ∀ x, x ∈ grp8 hi lo → 0 ≤ x ∧ x < 65536 := by
  intro x hx
  unfold grp8 at hx
  simp only [List.mem_cons, List.not_mem_nil, or_false] at hx
  rcases hx with rfl | rfl | rfl | rfl | rfl | rfl | rfl | rfl <;> exact u16_range _
/-- The text of eight groups. -/
def out6 (g : List Int) : List UInt8 := if (longest g).2 < 2 then J g else J (g.take (longest g).1) ++ [58, 58] ++ J (g.drop ((longest g).1 + (longest g).2))
theorem prV6_ev (g : List Int) (hg : ∀ x, x ∈ g → 0 ≤ x ∧ x < 65536) (hl : g.length = 8) : Ev (fun k => prV6 k g) (bs (out6 g), 0) := by
  unfold prV6 out6
  by_cases h : (longest g).2 < 2
  · simp only [if_pos h]
    exact Ev.bind (text_ev g hg (by omega)) (Ev.now _)
  · simp only [if_neg h]
    have h1 := J_len (g.take (longest g).1)
    have h2 := J_len (g.drop ((longest g).1 + (longest g).2))
    rw [List.length_take] at h1
    rw [List.length_drop] at h2
    refine Ev.bind (text_ev _ (fun x hx => hg x (List.mem_of_mem_take hx)) (by rw [List.length_take]; omega)) ?_
    refine Ev.bind (text_ev _ (fun x hx => hg x (List.mem_of_mem_drop hx)) (by rw [List.length_drop]; omega)) ?_
    have e : (⟨#[58, 58]⟩ : ByteArray) = bs [58, 58] := rfl
    rw [e, bs_app, bs_app]
    refine ev_if_pos (by rw [bs_size]; omega) (ev_if_pos (by rw [bs_size, bs_size, List.length_append]; simp only [List.length_cons, List.length_nil]; omega) ?_)
    exact Ev.now _
/-- The text of an IPv4 address. -/
def out4 (lo : Nat) : List UInt8 := Lib.join [Lib.decDigits (lo / 16777216 % 256), Lib.decDigits (lo / 65536 % 256), Lib.decDigits (lo / 256 % 256), Lib.decDigits (lo % 256)] [46]
/-- A number's decimal digits, three at most. -/
def dd (n : Nat) : List UInt8 := if n < 10 then [UInt8.ofNat (48 + n)] else if n < 100 then [UInt8.ofNat (48 + n / 10), UInt8.ofNat (48 + n % 10)] else [UInt8.ofNat (48 + n / 100), UInt8.ofNat (48 + n / 10 % 10), UInt8.ofNat (48 + n % 10)]
theorem dd_eq (n : Nat) (h : n < 1000) : Lib.decDigits n = dd n := by
  unfold dd
  by_cases h1 : n < 10
  · rw [if_pos h1, Lib.decDigits_one h1]
  · rw [if_neg h1]
    by_cases h2 : n < 100
    · rw [if_pos h2, Lib.decDigits_two h1 h2]
    · rw [if_neg h2, Lib.decDigits, dif_neg h1, Lib.decDigits_two (by omega) (by omega), Nat.div_div_eq_div_mul]
      rfl
theorem dd_len (n : Nat) : (dd n).length ≤ 3 := by
  unfold dd
  by_cases h1 : n < 10
  · rw [if_pos h1]; simp
  · rw [if_neg h1]
    by_cases h2 : n < 100
    · rw [if_pos h2]; simp
    · rw [if_neg h2]; simp
theorem out4_eq (lo : Nat) : out4 lo = dd (lo / 16777216 % 256) ++ ([46] ++ (dd (lo / 65536 % 256) ++ ([46] ++ (dd (lo / 256 % 256) ++ ([46] ++ dd (lo % 256)))))) := by
  unfold out4
  rw [dd_eq _ (by omega), dd_eq _ (by omega), dd_eq _ (by omega), dd_eq _ (by omega), Lib.join_cons]
  unfold Lib.joinTail
  simp only [List.map_cons, List.map_nil, List.flatten_cons, List.flatten_nil, List.append_assoc, List.append_nil]
theorem out4_len (lo : Nat) : (out4 lo).length ≤ 15 := by
  rw [out4_eq]
  have h0 := dd_len (lo / 16777216 % 256)
  have h1 := dd_len (lo / 65536 % 256)
  have h2 := dd_len (lo / 256 % 256)
  have h3 := dd_len (lo % 256)
  simp only [List.length_append, List.length_cons, List.length_nil]
  omega
theorem join4 (lo : Nat) : strings_Join.f (dec4 lo) (⟨#[46]⟩ : ByteArray) = some (bs (out4 lo)) := by
  unfold strings_Join.f
  have e : (dec4 lo).map (fun b => b.data.toList) = [Lib.decDigits (lo / 16777216 % 256), Lib.decDigits (lo / 65536 % 256), Lib.decDigits (lo / 256 % 256), Lib.decDigits (lo % 256)] := by
    unfold dec4
    simp
  have e2 : (⟨#[46]⟩ : ByteArray).data.toList = [46] := rfl
  have h := out4_len lo
  rw [if_pos (by show 4 ≤ _; decide), e, e2, if_pos (by show (out4 lo).length ≤ _; omega)]
  rfl
/-- What addr.Print answers. -/
def outP (v : Bool) (hi lo : Int) : ByteArray × Int := if v = true then (bs (out6 (grp8 hi lo)), 0) else if hi = 0 ∧ lo ≤ 4294967295 then (bs (out4 lo.toNat), 0) else ((⟨#[]⟩ : ByteArray), 3)
theorem Print_ev (v : Bool) (hi lo : Int) (h1 : U64 hi) (h2 : U64 lo) : Ev (fun k => addr_Print.f k v hi lo) (outP v hi lo) := by
  unfold addr_Print.f outP
  cases v with
  | true =>
    simp only [if_true]
    refine ev_bind_const (a := true) (by unfold addr_Valid.f; rw [if_pos rfl]) ?_
    refine ev_if_pos rfl ?_
    exact prV6_ev (grp8 hi lo) (grp_range hi lo) rfl
  | false =>
    simp only [Bool.false_eq_true, if_false]
    by_cases h : hi = 0 ∧ lo ≤ 4294967295
    · rw [if_pos h]
      refine ev_bind_const (a := true) (by unfold addr_Valid.f; rw [if_neg (by decide), if_pos h.1, decide_eq_true h.2]) ?_
      refine ev_if_pos rfl (ev_if_pos (c := 0 ≤ lo ∧ lo < 18446744073709551616) h2 ?_)
      exact ev_bind_const (join4 lo.toNat) (Ev.now _)
    · rw [if_neg h]
      refine ev_bind_const (a := false) ?_ ?_
      · unfold addr_Valid.f
        rw [if_neg (by decide)]
        by_cases h0 : hi = 0
        · rw [if_pos h0, decide_eq_false (fun hc => h ⟨h0, hc⟩)]
        · rw [if_neg h0]
      · refine ev_if_neg (by decide) ?_
        exact Ev.now _
end Go.Proofs.YteflcmmandlknaaGreatDoor.Qa
