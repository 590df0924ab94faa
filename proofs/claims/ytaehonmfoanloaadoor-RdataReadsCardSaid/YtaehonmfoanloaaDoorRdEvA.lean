/-
  Names of the program in plain words: Valid, Labels, host, the bytes. Conditions: each theorem's own.
  The program's small functions of layer 5 and of addresses in plain words: numbers, bitmaps, types, the bytes of addresses. Conditions: each theorem's own.
-/
import Derived.Test.YtaehonmfoanloaaDoorPAx1
import Derived.Test.YtaehonmfoanloaaDoorPAx2
import Derived.Test.YtaehonmfoanloaaDoorPAx4
import Derived.Test.YtaehonmfoanloaaDoorPAx3
import Derived.Test.YtaehonmfoanloaaDoorRdLaw
import Derived.Test.YtaehonmfoanloaaDoorHandB
namespace Go.Proofs.YtaehonmfoanloaaDoor.Hand
open Go.RowKit Go.Proofs.YtaehonmfoanloaaDoorW.PrintWords Go.Proofs.YtaehonmfoanloaaDoor.Num Go.Proofs.YtaehonmfoanloaaDoor.Bits Go.Proofs.YtaehonmfoanloaaDoor.RdW Go.Proofs.YtaehonmfoanloaaDoor.Str Go.Proofs.YtaehonmfoanloaaDoor.PA
set_option linter.all false
theorem ordinary_l0 (s : ByteArray) (hs : s.size ≤ 100000) : ∀ (r : List UInt8) (i : Nat), (by_ s).drop i = r → Ev (fun k => dname_ordinary.l0 k s (s.size : Int) (i : Int)) (r.all okc)
  | [], i, hd => by
    have hj := drop_nil hd
    refine ev_of_eq 1 (fun k => ?_)
    rw [dname_ordinary.l0, if_neg (by omega)]; rfl
  | c :: r, i, hd => by
    obtain ⟨h1, h2, h3⟩ := bt_drop hd
    have ih := ordinary_l0 s hs r (i + 1) h3
    have hc := okc_iff c
    rw [List.all_cons]
    refine Ev.step (f := fun k => if okc c = true then dname_ordinary.l0 k s (s.size : Int) ((i + 1 : Nat) : Int) else some false) (fun k => ?_) ?_
    · rw [dname_ordinary.l0, if_pos (by omega), if_pos (by omega), if_pos (by omega), h2, wrap_s (by omega)]
      by_cases ho : okc c = true
      · rw [if_pos ho]
        have h := hc.1 ho
        repeat' split
        all_goals first | rfl | (exfalso; omega)
      · rw [if_neg ho]
        have h : ¬ _ := fun g => ho (hc.2 g)
        repeat' split
        all_goals first | rfl | (exfalso; omega)
    · by_cases ho : okc c = true
      · simp only [ho, if_true, Bool.true_and]; exact ih
      · simp only [ho, if_false, Bool.false_and, Bool.eq_false_iff.2 ho]; exact Ev.now _
theorem ordinary_ev (s : ByteArray) (hs : s.size ≤ 100000) : Ev (fun k => dname_ordinary.f k s) (ordL (by_ s)) := by
  have hl := by_length s
  unfold dname_ordinary.f
  by_cases h : by_ s = []
  · refine ev_if_pos (by rw [toList_by]; exact h) ?_
    rw [h]
    exact ev_of_eq 1 (fun k => by rw [dname_ordinary.j0, if_pos rfl]; rfl)
  · refine ev_if_neg (by rw [toList_by]; exact h) ?_
    have hn : (by_ s).isEmpty = false := by cases hc : by_ s with | nil => exact absurd hc h | cons a b => rfl
    unfold ordL
    rw [hn, hl]
    by_cases hb : s.size ≤ 63
    · refine Ev.step (fun k => by rw [dname_ordinary.j0, if_neg (by simp; omega)]) ?_
      have := ordinary_l0 s hs (by_ s) 0 rfl
      simpa [hb] using this
    · refine Ev.step (fun k => by rw [dname_ordinary.j0, if_pos (by simp; omega)]) ?_
      simpa [hb] using Ev.now false
theorem suffix_dot (s : ByteArray) (hs : s.size ≤ 100000) : strings_HasSuffix.f s (⟨#[46]⟩ : ByteArray) = some (decide ((by_ s).getLast? = some 46)) := by
  have hl := by_length s
  have h1 : ((⟨#[46]⟩ : ByteArray).size : Int) = 1 := rfl
  unfold strings_HasSuffix.f stringslite_HasSuffix.f
  rw [h1]
  by_cases h0 : s.size = 0
  · rw [if_neg (by omega)]
    have : by_ s = [] := List.eq_nil_of_length_eq_zero (by omega)
    rw [this]; rfl
  · have hw : wrap64 ((s.size : Int) - 1) = ((s.size - 1 : Nat) : Int) := by rw [wrap64_id (by omega) (by omega)]; omega
    rw [if_pos (by omega), hw, if_pos (by omega), if_pos (by omega), Int.toNat_natCast]
    obtain ⟨c, d1, d2⟩ := drop_last (by_ s) (by omega)
    have e : (s.extract (s.size - 1) s.size).toList = [c] := by rw [toList_by, by_extract, List.take_of_length_le (by omega), ← hl, d1]
    rw [e, d2]
    rw [toList_by]
    show some ([c] == by_ ⟨#[46]⟩) = _
    by_cases hc : c = 46
    · subst hc; rfl
    · rw [show ((c :: []) == by_ ⟨#[46]⟩) = false by rw [beq_eq_false_iff_ne]; intro g; exact hc (by simpa [by_] using g)]
      simp [hc]
theorem dsplit (s : ByteArray) (h0 : 0 < s.size) (hs : s.size ≤ 100000) : strings_Split.f (s.extract 0 (wrap64 ((s.size : Int) - 1)).toNat) (⟨#[46]⟩ : ByteArray) = some ((splitC 46 (by_ s).dropLast).map strOf) := by
  have hl := by_length s
  have hw : wrap64 ((s.size : Int) - 1) = ((s.size - 1 : Nat) : Int) := by rw [wrap64_id (by omega) (by omega)]; omega
  rw [hw, Int.toNat_natCast]
  have e : by_ (s.extract 0 (s.size - 1)) = (by_ s).dropLast := by rw [by_extract, List.drop_zero, ← hl, take_dropLast]
  have hz : (s.extract 0 (s.size - 1)).size ≤ 100000 := by rw [← by_length, e, List.length_dropLast]; omega
  unfold strings_Split.f
  rw [if_pos (by omega), if_pos (by decide), split_fields, e]
theorem Valid_l0 (F : List ByteArray) (hF : F.length ≤ 1000) (hS : ∀ f ∈ F, f.size ≤ 100000) : ∀ (fs : List ByteArray) (j : Nat), F.drop j = fs →
    Ev (fun k => dname_Valid.l0 k F (F.length : Int) (j : Int)) (if j = 0 then labelsOk (fs.map by_) else (fs.map by_).all ordL)
  | [], j, hd => by
    have hj : F.length ≤ j := by have := congrArg List.length hd; simp at this; omega
    refine ev_of_eq 1 (fun k => ?_)
    rw [dname_Valid.l0, if_neg (by omega)]
    simp [labelsOk]
  | f :: fs, j, hd => by
    obtain ⟨h1, h2, h3⟩ := rdOf_drop hd
    have ih := Valid_l0 F hF hS fs (j + 1) h3
    rw [if_neg (by omega)] at ih
    have hf : f.size ≤ 100000 := hS f (by rw [← List.take_append_drop j F, hd]; simp)
    refine Ev.step (f := fun k => (dname_ordinary.f k f).bind fun t => if t = true then dname_Valid.l0 k F (F.length : Int) ((j + 1 : Nat) : Int) else if (j : Int) > 0 then some false else if by_ f = [42] then dname_Valid.l0 k F (F.length : Int) ((j + 1 : Nat) : Int) else some false) (fun k => ?_) ?_
    · rw [dname_Valid.l0, if_pos (by omega), if_pos (by omega), if_pos (by omega), h2, wrap_s (by omega)]
      simp only [toList_by]
    · refine Ev.bind (ordinary_ev f hf) ?_
      rw [List.map_cons]
      by_cases ho : ordL (by_ f) = true
      · refine ev_if_pos ho ?_
        by_cases hj : j = 0
        · rw [if_pos hj, labelsOk, ho]; simpa using ih
        · rw [if_neg hj, List.all_cons, ho]; simpa using ih
      · refine ev_if_neg ho ?_
        by_cases hj : j = 0
        · refine ev_if_neg (by omega) ?_
          rw [if_pos hj, labelsOk, Bool.eq_false_iff.2 ho]
          by_cases hstar : by_ f = [42]
          · refine ev_if_pos hstar ?_
            rw [hstar]; simpa using ih
          · refine ev_if_neg hstar ?_
            rw [show (by_ f == [42]) = false by rw [beq_eq_false_iff_ne]; exact hstar]
            exact Ev.now _
        · refine ev_if_pos (by omega) ?_
          rw [if_neg hj, List.all_cons, Bool.eq_false_iff.2 ho]
          exact Ev.now _
theorem nameB_by (n : ByteArray) : nameB n = if by_ n = [46] then true else if n.size < 255 ∧ (by_ n).getLast? = some 46 ∧ labelsOk (splitC 46 (by_ n).dropLast) = true then true else false := by
  unfold nameB labelsN
  have hl := by_length n
  show Option.isSome (if by_ n = [46] then some [] else if (by_ n).length < 255 ∧ (by_ n).getLast? = some 46 ∧ labelsOk (splitC 46 (by_ n).dropLast) = true then some (splitC 46 (by_ n).dropLast) else none) = _
  rw [hl]
  split
  · rfl
  · split <;> rfl
theorem Valid_ev (n : ByteArray) (hs : n.size ≤ 100000) : Ev (fun k => dname_Valid.f k n) (nameB n) := by
  have hl := by_length n
  unfold dname_Valid.f
  rw [nameB_by]
  by_cases h : by_ n = [46]
  · rw [if_pos h]
    exact ev_if_pos (by rw [toList_by]; exact h) (Ev.now _)
  · rw [if_neg h]
    refine ev_if_neg (by rw [toList_by]; exact h) ?_
    by_cases h1 : n.size < 255
    · refine ev_if_neg (by omega) ?_
      refine ev_bind_const (suffix_dot n hs) ?_
      by_cases h2 : (by_ n).getLast? = some 46
      · have h0 : 0 < n.size := by
          rcases Nat.eq_zero_or_pos n.size with g | g
          · have : by_ n = [] := List.eq_nil_of_length_eq_zero (by omega)
            rw [this] at h2; cases h2
          · exact g
        have hw : wrap64 ((n.size : Int) - 1) = ((n.size - 1 : Nat) : Int) := by rw [wrap64_id (by omega) (by omega)]; omega
        refine Ev.step (f := fun k => dname_Valid.l0 k ((splitC 46 (by_ n).dropLast).map strOf) (((splitC 46 (by_ n).dropLast).map strOf).length : Int) 0) (fun k => ?_) ?_
        · rw [dname_Valid.j0, if_neg (by simp [h2]), if_pos (by omega), if_pos (by omega), dsplit n h0 hs]
          rfl
        · have hm : ((splitC 46 (by_ n).dropLast).map strOf).map by_ = splitC 46 (by_ n).dropLast := by
            exact map_by _
          have hlen := splitC_length 46 (by_ n).dropLast
          rw [List.length_dropLast] at hlen
          have := Valid_l0 ((splitC 46 (by_ n).dropLast).map strOf) (by rw [List.length_map]; omega) (fun f hf => by
            obtain ⟨l, hl1, rfl⟩ := List.mem_map.1 hf
            rw [strOf_size]
            have hle : ∀ (s l : List UInt8), l ∈ splitC 46 s → l.length ≤ s.length := by
              intro s
              induction s with
              | nil => intro l hl; simp [splitC] at hl; rw [hl]; simp
              | cons c s ih =>
                intro l hl
                by_cases hc : c = 46
                · subst hc
                  unfold splitC at hl
                  rw [if_pos rfl] at hl
                  rcases List.mem_cons.1 hl with rfl | hl
                  · simp
                  · have := ih l hl; simp; omega
                · cases hsp : splitC 46 s with
                  | nil => exact absurd hsp (splitC_ne _ _)
                  | cons p ps =>
                    rw [splitC_cons_ne hc hsp] at hl
                    rcases List.mem_cons.1 hl with rfl | hl
                    · have := ih p (by rw [hsp]; simp); simp; omega
                    · have := ih l (by rw [hsp]; exact List.mem_cons_of_mem _ hl); simp; omega
            have := hle _ _ hl1
            rw [List.length_dropLast] at this
            omega) _ 0 rfl
          rw [List.drop_zero, hm, if_pos rfl] at this
          have hr : (if n.size < 255 ∧ (by_ n).getLast? = some 46 ∧ labelsOk (splitC 46 (by_ n).dropLast) = true then true else false) = labelsOk (splitC 46 (by_ n).dropLast) := by
            simp [h1, h2]
          rw [hr]
          exact this
      · rw [if_neg (fun g => h2 g.2.1)]
        exact ev_of_eq 1 (fun k => by rw [dname_Valid.j0, if_pos (by simp [h2])])
    · refine ev_if_pos (by omega) ?_
      rw [if_neg (fun g => h1 g.1)]
      exact ev_of_eq 1 (fun k => by rw [dname_Valid.j0, if_pos rfl])
theorem Labels_ev (n : ByteArray) (hs : n.size ≤ 100000) : Ev (fun k => dname_Labels.f k n) (((labelsN (by_ n)).getD []).map strOf) := by
  have hl := by_length n
  unfold dname_Labels.f
  by_cases h : by_ n = [46]
  · refine ev_if_pos (by rw [toList_by]; exact h) ?_
    rw [h]; exact Ev.now _
  · refine ev_if_neg (by rw [toList_by]; exact h) ?_
    refine Ev.bind (Valid_ev n hs) ?_
    cases hv : nameB n with
    | false =>
      refine ev_if_neg (by simp) ?_
      have : labelsN (by_ n) = none := by
        unfold nameB at hv
        exact Option.isSome_eq_false_iff.1 hv |> Option.isNone_iff_eq_none.1
      rw [this]; exact Ev.now _
    | true =>
      refine ev_if_pos rfl ?_
      rw [nameB_by, if_neg h] at hv
      have hc : n.size < 255 ∧ (by_ n).getLast? = some 46 ∧ labelsOk (splitC 46 (by_ n).dropLast) = true := by
        by_cases g : n.size < 255 ∧ (by_ n).getLast? = some 46 ∧ labelsOk (splitC 46 (by_ n).dropLast) = true
        · exact g
        · rw [if_neg g] at hv; cases hv
      have h0 : 0 < n.size := by
        rcases Nat.eq_zero_or_pos n.size with g | g
        · have : by_ n = [] := List.eq_nil_of_length_eq_zero (by omega)
          rw [this] at hc; exact absurd hc.2.1 (by simp)
        · exact g
      have hw : wrap64 ((n.size : Int) - 1) = ((n.size - 1 : Nat) : Int) := by rw [wrap64_id (by omega) (by omega)]; omega
      refine ev_if_pos (by omega) (ev_if_pos (by omega) (ev_bind_const (dsplit n h0 hs) ?_))
      have : labelsN (by_ n) = some (splitC 46 (by_ n).dropLast) := by
        unfold labelsN
        rw [if_neg h, hl, if_pos hc]
      rw [this]; exact Ev.now _
theorem lenbyte (f : ByteArray) : strOfNums [((f.size : Int)) % 256] = strOf [UInt8.ofNat f.size] := by
  have e : UInt8.ofNat ((f.size : Int) % 256).toNat = UInt8.ofNat f.size := by
    apply UInt8.toNat_inj.1
    rw [u8_of, u8_of]; omega
  show (⟨#[UInt8.ofNat ((f.size : Int) % 256).toNat]⟩ : ByteArray) = _
  rw [e]; rfl
theorem name_l0 (F : List ByteArray) (hF : F.length ≤ 1000) : ∀ (fs : List ByteArray) (j : Nat) (out : ByteArray), F.drop j = fs → out.size + (wireL (fs.map by_)).length ≤ 1000000 →
    Ev (fun k => rdata_name.l0 k out F (F.length : Int) (j : Int)) (out ++ strOf (wireL (fs.map by_)))
  | [], j, out, hd, ho => by
    have hj : F.length ≤ j := by have := congrArg List.length hd; simp at this; omega
    refine ev_of_eq 1 (fun k => ?_)
    rw [rdata_name.l0, if_neg (by omega), if_pos (by omega)]
    rfl
  | f :: fs, j, out, hd, ho => by
    obtain ⟨h1, h2, h3⟩ := rdOf_drop hd
    have hfl := by_length f
    rw [List.map_cons, wireL_cons] at ho ⊢
    simp only [List.length_append, List.length_cons] at ho
    have e : out ++ strOf (UInt8.ofNat (by_ f).length :: by_ f ++ wireL (fs.map by_)) = (out ++ (strOfNums [((f.size : Int)) % 256] ++ f)) ++ strOf (wireL (fs.map by_)) := by
      rw [lenbyte, hfl]
      conv => rhs; rw [← strOf_by f, ← strOf_by out]
      conv => lhs; rw [← strOf_by out]
      rw [strOf_app, strOf_app, strOf_app, strOf_app]
      simp [by_strOf, strOf_by]
    have hz : (strOfNums [((f.size : Int)) % 256]).size = 1 := by rw [lenbyte]; rfl
    have hz2 : (strOfNums [((f.size : Int)) % 256] ++ f).size = 1 + f.size := by rw [ByteArray.size_append, hz]
    have ih := name_l0 F hF fs (j + 1) (out ++ (strOfNums [((f.size : Int)) % 256] ++ f)) h3 (by rw [ByteArray.size_append, hz2]; omega)
    rw [e]
    refine Ev.step (fun k => ?_) ih
    rw [rdata_name.l0, if_pos (by omega), if_pos (by omega), if_pos (by omega), h2, wrap_s (by omega)]
    show (if _ then _ else _) = _
    rw [if_pos (by rw [hz]; omega), if_pos (by rw [hz2]; omega)]
theorem name_ev (n : ByteArray) (hs : n.size ≤ 100000) : Ev (fun k => rdata_name.f k n) (strOf (wireN (by_ n))) := by
  unfold rdata_name.f
  refine Ev.bind (Labels_ev n hs) ?_
  have hm : (((labelsN (by_ n)).getD []).map strOf).map by_ = (labelsN (by_ n)).getD [] := by
    exact map_by _
  have hlen : (((labelsN (by_ n)).getD []).map strOf).length ≤ 1000 := by
    rw [List.length_map]
    cases h : labelsN (by_ n) with
    | none => simp
    | some ls => exact (labelsN_len h).1
  have h1 := wireN_len (by_ n)
  rw [by_length] at h1
  have := name_l0 _ hlen _ 0 ⟨#[]⟩ rfl (by rw [List.drop_zero, hm]; show 0 + (wireN (by_ n)).length ≤ 1000000; omega)
  rw [List.drop_zero, hm] at this
  have e : (⟨#[]⟩ : ByteArray) ++ strOf (wireL ((labelsN (by_ n)).getD [])) = strOf (wireN (by_ n)) := by
    show strOf [] ++ _ = _
    rw [strOf_app]; rfl
  rw [e] at this
  exact this
theorem prefix_star (s : ByteArray) (hs : s.size ≤ 100000) : strings_HasPrefix.f s (⟨#[42]⟩ : ByteArray) = some ((by_ s).head? == some 42) := by
  have hl := by_length s
  have h1 : ((⟨#[42]⟩ : ByteArray).size : Int) = 1 := rfl
  unfold strings_HasPrefix.f stringslite_HasPrefix.f
  rw [h1]
  cases hc : by_ s with
  | nil =>
    rw [hc] at hl
    rw [if_neg (by simp at hl; omega)]; rfl
  | cons c r =>
    rw [hc] at hl
    simp only [List.length_cons] at hl
    rw [if_pos (by omega), if_pos (by omega), if_pos (by omega)]
    have e : (s.extract 0 (1 : Int).toNat).toList = [c] := by rw [toList_by, by_extract, hc]; rfl
    rw [e]
    rw [toList_by]
    show some ([c] == by_ ⟨#[42]⟩) = some (some c == some 42)
    by_cases h : c = 42
    · subst h; rfl
    · rw [show ((c :: []) == by_ ⟨#[42]⟩) = false by rw [beq_eq_false_iff_ne]; intro g; exact h (by simpa [by_] using g)]
      rw [show (some c == some 42) = false by rw [beq_eq_false_iff_ne]; intro g; exact h (by simpa using g)]
theorem host_ev (n : ByteArray) (hs : n.size ≤ 100000) : Ev (fun k => rdata_host.f k n) (hostB n) := by
  unfold rdata_host.f
  refine Ev.bind (Valid_ev n hs) ?_
  unfold hostB
  cases hv : nameB n with
  | false => exact ev_if_neg (by simp) (Ev.now _)
  | true =>
    refine ev_if_pos rfl (ev_bind_const (prefix_star n hs) ?_)
    exact Ev.now _
end Go.Proofs.YtaehonmfoanloaaDoor.Hand
namespace Go.Proofs.YtaehonmfoanloaaDoor.Hand
open Go.RowKit Go.Proofs.YtaehonmfoanloaaDoorW.PrintWords Go.Proofs.YtaehonmfoanloaaDoorW.PrintLast Go.Proofs.YtaehonmfoanloaaDoorW.PrintMore Go.Proofs.YtaehonmfoanloaaDoor.Num Go.Proofs.YtaehonmfoanloaaDoor.Bits Go.Proofs.YtaehonmfoanloaaDoor.RdW Go.Proofs.YtaehonmfoanloaaDoor.Str Go.Proofs.YtaehonmfoanloaaDoor.PA
set_option linter.all false
/-! ### addresses -/
theorem addr_Valid_eq (v : Bool) (hi lo : Int) : addr_Valid.f v hi lo = some (addrB v hi lo) := by
  unfold addr_Valid.f addrB
  cases v
  · by_cases h : hi = 0
    · simp [h]
    · simp [h]
  · simp
def octF : Nat → Int → List Int
  | 0, _ => []
  | n + 1, v => (v / 256 ^ n % 256) :: octF n v
theorem octF_length (n : Nat) (v : Int) : (octF n v).length = n := by
  induction n with
  | zero => rfl
  | succ n ih => simp [octF, ih]
theorem byte_of {m : Int} {q : Nat} (h : (m % 256).toNat = q % 256) : UInt8.ofNat (m % 256).toNat = UInt8.ofNat q := by
  apply UInt8.toNat_inj.1
  rw [u8_of, u8_of]; omega
theorem oct_be {x : Int} (h0 : 0 ≤ x) : ∀ n : Nat, strOfNums (octF n x) = strOf (be n x.toNat)
  | 0 => rfl
  | n + 1 => by
    have ih := oct_be h0 n
    have e : ∀ l : List Int, ∀ c : Int, strOfNums (c :: l) = strOf (UInt8.ofNat c.toNat :: by_ (strOfNums l)) := by
      intro l c
      apply ByteArray.ext
      apply Array.toList_inj.1
      simp [strOfNums, strOf, by_]
    rw [octF, e, ih, by_strOf, be]
    congr 2
    apply byte_of
    obtain ⟨m, rfl⟩ : ∃ m : Nat, x = m := ⟨x.toNat, by omega⟩
    rw [Int.toNat_natCast, show ((m : Int) / 256 ^ n) = ((m / 256 ^ n : Nat) : Int) by simp]
    generalize m / 256 ^ n = q
    omega
theorem addr_bytes_ev {x : Int} (h : U64 x) : Ev (fun k => addr_bytes.f k x) (octF 8 x) := by
  refine ev_of_eq 9 (fun k => ?_)
  unfold addr_bytes.f
  simp [addr_bytes.l0, wrap64, shr, octF, IntKind.bits]
theorem addr_Wire_ev (x : D) (hx : x.ok) (hv : addrB x.v6 x.hi x.lo = true) : Ev (fun k => addr_Wire.f k x.v6 x.hi x.lo) (strOf (addrW x), 0) := by
  have u1 : U64 x.hi := ⟨hx.hi0, hx.hi1⟩
  have u2 : U64 x.lo := ⟨hx.lo0, hx.lo1⟩
  unfold addr_Wire.f addrW
  refine ev_bind_const (addr_Valid_eq _ _ _) (ev_if_pos hv ?_)
  cases hx6 : x.v6
  · refine ev_if_neg (by simp) ?_
    rw [if_neg (by simp)]
    refine Ev.bind (addr_bytes_ev u2) (ev_if_pos (by rw [octF_length]; omega) ?_)
    rw [show (octF 8 x.lo).drop 4 = octF 4 x.lo from rfl, oct_be hx.lo0]
    exact Ev.now _
  · refine ev_if_pos rfl ?_
    rw [if_pos rfl]
    refine Ev.bind (addr_bytes_ev u1) (Ev.bind (addr_bytes_ev u2) (ev_if_pos ?_ ?_))
    · rw [oct_be hx.hi0, oct_be hx.lo0, strOf_size, strOf_size, be_length, be_length]; omega
    · rw [oct_be hx.hi0, oct_be hx.lo0, strOf_app]
      exact Ev.now _
theorem value_l0 (s : ByteArray) (hs : s.size ≤ 1000) : ∀ (r : List UInt8) (i n : Nat), (by_ s).drop i = r → (n + 1) * 256 ^ r.length ≤ 18446744073709551616 → Ev (fun k => addr_value.l0 k s (n : Int) (s.size : Int) (i : Int)) ((val r n : Nat) : Int)
  | [], i, n, hd, hn => by
    have hj := drop_nil hd
    refine ev_of_eq 1 (fun k => ?_)
    rw [addr_value.l0, if_neg (by omega)]; rfl
  | c :: r, i, n, hd, hn => by
    obtain ⟨h1, h2, h3⟩ := bt_drop hd
    have hc := c.toNat_lt
    have hp : 1 ≤ 256 ^ r.length := Nat.one_le_pow _ _ (by omega)
    rw [List.length_cons, Nat.pow_succ] at hn
    have hb : (n + 1) * 256 ≤ 18446744073709551616 := by
      have : (n + 1) * 256 * 1 ≤ (n + 1) * 256 * 256 ^ r.length := Nat.mul_le_mul_left _ hp
      have e : (n + 1) * (256 ^ r.length * 256) = (n + 1) * 256 * 256 ^ r.length := by rw [Nat.mul_comm (256 ^ r.length), Nat.mul_assoc]
      omega
    have hn' : (n * 256 + c.toNat + 1) * 256 ^ r.length ≤ 18446744073709551616 := by
      have h4 : (n * 256 + c.toNat + 1) * 256 ^ r.length ≤ (n + 1) * 256 * 256 ^ r.length := Nat.mul_le_mul_right _ (by omega)
      have e : (n + 1) * (256 ^ r.length * 256) = (n + 1) * 256 * 256 ^ r.length := by rw [Nat.mul_comm (256 ^ r.length), Nat.mul_assoc]
      omega
    have ih := value_l0 s hs r (i + 1) (n * 256 + c.toNat) h3 hn'
    refine Ev.step (fun k => ?_) ih
    rw [addr_value.l0, if_pos (by omega), if_pos (by omega), if_pos (by omega), wrap_s (by omega), h2]
    have e2 : Go.bits .or .u64 (IntKind.u64.wrap ((n : Int) * 256)) (IntKind.u64.wrap (c.toNat : Int)) = ((n * 256 + c.toNat : Nat) : Int) := by
      rw [wrap_u64, wrap_u64, or_u64 8 (by omega) (by omega) (by omega) (by omega) (by omega) (by omega)]; omega
    rw [e2]
theorem value_ev (s : ByteArray) (hs : s.size ≤ 8) : Ev (fun k => addr_value.f k s) ((val (by_ s) 0 : Nat) : Int) := by
  have hl := by_length s
  have h := value_l0 s (by omega) (by_ s) 0 0 rfl (by
    have : 256 ^ (by_ s).length ≤ 256 ^ 8 := Nat.pow_le_pow_right (by omega) (by omega)
    have e : (256 : Nat) ^ 8 = 18446744073709551616 := by decide
    omega)
  exact h
theorem addr_Read4_ev (l : List UInt8) (hl : l.length = 4) : Ev (fun k => addr_Read.f k (strOf l)) (false, 0, ((val l 0 : Nat) : Int), 0) := by
  have hz : (strOf l).size = 4 := by rw [strOf_size, hl]
  unfold addr_Read.f
  refine ev_if_pos (by omega) ?_
  have := value_ev (strOf l) (by omega)
  rw [by_strOf] at this
  exact Ev.bind this (Ev.now _)
theorem addr_Read16_ev (l : List UInt8) (hl : l.length = 16) : Ev (fun k => addr_Read.f k (strOf l)) (true, ((val (l.take 8) 0 : Nat) : Int), ((val (l.drop 8) 0 : Nat) : Int), 0) := by
  have hz : (strOf l).size = 16 := by rw [strOf_size, hl]
  unfold addr_Read.f
  refine ev_if_neg (by omega) (ev_if_pos (by omega) (ev_if_pos (by omega) (ev_if_pos (by omega) ?_)))
  rw [extract_strOf, extract_strOf, hz]
  have h1 := value_ev (strOf ((l.take 8).drop 0)) (by rw [strOf_size]; simp; omega)
  have h2 := value_ev (strOf ((l.take 16).drop 8)) (by rw [strOf_size]; simp; omega)
  rw [by_strOf] at h1 h2
  rw [List.drop_zero] at h1 ⊢
  rw [show l.take 16 = l from List.take_of_length_le (by omega)] at h2 ⊢
  exact Ev.bind h1 (Ev.bind h2 (Ev.now _))
/-! ### numbers -/
theorem number_ev (n : Int) (k : Nat) (h0 : 0 ≤ n) (hk : k ≤ 4) : Ev (fun m => rdata_number.f m n (k : Int)) (strOf (be k n.toNat)) := by
  have hk' : k = 0 ∨ k = 1 ∨ k = 2 ∨ k = 3 ∨ k = 4 := by omega
  rw [← oct_be h0]
  obtain ⟨N, rfl⟩ : ∃ m : Nat, n = m := ⟨n.toNat, by omega⟩
  rcases hk' with rfl | rfl | rfl | rfl | rfl
  · exact ev_of_eq 1 (fun k => by simp [rdata_number.f, rdata_number.l0, octF, wrap64])
  · exact ev_of_eq 2 (fun k => by simp [rdata_number.f, rdata_number.l0, octF, wrap64])
  · exact ev_of_eq 3 (fun k => by simp [rdata_number.f, rdata_number.l0, octF, wrap64, List.replicate])
  · exact ev_of_eq 4 (fun k => by simp [rdata_number.f, rdata_number.l0, octF, wrap64, List.replicate, Int.ediv_ediv_of_nonneg])
  · exact ev_of_eq 5 (fun k => by simp [rdata_number.f, rdata_number.l0, octF, wrap64, List.replicate, Int.ediv_ediv_of_nonneg])
/-! ### types -/
def kindsL : List S50 := (rdata_kinds.f).getD []
theorem kinds_eq : rdata_kinds.f = some kindsL := rfl
theorem kinds_len : kindsL.length = 14 := by decide +kernel
theorem kinds_nums : kindsL.map (·.f0) = [1, 2, 5, 6, 12, 15, 16, 28, 33, 39, 43, 46, 47, 48] := by decide +kernel
theorem kinds_names : kindsL.all (fun x => decide (x.f2 = strOf (flds x.f0))) = true := by decide +kernel
theorem kinds_mem {x : S50} (h : x ∈ kindsL) : knownB x.f0 = true ∧ x.f2 = strOf (flds x.f0) := by
  have h1 := List.all_eq_true.1 kinds_names x h
  simp only [decide_eq_true_eq] at h1
  refine ⟨?_, h1⟩
  unfold knownB
  rw [← kinds_nums, List.contains_iff_mem]
  exact List.mem_map.2 ⟨x, h, rfl⟩
theorem rd_kind {l : List S50} {i : Nat} {x : S50} {r : List S50} (h : l.drop i = x :: r) : rd_T50 l (i : Int) = x ∧ i < l.length ∧ l.drop (i + 1) = r := by
  have hi : i < l.length := by
    rcases Nat.lt_or_ge i l.length with g | g
    · exact g
    · rw [List.drop_eq_nil_of_le g] at h; cases h
  rw [List.drop_eq_getElem_cons hi] at h
  injection h with h1 h2
  refine ⟨?_, hi, h2⟩
  unfold rd_T50
  simp [hi, h1]
def pickF : Option S50 → Int × ByteArray × ByteArray × Bool
  | none => (0, ⟨#[]⟩, ⟨#[]⟩, false)
  | some x => (x.f0, x.f1, x.f2, true)
theorem find_l0 (t : Int) (l : List S50) (hl : l.length ≤ 1000) (r : List S50) : ∀ (k i : Nat), l.drop i = r → i ≤ l.length → rdata_find.l0 (k + r.length + 1) t l (l.length : Int) (i : Int) = some (pickF (r.find? (fun x => x.f0 == t))) := by
  induction r with
  | nil =>
    intro k i h hi
    have : l.length ≤ i := by
      rcases Nat.lt_or_ge i l.length with g | g
      · rw [List.drop_eq_getElem_cons g] at h; cases h
      · exact g
    simp only [rdata_find.l0]
    rw [if_neg (by omega)]; rfl
  | cons x r ih =>
    intro k i h hi
    obtain ⟨e, hlt, hd⟩ := rd_kind h
    have hi2 := ih k (i + 1) hd (by omega)
    have hk : k + (x :: r).length + 1 = (k + r.length + 1) + 1 := by simp only [List.length_cons]; omega
    rw [hk]
    generalize k + r.length + 1 = m at hi2 ⊢
    simp only [rdata_find.l0]
    rw [if_pos (by omega), if_pos (by omega), if_pos (by omega), e, wrap64_id (by omega) (by omega), show (i : Int) + 1 = ((i + 1 : Nat) : Int) by omega, hi2]
    by_cases c : x.f0 = t
    · rw [if_pos c, List.find?_cons_of_pos (by simp [c])]; rfl
    · rw [if_neg c, List.find?_cons_of_neg (by simp [c])]
theorem find_ev (t : Int) : ∃ mn, Ev (fun k => rdata_find.f k t) (if knownB t then t else 0, mn, strOf (flds t), knownB t) := by
  have hk : ∀ k, rdata_find.f (k + 15) t = some (pickF (kindsL.find? (fun x => x.f0 == t))) := by
    intro k
    unfold rdata_find.f
    rw [kinds_eq]
    simp only [Option.bind_some]
    have := find_l0 t kindsL (by rw [kinds_len]; omega) kindsL k 0 rfl (by omega)
    rw [kinds_len] at this
    rw [kinds_len]
    exact this
  cases h : kindsL.find? (fun x => x.f0 == t) with
  | none =>
    have hn : knownB t = false := by
      rw [← Bool.not_eq_true]
      intro g
      unfold knownB at g
      rw [← kinds_nums, List.contains_iff_mem] at g
      obtain ⟨x, hx, e⟩ := List.mem_map.1 g
      have := List.find?_eq_none.1 h x hx
      simp [e] at this
    have hf : strOf (flds t) = ⟨#[]⟩ := by
      have hn2 : ¬ (knownB t = true) := by rw [hn]; simp
      rw [knownB_iff] at hn2
      unfold KT at hn2
      simp only [not_or] at hn2
      obtain ⟨n1, n2, n3, n4, n5, n6, n7, n8, n9, n10, n11, n12, n13, n14⟩ := hn2
      unfold flds
      rw [if_neg n1, if_neg n2, if_neg n3, if_neg n4, if_neg n5, if_neg n6, if_neg n7, if_neg n8, if_neg n9, if_neg n10, if_neg n11, if_neg n12, if_neg n13, if_neg n14]
      rfl
    refine ⟨⟨#[]⟩, ev_of_eq 15 (fun k => ?_)⟩
    rw [hk, h, hn, hf]; rfl
  | some x =>
    have hx := kinds_mem (List.mem_of_find?_eq_some h)
    have e : x.f0 = t := by have := List.find?_some h; simpa using this
    refine ⟨x.f1, ev_of_eq 15 (fun k => ?_)⟩
    rw [hk, h]
    rw [e] at hx
    show some (x.f0, x.f1, x.f2, true) = _
    rw [hx.1, hx.2, e]; rfl
theorem Known_ev (t : Int) : Ev (fun k => rdata_Known.f k t) (knownB t) := by
  obtain ⟨mn, h⟩ := find_ev t
  unfold rdata_Known.f
  exact Ev.bind h (Ev.now _)
theorem all_ev : Ev (fun k => rdata_all.f k) (allT : Int) := Ev.of (fun k => rdata_all.mono k) (k := 20) (by decide +kernel)
/-! ### bitmaps -/
def bitN (s j : Nat) : Nat := if s.testBit j then 1 else 0
theorem bitN_le (s j : Nat) : bitN s j ≤ 1 := by unfold bitN; split <;> omega
/-- The bits of a byte that were told so far. -/
def part (s i : Nat) : Nat → Nat
  | 0 => 0
  | k + 1 => part s i k + bitN s (8 * i + k) * 2 ^ (7 - k)
theorem bitN_div (s j : Nat) : bitN s j = s / 2 ^ j % 2 := by
  unfold bitN
  rw [Nat.testBit_eq_decide_div_mod_eq]
  have : s / 2 ^ j % 2 = 0 ∨ s / 2 ^ j % 2 = 1 := Nat.mod_two_eq_zero_or_one _
  rcases this with h | h <;> simp [h]
theorem part_S (s i k : Nat) : part s i (k + 1) = part s i k + bitN s (8 * i + k) * 2 ^ (7 - k) := rfl
theorem part_all (s i : Nat) : part s i 0 = 0 ∧ part s i 1 = part s i 0 + bitN s (8 * i + 0) * 128 ∧ part s i 2 = part s i 1 + bitN s (8 * i + 1) * 64 ∧ part s i 3 = part s i 2 + bitN s (8 * i + 2) * 32 ∧ part s i 4 = part s i 3 + bitN s (8 * i + 3) * 16 ∧ part s i 5 = part s i 4 + bitN s (8 * i + 4) * 8 ∧ part s i 6 = part s i 5 + bitN s (8 * i + 5) * 4 ∧ part s i 7 = part s i 6 + bitN s (8 * i + 6) * 2 ∧ part s i 8 = part s i 7 + bitN s (8 * i + 7) * 1 :=
  ⟨rfl, part_S s i 0, part_S s i 1, part_S s i 2, part_S s i 3, part_S s i 4, part_S s i 5, part_S s i 6, part_S s i 7⟩
theorem part_8 (s i : Nat) : part s i 8 = rev8 (s / 256 ^ i % 256) := by
  have hq : ∀ k, k < 8 → bitN s (8 * i + k) = (s / 256 ^ i % 256) / 2 ^ k % 2 := by
    intro k hk
    rw [← bitN_div, bitN_div, Nat.pow_add, Nat.pow_mul, show (2 : Nat) ^ 8 = 256 from rfl, ← Nat.div_div_eq_div_mul, ← bitN_div]
    have h := Nat.testBit_mod_two_pow (s / 256 ^ i) 8 k
    rw [show (2 : Nat) ^ 8 = 256 from rfl, decide_eq_true hk, Bool.true_and] at h
    unfold bitN
    rw [h]
  obtain ⟨p0, p1, p2, p3, p4, p5, p6, p7, p8⟩ := part_all s i
  have q0 := hq 0 (by decide)
  have q1 := hq 1 (by decide)
  have q2 := hq 2 (by decide)
  have q3 := hq 3 (by decide)
  have q4 := hq 4 (by decide)
  have q5 := hq 5 (by decide)
  have q6 := hq 6 (by decide)
  have q7 := hq 7 (by decide)
  clear hq
  generalize s / 256 ^ i % 256 = q at *
  generalize bitN s (8 * i + 0) = a0 at *
  generalize bitN s (8 * i + 1) = a1 at *
  generalize bitN s (8 * i + 2) = a2 at *
  generalize bitN s (8 * i + 3) = a3 at *
  generalize bitN s (8 * i + 4) = a4 at *
  generalize bitN s (8 * i + 5) = a5 at *
  generalize bitN s (8 * i + 6) = a6 at *
  generalize bitN s (8 * i + 7) = a7 at *
  rw [p8, p7, p6, p5, p4, p3, p2, p1, p0, q0, q1, q2, q3, q4, q5, q6, q7]
  clear p0 p1 p2 p3 p4 p5 p6 p7 p8 q0 q1 q2 q3 q4 q5 q6 q7
  unfold rev8
  simp only [Nat.reducePow, Nat.div_one]
  generalize q % 2 = c0
  generalize q / 2 % 2 = c1
  generalize q / 4 % 2 = c2
  generalize q / 8 % 2 = c3
  generalize q / 16 % 2 = c4
  generalize q / 32 % 2 = c5
  generalize q / 64 % 2 = c6
  generalize q / 128 % 2 = c7
  omega
theorem part_ok (s i k : Nat) (hk : k ≤ 8) : part s i k % 2 ^ (8 - k) = 0 ∧ part s i k + 2 ^ (8 - k) ≤ 256 := by
  have b : ∀ j, bitN s j ≤ 1 := bitN_le s
  have hk' : k = 0 ∨ k = 1 ∨ k = 2 ∨ k = 3 ∨ k = 4 ∨ k = 5 ∨ k = 6 ∨ k = 7 ∨ k = 8 := by omega
  have b0 := b (8 * i + 0); have b1 := b (8 * i + 1); have b2 := b (8 * i + 2); have b3 := b (8 * i + 3); have b4 := b (8 * i + 4); have b5 := b (8 * i + 5); have b6 := b (8 * i + 6); have b7 := b (8 * i + 7)
  obtain ⟨p0, p1, p2, p3, p4, p5, p6, p7, p8⟩ := part_all s i
  clear b
  generalize bitN s (8 * i + 0) = a0 at *
  generalize bitN s (8 * i + 1) = a1 at *
  generalize bitN s (8 * i + 2) = a2 at *
  generalize bitN s (8 * i + 3) = a3 at *
  generalize bitN s (8 * i + 4) = a4 at *
  generalize bitN s (8 * i + 5) = a5 at *
  generalize bitN s (8 * i + 6) = a6 at *
  generalize bitN s (8 * i + 7) = a7 at *
  rcases hk' with rfl | rfl | rfl | rfl | rfl | rfl | rfl | rfl | rfl
  · show part s i 0 % 256 = 0 ∧ part s i 0 + 256 ≤ 256; omega
  · show part s i 1 % 128 = 0 ∧ part s i 1 + 128 ≤ 256; omega
  · show part s i 2 % 64 = 0 ∧ part s i 2 + 64 ≤ 256; omega
  · show part s i 3 % 32 = 0 ∧ part s i 3 + 32 ≤ 256; omega
  · show part s i 4 % 16 = 0 ∧ part s i 4 + 16 ≤ 256; omega
  · show part s i 5 % 8 = 0 ∧ part s i 5 + 8 ≤ 256; omega
  · show part s i 6 % 4 = 0 ∧ part s i 6 + 4 ≤ 256; omega
  · show part s i 7 % 2 = 0 ∧ part s i 7 + 2 ≤ 256; omega
  · show part s i 8 % 1 = 0 ∧ part s i 8 + 1 ≤ 256; omega
theorem wraps_u8 (n : Int) (h0 : 0 ≤ n) (h1 : n < 2 ^ 8) : IntKind.u8.wrap n = n := by
  have h : IntKind.u8.wrap n = n % 256 := rfl
  rw [h]; omega
theorem or_u8 (i : Nat) {x y : Int} (hx0 : 0 ≤ x) (hx : x % 2 ^ i = 0) (hx1 : x < 256) (hy0 : 0 ≤ y) (hy : y < 2 ^ i) (hy1 : y < 256) : Go.bits .or .u8 x y = x + y :=
  bits_join .u8 8 (by decide) wraps_u8 i x y hx0 hx (by omega) hy0 hy (by omega)
theorem shr_128 (k : Nat) (hk : k < 8) : shr .u8 128 (k : Int) = ((2 ^ (7 - k) : Nat) : Int) := by
  have hk' : k = 0 ∨ k = 1 ∨ k = 2 ∨ k = 3 ∨ k = 4 ∨ k = 5 ∨ k = 6 ∨ k = 7 := by omega
  rcases hk' with rfl | rfl | rfl | rfl | rfl | rfl | rfl | rfl <;> decide +kernel
theorem bitmap_step (s i k : Nat) (out : ByteArray) (hs : s < 18446744073709551616) (hi : i < 8) (hk : k < 8) (j : Nat) :
    rdata_bitmap.l1 (j + 1) (s : Int) out (i : Int) ((part s i k : Nat) : Int) (i : Int) (k : Int) = rdata_bitmap.l1 j (s : Int) out (i : Int) ((part s i (k + 1) : Nat) : Int) (i : Int) ((k + 1 : Nat) : Int) := by
  rw [rdata_bitmap.l1, if_pos (by omega)]
  have e1 : wrap64 (wrap64 (8 * (i : Int)) + (k : Int)) = ((8 * i + k : Nat) : Int) := by rw [wrap64_id (x := 8 * (i : Int)) (by omega) (by omega), wrap64_id (by omega) (by omega)]; omega
  rw [e1, if_pos (by omega), wrap_s (by omega)]
  have ht := bit_test (a := s) (t := 8 * i + k) hs (by omega)
  by_cases hb : s.testBit (8 * i + k) = true
  · rw [if_pos (ht.2 hb), if_pos (by omega), shr_128 k hk]
    obtain ⟨p1, p2⟩ := part_ok s i k (by omega)
    have hp : (2 : Nat) ^ (8 - k) = 2 * 2 ^ (7 - k) := by rw [show 8 - k = (7 - k) + 1 by omega, Nat.pow_succ, Nat.mul_comm]
    have hp0 : 0 < (2 : Nat) ^ (7 - k) := Nat.pow_pos (by omega)
    have hpe : ((2 : Int) ^ (8 - k)) = (((2 : Nat) ^ (8 - k) : Nat) : Int) := by simp
    rw [or_u8 (8 - k) (by omega) (by rw [hpe]; omega) (by omega) (by omega) (by rw [hpe]; omega) (by omega)]
    have hpart : part s i (k + 1) = part s i k + 2 ^ (7 - k) := by
      show part s i k + bitN s (8 * i + k) * 2 ^ (7 - k) = _
      unfold bitN; rw [if_pos hb, Nat.one_mul]
    rw [hpart]
    rw [show (((part s i k + 2 ^ (7 - k) : Nat)) : Int) = (part s i k : Int) + ((2 ^ (7 - k) : Nat) : Int) by omega]
  · rw [if_neg (fun g => hb (ht.1 g))]
    have hpart : part s i (k + 1) = part s i k := by
      show part s i k + bitN s (8 * i + k) * 2 ^ (7 - k) = _
      unfold bitN; rw [if_neg hb, Nat.zero_mul, Nat.add_zero]
    rw [hpart]
theorem bytesOf_snoc (n : Nat) : ∀ s : Nat, RdW.bytesOf (n + 1) s = RdW.bytesOf n s ++ [UInt8.ofNat (rev8 (s / 256 ^ n % 256))] := by
  induction n with
  | zero => intro s; simp [RdW.bytesOf]
  | succ n ih =>
    intro s
    rw [RdW.bytesOf, ih (s / 256), Nat.div_div_eq_div_mul, Nat.mul_comm 256, ← Nat.pow_succ]
    rfl
theorem trimZ_snoc0 (l : List UInt8) : trimZ (l ++ [0]) = trimZ l := by
  induction l with
  | nil => rfl
  | cons x l ih => rw [List.cons_append, trimZ, trimZ, ih]
theorem trimZ_snoc (l : List UInt8) {b : UInt8} (hb : b ≠ 0) : trimZ (l ++ [b]) = l ++ [b] := by
  have := trimZ_id (l := l ++ [b]) (b := b) (by simp) hb 0
  simpa using this
theorem trim_l0 : ∀ (n : Nat) (l : List UInt8), l.length = n → n ≤ 1000 → Ev (fun k => strings_trimRightByte.l0 k (strOf l) 0) (strOf (trimZ l))
  | 0, l, hl, _ => by
    obtain rfl := List.eq_nil_of_length_eq_zero hl
    exact ev_of_eq 1 (fun k => by rw [strings_trimRightByte.l0, if_neg (by decide)]; rfl)
  | n + 1, l, hl, hn => by
    obtain ⟨m, c, rfl⟩ : ∃ m c, l = m ++ [c] := snoc_of (by omega)
    simp only [List.length_append, List.length_cons, List.length_nil] at hl
    have hz : (strOf (m ++ [c])).size = n + 1 := by rw [strOf_size]; simp; omega
    have hw : wrap64 (((strOf (m ++ [c])).size : Int) - 1) = (n : Int) := by rw [hz, wrap64_id (by omega) (by omega)]; omega
    have hb : bt (strOf (m ++ [c])) (n : Int) = c.toNat := by
      refine (bt_drop (s := strOf (m ++ [c])) (i := n) (c := c) (r := []) ?_).2.1
      rw [by_strOf, List.drop_append_of_le_length (by omega), List.drop_of_length_le (by omega)]; rfl
    have ih := trim_l0 n m (by omega) (by omega)
    by_cases hc : c = 0
    · subst hc
      rw [trimZ_snoc0]
      refine Ev.step (fun k => ?_) ih
      rw [strings_trimRightByte.l0, if_pos (by omega), hw, if_pos (by omega), if_pos (by omega), hb, if_pos (show (((0 : UInt8).toNat : Nat) : Int) = 0 from rfl), if_pos (by omega), extract_strOf]
      rw [Int.toNat_natCast, List.drop_zero, List.take_append_of_le_length (by omega), List.take_of_length_le (by omega)]
    · rw [trimZ_snoc m hc]
      refine ev_of_eq 1 (fun k => ?_)
      have hc' : ¬ ((c.toNat : Int) = 0) := by
        intro g
        apply hc
        apply UInt8.toNat_inj.1
        have : c.toNat = 0 := by omega
        rw [this]; rfl
      rw [strings_trimRightByte.l0, if_pos (by omega), hw, if_pos (by omega), if_pos (by omega), hb, if_neg hc']
theorem bitmap_l0 (s : Nat) (hs : s < 18446744073709551616) : ∀ (d i : Nat), i + d = 8 → Ev (fun k => rdata_bitmap.l0 k (s : Int) (strOf (RdW.bytesOf i s)) (i : Int)) (strOf (bitmapS s))
  | 0, i, hi => by
    obtain rfl : i = 8 := by omega
    refine Ev.step (f := fun k => (strings_TrimRight.f k (strOf (RdW.bytesOf 8 s)) (⟨#[0]⟩ : ByteArray)).bind fun t => some t) (fun k => by rw [rdata_bitmap.l0, if_neg (by omega)]) ?_
    have h0 : (⟨#[0]⟩ : ByteArray).toList = [0] := by rw [toList_by]; rfl
    have h1 : ¬ ((strOf (RdW.bytesOf 8 s)).toList = ([] : List UInt8)) := by
      rw [toList_by, by_strOf]; simp [RdW.bytesOf]
    refine Ev.bind (a := strOf (bitmapS s)) ?_ (Ev.now _)
    unfold strings_TrimRight.f strings_trimRightByte.f
    refine ev_if_pos h0 (ev_if_neg h1 ?_)
    exact trim_l0 8 (RdW.bytesOf 8 s) (RdW.bytesOf_length _ _) (by omega)
  | d + 1, i, hi => by
    have ih := bitmap_l0 s hs d (i + 1) (by omega)
    obtain ⟨K, hK⟩ := ih
    refine ⟨K + 10, fun k hk => ?_⟩
    obtain ⟨m, rfl⟩ : ∃ m, k = m + 9 + 1 := ⟨k - 10, by omega⟩
    show rdata_bitmap.l0 (m + 9 + 1) _ _ _ = _
    rw [rdata_bitmap.l0, if_pos (by omega)]
    have st := fun k hk j => bitmap_step s i k (strOf (RdW.bytesOf i s)) hs (by omega) hk j
    have e0 := st 0 (by omega) (m + 8)
    have e1 := st 1 (by omega) (m + 7)
    have e2 := st 2 (by omega) (m + 6)
    have e3 := st 3 (by omega) (m + 5)
    have e4 := st 4 (by omega) (m + 4)
    have e5 := st 5 (by omega) (m + 3)
    have e6 := st 6 (by omega) (m + 2)
    have e7 := st 7 (by omega) (m + 1)
    refine e0.trans (e1.trans (e2.trans (e3.trans (e4.trans (e5.trans (e6.trans (e7.trans ?_)))))))
    rw [rdata_bitmap.l1, if_neg (by omega), part_8]
    have hr := rev8_lt (s / 256 ^ i % 256)
    have hb : strOfNums [((rev8 (s / 256 ^ i % 256) : Nat) : Int)] = strOf [UInt8.ofNat (rev8 (s / 256 ^ i % 256))] := by
      apply ByteArray.ext
      apply Array.toList_inj.1
      simp [strOfNums, strOf]
    show (if _ then _ else _) = _
    rw [hb, if_pos (by rw [strOf_size, strOf_size, RdW.bytesOf_length]; simp; omega), strOf_app, ← bytesOf_snoc, wrap_s (by omega)]
    exact hK m (by omega)
theorem bitmap_ev (b : Int) (h0 : 0 ≤ b) (h1 : b < 18446744073709551616) : Ev (fun k => rdata_bitmap.f k b) (strOf (bitmapS b.toNat)) := by
  obtain ⟨s, rfl⟩ : ∃ m : Nat, b = m := ⟨b.toNat, by omega⟩
  unfold rdata_bitmap.f
  exact bitmap_l0 s (by omega) 8 0 rfl
end Go.Proofs.YtaehonmfoanloaaDoor.Hand
