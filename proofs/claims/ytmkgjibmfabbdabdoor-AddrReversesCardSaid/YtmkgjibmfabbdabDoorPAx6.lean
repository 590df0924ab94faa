/- The Go functions in Lean, with the proofs that the code comes to these answers: printed by this session's program (wip/px) out of the seat's translation. Conditions: each theorem's own. -/
import Derived.Test.YtmkgjibmfabbdabDoorPAx0
import Derived.Test.YtmkgjibmfabbdabDoorPAx3
import Derived.Test.YtmkgjibmfabbdabDoorPAx5
import Derived.Test.YtmkgjibmfabbdabDoorPAx11
namespace Go.Proofs.YtmkgjibmfabbdabDoor.PA
open Go.RowKit Go.Proofs.YtmkgjibmfabbdabDoorW.PrintWords Go.Proofs.YtmkgjibmfabbdabDoorW.PrintLast Go.Proofs.YtmkgjibmfabbdabDoorW.PrintMore
attribute [local go_sem] max2_int min2_int max_two min_two max_three min_three max_four min_four   -- for this text's walks alone
attribute [local go_sem ↓] Ext.isSome_setCell
set_option linter.unusedVariables false
set_option linter.unusedSimpArgs false

/-! ### addr_FromReverse: function 8 (given) -/
theorem rv_below_mono_ {B B' : Nat} {w w' : World} (h : Below B w w') (hb : B' ≤ B) : Below B' w w' := ⟨h.os, h.tape, h.output, h.size, fun k hk => h.block k (by omega)⟩
/-- The labels, the last first, into a number of two words; m: a label's size, q: what leaves the lower word. -/
def revL (rd : ByteArray → Option (Int × Bool)) (m q : Int) : List ByteArray → Int × Int → Option (Option (Int × Int))
  | [], a => some (some a)
  | x :: r, a => (rd x).bind fun p => if p.2 = true then revL rd m q r (Go.bits .or .u64 (IntKind.u64.wrap (a.1 * m)) (a.2 / q), Go.bits .or .u64 (IntKind.u64.wrap (a.2 * m)) p.1) else some none
def revV : Option (Int × Int) → Value
  | some a => .tuple #[.agg #[.bool false, .int .u64 a.1, .int .u64 a.2], .bool true]
  | none => .tuple #[.agg #[.bool false, .int .u64 0, .int .u64 0], .bool false]
def lit1 (k : Nat) (s : ByteArray) : Option (Int × Bool) := if s.size = 1 then (addr_digit.f k (bt s 0)).bind fun d => (if d < 0 then some (0, false) else some (IntKind.u64.wrap d, true)) else some (0, false)
set_option maxHeartbeats 4000000 in
set_option maxRecDepth 100000 in
theorem lit1_calls (k : Nat) (s : ByteArray) (r1 : Int) (r2 : Bool) (w : World) (h : lit1 k s = some (r1, r2)) :
    Calls Tryd.prog 24 #[.string s] w fun e w' => e = .returned (.tuple #[.int .u64 r1, .bool r2]) ∧ Drawn0 w w' := by
  unfold lit1 at h
  by_cases h1 : s.size = 1
  · rw [if_pos h1] at h
    obtain ⟨d, hd, h⟩ := Option.bind_eq_some_iff.mp h
    have HD := Aside0.mk hd
    clear hd
    have h1i : (s.size : Int) = 1 := by omega
    have q1 : (0 : Int) < (s.size : Int) := by omega
    have hx : ∀ h : 0 < s.size, ((s[0]'h).toNat : Int) = bt s 0 := bt_at s 0
    have q2 : (0 < s.size) = True := eq_true (by omega)
    have q3 : ((0 : Int) < (s.size : Int)) = True := eq_true q1
    clear q1
    by_cases hd0 : d < 0
    · rw [if_pos hd0] at h
      simp only [Option.some.injEq, Prod.mk.injEq] at h
      obtain ⟨rfl, rfl⟩ := h
      go_enter Tryd.func24, Tryd.ntmps24
      go_wp2_with fail
      with_reducible refine (addr_digit.calls k (bt s 0) d _ HD.out).mono ?_
      rintro e w' ⟨rfl, ⟨n1, rfl⟩⟩
      go_wp2_with fail
      refine bodyPost_ret (v := .tuple #[.int .u64 0, .bool false]) (by simp [results, Tryd.results24, go_sem]) rfl ⟨rfl, ⟨_, rfl⟩⟩
    · rw [if_neg hd0] at h
      simp only [Option.some.injEq, Prod.mk.injEq] at h
      obtain ⟨rfl, rfl⟩ := h
      go_enter Tryd.func24, Tryd.ntmps24
      go_wp2_with fail
      with_reducible refine (addr_digit.calls k (bt s 0) d _ HD.out).mono ?_
      rintro e w' ⟨rfl, ⟨n1, rfl⟩⟩
      go_wp2_with fail
      with_reducible refine (addr_digit.calls k (bt s 0) d _ HD.out).mono ?_
      rintro e w' ⟨rfl, ⟨n2, rfl⟩⟩
      go_wp2_with fail
      refine bodyPost_ret (v := .tuple #[.int .u64 (IntKind.u64.wrap d), .bool true]) (by simp [results, Tryd.results24, go_sem]) rfl ⟨rfl, ⟨n1 + n2, ?_⟩⟩
      first | rfl | simp [World.drewN_drewN]
  · rw [if_neg h1] at h
    simp only [Option.some.injEq, Prod.mk.injEq] at h
    obtain ⟨rfl, rfl⟩ := h
    have h1i : ¬ (s.size : Int) = 1 := by omega
    go_enter Tryd.func24, Tryd.ntmps24
    go_wp2_with fail
    refine bodyPost_ret (v := .tuple #[.int .u64 0, .bool false]) (by simp [results, Tryd.results24, go_sem]) rfl ⟨rfl, ⟨0, rfl⟩⟩
theorem cut_8 (n : ByteArray) (hn : n.size ≤ 100) (w : World) : Calls Tryd.prog 39 #[.string n, .string ((⟨#[46]⟩ : ByteArray) ++ (⟨#[105, 110, 45, 97, 100, 100, 114, 46, 97, 114, 112, 97, 46]⟩ : ByteArray))] w fun e w' => e = .returned (.tuple #[.string (⟨(Lib.trimSuffix n.data.toList [46, 105, 110, 45, 97, 100, 100, 114, 46, 97, 114, 112, 97, 46]).toArray⟩ : ByteArray), .bool (Lib.hasSuffix n.data.toList [46, 105, 110, 45, 97, 100, 100, 114, 46, 97, 114, 112, 97, 46])]) ∧ w' = w := by
  have h := Tryd.strings_CutSuffix n ((⟨#[46]⟩ : ByteArray) ++ (⟨#[105, 110, 45, 97, 100, 100, 114, 46, 97, 114, 112, 97, 46]⟩ : ByteArray)) w (by omega)
  rw [show ((⟨#[46]⟩ : ByteArray) ++ (⟨#[105, 110, 45, 97, 100, 100, 114, 46, 97, 114, 112, 97, 46]⟩ : ByteArray)).data.toList = [46, 105, 110, 45, 97, 100, 100, 114, 46, 97, 114, 112, 97, 46] from by decide +kernel] at h
  exact h
set_option maxHeartbeats 4000000 in
set_option maxRecDepth 100000 in
theorem reversed8 (k : Nat) (n : ByteArray) (hn : n.size ≤ 100) (l : List ByteArray) (R : Option (Int × Int)) (hh : Lib.hasSuffix n.data.toList [46, 105, 110, 45, 97, 100, 100, 114, 46, 97, 114, 112, 97, 46] = true) (hs : strings_Split.f (⟨(Lib.trimSuffix n.data.toList [46, 105, 110, 45, 97, 100, 100, 114, 46, 97, 114, 112, 97, 46]).toArray⟩ : ByteArray) (⟨#[46]⟩ : ByteArray) = some l) (hR : revL (addr_decimal.f k) 256 72057594037927936 l.reverse (0, 0) = some R) (w : World) (hLD : Laid w) :
    Calls Tryd.prog 22 #[.string n, .string (⟨#[105, 110, 45, 97, 100, 100, 114, 46, 97, 114, 112, 97, 46]⟩ : ByteArray), .int .i64 8, (.func (.func 23) #[] #[])] w fun e w' => e = .returned (revV R) ∧ Below w.heap.size w w' := by
  have huA_ := Tryd.underlying24
  have HLD := Aside0.mk hLD
  have HS := Aside0.mk hs
  have HR := Aside0.mk hR
  have HH := Aside0.mk hh
  clear hLD hs hR hh
  go_enter Tryd.func22, Tryd.ntmps22
  go_wp2_with fail
  refine (cut_8 n hn _).mono ?_
  rintro e w' ⟨rfl, rfl⟩
  rw [HH.out]
  go_wp2_with fail
  refine (strings_Split.calls _ _ l _ (HLD.out.below (by repeat (first | exact Below.refl _ _ | apply below_drew | apply below_alloc | apply pw_below_drewN))) HS.out).mono ?_
  rintro e w1 ⟨v1, rfl, hr, hb⟩
  obtain ⟨Al, cl, hv, hcl, hC⟩ := Kd.R_reads hr
  subst hv
  have HL := Aside0.mk hr
  have HW := Aside0.mk (show Below w.heap.size w w1 from Below.trans (below_alloc (below_alloc (Below.refl _ _) _) _) (rv_below_mono_ hb (by simp; omega)))
  have HZ := Aside0.mk (show w1.heap[w.heap.size]? = some (.cells #[.bool false, .int .u64 0, .int .u64 0] 24 (0, 0)) from blk_below (blk_alloc (blk_new _ _) _) hb)
  have HA := Aside0.mk (show w1.heap[w.heap.size + 1]? = some (.cells #[.bool false, .int .u64 0, .int .u64 0] 24 (0, 0)) from by have := blk_below (blk_new (w.alloc (.cells #[.bool false, .int .u64 0, .int .u64 0] 24)) (.cells #[.bool false, .int .u64 0, .int .u64 0] 24)) hb; simpa using this)
  have hlen : (l.length : Int) ≤ 9223372036854775807 := by have := hC.2.1; omega
  have hl1 : wrap64 ((l.length : Int) - 1) = (l.length : Int) - 1 := by unfold wrap64; omega
  clear hr hb hC
  go_wp2_with fail
  go_loopw [14] (fun vi wr => ∃ (m : Nat) (hi lo : Int), vi = .int .i64 ((m : Int) - 1) ∧ Aside0 (m ≤ l.length) ∧ Aside0 (revL (addr_decimal.f k) 256 72057594037927936 (l.take m).reverse (hi, lo) = some R) ∧ Aside0 (Below w.heap.size w wr) ∧ Aside0 (wr.heap[w.heap.size]? = some (.cells #[.bool false, .int .u64 0, .int .u64 0] 24 (0, 0))) ∧ Aside0 (wr.heap[w.heap.size + 1]? = some (.cells #[.bool false, .int .u64 hi, .int .u64 lo] 24 (0, 0))) ∧ Aside0 (Kd.string.R 9 wr ((w.alloc (.cells #[.bool false, .int .u64 0, .int .u64 0] 24)).alloc (.cells #[.bool false, .int .u64 0, .int .u64 0] 24)).heap.size (fun _ => True) (.slice Al l.length cl) l)) (fun vi _ => (RowKit.intOf vi + 1).toNat)
  case atStart => exact ⟨l.length, 0, 0, rfl, ⟨Nat.le_refl _⟩, ⟨by rw [List.take_length]; exact HR.out⟩, HW, HZ, HA, HL⟩
  case round =>
    obtain ⟨m, hi, lo, rfl, HM, HQ, HW', HZ', HA', HL'⟩ := hrel
    clear HW HZ HA HL
    rename World => W
    have hc0 : W.cell? ⟨w.heap.size + 1, 0, none⟩ = some (.bool false) := (blk_cell HA'.out 0).trans rfl
    have hc1 : W.cell? ⟨w.heap.size + 1, 1, none⟩ = some (.int .u64 hi) := (blk_cell HA'.out 1).trans rfl
    have hc2 : W.cell? ⟨w.heap.size + 1, 2, none⟩ = some (.int .u64 lo) := (blk_cell HA'.out 2).trans rfl
    have hf0 := blk_frozen HA'.out 0
    have hf1 := blk_frozen HA'.out 1
    have hf2 := blk_frozen HA'.out 2
    have hz0 : W.cell? ⟨w.heap.size, 0, none⟩ = some (.bool false) := (blk_cell HZ'.out 0).trans rfl
    have hz1 : W.cell? ⟨w.heap.size, 1, none⟩ = some (.int .u64 0) := (blk_cell HZ'.out 1).trans rfl
    have hz2 : W.cell? ⟨w.heap.size, 2, none⟩ = some (.int .u64 0) := (blk_cell HZ'.out 2).trans rfl
    have hg0 := blk_frozen HZ'.out 0
    have hg1 := blk_frozen HZ'.out 1
    have hg2 := blk_frozen HZ'.out 2
    cases m with
    | zero =>
      rw [show (((0 : Nat) : Int) - 1) = -1 by omega]
      have HE := HQ.out
      rw [List.take_zero, List.reverse_nil] at HE
      unfold revL at HE
      simp only [Option.some.injEq] at HE
      subst HE
      go_wp2_with fail
      refine bodyPost_ret (results_ct rfl _ _ w.heap.size 24 #[.bool false, .int .u64 hi, .int .u64 lo] (0, 0) _ rfl (by refine blk_put (cs := #[.bool false, .int .u64 hi, .int .u64 0]) ?_ 2 _ rfl; refine blk_put (cs := #[.bool false, .int .u64 0, .int .u64 0]) ?_ 1 _ rfl; refine blk_put (cs := #[.bool false, .int .u64 0, .int .u64 0]) ?_ 0 _ rfl; exact HZ'.out) Tryd.underlying24 rfl (by kernel_rfl)) rfl ?_
      exact ⟨rfl, by repeat (first | exact HW'.out | refine below_set ?_ (Nat.le_refl _))⟩
    | succ m =>
      rw [show (((m + 1 : Nat) : Int) - 1) = (m : Int) by omega]
      have hlt : m < l.length := HM.out
      have HE := HQ.out
      rw [List.take_add_one, List.getElem?_eq_getElem hlt] at HE
      simp only [Option.toList_some, List.reverse_append, List.reverse_cons, List.reverse_nil, List.nil_append, List.cons_append] at HE
      unfold revL at HE
      obtain ⟨p, hp, HE⟩ := Option.bind_eq_some_iff.mp HE
      have HP := Aside0.mk hp
      have HE' := Aside0.mk HE
      clear hp HE
      have p1 : 0 ≤ (m : Int) := by omega
      have q1 : (m : Int) < (l.length : Int) := by omega
      obtain ⟨ad, e1, hx⟩ := Kd.at_string (Kd.R_reads' HL'.out).2.2 (m : Int) p1 q1
      cases e1
      have hx' : W.cell? (ad.add m) = some (.string l[m]) := by
        rw [Int.toNat_natCast] at hx
        rw [hx]
        unfold rdOf
        rw [Int.toNat_natCast, List.getD_eq_getElem?_getD, List.getElem?_eq_getElem hlt]
        rfl
      clear hx
      replace p1 := eq_true p1
      replace q1 := eq_true q1
      go_wp2_with fail
      obtain ⟨d, ok⟩ := p
      refine (addr_decimal.calls k l[m] d ok _ HP.out).mono ?_
      rintro e w' ⟨rfl, ⟨nd, rfl⟩⟩
      cases ok with
      | false =>
        have HN := HE'.out
        rw [if_neg (show ¬ (d, false).2 = true by simp)] at HN
        simp only [Option.some.injEq] at HN
        subst HN
        go_wp2_with fail
        refine bodyPost_ret (results_ct rfl _ _ w.heap.size 24 #[.bool false, .int .u64 0, .int .u64 0] (0, 0) _ rfl (by (with_reducible repeat (first | refine blk_drewN ?_ _ | refine blk_drew ?_ | refine blk_alloc ?_ _)); refine blk_put (cs := #[.bool false, .int .u64 0, .int .u64 0]) ?_ 2 _ rfl; refine blk_put (cs := #[.bool false, .int .u64 0, .int .u64 0]) ?_ 1 _ rfl; refine blk_put (cs := #[.bool false, .int .u64 0, .int .u64 0]) ?_ 0 _ rfl; (with_reducible repeat (first | refine blk_drewN ?_ _ | refine blk_drew ?_ | refine blk_alloc ?_ _)); exact HZ'.out) Tryd.underlying24 rfl (by kernel_rfl)) rfl ?_
        exact ⟨rfl, by repeat (first | exact HW'.out | apply pw_below_drewN | apply below_drew1 | refine below_set ?_ (Nat.le_refl _))⟩
      | true =>
        have HN := Aside0.mk (show revL (addr_decimal.f k) 256 72057594037927936 (l.take m).reverse (Go.bits .or .u64 (IntKind.u64.wrap (hi * 256)) (lo / 72057594037927936), Go.bits .or .u64 (IntKind.u64.wrap (lo * 256)) d) = some R from by have h := HE'.out; rw [if_pos rfl] at h; exact h)
        go_wp2_with fail
        go_region
        go_wp2_with fail
        have ha1 := blk_put (cs := #[.bool false, .int .u64 hi, .int .u64 lo]) (blk_drewN HA'.out (nd + 1)) 1 (.int .u64 (Go.bits .or .u64 (IntKind.u64.wrap (hi * 256)) (lo / 72057594037927936))) rfl
        have ha2 := blk_put ha1 2 (.int .u64 (Go.bits .or .u64 (IntKind.u64.wrap (lo * 256)) d)) rfl
        refine ⟨⟨m, _, _, rfl, ⟨by omega⟩, HN, ⟨?_⟩, ⟨?_⟩, ⟨ha2⟩, ⟨?_⟩⟩, by simp [RowKit.intOf] <;> omega⟩
        · repeat (first | exact HW'.out | apply pw_below_drewN | apply below_drew1 | refine below_set ?_ (Nat.le_succ _))
        · refine blk_far ?_ (by simp) _
          refine blk_far ?_ (by simp) _
          exact blk_drewN HZ'.out _
        · refine Kd.R_set ?_ ha1 (by intro q hq; have h9 : q = 9 := (by simpa [Kd.string, Kd.scalar] using hq); subst h9; decide) 2 _
          refine Kd.R_set ?_ (blk_drewN HA'.out (nd + 1)) (by intro q hq; have h9 : q = 9 := (by simpa [Kd.string, Kd.scalar] using hq); subst h9; decide) 1 _
          exact Kd.R_drewN HL'.out _
set_option maxHeartbeats 4000000 in
set_option maxRecDepth 100000 in
theorem reversed8_no (n : ByteArray) (hn : n.size ≤ 100) (hh : Lib.hasSuffix n.data.toList [46, 105, 110, 45, 97, 100, 100, 114, 46, 97, 114, 112, 97, 46] = false) (w : World) :
    Calls Tryd.prog 22 #[.string n, .string (⟨#[105, 110, 45, 97, 100, 100, 114, 46, 97, 114, 112, 97, 46]⟩ : ByteArray), .int .i64 8, (.func (.func 23) #[] #[])] w fun e w' => e = .returned (revV none) ∧ Below w.heap.size w w' := by
  have huA_ := Tryd.underlying24
  have HH := Aside0.mk hh
  clear hh
  go_enter Tryd.func22, Tryd.ntmps22
  go_wp2_with fail
  refine (cut_8 n hn _).mono ?_
  rintro e w' ⟨rfl, rfl⟩
  rw [HH.out]
  go_wp2_with fail
  refine bodyPost_ret (v := revV none) (by simp [results, Tryd.results22, go_sem, revV]) rfl ⟨rfl, ?_⟩
  repeat (first | exact Below.refl _ _ | apply below_drew | apply below_alloc | apply pw_below_drewN)
theorem cut_4 (n : ByteArray) (hn : n.size ≤ 100) (w : World) : Calls Tryd.prog 39 #[.string n, .string ((⟨#[46]⟩ : ByteArray) ++ (⟨#[105, 112, 54, 46, 97, 114, 112, 97, 46]⟩ : ByteArray))] w fun e w' => e = .returned (.tuple #[.string (⟨(Lib.trimSuffix n.data.toList [46, 105, 112, 54, 46, 97, 114, 112, 97, 46]).toArray⟩ : ByteArray), .bool (Lib.hasSuffix n.data.toList [46, 105, 112, 54, 46, 97, 114, 112, 97, 46])]) ∧ w' = w := by
  have h := Tryd.strings_CutSuffix n ((⟨#[46]⟩ : ByteArray) ++ (⟨#[105, 112, 54, 46, 97, 114, 112, 97, 46]⟩ : ByteArray)) w (by omega)
  rw [show ((⟨#[46]⟩ : ByteArray) ++ (⟨#[105, 112, 54, 46, 97, 114, 112, 97, 46]⟩ : ByteArray)).data.toList = [46, 105, 112, 54, 46, 97, 114, 112, 97, 46] from by decide +kernel] at h
  exact h
set_option maxHeartbeats 4000000 in
set_option maxRecDepth 100000 in
theorem reversed4 (k : Nat) (n : ByteArray) (hn : n.size ≤ 100) (l : List ByteArray) (R : Option (Int × Int)) (hh : Lib.hasSuffix n.data.toList [46, 105, 112, 54, 46, 97, 114, 112, 97, 46] = true) (hs : strings_Split.f (⟨(Lib.trimSuffix n.data.toList [46, 105, 112, 54, 46, 97, 114, 112, 97, 46]).toArray⟩ : ByteArray) (⟨#[46]⟩ : ByteArray) = some l) (hR : revL (lit1 k) 16 1152921504606846976 l.reverse (0, 0) = some R) (w : World) (hLD : Laid w) :
    Calls Tryd.prog 22 #[.string n, .string (⟨#[105, 112, 54, 46, 97, 114, 112, 97, 46]⟩ : ByteArray), .int .i64 4, (.func (.func 24) #[] #[])] w fun e w' => e = .returned (revV R) ∧ Below w.heap.size w w' := by
  have huA_ := Tryd.underlying24
  have HLD := Aside0.mk hLD
  have HS := Aside0.mk hs
  have HR := Aside0.mk hR
  have HH := Aside0.mk hh
  clear hLD hs hR hh
  go_enter Tryd.func22, Tryd.ntmps22
  go_wp2_with fail
  refine (cut_4 n hn _).mono ?_
  rintro e w' ⟨rfl, rfl⟩
  rw [HH.out]
  go_wp2_with fail
  refine (strings_Split.calls _ _ l _ (HLD.out.below (by repeat (first | exact Below.refl _ _ | apply below_drew | apply below_alloc | apply pw_below_drewN))) HS.out).mono ?_
  rintro e w1 ⟨v1, rfl, hr, hb⟩
  obtain ⟨Al, cl, hv, hcl, hC⟩ := Kd.R_reads hr
  subst hv
  have HL := Aside0.mk hr
  have HW := Aside0.mk (show Below w.heap.size w w1 from Below.trans (below_alloc (below_alloc (Below.refl _ _) _) _) (rv_below_mono_ hb (by simp; omega)))
  have HZ := Aside0.mk (show w1.heap[w.heap.size]? = some (.cells #[.bool false, .int .u64 0, .int .u64 0] 24 (0, 0)) from blk_below (blk_alloc (blk_new _ _) _) hb)
  have HA := Aside0.mk (show w1.heap[w.heap.size + 1]? = some (.cells #[.bool false, .int .u64 0, .int .u64 0] 24 (0, 0)) from by have := blk_below (blk_new (w.alloc (.cells #[.bool false, .int .u64 0, .int .u64 0] 24)) (.cells #[.bool false, .int .u64 0, .int .u64 0] 24)) hb; simpa using this)
  have hlen : (l.length : Int) ≤ 9223372036854775807 := by have := hC.2.1; omega
  have hl1 : wrap64 ((l.length : Int) - 1) = (l.length : Int) - 1 := by unfold wrap64; omega
  clear hr hb hC
  go_wp2_with fail
  go_loopw [14] (fun vi wr => ∃ (m : Nat) (hi lo : Int), vi = .int .i64 ((m : Int) - 1) ∧ Aside0 (m ≤ l.length) ∧ Aside0 (revL (lit1 k) 16 1152921504606846976 (l.take m).reverse (hi, lo) = some R) ∧ Aside0 (Below w.heap.size w wr) ∧ Aside0 (wr.heap[w.heap.size]? = some (.cells #[.bool false, .int .u64 0, .int .u64 0] 24 (0, 0))) ∧ Aside0 (wr.heap[w.heap.size + 1]? = some (.cells #[.bool false, .int .u64 hi, .int .u64 lo] 24 (0, 0))) ∧ Aside0 (Kd.string.R 9 wr ((w.alloc (.cells #[.bool false, .int .u64 0, .int .u64 0] 24)).alloc (.cells #[.bool false, .int .u64 0, .int .u64 0] 24)).heap.size (fun _ => True) (.slice Al l.length cl) l)) (fun vi _ => (RowKit.intOf vi + 1).toNat)
  case atStart => exact ⟨l.length, 0, 0, rfl, ⟨Nat.le_refl _⟩, ⟨by rw [List.take_length]; exact HR.out⟩, HW, HZ, HA, HL⟩
  case round =>
    obtain ⟨m, hi, lo, rfl, HM, HQ, HW', HZ', HA', HL'⟩ := hrel
    clear HW HZ HA HL
    rename World => W
    have hc0 : W.cell? ⟨w.heap.size + 1, 0, none⟩ = some (.bool false) := (blk_cell HA'.out 0).trans rfl
    have hc1 : W.cell? ⟨w.heap.size + 1, 1, none⟩ = some (.int .u64 hi) := (blk_cell HA'.out 1).trans rfl
    have hc2 : W.cell? ⟨w.heap.size + 1, 2, none⟩ = some (.int .u64 lo) := (blk_cell HA'.out 2).trans rfl
    have hf0 := blk_frozen HA'.out 0
    have hf1 := blk_frozen HA'.out 1
    have hf2 := blk_frozen HA'.out 2
    have hz0 : W.cell? ⟨w.heap.size, 0, none⟩ = some (.bool false) := (blk_cell HZ'.out 0).trans rfl
    have hz1 : W.cell? ⟨w.heap.size, 1, none⟩ = some (.int .u64 0) := (blk_cell HZ'.out 1).trans rfl
    have hz2 : W.cell? ⟨w.heap.size, 2, none⟩ = some (.int .u64 0) := (blk_cell HZ'.out 2).trans rfl
    have hg0 := blk_frozen HZ'.out 0
    have hg1 := blk_frozen HZ'.out 1
    have hg2 := blk_frozen HZ'.out 2
    cases m with
    | zero =>
      rw [show (((0 : Nat) : Int) - 1) = -1 by omega]
      have HE := HQ.out
      rw [List.take_zero, List.reverse_nil] at HE
      unfold revL at HE
      simp only [Option.some.injEq] at HE
      subst HE
      go_wp2_with fail
      refine bodyPost_ret (results_ct rfl _ _ w.heap.size 24 #[.bool false, .int .u64 hi, .int .u64 lo] (0, 0) _ rfl (by refine blk_put (cs := #[.bool false, .int .u64 hi, .int .u64 0]) ?_ 2 _ rfl; refine blk_put (cs := #[.bool false, .int .u64 0, .int .u64 0]) ?_ 1 _ rfl; refine blk_put (cs := #[.bool false, .int .u64 0, .int .u64 0]) ?_ 0 _ rfl; exact HZ'.out) Tryd.underlying24 rfl (by kernel_rfl)) rfl ?_
      exact ⟨rfl, by repeat (first | exact HW'.out | refine below_set ?_ (Nat.le_refl _))⟩
    | succ m =>
      rw [show (((m + 1 : Nat) : Int) - 1) = (m : Int) by omega]
      have hlt : m < l.length := HM.out
      have HE := HQ.out
      rw [List.take_add_one, List.getElem?_eq_getElem hlt] at HE
      simp only [Option.toList_some, List.reverse_append, List.reverse_cons, List.reverse_nil, List.nil_append, List.cons_append] at HE
      unfold revL at HE
      obtain ⟨p, hp, HE⟩ := Option.bind_eq_some_iff.mp HE
      have HP := Aside0.mk hp
      have HE' := Aside0.mk HE
      clear hp HE
      have p1 : 0 ≤ (m : Int) := by omega
      have q1 : (m : Int) < (l.length : Int) := by omega
      obtain ⟨ad, e1, hx⟩ := Kd.at_string (Kd.R_reads' HL'.out).2.2 (m : Int) p1 q1
      cases e1
      have hx' : W.cell? (ad.add m) = some (.string l[m]) := by
        rw [Int.toNat_natCast] at hx
        rw [hx]
        unfold rdOf
        rw [Int.toNat_natCast, List.getD_eq_getElem?_getD, List.getElem?_eq_getElem hlt]
        rfl
      clear hx
      replace p1 := eq_true p1
      replace q1 := eq_true q1
      go_wp2_with fail
      obtain ⟨d, ok⟩ := p
      refine (lit1_calls k l[m] d ok _ HP.out).mono ?_
      rintro e w' ⟨rfl, ⟨nd, rfl⟩⟩
      cases ok with
      | false =>
        have HN := HE'.out
        rw [if_neg (show ¬ (d, false).2 = true by simp)] at HN
        simp only [Option.some.injEq] at HN
        subst HN
        go_wp2_with fail
        refine bodyPost_ret (results_ct rfl _ _ w.heap.size 24 #[.bool false, .int .u64 0, .int .u64 0] (0, 0) _ rfl (by (with_reducible repeat (first | refine blk_drewN ?_ _ | refine blk_drew ?_ | refine blk_alloc ?_ _)); refine blk_put (cs := #[.bool false, .int .u64 0, .int .u64 0]) ?_ 2 _ rfl; refine blk_put (cs := #[.bool false, .int .u64 0, .int .u64 0]) ?_ 1 _ rfl; refine blk_put (cs := #[.bool false, .int .u64 0, .int .u64 0]) ?_ 0 _ rfl; (with_reducible repeat (first | refine blk_drewN ?_ _ | refine blk_drew ?_ | refine blk_alloc ?_ _)); exact HZ'.out) Tryd.underlying24 rfl (by kernel_rfl)) rfl ?_
        exact ⟨rfl, by repeat (first | exact HW'.out | apply pw_below_drewN | apply below_drew1 | refine below_set ?_ (Nat.le_refl _))⟩
      | true =>
        have HN := Aside0.mk (show revL (lit1 k) 16 1152921504606846976 (l.take m).reverse (Go.bits .or .u64 (IntKind.u64.wrap (hi * 16)) (lo / 1152921504606846976), Go.bits .or .u64 (IntKind.u64.wrap (lo * 16)) d) = some R from by have h := HE'.out; rw [if_pos rfl] at h; exact h)
        go_wp2_with fail
        go_region
        go_wp2_with fail
        have ha1 := blk_put (cs := #[.bool false, .int .u64 hi, .int .u64 lo]) (blk_drewN HA'.out (nd + 1)) 1 (.int .u64 (Go.bits .or .u64 (IntKind.u64.wrap (hi * 16)) (lo / 1152921504606846976))) rfl
        have ha2 := blk_put ha1 2 (.int .u64 (Go.bits .or .u64 (IntKind.u64.wrap (lo * 16)) d)) rfl
        refine ⟨⟨m, _, _, rfl, ⟨by omega⟩, HN, ⟨?_⟩, ⟨?_⟩, ⟨ha2⟩, ⟨?_⟩⟩, by simp [RowKit.intOf] <;> omega⟩
        · repeat (first | exact HW'.out | apply pw_below_drewN | apply below_drew1 | refine below_set ?_ (Nat.le_succ _))
        · refine blk_far ?_ (by simp) _
          refine blk_far ?_ (by simp) _
          exact blk_drewN HZ'.out _
        · refine Kd.R_set ?_ ha1 (by intro q hq; have h9 : q = 9 := (by simpa [Kd.string, Kd.scalar] using hq); subst h9; decide) 2 _
          refine Kd.R_set ?_ (blk_drewN HA'.out (nd + 1)) (by intro q hq; have h9 : q = 9 := (by simpa [Kd.string, Kd.scalar] using hq); subst h9; decide) 1 _
          exact Kd.R_drewN HL'.out _
set_option maxHeartbeats 4000000 in
set_option maxRecDepth 100000 in
theorem reversed4_no (n : ByteArray) (hn : n.size ≤ 100) (hh : Lib.hasSuffix n.data.toList [46, 105, 112, 54, 46, 97, 114, 112, 97, 46] = false) (w : World) :
    Calls Tryd.prog 22 #[.string n, .string (⟨#[105, 112, 54, 46, 97, 114, 112, 97, 46]⟩ : ByteArray), .int .i64 4, (.func (.func 24) #[] #[])] w fun e w' => e = .returned (revV none) ∧ Below w.heap.size w w' := by
  have huA_ := Tryd.underlying24
  have HH := Aside0.mk hh
  clear hh
  go_enter Tryd.func22, Tryd.ntmps22
  go_wp2_with fail
  refine (cut_4 n hn _).mono ?_
  rintro e w' ⟨rfl, rfl⟩
  rw [HH.out]
  go_wp2_with fail
  refine bodyPost_ret (v := revV none) (by simp [results, Tryd.results22, go_sem, revV]) rfl ⟨rfl, ?_⟩
  repeat (first | exact Below.refl _ _ | apply below_drew | apply below_alloc | apply pw_below_drewN)
def rv8 (k : Nat) (n : ByteArray) : Option (Option (Int × Int)) := if Lib.hasSuffix n.data.toList [46, 105, 110, 45, 97, 100, 100, 114, 46, 97, 114, 112, 97, 46] = true then (strings_Split.f (⟨(Lib.trimSuffix n.data.toList [46, 105, 110, 45, 97, 100, 100, 114, 46, 97, 114, 112, 97, 46]).toArray⟩ : ByteArray) (⟨#[46]⟩ : ByteArray)).bind fun l => revL (addr_decimal.f k) 256 72057594037927936 l.reverse (0, 0) else some none
def rv6 (k : Nat) (n : ByteArray) : Option (Option (Int × Int)) := if Lib.hasSuffix n.data.toList [46, 105, 112, 54, 46, 97, 114, 112, 97, 46] = true then (strings_Split.f (⟨(Lib.trimSuffix n.data.toList [46, 105, 112, 54, 46, 97, 114, 112, 97, 46]).toArray⟩ : ByteArray) (⟨#[46]⟩ : ByteArray)).bind fun l => revL (lit1 k) 16 1152921504606846976 l.reverse (0, 0) else some none
theorem rv8_calls (k : Nat) (n : ByteArray) (hn : n.size ≤ 100) (R : Option (Int × Int)) (h : rv8 k n = some R) (w : World) (hLD : Laid w) :
    Calls Tryd.prog 22 #[.string n, .string (⟨#[105, 110, 45, 97, 100, 100, 114, 46, 97, 114, 112, 97, 46]⟩ : ByteArray), .int .i64 8, (.func (.func 23) #[] #[])] w fun e w' => e = .returned (revV R) ∧ Below w.heap.size w w' := by
  unfold rv8 at h
  by_cases hh : Lib.hasSuffix n.data.toList [46, 105, 110, 45, 97, 100, 100, 114, 46, 97, 114, 112, 97, 46] = true
  · rw [if_pos hh] at h
    obtain ⟨l, hl, h⟩ := Option.bind_eq_some_iff.mp h
    exact reversed8 k n hn l R hh hl h w hLD
  · rw [if_neg hh] at h
    simp only [Option.some.injEq] at h
    subst h
    exact reversed8_no n hn (Bool.eq_false_iff.mpr hh) w
theorem rv8_some (k : Nat) (n : ByteArray) (hn : n.size ≤ 100) (hi lo : Int) (h : rv8 k n = some (some (hi, lo))) (w : World) (hLD : Laid w) :
    Calls Tryd.prog 22 #[.string n, .string (⟨#[105, 110, 45, 97, 100, 100, 114, 46, 97, 114, 112, 97, 46]⟩ : ByteArray), .int .i64 8, (.func (.func 23) #[] #[])] w fun e w' => e = .returned (.tuple #[.agg #[.bool false, .int .u64 hi, .int .u64 lo], .bool true]) ∧ Below w.heap.size w w' := rv8_calls k n hn _ h w hLD
theorem rv8_none (k : Nat) (n : ByteArray) (hn : n.size ≤ 100) (h : rv8 k n = some none) (w : World) (hLD : Laid w) :
    Calls Tryd.prog 22 #[.string n, .string (⟨#[105, 110, 45, 97, 100, 100, 114, 46, 97, 114, 112, 97, 46]⟩ : ByteArray), .int .i64 8, (.func (.func 23) #[] #[])] w fun e w' => e = .returned (.tuple #[.agg #[.bool false, .int .u64 0, .int .u64 0], .bool false]) ∧ Below w.heap.size w w' := rv8_calls k n hn _ h w hLD
theorem rv6_calls (k : Nat) (n : ByteArray) (hn : n.size ≤ 100) (R : Option (Int × Int)) (h : rv6 k n = some R) (w : World) (hLD : Laid w) :
    Calls Tryd.prog 22 #[.string n, .string (⟨#[105, 112, 54, 46, 97, 114, 112, 97, 46]⟩ : ByteArray), .int .i64 4, (.func (.func 24) #[] #[])] w fun e w' => e = .returned (revV R) ∧ Below w.heap.size w w' := by
  unfold rv6 at h
  by_cases hh : Lib.hasSuffix n.data.toList [46, 105, 112, 54, 46, 97, 114, 112, 97, 46] = true
  · rw [if_pos hh] at h
    obtain ⟨l, hl, h⟩ := Option.bind_eq_some_iff.mp h
    exact reversed4 k n hn l R hh hl h w hLD
  · rw [if_neg hh] at h
    simp only [Option.some.injEq] at h
    subst h
    exact reversed4_no n hn (Bool.eq_false_iff.mpr hh) w
theorem rv6_some (k : Nat) (n : ByteArray) (hn : n.size ≤ 100) (hi lo : Int) (h : rv6 k n = some (some (hi, lo))) (w : World) (hLD : Laid w) :
    Calls Tryd.prog 22 #[.string n, .string (⟨#[105, 112, 54, 46, 97, 114, 112, 97, 46]⟩ : ByteArray), .int .i64 4, (.func (.func 24) #[] #[])] w fun e w' => e = .returned (.tuple #[.agg #[.bool false, .int .u64 hi, .int .u64 lo], .bool true]) ∧ Below w.heap.size w w' := rv6_calls k n hn _ h w hLD
theorem rv6_none (k : Nat) (n : ByteArray) (hn : n.size ≤ 100) (h : rv6 k n = some none) (w : World) (hLD : Laid w) :
    Calls Tryd.prog 22 #[.string n, .string (⟨#[105, 112, 54, 46, 97, 114, 112, 97, 46]⟩ : ByteArray), .int .i64 4, (.func (.func 24) #[] #[])] w fun e w' => e = .returned (.tuple #[.agg #[.bool false, .int .u64 0, .int .u64 0], .bool false]) ∧ Below w.heap.size w w' := rv6_calls k n hn _ h w hLD
set_option maxHeartbeats 4000000 in
set_option maxRecDepth 100000 in
theorem from4a (k : Nat) (n : ByteArray) (hn : n.size ≤ 100) (hi lo : Int) (h8 : rv8 k n = some (some (hi, lo))) (s : ByteArray) (hs : s.toList = n.toList) (hr : addr_Reverse.f k false hi lo = some (s, 0)) (w : World) (hLD : Laid w) :
    Calls Tryd.prog 8 #[.string n] w fun e w' => e = .returned (.tuple #[.agg #[.bool false, .int .u64 hi, .int .u64 lo], .bool true]) ∧ Below w.heap.size w w' := by
  have huA_ := Tryd.underlying24
  have HLD := Aside0.mk hLD
  have hs2 : (s.toList == n.toList) = true := beq_iff_eq.mpr hs
  have H8 := Aside0.mk h8
  have HRV := Aside0.mk hr
  clear h8 hr hs
  clear hLD
  go_enter Tryd.func8, Tryd.ntmps8
  go_wp2_with fail
  with_reducible refine (rv8_some k n hn hi lo H8.out _ (HLD.out.below (by repeat (first | exact Below.refl _ _ | apply below_drew | apply below_alloc | apply pw_below_drewN)))).mono ?_
  rintro e w1 ⟨rfl, hb⟩
  have W1 := Aside0.mk (show Below w.heap.size w w1 from Below.trans (below_alloc (Below.refl _ _) _) (rv_below_mono_ hb (by simp)))
  have Z1 := Aside0.mk (show w1.heap[w.heap.size]? = some (.cells #[.bool false, .int .u64 0, .int .u64 0] 24 (0, 0)) from blk_below (blk_new _ _) hb)
  have L1 := Aside0.mk (show w.heap.size < w1.heap.size from blk_lt Z1.out)
  clear hb
  go_wp2_with fail
  with_reducible refine (addr_Reverse.calls k false hi lo s 0 _ (HLD.out.below (below_alloc W1.out _)) HRV.out).mono ?_
  rintro e2 w2 ⟨rfl, hb⟩
  have W2 := Aside0.mk (show Below w.heap.size w w2 from Below.trans (below_alloc W1.out _) (rv_below_mono_ hb (below_alloc W1.out _).size))
  have Z2 := Aside0.mk (show w2.heap[w.heap.size]? = some (.cells #[.bool false, .int .u64 0, .int .u64 0] 24 (0, 0)) from blk_below (blk_alloc Z1.out _) hb)
  have A2 := Aside0.mk (show w2.heap[w1.heap.size]? = some (.cells #[.bool false, .int .u64 hi, .int .u64 lo] 24 (0, 0)) from blk_below (blk_new _ _) hb)
  clear hb
  have z0 : w2.cell? ⟨w.heap.size, 0, none⟩ = some (.bool false) := (blk_cell Z2.out 0).trans rfl
  have z1 : w2.cell? ⟨w.heap.size, 1, none⟩ = some (.int .u64 0) := (blk_cell Z2.out 1).trans rfl
  have z2 : w2.cell? ⟨w.heap.size, 2, none⟩ = some (.int .u64 0) := (blk_cell Z2.out 2).trans rfl
  have zf0 := blk_frozen Z2.out 0
  have zf1 := blk_frozen Z2.out 1
  have zf2 := blk_frozen Z2.out 2
  have c0 : w2.cell? ⟨w1.heap.size, 0, none⟩ = some (.bool false) := (blk_cell A2.out 0).trans rfl
  have c1 : w2.cell? ⟨w1.heap.size, 1, none⟩ = some (.int .u64 hi) := (blk_cell A2.out 1).trans rfl
  have c2 : w2.cell? ⟨w1.heap.size, 2, none⟩ = some (.int .u64 lo) := (blk_cell A2.out 2).trans rfl
  have cf0 := blk_frozen A2.out 0
  have cf1 := blk_frozen A2.out 1
  have cf2 := blk_frozen A2.out 2
  go_wp2_with fail
  refine bodyPost_ret (results_ct rfl _ _ w.heap.size 24 #[.bool false, .int .u64 hi, .int .u64 lo] (0, 0) _ rfl (by (with_reducible repeat (first | refine blk_drewN ?_ _ | refine blk_drew ?_ | refine blk_alloc ?_ _)); refine blk_put (cs := #[.bool false, .int .u64 hi, .int .u64 0]) ?_ 2 _ rfl; refine blk_put (cs := #[.bool false, .int .u64 0, .int .u64 0]) ?_ 1 _ rfl; refine blk_put (cs := #[.bool false, .int .u64 0, .int .u64 0]) ?_ 0 _ rfl; (with_reducible repeat (first | refine blk_drewN ?_ _ | refine blk_drew ?_ | refine blk_alloc ?_ _)); exact Z2.out) Tryd.underlying24 rfl (by kernel_rfl)) rfl ?_
  exact ⟨rfl, by repeat (first | exact W2.out | apply below_alloc | apply pw_below_drewN | apply below_drew1 | refine below_set ?_ (Nat.le_refl _))⟩
set_option maxHeartbeats 4000000 in
set_option maxRecDepth 100000 in
theorem from4b (k : Nat) (n : ByteArray) (hn : n.size ≤ 100) (hi lo : Int) (h8 : rv8 k n = some (some (hi, lo))) (s : ByteArray) (e : Int) (hr : addr_Reverse.f k false hi lo = some (s, e)) (he : ¬ e = 0) (w : World) (hLD : Laid w) :
    Calls Tryd.prog 8 #[.string n] w fun e w' => e = .returned (.tuple #[.agg #[.bool false, .int .u64 0, .int .u64 0], .bool false]) ∧ Below w.heap.size w w' := by
  have huA_ := Tryd.underlying24
  have HLD := Aside0.mk hLD
  skip
  have H8 := Aside0.mk h8
  have HRV := Aside0.mk hr
  clear h8 hr
  clear hLD
  go_enter Tryd.func8, Tryd.ntmps8
  go_wp2_with fail
  with_reducible refine (rv8_some k n hn hi lo H8.out _ (HLD.out.below (by repeat (first | exact Below.refl _ _ | apply below_drew | apply below_alloc | apply pw_below_drewN)))).mono ?_
  rintro e w1 ⟨rfl, hb⟩
  have W1 := Aside0.mk (show Below w.heap.size w w1 from Below.trans (below_alloc (Below.refl _ _) _) (rv_below_mono_ hb (by simp)))
  have Z1 := Aside0.mk (show w1.heap[w.heap.size]? = some (.cells #[.bool false, .int .u64 0, .int .u64 0] 24 (0, 0)) from blk_below (blk_new _ _) hb)
  have L1 := Aside0.mk (show w.heap.size < w1.heap.size from blk_lt Z1.out)
  clear hb
  go_wp2_with fail
  with_reducible refine (addr_Reverse.calls k false hi lo s e _ (HLD.out.below (below_alloc W1.out _)) HRV.out).mono ?_
  rintro e2 w2 ⟨rfl, hb⟩
  have W2 := Aside0.mk (show Below w.heap.size w w2 from Below.trans (below_alloc W1.out _) (rv_below_mono_ hb (below_alloc W1.out _).size))
  have Z2 := Aside0.mk (show w2.heap[w.heap.size]? = some (.cells #[.bool false, .int .u64 0, .int .u64 0] 24 (0, 0)) from blk_below (blk_alloc Z1.out _) hb)
  have A2 := Aside0.mk (show w2.heap[w1.heap.size]? = some (.cells #[.bool false, .int .u64 hi, .int .u64 lo] 24 (0, 0)) from blk_below (blk_new _ _) hb)
  clear hb
  have z0 : w2.cell? ⟨w.heap.size, 0, none⟩ = some (.bool false) := (blk_cell Z2.out 0).trans rfl
  have z1 : w2.cell? ⟨w.heap.size, 1, none⟩ = some (.int .u64 0) := (blk_cell Z2.out 1).trans rfl
  have z2 : w2.cell? ⟨w.heap.size, 2, none⟩ = some (.int .u64 0) := (blk_cell Z2.out 2).trans rfl
  have zf0 := blk_frozen Z2.out 0
  have zf1 := blk_frozen Z2.out 1
  have zf2 := blk_frozen Z2.out 2
  have c0 : w2.cell? ⟨w1.heap.size, 0, none⟩ = some (.bool false) := (blk_cell A2.out 0).trans rfl
  have c1 : w2.cell? ⟨w1.heap.size, 1, none⟩ = some (.int .u64 hi) := (blk_cell A2.out 1).trans rfl
  have c2 : w2.cell? ⟨w1.heap.size, 2, none⟩ = some (.int .u64 lo) := (blk_cell A2.out 2).trans rfl
  have cf0 := blk_frozen A2.out 0
  have cf1 := blk_frozen A2.out 1
  have cf2 := blk_frozen A2.out 2
  go_wp2_with fail
  refine bodyPost_ret (results_ct rfl _ _ w.heap.size 24 #[.bool false, .int .u64 0, .int .u64 0] (0, 0) _ rfl (by (with_reducible repeat (first | refine blk_drewN ?_ _ | refine blk_drew ?_ | refine blk_alloc ?_ _)); refine blk_put (cs := #[.bool false, .int .u64 0, .int .u64 0]) ?_ 2 _ rfl; refine blk_put (cs := #[.bool false, .int .u64 0, .int .u64 0]) ?_ 1 _ rfl; refine blk_put (cs := #[.bool false, .int .u64 0, .int .u64 0]) ?_ 0 _ rfl; (with_reducible repeat (first | refine blk_drewN ?_ _ | refine blk_drew ?_ | refine blk_alloc ?_ _)); exact Z2.out) Tryd.underlying24 rfl (by kernel_rfl)) rfl ?_
  exact ⟨rfl, by repeat (first | exact W2.out | apply below_alloc | apply pw_below_drewN | apply below_drew1 | refine below_set ?_ (Nat.le_refl _))⟩
set_option maxHeartbeats 4000000 in
set_option maxRecDepth 100000 in
theorem from4c (k : Nat) (n : ByteArray) (hn : n.size ≤ 100) (hi lo : Int) (h8 : rv8 k n = some (some (hi, lo))) (s : ByteArray) (hs : ¬ s.toList = n.toList) (hr : addr_Reverse.f k false hi lo = some (s, 0)) (w : World) (hLD : Laid w) :
    Calls Tryd.prog 8 #[.string n] w fun e w' => e = .returned (.tuple #[.agg #[.bool false, .int .u64 0, .int .u64 0], .bool false]) ∧ Below w.heap.size w w' := by
  have huA_ := Tryd.underlying24
  have HLD := Aside0.mk hLD
  have hs2 : (s.toList == n.toList) = false := beq_eq_false_iff_ne.mpr hs
  have H8 := Aside0.mk h8
  have HRV := Aside0.mk hr
  clear h8 hr hs
  clear hLD
  go_enter Tryd.func8, Tryd.ntmps8
  go_wp2_with fail
  with_reducible refine (rv8_some k n hn hi lo H8.out _ (HLD.out.below (by repeat (first | exact Below.refl _ _ | apply below_drew | apply below_alloc | apply pw_below_drewN)))).mono ?_
  rintro e w1 ⟨rfl, hb⟩
  have W1 := Aside0.mk (show Below w.heap.size w w1 from Below.trans (below_alloc (Below.refl _ _) _) (rv_below_mono_ hb (by simp)))
  have Z1 := Aside0.mk (show w1.heap[w.heap.size]? = some (.cells #[.bool false, .int .u64 0, .int .u64 0] 24 (0, 0)) from blk_below (blk_new _ _) hb)
  have L1 := Aside0.mk (show w.heap.size < w1.heap.size from blk_lt Z1.out)
  clear hb
  go_wp2_with fail
  with_reducible refine (addr_Reverse.calls k false hi lo s 0 _ (HLD.out.below (below_alloc W1.out _)) HRV.out).mono ?_
  rintro e2 w2 ⟨rfl, hb⟩
  have W2 := Aside0.mk (show Below w.heap.size w w2 from Below.trans (below_alloc W1.out _) (rv_below_mono_ hb (below_alloc W1.out _).size))
  have Z2 := Aside0.mk (show w2.heap[w.heap.size]? = some (.cells #[.bool false, .int .u64 0, .int .u64 0] 24 (0, 0)) from blk_below (blk_alloc Z1.out _) hb)
  have A2 := Aside0.mk (show w2.heap[w1.heap.size]? = some (.cells #[.bool false, .int .u64 hi, .int .u64 lo] 24 (0, 0)) from blk_below (blk_new _ _) hb)
  clear hb
  have z0 : w2.cell? ⟨w.heap.size, 0, none⟩ = some (.bool false) := (blk_cell Z2.out 0).trans rfl
  have z1 : w2.cell? ⟨w.heap.size, 1, none⟩ = some (.int .u64 0) := (blk_cell Z2.out 1).trans rfl
  have z2 : w2.cell? ⟨w.heap.size, 2, none⟩ = some (.int .u64 0) := (blk_cell Z2.out 2).trans rfl
  have zf0 := blk_frozen Z2.out 0
  have zf1 := blk_frozen Z2.out 1
  have zf2 := blk_frozen Z2.out 2
  have c0 : w2.cell? ⟨w1.heap.size, 0, none⟩ = some (.bool false) := (blk_cell A2.out 0).trans rfl
  have c1 : w2.cell? ⟨w1.heap.size, 1, none⟩ = some (.int .u64 hi) := (blk_cell A2.out 1).trans rfl
  have c2 : w2.cell? ⟨w1.heap.size, 2, none⟩ = some (.int .u64 lo) := (blk_cell A2.out 2).trans rfl
  have cf0 := blk_frozen A2.out 0
  have cf1 := blk_frozen A2.out 1
  have cf2 := blk_frozen A2.out 2
  go_wp2_with fail
  refine bodyPost_ret (results_ct rfl _ _ w.heap.size 24 #[.bool false, .int .u64 0, .int .u64 0] (0, 0) _ rfl (by (with_reducible repeat (first | refine blk_drewN ?_ _ | refine blk_drew ?_ | refine blk_alloc ?_ _)); refine blk_put (cs := #[.bool false, .int .u64 0, .int .u64 0]) ?_ 2 _ rfl; refine blk_put (cs := #[.bool false, .int .u64 0, .int .u64 0]) ?_ 1 _ rfl; refine blk_put (cs := #[.bool false, .int .u64 0, .int .u64 0]) ?_ 0 _ rfl; (with_reducible repeat (first | refine blk_drewN ?_ _ | refine blk_drew ?_ | refine blk_alloc ?_ _)); exact Z2.out) Tryd.underlying24 rfl (by kernel_rfl)) rfl ?_
  exact ⟨rfl, by repeat (first | exact W2.out | apply below_alloc | apply pw_below_drewN | apply below_drew1 | refine below_set ?_ (Nat.le_refl _))⟩
set_option maxHeartbeats 4000000 in
set_option maxRecDepth 100000 in
theorem from6a (k : Nat) (n : ByteArray) (hn : n.size ≤ 100) (hi lo : Int) (h8 : rv8 k n = some none) (h6 : rv6 k n = some (some (hi, lo))) (s : ByteArray) (hs : s.toList = n.toList) (hr : addr_Reverse.f k true hi lo = some (s, 0)) (w : World) (hLD : Laid w) :
    Calls Tryd.prog 8 #[.string n] w fun e w' => e = .returned (.tuple #[.agg #[.bool true, .int .u64 hi, .int .u64 lo], .bool true]) ∧ Below w.heap.size w w' := by
  have huA_ := Tryd.underlying24
  have HLD := Aside0.mk hLD
  have hs2 : (s.toList == n.toList) = true := beq_iff_eq.mpr hs
  have H8 := Aside0.mk h8
  have H6 := Aside0.mk h6
  have HRV := Aside0.mk hr
  clear h8 h6 hr hs
  clear hLD
  go_enter Tryd.func8, Tryd.ntmps8
  go_wp2_with fail
  with_reducible refine (rv8_none k n hn H8.out _ (HLD.out.below (by repeat (first | exact Below.refl _ _ | apply below_drew | apply below_alloc | apply pw_below_drewN)))).mono ?_
  rintro e w1 ⟨rfl, hb⟩
  have W1 := Aside0.mk (show Below w.heap.size w w1 from Below.trans (below_alloc (Below.refl _ _) _) (rv_below_mono_ hb (by simp)))
  have Z1 := Aside0.mk (show w1.heap[w.heap.size]? = some (.cells #[.bool false, .int .u64 0, .int .u64 0] 24 (0, 0)) from blk_below (blk_new _ _) hb)
  have L1 := Aside0.mk (show w.heap.size < w1.heap.size from blk_lt Z1.out)
  clear hb
  go_wp2_with fail
  with_reducible refine (rv6_some k n hn hi lo H6.out _ (HLD.out.below (below_alloc W1.out _))).mono ?_
  rintro e w2 ⟨rfl, hb⟩
  have W2 := Aside0.mk (show Below w.heap.size w w2 from Below.trans (below_alloc W1.out _) (rv_below_mono_ hb (below_alloc W1.out _).size))
  have Z2 := Aside0.mk (show w2.heap[w.heap.size]? = some (.cells #[.bool false, .int .u64 0, .int .u64 0] 24 (0, 0)) from blk_below (blk_alloc Z1.out _) hb)
  have A2 := Aside0.mk (show w2.heap[w1.heap.size]? = some (.cells #[.bool false, .int .u64 0, .int .u64 0] 24 (0, 0)) from blk_below (blk_new _ _) hb)
  have hne : w.heap.size ≠ w1.heap.size := by have := L1.out; omega
  clear hb
  have c0 : w2.cell? ⟨w1.heap.size, 0, none⟩ = some (.bool false) := (blk_cell A2.out 0).trans rfl
  have c1 : w2.cell? ⟨w1.heap.size, 1, none⟩ = some (.int .u64 0) := (blk_cell A2.out 1).trans rfl
  have c2 : w2.cell? ⟨w1.heap.size, 2, none⟩ = some (.int .u64 0) := (blk_cell A2.out 2).trans rfl
  have cf0 := blk_frozen A2.out 0
  have cf1 := blk_frozen A2.out 1
  have cf2 := blk_frozen A2.out 2
  have W3 := Aside0.mk (show Below w.heap.size w ((((w2.setCell ⟨w1.heap.size, 0, none⟩ (.bool false)).setCell ⟨w1.heap.size, 1, none⟩ (.int .u64 hi)).setCell ⟨w1.heap.size, 2, none⟩ (.int .u64 lo)).setCell ⟨w1.heap.size, 0, none⟩ (.bool true)) from by repeat (first | exact W2.out | refine below_set ?_ (Nat.le_of_lt L1.out)))
  have Z3 := Aside0.mk (show ((((w2.setCell ⟨w1.heap.size, 0, none⟩ (.bool false)).setCell ⟨w1.heap.size, 1, none⟩ (.int .u64 hi)).setCell ⟨w1.heap.size, 2, none⟩ (.int .u64 lo)).setCell ⟨w1.heap.size, 0, none⟩ (.bool true)).heap[w.heap.size]? = some (.cells #[.bool false, .int .u64 0, .int .u64 0] 24 (0, 0)) from blk_far (blk_far (blk_far (blk_far Z2.out hne _) hne _) hne _) hne _)
  have A3 := Aside0.mk (show ((((w2.setCell ⟨w1.heap.size, 0, none⟩ (.bool false)).setCell ⟨w1.heap.size, 1, none⟩ (.int .u64 hi)).setCell ⟨w1.heap.size, 2, none⟩ (.int .u64 lo)).setCell ⟨w1.heap.size, 0, none⟩ (.bool true)).heap[w1.heap.size]? = some (.cells #[.bool true, .int .u64 hi, .int .u64 lo] 24 (0, 0)) from blk_put (blk_put (blk_put (blk_put A2.out 0 (.bool false) rfl) 1 (.int .u64 hi) rfl) 2 (.int .u64 lo) rfl) 0 (.bool true) rfl)
  go_wp2_with fail
  with_reducible refine (addr_Reverse.calls k true hi lo s 0 _ (HLD.out.below W3.out) HRV.out).mono ?_
  rintro e2 w3 ⟨rfl, hb⟩
  have W4 := Aside0.mk (show Below w.heap.size w w3 from Below.trans W3.out (rv_below_mono_ hb W3.out.size))
  have Z4 := Aside0.mk (show w3.heap[w.heap.size]? = some (.cells #[.bool false, .int .u64 0, .int .u64 0] 24 (0, 0)) from blk_below Z3.out hb)
  have A4 := Aside0.mk (show w3.heap[w1.heap.size]? = some (.cells #[.bool true, .int .u64 hi, .int .u64 lo] 24 (0, 0)) from blk_below A3.out hb)
  clear hb c0 cf0 c1 cf1 c2 cf2
  have z0 : w3.cell? ⟨w.heap.size, 0, none⟩ = some (.bool false) := (blk_cell Z4.out 0).trans rfl
  have z1 : w3.cell? ⟨w.heap.size, 1, none⟩ = some (.int .u64 0) := (blk_cell Z4.out 1).trans rfl
  have z2 : w3.cell? ⟨w.heap.size, 2, none⟩ = some (.int .u64 0) := (blk_cell Z4.out 2).trans rfl
  have zf0 := blk_frozen Z4.out 0
  have zf1 := blk_frozen Z4.out 1
  have zf2 := blk_frozen Z4.out 2
  have d0 : w3.cell? ⟨w1.heap.size, 0, none⟩ = some (.bool true) := (blk_cell A4.out 0).trans rfl
  have d1 : w3.cell? ⟨w1.heap.size, 1, none⟩ = some (.int .u64 hi) := (blk_cell A4.out 1).trans rfl
  have d2 : w3.cell? ⟨w1.heap.size, 2, none⟩ = some (.int .u64 lo) := (blk_cell A4.out 2).trans rfl
  have df0 := blk_frozen A4.out 0
  have df1 := blk_frozen A4.out 1
  have df2 := blk_frozen A4.out 2
  go_wp2_with fail
  refine bodyPost_ret (results_ct rfl _ _ w.heap.size 24 #[.bool true, .int .u64 hi, .int .u64 lo] (0, 0) _ rfl (by (with_reducible repeat (first | refine blk_drewN ?_ _ | refine blk_drew ?_ | refine blk_alloc ?_ _)); refine blk_put (cs := #[.bool true, .int .u64 hi, .int .u64 0]) ?_ 2 _ rfl; refine blk_put (cs := #[.bool true, .int .u64 0, .int .u64 0]) ?_ 1 _ rfl; refine blk_put (cs := #[.bool false, .int .u64 0, .int .u64 0]) ?_ 0 _ rfl; (with_reducible repeat (first | refine blk_drewN ?_ _ | refine blk_drew ?_ | refine blk_alloc ?_ _)); exact Z4.out) Tryd.underlying24 rfl (by kernel_rfl)) rfl ?_
  exact ⟨rfl, by repeat (first | exact W4.out | apply below_alloc | apply pw_below_drewN | apply below_drew1 | refine below_set ?_ (Nat.le_refl _))⟩
set_option maxHeartbeats 4000000 in
set_option maxRecDepth 100000 in
theorem from6b (k : Nat) (n : ByteArray) (hn : n.size ≤ 100) (hi lo : Int) (h8 : rv8 k n = some none) (h6 : rv6 k n = some (some (hi, lo))) (s : ByteArray) (e : Int) (hr : addr_Reverse.f k true hi lo = some (s, e)) (he : ¬ e = 0) (w : World) (hLD : Laid w) :
    Calls Tryd.prog 8 #[.string n] w fun e w' => e = .returned (.tuple #[.agg #[.bool false, .int .u64 0, .int .u64 0], .bool false]) ∧ Below w.heap.size w w' := by
  have huA_ := Tryd.underlying24
  have HLD := Aside0.mk hLD
  skip
  have H8 := Aside0.mk h8
  have H6 := Aside0.mk h6
  have HRV := Aside0.mk hr
  clear h8 h6 hr
  clear hLD
  go_enter Tryd.func8, Tryd.ntmps8
  go_wp2_with fail
  with_reducible refine (rv8_none k n hn H8.out _ (HLD.out.below (by repeat (first | exact Below.refl _ _ | apply below_drew | apply below_alloc | apply pw_below_drewN)))).mono ?_
  rintro e w1 ⟨rfl, hb⟩
  have W1 := Aside0.mk (show Below w.heap.size w w1 from Below.trans (below_alloc (Below.refl _ _) _) (rv_below_mono_ hb (by simp)))
  have Z1 := Aside0.mk (show w1.heap[w.heap.size]? = some (.cells #[.bool false, .int .u64 0, .int .u64 0] 24 (0, 0)) from blk_below (blk_new _ _) hb)
  have L1 := Aside0.mk (show w.heap.size < w1.heap.size from blk_lt Z1.out)
  clear hb
  go_wp2_with fail
  with_reducible refine (rv6_some k n hn hi lo H6.out _ (HLD.out.below (below_alloc W1.out _))).mono ?_
  rintro e w2 ⟨rfl, hb⟩
  have W2 := Aside0.mk (show Below w.heap.size w w2 from Below.trans (below_alloc W1.out _) (rv_below_mono_ hb (below_alloc W1.out _).size))
  have Z2 := Aside0.mk (show w2.heap[w.heap.size]? = some (.cells #[.bool false, .int .u64 0, .int .u64 0] 24 (0, 0)) from blk_below (blk_alloc Z1.out _) hb)
  have A2 := Aside0.mk (show w2.heap[w1.heap.size]? = some (.cells #[.bool false, .int .u64 0, .int .u64 0] 24 (0, 0)) from blk_below (blk_new _ _) hb)
  have hne : w.heap.size ≠ w1.heap.size := by have := L1.out; omega
  clear hb
  have c0 : w2.cell? ⟨w1.heap.size, 0, none⟩ = some (.bool false) := (blk_cell A2.out 0).trans rfl
  have c1 : w2.cell? ⟨w1.heap.size, 1, none⟩ = some (.int .u64 0) := (blk_cell A2.out 1).trans rfl
  have c2 : w2.cell? ⟨w1.heap.size, 2, none⟩ = some (.int .u64 0) := (blk_cell A2.out 2).trans rfl
  have cf0 := blk_frozen A2.out 0
  have cf1 := blk_frozen A2.out 1
  have cf2 := blk_frozen A2.out 2
  have W3 := Aside0.mk (show Below w.heap.size w ((((w2.setCell ⟨w1.heap.size, 0, none⟩ (.bool false)).setCell ⟨w1.heap.size, 1, none⟩ (.int .u64 hi)).setCell ⟨w1.heap.size, 2, none⟩ (.int .u64 lo)).setCell ⟨w1.heap.size, 0, none⟩ (.bool true)) from by repeat (first | exact W2.out | refine below_set ?_ (Nat.le_of_lt L1.out)))
  have Z3 := Aside0.mk (show ((((w2.setCell ⟨w1.heap.size, 0, none⟩ (.bool false)).setCell ⟨w1.heap.size, 1, none⟩ (.int .u64 hi)).setCell ⟨w1.heap.size, 2, none⟩ (.int .u64 lo)).setCell ⟨w1.heap.size, 0, none⟩ (.bool true)).heap[w.heap.size]? = some (.cells #[.bool false, .int .u64 0, .int .u64 0] 24 (0, 0)) from blk_far (blk_far (blk_far (blk_far Z2.out hne _) hne _) hne _) hne _)
  have A3 := Aside0.mk (show ((((w2.setCell ⟨w1.heap.size, 0, none⟩ (.bool false)).setCell ⟨w1.heap.size, 1, none⟩ (.int .u64 hi)).setCell ⟨w1.heap.size, 2, none⟩ (.int .u64 lo)).setCell ⟨w1.heap.size, 0, none⟩ (.bool true)).heap[w1.heap.size]? = some (.cells #[.bool true, .int .u64 hi, .int .u64 lo] 24 (0, 0)) from blk_put (blk_put (blk_put (blk_put A2.out 0 (.bool false) rfl) 1 (.int .u64 hi) rfl) 2 (.int .u64 lo) rfl) 0 (.bool true) rfl)
  go_wp2_with fail
  with_reducible refine (addr_Reverse.calls k true hi lo s e _ (HLD.out.below W3.out) HRV.out).mono ?_
  rintro e2 w3 ⟨rfl, hb⟩
  have W4 := Aside0.mk (show Below w.heap.size w w3 from Below.trans W3.out (rv_below_mono_ hb W3.out.size))
  have Z4 := Aside0.mk (show w3.heap[w.heap.size]? = some (.cells #[.bool false, .int .u64 0, .int .u64 0] 24 (0, 0)) from blk_below Z3.out hb)
  have A4 := Aside0.mk (show w3.heap[w1.heap.size]? = some (.cells #[.bool true, .int .u64 hi, .int .u64 lo] 24 (0, 0)) from blk_below A3.out hb)
  clear hb c0 cf0 c1 cf1 c2 cf2
  have z0 : w3.cell? ⟨w.heap.size, 0, none⟩ = some (.bool false) := (blk_cell Z4.out 0).trans rfl
  have z1 : w3.cell? ⟨w.heap.size, 1, none⟩ = some (.int .u64 0) := (blk_cell Z4.out 1).trans rfl
  have z2 : w3.cell? ⟨w.heap.size, 2, none⟩ = some (.int .u64 0) := (blk_cell Z4.out 2).trans rfl
  have zf0 := blk_frozen Z4.out 0
  have zf1 := blk_frozen Z4.out 1
  have zf2 := blk_frozen Z4.out 2
  have d0 : w3.cell? ⟨w1.heap.size, 0, none⟩ = some (.bool true) := (blk_cell A4.out 0).trans rfl
  have d1 : w3.cell? ⟨w1.heap.size, 1, none⟩ = some (.int .u64 hi) := (blk_cell A4.out 1).trans rfl
  have d2 : w3.cell? ⟨w1.heap.size, 2, none⟩ = some (.int .u64 lo) := (blk_cell A4.out 2).trans rfl
  have df0 := blk_frozen A4.out 0
  have df1 := blk_frozen A4.out 1
  have df2 := blk_frozen A4.out 2
  go_wp2_with fail
  refine bodyPost_ret (results_ct rfl _ _ w.heap.size 24 #[.bool false, .int .u64 0, .int .u64 0] (0, 0) _ rfl (by (with_reducible repeat (first | refine blk_drewN ?_ _ | refine blk_drew ?_ | refine blk_alloc ?_ _)); refine blk_put (cs := #[.bool false, .int .u64 0, .int .u64 0]) ?_ 2 _ rfl; refine blk_put (cs := #[.bool false, .int .u64 0, .int .u64 0]) ?_ 1 _ rfl; refine blk_put (cs := #[.bool false, .int .u64 0, .int .u64 0]) ?_ 0 _ rfl; (with_reducible repeat (first | refine blk_drewN ?_ _ | refine blk_drew ?_ | refine blk_alloc ?_ _)); exact Z4.out) Tryd.underlying24 rfl (by kernel_rfl)) rfl ?_
  exact ⟨rfl, by repeat (first | exact W4.out | apply below_alloc | apply pw_below_drewN | apply below_drew1 | refine below_set ?_ (Nat.le_refl _))⟩
set_option maxHeartbeats 4000000 in
set_option maxRecDepth 100000 in
theorem from6c (k : Nat) (n : ByteArray) (hn : n.size ≤ 100) (hi lo : Int) (h8 : rv8 k n = some none) (h6 : rv6 k n = some (some (hi, lo))) (s : ByteArray) (hs : ¬ s.toList = n.toList) (hr : addr_Reverse.f k true hi lo = some (s, 0)) (w : World) (hLD : Laid w) :
    Calls Tryd.prog 8 #[.string n] w fun e w' => e = .returned (.tuple #[.agg #[.bool false, .int .u64 0, .int .u64 0], .bool false]) ∧ Below w.heap.size w w' := by
  have huA_ := Tryd.underlying24
  have HLD := Aside0.mk hLD
  have hs2 : (s.toList == n.toList) = false := beq_eq_false_iff_ne.mpr hs
  have H8 := Aside0.mk h8
  have H6 := Aside0.mk h6
  have HRV := Aside0.mk hr
  clear h8 h6 hr hs
  clear hLD
  go_enter Tryd.func8, Tryd.ntmps8
  go_wp2_with fail
  with_reducible refine (rv8_none k n hn H8.out _ (HLD.out.below (by repeat (first | exact Below.refl _ _ | apply below_drew | apply below_alloc | apply pw_below_drewN)))).mono ?_
  rintro e w1 ⟨rfl, hb⟩
  have W1 := Aside0.mk (show Below w.heap.size w w1 from Below.trans (below_alloc (Below.refl _ _) _) (rv_below_mono_ hb (by simp)))
  have Z1 := Aside0.mk (show w1.heap[w.heap.size]? = some (.cells #[.bool false, .int .u64 0, .int .u64 0] 24 (0, 0)) from blk_below (blk_new _ _) hb)
  have L1 := Aside0.mk (show w.heap.size < w1.heap.size from blk_lt Z1.out)
  clear hb
  go_wp2_with fail
  with_reducible refine (rv6_some k n hn hi lo H6.out _ (HLD.out.below (below_alloc W1.out _))).mono ?_
  rintro e w2 ⟨rfl, hb⟩
  have W2 := Aside0.mk (show Below w.heap.size w w2 from Below.trans (below_alloc W1.out _) (rv_below_mono_ hb (below_alloc W1.out _).size))
  have Z2 := Aside0.mk (show w2.heap[w.heap.size]? = some (.cells #[.bool false, .int .u64 0, .int .u64 0] 24 (0, 0)) from blk_below (blk_alloc Z1.out _) hb)
  have A2 := Aside0.mk (show w2.heap[w1.heap.size]? = some (.cells #[.bool false, .int .u64 0, .int .u64 0] 24 (0, 0)) from blk_below (blk_new _ _) hb)
  have hne : w.heap.size ≠ w1.heap.size := by have := L1.out; omega
  clear hb
  have c0 : w2.cell? ⟨w1.heap.size, 0, none⟩ = some (.bool false) := (blk_cell A2.out 0).trans rfl
  have c1 : w2.cell? ⟨w1.heap.size, 1, none⟩ = some (.int .u64 0) := (blk_cell A2.out 1).trans rfl
  have c2 : w2.cell? ⟨w1.heap.size, 2, none⟩ = some (.int .u64 0) := (blk_cell A2.out 2).trans rfl
  have cf0 := blk_frozen A2.out 0
  have cf1 := blk_frozen A2.out 1
  have cf2 := blk_frozen A2.out 2
  have W3 := Aside0.mk (show Below w.heap.size w ((((w2.setCell ⟨w1.heap.size, 0, none⟩ (.bool false)).setCell ⟨w1.heap.size, 1, none⟩ (.int .u64 hi)).setCell ⟨w1.heap.size, 2, none⟩ (.int .u64 lo)).setCell ⟨w1.heap.size, 0, none⟩ (.bool true)) from by repeat (first | exact W2.out | refine below_set ?_ (Nat.le_of_lt L1.out)))
  have Z3 := Aside0.mk (show ((((w2.setCell ⟨w1.heap.size, 0, none⟩ (.bool false)).setCell ⟨w1.heap.size, 1, none⟩ (.int .u64 hi)).setCell ⟨w1.heap.size, 2, none⟩ (.int .u64 lo)).setCell ⟨w1.heap.size, 0, none⟩ (.bool true)).heap[w.heap.size]? = some (.cells #[.bool false, .int .u64 0, .int .u64 0] 24 (0, 0)) from blk_far (blk_far (blk_far (blk_far Z2.out hne _) hne _) hne _) hne _)
  have A3 := Aside0.mk (show ((((w2.setCell ⟨w1.heap.size, 0, none⟩ (.bool false)).setCell ⟨w1.heap.size, 1, none⟩ (.int .u64 hi)).setCell ⟨w1.heap.size, 2, none⟩ (.int .u64 lo)).setCell ⟨w1.heap.size, 0, none⟩ (.bool true)).heap[w1.heap.size]? = some (.cells #[.bool true, .int .u64 hi, .int .u64 lo] 24 (0, 0)) from blk_put (blk_put (blk_put (blk_put A2.out 0 (.bool false) rfl) 1 (.int .u64 hi) rfl) 2 (.int .u64 lo) rfl) 0 (.bool true) rfl)
  go_wp2_with fail
  with_reducible refine (addr_Reverse.calls k true hi lo s 0 _ (HLD.out.below W3.out) HRV.out).mono ?_
  rintro e2 w3 ⟨rfl, hb⟩
  have W4 := Aside0.mk (show Below w.heap.size w w3 from Below.trans W3.out (rv_below_mono_ hb W3.out.size))
  have Z4 := Aside0.mk (show w3.heap[w.heap.size]? = some (.cells #[.bool false, .int .u64 0, .int .u64 0] 24 (0, 0)) from blk_below Z3.out hb)
  have A4 := Aside0.mk (show w3.heap[w1.heap.size]? = some (.cells #[.bool true, .int .u64 hi, .int .u64 lo] 24 (0, 0)) from blk_below A3.out hb)
  clear hb c0 cf0 c1 cf1 c2 cf2
  have z0 : w3.cell? ⟨w.heap.size, 0, none⟩ = some (.bool false) := (blk_cell Z4.out 0).trans rfl
  have z1 : w3.cell? ⟨w.heap.size, 1, none⟩ = some (.int .u64 0) := (blk_cell Z4.out 1).trans rfl
  have z2 : w3.cell? ⟨w.heap.size, 2, none⟩ = some (.int .u64 0) := (blk_cell Z4.out 2).trans rfl
  have zf0 := blk_frozen Z4.out 0
  have zf1 := blk_frozen Z4.out 1
  have zf2 := blk_frozen Z4.out 2
  have d0 : w3.cell? ⟨w1.heap.size, 0, none⟩ = some (.bool true) := (blk_cell A4.out 0).trans rfl
  have d1 : w3.cell? ⟨w1.heap.size, 1, none⟩ = some (.int .u64 hi) := (blk_cell A4.out 1).trans rfl
  have d2 : w3.cell? ⟨w1.heap.size, 2, none⟩ = some (.int .u64 lo) := (blk_cell A4.out 2).trans rfl
  have df0 := blk_frozen A4.out 0
  have df1 := blk_frozen A4.out 1
  have df2 := blk_frozen A4.out 2
  go_wp2_with fail
  refine bodyPost_ret (results_ct rfl _ _ w.heap.size 24 #[.bool false, .int .u64 0, .int .u64 0] (0, 0) _ rfl (by (with_reducible repeat (first | refine blk_drewN ?_ _ | refine blk_drew ?_ | refine blk_alloc ?_ _)); refine blk_put (cs := #[.bool false, .int .u64 0, .int .u64 0]) ?_ 2 _ rfl; refine blk_put (cs := #[.bool false, .int .u64 0, .int .u64 0]) ?_ 1 _ rfl; refine blk_put (cs := #[.bool false, .int .u64 0, .int .u64 0]) ?_ 0 _ rfl; (with_reducible repeat (first | refine blk_drewN ?_ _ | refine blk_drew ?_ | refine blk_alloc ?_ _)); exact Z4.out) Tryd.underlying24 rfl (by kernel_rfl)) rfl ?_
  exact ⟨rfl, by repeat (first | exact W4.out | apply below_alloc | apply pw_below_drewN | apply below_drew1 | refine below_set ?_ (Nat.le_refl _))⟩
set_option maxHeartbeats 4000000 in
set_option maxRecDepth 100000 in
theorem from6d (k : Nat) (n : ByteArray) (hn : n.size ≤ 100) (h8 : rv8 k n = some none) (h6 : rv6 k n = some none) (s : ByteArray) (e : Int) (hr : addr_Reverse.f k true 0 0 = some (s, e)) (w : World) (hLD : Laid w) :
    Calls Tryd.prog 8 #[.string n] w fun e w' => e = .returned (.tuple #[.agg #[.bool false, .int .u64 0, .int .u64 0], .bool false]) ∧ Below w.heap.size w w' := by
  have huA_ := Tryd.underlying24
  have HLD := Aside0.mk hLD
  skip
  have H8 := Aside0.mk h8
  have H6 := Aside0.mk h6
  have HRV := Aside0.mk hr
  clear h8 h6 hr
  clear hLD
  go_enter Tryd.func8, Tryd.ntmps8
  go_wp2_with fail
  with_reducible refine (rv8_none k n hn H8.out _ (HLD.out.below (by repeat (first | exact Below.refl _ _ | apply below_drew | apply below_alloc | apply pw_below_drewN)))).mono ?_
  rintro e w1 ⟨rfl, hb⟩
  have W1 := Aside0.mk (show Below w.heap.size w w1 from Below.trans (below_alloc (Below.refl _ _) _) (rv_below_mono_ hb (by simp)))
  have Z1 := Aside0.mk (show w1.heap[w.heap.size]? = some (.cells #[.bool false, .int .u64 0, .int .u64 0] 24 (0, 0)) from blk_below (blk_new _ _) hb)
  have L1 := Aside0.mk (show w.heap.size < w1.heap.size from blk_lt Z1.out)
  clear hb
  go_wp2_with fail
  with_reducible refine (rv6_none k n hn H6.out _ (HLD.out.below (below_alloc W1.out _))).mono ?_
  rintro e w2 ⟨rfl, hb⟩
  have W2 := Aside0.mk (show Below w.heap.size w w2 from Below.trans (below_alloc W1.out _) (rv_below_mono_ hb (below_alloc W1.out _).size))
  have Z2 := Aside0.mk (show w2.heap[w.heap.size]? = some (.cells #[.bool false, .int .u64 0, .int .u64 0] 24 (0, 0)) from blk_below (blk_alloc Z1.out _) hb)
  have A2 := Aside0.mk (show w2.heap[w1.heap.size]? = some (.cells #[.bool false, .int .u64 0, .int .u64 0] 24 (0, 0)) from blk_below (blk_new _ _) hb)
  have hne : w.heap.size ≠ w1.heap.size := by have := L1.out; omega
  clear hb
  have c0 : w2.cell? ⟨w1.heap.size, 0, none⟩ = some (.bool false) := (blk_cell A2.out 0).trans rfl
  have c1 : w2.cell? ⟨w1.heap.size, 1, none⟩ = some (.int .u64 0) := (blk_cell A2.out 1).trans rfl
  have c2 : w2.cell? ⟨w1.heap.size, 2, none⟩ = some (.int .u64 0) := (blk_cell A2.out 2).trans rfl
  have cf0 := blk_frozen A2.out 0
  have cf1 := blk_frozen A2.out 1
  have cf2 := blk_frozen A2.out 2
  have W3 := Aside0.mk (show Below w.heap.size w ((((w2.setCell ⟨w1.heap.size, 0, none⟩ (.bool false)).setCell ⟨w1.heap.size, 1, none⟩ (.int .u64 0)).setCell ⟨w1.heap.size, 2, none⟩ (.int .u64 0)).setCell ⟨w1.heap.size, 0, none⟩ (.bool true)) from by repeat (first | exact W2.out | refine below_set ?_ (Nat.le_of_lt L1.out)))
  have Z3 := Aside0.mk (show ((((w2.setCell ⟨w1.heap.size, 0, none⟩ (.bool false)).setCell ⟨w1.heap.size, 1, none⟩ (.int .u64 0)).setCell ⟨w1.heap.size, 2, none⟩ (.int .u64 0)).setCell ⟨w1.heap.size, 0, none⟩ (.bool true)).heap[w.heap.size]? = some (.cells #[.bool false, .int .u64 0, .int .u64 0] 24 (0, 0)) from blk_far (blk_far (blk_far (blk_far Z2.out hne _) hne _) hne _) hne _)
  have A3 := Aside0.mk (show ((((w2.setCell ⟨w1.heap.size, 0, none⟩ (.bool false)).setCell ⟨w1.heap.size, 1, none⟩ (.int .u64 0)).setCell ⟨w1.heap.size, 2, none⟩ (.int .u64 0)).setCell ⟨w1.heap.size, 0, none⟩ (.bool true)).heap[w1.heap.size]? = some (.cells #[.bool true, .int .u64 0, .int .u64 0] 24 (0, 0)) from blk_put (blk_put (blk_put (blk_put A2.out 0 (.bool false) rfl) 1 (.int .u64 0) rfl) 2 (.int .u64 0) rfl) 0 (.bool true) rfl)
  go_wp2_with fail
  with_reducible refine (addr_Reverse.calls k true 0 0 s e _ (HLD.out.below W3.out) HRV.out).mono ?_
  rintro e2 w3 ⟨rfl, hb⟩
  have W4 := Aside0.mk (show Below w.heap.size w w3 from Below.trans W3.out (rv_below_mono_ hb W3.out.size))
  have Z4 := Aside0.mk (show w3.heap[w.heap.size]? = some (.cells #[.bool false, .int .u64 0, .int .u64 0] 24 (0, 0)) from blk_below Z3.out hb)
  have A4 := Aside0.mk (show w3.heap[w1.heap.size]? = some (.cells #[.bool true, .int .u64 0, .int .u64 0] 24 (0, 0)) from blk_below A3.out hb)
  clear hb c0 cf0 c1 cf1 c2 cf2
  have z0 : w3.cell? ⟨w.heap.size, 0, none⟩ = some (.bool false) := (blk_cell Z4.out 0).trans rfl
  have z1 : w3.cell? ⟨w.heap.size, 1, none⟩ = some (.int .u64 0) := (blk_cell Z4.out 1).trans rfl
  have z2 : w3.cell? ⟨w.heap.size, 2, none⟩ = some (.int .u64 0) := (blk_cell Z4.out 2).trans rfl
  have zf0 := blk_frozen Z4.out 0
  have zf1 := blk_frozen Z4.out 1
  have zf2 := blk_frozen Z4.out 2
  have d0 : w3.cell? ⟨w1.heap.size, 0, none⟩ = some (.bool true) := (blk_cell A4.out 0).trans rfl
  have d1 : w3.cell? ⟨w1.heap.size, 1, none⟩ = some (.int .u64 0) := (blk_cell A4.out 1).trans rfl
  have d2 : w3.cell? ⟨w1.heap.size, 2, none⟩ = some (.int .u64 0) := (blk_cell A4.out 2).trans rfl
  have df0 := blk_frozen A4.out 0
  have df1 := blk_frozen A4.out 1
  have df2 := blk_frozen A4.out 2
  go_wp2_with fail
  refine bodyPost_ret (results_ct rfl _ _ w.heap.size 24 #[.bool false, .int .u64 0, .int .u64 0] (0, 0) _ rfl (by (with_reducible repeat (first | refine blk_drewN ?_ _ | refine blk_drew ?_ | refine blk_alloc ?_ _)); refine blk_put (cs := #[.bool false, .int .u64 0, .int .u64 0]) ?_ 2 _ rfl; refine blk_put (cs := #[.bool false, .int .u64 0, .int .u64 0]) ?_ 1 _ rfl; refine blk_put (cs := #[.bool false, .int .u64 0, .int .u64 0]) ?_ 0 _ rfl; (with_reducible repeat (first | refine blk_drewN ?_ _ | refine blk_drew ?_ | refine blk_alloc ?_ _)); exact Z4.out) Tryd.underlying24 rfl (by kernel_rfl)) rfl ?_
  exact ⟨rfl, by repeat (first | exact W4.out | apply below_alloc | apply pw_below_drewN | apply below_drew1 | refine below_set ?_ (Nat.le_refl _))⟩
set_option maxHeartbeats 4000000 in
set_option maxRecDepth 100000 in
theorem from_long (n : ByteArray) (hn : n.size > 100) (w : World) :
    Calls Tryd.prog 8 #[.string n] w fun e w' => e = .returned (.tuple #[.agg #[.bool false, .int .u64 0, .int .u64 0], .bool false]) ∧ Below w.heap.size w w' := by
  have huA_ := Tryd.underlying24
  have hni : (100 : Int) < (n.size : Int) := by omega
  go_enter Tryd.func8, Tryd.ntmps8
  go_wp2_with fail
  refine bodyPost_ret (v := .tuple #[.agg #[.bool false, .int .u64 0, .int .u64 0], .bool false]) (by simp [results, Tryd.results8, go_sem]) rfl ⟨rfl, ?_⟩
  repeat (first | exact Below.refl _ _ | apply below_drew | apply below_alloc | apply pw_below_drewN)
def chk (k : Nat) (n : ByteArray) (v : Bool) (hi lo : Int) : Option (Bool × Int × Int × Bool) := (addr_Reverse.f k v hi lo).bind fun p => if p.2 = 0 ∧ p.1.toList = n.toList then some (v, hi, lo, true) else some (false, 0, 0, false)
def from6 (k : Nat) (n : ByteArray) : Option (Int × Int) → Option (Bool × Int × Int × Bool)
  | some a => chk k n true a.1 a.2
  | none => (addr_Reverse.f k true 0 0).bind fun _ => some (false, 0, 0, false)
def from8 (k : Nat) (n : ByteArray) : Option (Int × Int) → Option (Bool × Int × Int × Bool)
  | some a => chk k n false a.1 a.2
  | none => (rv6 k n).bind fun R => from6 k n R
def addr_FromReverse.f (k : Nat) (a0 : ByteArray) : Option (Bool × Int × Int × Bool) := if a0.size > 100 then some (false, 0, 0, false) else (rv8 k a0).bind fun R => from8 k a0 R
theorem rv_bind {α β : Type} {x y : Option α} {f g : α → Option β} (h : LeO x y) (hf : ∀ a, LeO (f a) (g a)) : LeO (x.bind f) (y.bind g) := by
  intro r hr
  obtain ⟨a, ha, hr⟩ := Option.bind_eq_some_iff.mp hr
  exact Option.bind_eq_some_iff.mpr ⟨a, h a ha, hf a r hr⟩
theorem rv_refl {α : Type} (x : Option α) : LeO x x := fun _ h => h
theorem revL_mono {f g : ByteArray → Option (Int × Bool)} (m q : Int) (h : ∀ x, LeO (f x) (g x)) : ∀ (l : List ByteArray) (a : Int × Int), LeO (revL f m q l a) (revL g m q l a)
  | [], a => rv_refl _
  | x :: r, a => by
    unfold revL
    refine rv_bind (h x) (fun p => ?_)
    by_cases hp : p.2 = true
    · rw [if_pos hp, if_pos hp]
      exact revL_mono m q h r _
    · rw [if_neg hp, if_neg hp]
      exact rv_refl _
theorem lit1_mono (s : ByteArray) (k : Nat) : LeO (lit1 k s) (lit1 (k + 1) s) := by
  unfold lit1
  by_cases h : s.size = 1
  · rw [if_pos h, if_pos h]
    exact rv_bind (addr_digit.mono _ k) (fun _ => rv_refl _)
  · rw [if_neg h, if_neg h]
    exact rv_refl _
theorem rv8_mono (n : ByteArray) (k : Nat) : LeO (rv8 k n) (rv8 (k + 1) n) := by
  unfold rv8
  by_cases h : Lib.hasSuffix n.data.toList [46, 105, 110, 45, 97, 100, 100, 114, 46, 97, 114, 112, 97, 46] = true
  · rw [if_pos h, if_pos h]
    exact rv_bind (rv_refl _) (fun l => revL_mono _ _ (fun x => addr_decimal.mono x k) _ _)
  · rw [if_neg h, if_neg h]
    exact rv_refl _
theorem rv6_mono (n : ByteArray) (k : Nat) : LeO (rv6 k n) (rv6 (k + 1) n) := by
  unfold rv6
  by_cases h : Lib.hasSuffix n.data.toList [46, 105, 112, 54, 46, 97, 114, 112, 97, 46] = true
  · rw [if_pos h, if_pos h]
    exact rv_bind (rv_refl _) (fun l => revL_mono _ _ (fun x => lit1_mono x k) _ _)
  · rw [if_neg h, if_neg h]
    exact rv_refl _
theorem chk_mono (n : ByteArray) (v : Bool) (hi lo : Int) (k : Nat) : LeO (chk k n v hi lo) (chk (k + 1) n v hi lo) := by
  unfold chk
  exact rv_bind (addr_Reverse.mono _ _ _ k) (fun _ => rv_refl _)
theorem addr_FromReverse.mono : ∀ a0 k, LeO (addr_FromReverse.f k a0) (addr_FromReverse.f (k + 1) a0) := by
  intro a0 k
  unfold addr_FromReverse.f
  by_cases h : a0.size > 100
  · rw [if_pos h, if_pos h]
    exact rv_refl _
  · rw [if_neg h, if_neg h]
    refine rv_bind (rv8_mono a0 k) (fun R => ?_)
    cases R with
    | some a => exact chk_mono _ _ _ _ k
    | none =>
      refine rv_bind (rv6_mono a0 k) (fun R6 => ?_)
      cases R6 with
      | some a => exact chk_mono _ _ _ _ k
      | none => exact rv_bind (addr_Reverse.mono _ _ _ k) (fun _ => rv_refl _)
theorem addr_FromReverse.calls (k : Nat) (a0 : ByteArray) (r1 : Bool) (r2 : Int) (r3 : Int) (r4 : Bool) (w : World) (hLD : Laid w) (h : addr_FromReverse.f k a0 = some (r1, r2, r3, r4)) :
    Calls Tryd.prog 8 #[.string a0] w fun e w' => e = .returned (.tuple #[.agg #[.bool r1, .int .u64 r2, .int .u64 r3], .bool r4]) ∧ Below w.heap.size w w' := by
  unfold addr_FromReverse.f at h
  by_cases hl : a0.size > 100
  · rw [if_pos hl] at h
    simp only [Option.some.injEq, Prod.mk.injEq] at h
    obtain ⟨rfl, rfl, rfl, rfl⟩ := h
    exact from_long a0 hl w
  · rw [if_neg hl] at h
    have hn : a0.size ≤ 100 := by omega
    obtain ⟨R, h8, h⟩ := Option.bind_eq_some_iff.mp h
    cases R with
    | some a =>
      obtain ⟨hi, lo⟩ := a
      unfold from8 chk at h
      obtain ⟨⟨s, e⟩, hr, h⟩ := Option.bind_eq_some_iff.mp h
      by_cases he : e = 0
      · subst he
        by_cases hs : s.toList = a0.toList
        · rw [if_pos ⟨rfl, hs⟩] at h
          simp only [Option.some.injEq, Prod.mk.injEq] at h
          obtain ⟨rfl, rfl, rfl, rfl⟩ := h
          exact from4a k a0 hn hi lo h8 s hs hr w hLD
        · rw [if_neg (fun hc => hs hc.2)] at h
          simp only [Option.some.injEq, Prod.mk.injEq] at h
          obtain ⟨rfl, rfl, rfl, rfl⟩ := h
          exact from4c k a0 hn hi lo h8 s hs hr w hLD
      · rw [if_neg (fun hc => he hc.1)] at h
        simp only [Option.some.injEq, Prod.mk.injEq] at h
        obtain ⟨rfl, rfl, rfl, rfl⟩ := h
        exact from4b k a0 hn hi lo h8 s e hr he w hLD
    | none =>
      unfold from8 at h
      obtain ⟨R6, h6, h⟩ := Option.bind_eq_some_iff.mp h
      cases R6 with
      | some a =>
        obtain ⟨hi, lo⟩ := a
        unfold from6 chk at h
        obtain ⟨⟨s, e⟩, hr, h⟩ := Option.bind_eq_some_iff.mp h
        by_cases he : e = 0
        · subst he
          by_cases hs : s.toList = a0.toList
          · rw [if_pos ⟨rfl, hs⟩] at h
            simp only [Option.some.injEq, Prod.mk.injEq] at h
            obtain ⟨rfl, rfl, rfl, rfl⟩ := h
            exact from6a k a0 hn hi lo h8 h6 s hs hr w hLD
          · rw [if_neg (fun hc => hs hc.2)] at h
            simp only [Option.some.injEq, Prod.mk.injEq] at h
            obtain ⟨rfl, rfl, rfl, rfl⟩ := h
            exact from6c k a0 hn hi lo h8 h6 s hs hr w hLD
        · rw [if_neg (fun hc => he hc.1)] at h
          simp only [Option.some.injEq, Prod.mk.injEq] at h
          obtain ⟨rfl, rfl, rfl, rfl⟩ := h
          exact from6b k a0 hn hi lo h8 h6 s e hr he w hLD
      | none =>
        unfold from6 at h
        obtain ⟨⟨s, e⟩, hr, h⟩ := Option.bind_eq_some_iff.mp h
        simp only [Option.some.injEq, Prod.mk.injEq] at h
        obtain ⟨rfl, rfl, rfl, rfl⟩ := h
        exact from6d k a0 hn h8 h6 s e hr w hLD


end Go.Proofs.YtmkgjibmfabbdabDoor.PA
