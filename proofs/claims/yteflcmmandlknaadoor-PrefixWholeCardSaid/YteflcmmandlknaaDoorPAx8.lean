/- The Go functions in Lean, with the proofs that the code comes to these answers: printed by this session's program (wip/px) out of the seat's translation. Conditions: each theorem's own. -/
import Derived.Test.YteflcmmandlknaaDoorPAx0
import Derived.Test.YteflcmmandlknaaDoorPAx3
import Derived.Test.YteflcmmandlknaaDoorPAx4
import Derived.Test.YteflcmmandlknaaDoorPAx7
namespace Go.Proofs.YteflcmmandlknaaDoor.PA
open Go.RowKit Go.Proofs.YteflcmmandlknaaDoorW.PrintWords Go.Proofs.YteflcmmandlknaaDoorW.PrintLast Go.Proofs.YteflcmmandlknaaDoorW.PrintMore
attribute [local go_sem] max2_int min2_int max_two min_two max_three min_three max_four min_four   -- for this text's walks alone
attribute [local go_sem ↓] Ext.isSome_setCell
open Press
set_option linter.unusedVariables false
set_option linter.unusedSimpArgs false

/-! ### prefix_Parse: function 12 (given) -/
theorem pp_below_mono_ {B B' : Nat} {w w' : World} (h : Below B w w') (hb : B' ≤ B) : Below B' w w' := ⟨h.os, h.tape, h.output, h.size, fun k hk => h.block k (by omega)⟩
theorem cut1_lite (s : ByteArray) (c : UInt8) (hn : s.size ≤ 4611686018427387904) (w : World) : Calls Tryd.prog 45 #[.string s, .string (⟨#[c]⟩ : ByteArray)] w fun e w' => e = .returned (.tuple #[.string (⟨(Lib.cut s.data.toList [c]).1.toArray⟩ : ByteArray), .string (⟨(Lib.cut s.data.toList [c]).2.1.toArray⟩ : ByteArray), .bool (Lib.cut s.data.toList [c]).2.2]) ∧ ∃ n, w' = w.drewN n := by
  have hone : Lib.index s.data.toList [c] = Lib.indexByte s.data.toList c := Lib.index_one _ _
  rcases Lib.indexB_cases s (⟨#[c]⟩ : ByteArray) with hix | ⟨i, hix, hroom⟩
  · obtain ⟨e1, e2, e3⟩ := Lib.cutB_miss s (⟨#[c]⟩ : ByteArray) hix
    have hix' : Lib.indexByte s.data.toList c = -1 := by rw [← hone]; exact hix
    have e1' : (⟨(Lib.cut s.data.toList [c]).1.toArray⟩ : ByteArray) = _ := e1
    have e2' : (⟨(Lib.cut s.data.toList [c]).2.1.toArray⟩ : ByteArray) = _ := e2
    have e3' : (Lib.cut s.data.toList [c]).2.2 = _ := e3
    rw [e1', e2', e3']
    go_enter Tryd.func45, Tryd.ntmps45
    go_wp2_with fail
    refine (Tryd.stringslite_Index_one s c _).mono ?_
    rintro e w' ⟨rfl, rfl⟩
    rw [hix']
    go_wp2_with fail
    refine bodyPost_ret (v := .tuple #[.string s, .string (⟨#[]⟩ : ByteArray), .bool false]) (by simp [results, Tryd.results45, go_sem]) rfl ⟨rfl, 0, rfl⟩
  · obtain ⟨e1, e2, e3⟩ := Lib.cutB_hit s (⟨#[c]⟩ : ByteArray) i hix
    have hix' : Lib.indexByte s.data.toList c = (i : Int) := by rw [← hone]; exact hix
    have e1' : (⟨(Lib.cut s.data.toList [c]).1.toArray⟩ : ByteArray) = _ := e1
    have e2' : (⟨(Lib.cut s.data.toList [c]).2.1.toArray⟩ : ByteArray) = _ := e2
    have e3' : (Lib.cut s.data.toList [c]).2.2 = _ := e3
    rw [e1', e2', e3']
    have hsz : (⟨#[c]⟩ : ByteArray).size = 1 := rfl
    rw [hsz] at hroom
    have c1 : (0 : Int) ≤ ↑i := by omega
    have c2 : (↑i : Int) ≤ ↑s.size := by omega
    have c3 : (0 : Int) ≤ ↑i + 1 := by omega
    have c4 : (↑i + 1 : Int) ≤ ↑s.size := by omega
    have hwr : wrap64 ((i : Int) + 1) = (i : Int) + 1 := by unfold wrap64; omega
    go_enter Tryd.func45, Tryd.ntmps45
    go_wp2_with fail
    refine (Tryd.stringslite_Index_one s c _).mono ?_
    rintro e w' ⟨rfl, rfl⟩
    rw [hix']
    go_wp2_with fail
    go_region
    go_wp2_with fail
    refine bodyPost_ret (v := .tuple #[.string (s.extract 0 i), .string (s.extract (i + 1) s.size), .bool true]) (by simp [results, Tryd.results45, go_sem]) rfl ⟨rfl, 1, rfl⟩
theorem cut1_calls (s : ByteArray) (c : UInt8) (hn : s.size ≤ 4611686018427387904) (w : World) : Calls Tryd.prog 32 #[.string s, .string (⟨#[c]⟩ : ByteArray)] w fun e w' => e = .returned (.tuple #[.string (⟨(Lib.cut s.data.toList [c]).1.toArray⟩ : ByteArray), .string (⟨(Lib.cut s.data.toList [c]).2.1.toArray⟩ : ByteArray), .bool (Lib.cut s.data.toList [c]).2.2]) ∧ ∃ n, w' = w.drewN n := by
  go_enter Tryd.func32, Tryd.ntmps32
  go_wp2_with fail
  refine (cut1_lite s c hn _).mono ?_
  rintro e w' ⟨rfl, n, rfl⟩
  go_wp2_with fail
  refine bodyPost_ret (v := .tuple #[.string (⟨(Lib.cut s.data.toList [c]).1.toArray⟩ : ByteArray), .string (⟨(Lib.cut s.data.toList [c]).2.1.toArray⟩ : ByteArray), .bool (Lib.cut s.data.toList [c]).2.2]) (by simp [results, Tryd.results32, go_sem]) rfl ⟨rfl, n, rfl⟩
theorem cutp_calls (s a b : ByteArray) (ok : Bool) (hn : s.size ≤ 4611686018427387904) (ha : (⟨(Lib.cut s.data.toList [47]).1.toArray⟩ : ByteArray) = a) (hb : (⟨(Lib.cut s.data.toList [47]).2.1.toArray⟩ : ByteArray) = b) (hk : (Lib.cut s.data.toList [47]).2.2 = ok) (w : World) : Calls Tryd.prog 32 #[.string s, .string (⟨#[47]⟩ : ByteArray)] w fun e w' => e = .returned (.tuple #[.string a, .string b, .bool ok]) ∧ Below w.heap.size w w' := by
  subst ha
  subst hb
  subst hk
  refine (cut1_calls s 47 hn w).mono ?_
  rintro e w' ⟨rfl, n, rfl⟩
  exact ⟨rfl, pw_below_drewN (Below.refl _ _) _⟩
theorem atoi_no (s : ByteArray) (hs : s.size ≤ 281474976710656) (h : ∀ v, Lib.atoiAll s.data.toList ≠ .ok v) (w : World) (hLD : Laid w) : Calls Tryd.prog 34 #[.string s] w fun e w' => ∃ (v : Int) (t : TypeId) (p : Value), e = .returned (.tuple #[.int .i64 v, .iface t p]) ∧ Below w.heap.size w w' := by
  cases ha : Lib.atoiAll s.data.toList with
  | ok v => exact absurd ha (h v)
  | range =>
    obtain ⟨tp, p, hv⟩ := hLD.erng
    refine (Tryd.strconv_Atoi_range_var s hs ha tp p w hv).mono ?_
    rintro e w' ⟨N, rfl, _, _, hb⟩
    exact ⟨_, _, _, rfl, hb⟩
  | _ =>
    obtain ⟨tp, p, hv⟩ := hLD.esyn
    refine (Tryd.strconv_Atoi_syntax_var s hs ha tp p w hv).mono ?_
    rintro e w' ⟨N, rfl, _, _, hb⟩
    exact ⟨_, _, _, rfl, hb⟩
theorem atoi_yes (s : ByteArray) (hs : s.size ≤ 281474976710656) (v : Int) (h : Lib.atoiAll s.data.toList = .ok v) (w : World) : Calls Tryd.prog 34 #[.string s] w fun e w' => e = .returned (.tuple #[.int .i64 v, .nilIface]) ∧ Below w.heap.size w w' := by
  refine (Tryd.strconv_Atoi_ok s (by omega) v h w).mono ?_
  rintro e w' ⟨rfl, hw⟩
  refine ⟨rfl, ?_⟩
  rcases hw with rfl | ⟨t, rfl⟩
  · exact Below.refl _ _
  · exact Joins.below_bytesWorld _ _ _ _ (Nat.le_refl _)
set_option maxHeartbeats 4000000 in
set_option maxRecDepth 100000 in
theorem Parse_a (k : Nat) (s a n : ByteArray) (hs : s.size ≤ 140737488355328) (ha : (⟨(Lib.cut s.data.toList [47]).1.toArray⟩ : ByteArray) = a) (hb : (⟨(Lib.cut s.data.toList [47]).2.1.toArray⟩ : ByteArray) = n) (hk : (Lib.cut s.data.toList [47]).2.2 = false) (w : World) (hLD : Laid w) :
    Calls Tryd.prog 12 #[.string s] w fun e w' => e = .returned (.tuple #[.agg #[.bool false, .int .u64 0, .int .u64 0, .int .i64 0], .int .i64 3]) ∧ Below w.heap.size w w' := by
  have huA_ := Tryd.underlying24
  have huP_ := Tryd.underlying26
  have HLD := Aside0.mk hLD
  have HA := Aside0.mk ha
  have HB := Aside0.mk hb
  have HK := Aside0.mk hk
  clear hLD ha hb hk
  go_enter Tryd.func12, Tryd.ntmps12
  go_wp2_with fail
  with_reducible refine (cutp_calls s a n false (by omega) HA.out HB.out HK.out _).mono ?_
  rintro e w1 ⟨rfl, hb⟩
  have W1 := Aside0.mk (show Below w.heap.size w w1 from Below.trans (below_alloc (Below.refl _ _) _) (pp_below_mono_ hb (by simp)))
  have Z1 := Aside0.mk (show w1.heap[w.heap.size]? = some (.cells #[.bool false, .int .u64 0, .int .u64 0, .int .i64 0] 26 (0, 0)) from blk_below (blk_new _ _) hb)
  clear hb
  have z0 : w1.cell? ⟨w.heap.size, 0, none⟩ = some (.bool false) := (blk_cell Z1.out 0).trans rfl
  have zf0 := blk_frozen Z1.out 0
  have z1 : w1.cell? ⟨w.heap.size, 1, none⟩ = some (.int .u64 0) := (blk_cell Z1.out 1).trans rfl
  have zf1 := blk_frozen Z1.out 1
  have z2 : w1.cell? ⟨w.heap.size, 2, none⟩ = some (.int .u64 0) := (blk_cell Z1.out 2).trans rfl
  have zf2 := blk_frozen Z1.out 2
  have z3 : w1.cell? ⟨w.heap.size, 3, none⟩ = some (.int .i64 0) := (blk_cell Z1.out 3).trans rfl
  have zf3 := blk_frozen Z1.out 3
  go_wp2_with fail
  refine bodyPost_ret (results_ct rfl _ _ w.heap.size 26 #[.bool false, .int .u64 0, .int .u64 0, .int .i64 0] (0, 0) _ rfl (by (with_reducible repeat (first | refine blk_drewN ?_ _ | refine blk_drew ?_ | refine blk_alloc ?_ _)); refine blk_put (cs := #[.bool false, .int .u64 0, .int .u64 0, .int .i64 0]) ?_ 3 _ rfl; refine blk_put (cs := #[.bool false, .int .u64 0, .int .u64 0, .int .i64 0]) ?_ 2 _ rfl; refine blk_put (cs := #[.bool false, .int .u64 0, .int .u64 0, .int .i64 0]) ?_ 1 _ rfl; refine blk_put (cs := #[.bool false, .int .u64 0, .int .u64 0, .int .i64 0]) ?_ 0 _ rfl; (with_reducible repeat (first | refine blk_drewN ?_ _ | refine blk_drew ?_ | refine blk_alloc ?_ _)); exact Z1.out) Tryd.underlying26 rfl (by kernel_rfl)) rfl ?_
  exact ⟨rfl, by repeat (first | exact W1.out | apply below_alloc | apply pw_below_drewN | apply below_drew1 | refine below_set ?_ (Nat.le_refl _))⟩
set_option maxHeartbeats 4000000 in
set_option maxRecDepth 100000 in
theorem Parse_b (k : Nat) (s a n : ByteArray) (hs : s.size ≤ 140737488355328) (ha : (⟨(Lib.cut s.data.toList [47]).1.toArray⟩ : ByteArray) = a) (hb : (⟨(Lib.cut s.data.toList [47]).2.1.toArray⟩ : ByteArray) = n) (hk : (Lib.cut s.data.toList [47]).2.2 = true) (v : Bool) (hi lo : Int) (e : Int) (hp : addr_Parse.f k a = some (v, hi, lo, e)) (he : ¬ e = 0) (w : World) (hLD : Laid w) :
    Calls Tryd.prog 12 #[.string s] w fun e w' => e = .returned (.tuple #[.agg #[.bool false, .int .u64 0, .int .u64 0, .int .i64 0], .int .i64 3]) ∧ Below w.heap.size w w' := by
  have huA_ := Tryd.underlying24
  have huP_ := Tryd.underlying26
  have HLD := Aside0.mk hLD
  have HA := Aside0.mk ha
  have HB := Aside0.mk hb
  have HK := Aside0.mk hk
  have HP := Aside0.mk hp
  clear hLD ha hb hk hp
  go_enter Tryd.func12, Tryd.ntmps12
  go_wp2_with fail
  with_reducible refine (cutp_calls s a n true (by omega) HA.out HB.out HK.out _).mono ?_
  rintro e w1 ⟨rfl, hb⟩
  have W1 := Aside0.mk (show Below w.heap.size w w1 from Below.trans (below_alloc (Below.refl _ _) _) (pp_below_mono_ hb (by simp)))
  have Z1 := Aside0.mk (show w1.heap[w.heap.size]? = some (.cells #[.bool false, .int .u64 0, .int .u64 0, .int .i64 0] 26 (0, 0)) from blk_below (blk_new _ _) hb)
  clear hb
  go_wp2_with fail
  with_reducible refine (addr_Parse.calls k a v hi lo e _ (HLD.out.below W1.out) HP.out).mono ?_
  rintro e1 w2 ⟨rfl, hb⟩
  have W2 := Aside0.mk (show Below w.heap.size w w2 from Below.trans W1.out (pp_below_mono_ hb W1.out.size))
  have Z2 := Aside0.mk (show w2.heap[w.heap.size]? = some (.cells #[.bool false, .int .u64 0, .int .u64 0, .int .i64 0] 26 (0, 0)) from blk_below Z1.out hb)
  have n2 : w.heap.size ≠ w2.heap.size := Nat.ne_of_lt (blk_lt Z2.out)
  have n2s : w2.heap.size ≠ w.heap.size := n2.symm
  clear hb
  have Z2a := Aside0.mk (show (w2.alloc (.cells #[.bool v, .int .u64 hi, .int .u64 lo] 24)).heap[w.heap.size]? = some (.cells #[.bool false, .int .u64 0, .int .u64 0, .int .i64 0] 26 (0, 0)) from blk_alloc Z2.out _)
  have z0 : (w2.alloc (.cells #[.bool v, .int .u64 hi, .int .u64 lo] 24)).cell? ⟨w.heap.size, 0, none⟩ = some (.bool false) := (blk_cell Z2a.out 0).trans rfl
  have zf0 := blk_frozen Z2a.out 0
  have z1 : (w2.alloc (.cells #[.bool v, .int .u64 hi, .int .u64 lo] 24)).cell? ⟨w.heap.size, 1, none⟩ = some (.int .u64 0) := (blk_cell Z2a.out 1).trans rfl
  have zf1 := blk_frozen Z2a.out 1
  have z2 : (w2.alloc (.cells #[.bool v, .int .u64 hi, .int .u64 lo] 24)).cell? ⟨w.heap.size, 2, none⟩ = some (.int .u64 0) := (blk_cell Z2a.out 2).trans rfl
  have zf2 := blk_frozen Z2a.out 2
  have z3 : (w2.alloc (.cells #[.bool v, .int .u64 hi, .int .u64 lo] 24)).cell? ⟨w.heap.size, 3, none⟩ = some (.int .i64 0) := (blk_cell Z2a.out 3).trans rfl
  have zf3 := blk_frozen Z2a.out 3
  go_wp2_with fail
  refine bodyPost_ret (results_ct rfl _ _ w.heap.size 26 #[.bool false, .int .u64 0, .int .u64 0, .int .i64 0] (0, 0) _ rfl (by (with_reducible repeat (first | refine blk_drewN ?_ _ | refine blk_drew ?_ | refine blk_alloc ?_ _)); refine blk_put (cs := #[.bool false, .int .u64 0, .int .u64 0, .int .i64 0]) ?_ 3 _ rfl; refine blk_put (cs := #[.bool false, .int .u64 0, .int .u64 0, .int .i64 0]) ?_ 2 _ rfl; refine blk_put (cs := #[.bool false, .int .u64 0, .int .u64 0, .int .i64 0]) ?_ 1 _ rfl; refine blk_put (cs := #[.bool false, .int .u64 0, .int .u64 0, .int .i64 0]) ?_ 0 _ rfl; (with_reducible repeat (first | refine blk_drewN ?_ _ | refine blk_drew ?_ | refine blk_alloc ?_ _)); exact Z2.out) Tryd.underlying26 rfl (by kernel_rfl)) rfl ?_
  exact ⟨rfl, by repeat (first | exact W2.out | apply below_alloc | apply pw_below_drewN | apply below_drew1 | refine below_set ?_ (Nat.le_refl _))⟩
set_option maxHeartbeats 4000000 in
set_option maxRecDepth 100000 in
theorem Parse_c (k : Nat) (s a n : ByteArray) (hs : s.size ≤ 140737488355328) (ha : (⟨(Lib.cut s.data.toList [47]).1.toArray⟩ : ByteArray) = a) (hb : (⟨(Lib.cut s.data.toList [47]).2.1.toArray⟩ : ByteArray) = n) (hk : (Lib.cut s.data.toList [47]).2.2 = true) (v : Bool) (hi lo : Int) (hp : addr_Parse.f k a = some (v, hi, lo, 0)) (hz : n.size ≤ 140737488355328) (hat : ∀ v, Lib.atoiAll n.data.toList ≠ .ok v) (w : World) (hLD : Laid w) :
    Calls Tryd.prog 12 #[.string s] w fun e w' => e = .returned (.tuple #[.agg #[.bool false, .int .u64 0, .int .u64 0, .int .i64 0], .int .i64 3]) ∧ Below w.heap.size w w' := by
  have huA_ := Tryd.underlying24
  have huP_ := Tryd.underlying26
  have HLD := Aside0.mk hLD
  have HA := Aside0.mk ha
  have HB := Aside0.mk hb
  have HK := Aside0.mk hk
  have HP := Aside0.mk hp
  have HT := Aside0.mk hat
  clear hLD ha hb hk hp hat
  go_enter Tryd.func12, Tryd.ntmps12
  go_wp2_with fail
  with_reducible refine (cutp_calls s a n true (by omega) HA.out HB.out HK.out _).mono ?_
  rintro e w1 ⟨rfl, hb⟩
  have W1 := Aside0.mk (show Below w.heap.size w w1 from Below.trans (below_alloc (Below.refl _ _) _) (pp_below_mono_ hb (by simp)))
  have Z1 := Aside0.mk (show w1.heap[w.heap.size]? = some (.cells #[.bool false, .int .u64 0, .int .u64 0, .int .i64 0] 26 (0, 0)) from blk_below (blk_new _ _) hb)
  clear hb
  go_wp2_with fail
  with_reducible refine (addr_Parse.calls k a v hi lo 0 _ (HLD.out.below W1.out) HP.out).mono ?_
  rintro e1 w2 ⟨rfl, hb⟩
  have W2 := Aside0.mk (show Below w.heap.size w w2 from Below.trans W1.out (pp_below_mono_ hb W1.out.size))
  have Z2 := Aside0.mk (show w2.heap[w.heap.size]? = some (.cells #[.bool false, .int .u64 0, .int .u64 0, .int .i64 0] 26 (0, 0)) from blk_below Z1.out hb)
  have n2 : w.heap.size ≠ w2.heap.size := Nat.ne_of_lt (blk_lt Z2.out)
  have n2s : w2.heap.size ≠ w.heap.size := n2.symm
  clear hb
  go_wp2_with fail
  refine (atoi_no n (by omega) HT.out _ (HLD.out.below (below_alloc W2.out _))).mono ?_
  rintro e1 w3 ⟨b, ti, pv, rfl, hb⟩
  have W3 := Aside0.mk (show Below w.heap.size w w3 from Below.trans (below_alloc W2.out _) (pp_below_mono_ hb (below_alloc W2.out _).size))
  have Z3 := Aside0.mk (show w3.heap[w.heap.size]? = some (.cells #[.bool false, .int .u64 0, .int .u64 0, .int .i64 0] 26 (0, 0)) from blk_below (blk_alloc Z2.out _) hb)
  clear hb
  have z0 : w3.cell? ⟨w.heap.size, 0, none⟩ = some (.bool false) := (blk_cell Z3.out 0).trans rfl
  have zf0 := blk_frozen Z3.out 0
  have z1 : w3.cell? ⟨w.heap.size, 1, none⟩ = some (.int .u64 0) := (blk_cell Z3.out 1).trans rfl
  have zf1 := blk_frozen Z3.out 1
  have z2 : w3.cell? ⟨w.heap.size, 2, none⟩ = some (.int .u64 0) := (blk_cell Z3.out 2).trans rfl
  have zf2 := blk_frozen Z3.out 2
  have z3 : w3.cell? ⟨w.heap.size, 3, none⟩ = some (.int .i64 0) := (blk_cell Z3.out 3).trans rfl
  have zf3 := blk_frozen Z3.out 3
  go_wp2_with fail
  refine bodyPost_ret (results_ct rfl _ _ w.heap.size 26 #[.bool false, .int .u64 0, .int .u64 0, .int .i64 0] (0, 0) _ rfl (by (with_reducible repeat (first | refine blk_drewN ?_ _ | refine blk_drew ?_ | refine blk_alloc ?_ _)); refine blk_put (cs := #[.bool false, .int .u64 0, .int .u64 0, .int .i64 0]) ?_ 3 _ rfl; refine blk_put (cs := #[.bool false, .int .u64 0, .int .u64 0, .int .i64 0]) ?_ 2 _ rfl; refine blk_put (cs := #[.bool false, .int .u64 0, .int .u64 0, .int .i64 0]) ?_ 1 _ rfl; refine blk_put (cs := #[.bool false, .int .u64 0, .int .u64 0, .int .i64 0]) ?_ 0 _ rfl; (with_reducible repeat (first | refine blk_drewN ?_ _ | refine blk_drew ?_ | refine blk_alloc ?_ _)); exact Z3.out) Tryd.underlying26 rfl (by kernel_rfl)) rfl ?_
  exact ⟨rfl, by repeat (first | exact W3.out | apply below_alloc | apply pw_below_drewN | apply below_drew1 | refine below_set ?_ (Nat.le_refl _))⟩
set_option maxHeartbeats 4000000 in
set_option maxRecDepth 100000 in
theorem Parse_d (k : Nat) (s a n : ByteArray) (hs : s.size ≤ 140737488355328) (ha : (⟨(Lib.cut s.data.toList [47]).1.toArray⟩ : ByteArray) = a) (hb : (⟨(Lib.cut s.data.toList [47]).2.1.toArray⟩ : ByteArray) = n) (hk : (Lib.cut s.data.toList [47]).2.2 = true) (v : Bool) (hi lo : Int) (hp : addr_Parse.f k a = some (v, hi, lo, 0)) (hz : n.size ≤ 140737488355328) (b : Int) (hat : Lib.atoiAll n.data.toList = .ok b) (m : ByteArray) (hit : strconv_Itoa.f b = some m) (hne : ¬ m.toList = n.toList) (w : World) (hLD : Laid w) :
    Calls Tryd.prog 12 #[.string s] w fun e w' => e = .returned (.tuple #[.agg #[.bool false, .int .u64 0, .int .u64 0, .int .i64 0], .int .i64 3]) ∧ Below w.heap.size w w' := by
  have huA_ := Tryd.underlying24
  have huP_ := Tryd.underlying26
  have HLD := Aside0.mk hLD
  have HA := Aside0.mk ha
  have HB := Aside0.mk hb
  have HK := Aside0.mk hk
  have HP := Aside0.mk hp
  have HT := Aside0.mk hat
  have HI := Aside0.mk hit
  have hs2 : (m.toList == n.toList) = false := beq_eq_false_iff_ne.mpr hne
  clear hLD ha hb hk hp hat hit hne
  go_enter Tryd.func12, Tryd.ntmps12
  go_wp2_with fail
  with_reducible refine (cutp_calls s a n true (by omega) HA.out HB.out HK.out _).mono ?_
  rintro e w1 ⟨rfl, hb⟩
  have W1 := Aside0.mk (show Below w.heap.size w w1 from Below.trans (below_alloc (Below.refl _ _) _) (pp_below_mono_ hb (by simp)))
  have Z1 := Aside0.mk (show w1.heap[w.heap.size]? = some (.cells #[.bool false, .int .u64 0, .int .u64 0, .int .i64 0] 26 (0, 0)) from blk_below (blk_new _ _) hb)
  clear hb
  go_wp2_with fail
  with_reducible refine (addr_Parse.calls k a v hi lo 0 _ (HLD.out.below W1.out) HP.out).mono ?_
  rintro e1 w2 ⟨rfl, hb⟩
  have W2 := Aside0.mk (show Below w.heap.size w w2 from Below.trans W1.out (pp_below_mono_ hb W1.out.size))
  have Z2 := Aside0.mk (show w2.heap[w.heap.size]? = some (.cells #[.bool false, .int .u64 0, .int .u64 0, .int .i64 0] 26 (0, 0)) from blk_below Z1.out hb)
  have n2 : w.heap.size ≠ w2.heap.size := Nat.ne_of_lt (blk_lt Z2.out)
  have n2s : w2.heap.size ≠ w.heap.size := n2.symm
  clear hb
  go_wp2_with fail
  refine (atoi_yes n (by omega) b HT.out _).mono ?_
  rintro e1 w3 ⟨rfl, hb⟩
  have W3 := Aside0.mk (show Below w.heap.size w w3 from Below.trans (below_alloc W2.out _) (pp_below_mono_ hb (below_alloc W2.out _).size))
  have Z3 := Aside0.mk (show w3.heap[w.heap.size]? = some (.cells #[.bool false, .int .u64 0, .int .u64 0, .int .i64 0] 26 (0, 0)) from blk_below (blk_alloc Z2.out _) hb)
  have A3 := Aside0.mk (show w3.heap[w2.heap.size]? = some (.cells #[.bool v, .int .u64 hi, .int .u64 lo] 24 (0, 0)) from blk_below (blk_new _ _) hb)
  clear hb
  go_wp2_with fail
  with_reducible refine (strconv_Itoa.calls b m _ (HLD.out.below W3.out) HI.out).mono ?_
  rintro e1 w4 ⟨rfl, hb⟩
  have W4 := Aside0.mk (show Below w.heap.size w w4 from Below.trans W3.out (pp_below_mono_ hb W3.out.size))
  have Z4 := Aside0.mk (show w4.heap[w.heap.size]? = some (.cells #[.bool false, .int .u64 0, .int .u64 0, .int .i64 0] 26 (0, 0)) from blk_below Z3.out hb)
  have A4 := Aside0.mk (show w4.heap[w2.heap.size]? = some (.cells #[.bool v, .int .u64 hi, .int .u64 lo] 24 (0, 0)) from blk_below A3.out hb)
  have n4 : w.heap.size ≠ w4.heap.size := Nat.ne_of_lt (blk_lt Z4.out)
  have n4s : w4.heap.size ≠ w.heap.size := n4.symm
  have m4 : w2.heap.size ≠ w4.heap.size := Nat.ne_of_lt (blk_lt A4.out)
  have m4s : w4.heap.size ≠ w2.heap.size := m4.symm
  clear hb
  have z0 : w4.cell? ⟨w.heap.size, 0, none⟩ = some (.bool false) := (blk_cell Z4.out 0).trans rfl
  have zf0 := blk_frozen Z4.out 0
  have z1 : w4.cell? ⟨w.heap.size, 1, none⟩ = some (.int .u64 0) := (blk_cell Z4.out 1).trans rfl
  have zf1 := blk_frozen Z4.out 1
  have z2 : w4.cell? ⟨w.heap.size, 2, none⟩ = some (.int .u64 0) := (blk_cell Z4.out 2).trans rfl
  have zf2 := blk_frozen Z4.out 2
  have z3 : w4.cell? ⟨w.heap.size, 3, none⟩ = some (.int .i64 0) := (blk_cell Z4.out 3).trans rfl
  have zf3 := blk_frozen Z4.out 3
  go_wp2_with fail
  refine bodyPost_ret (results_ct rfl _ _ w.heap.size 26 #[.bool false, .int .u64 0, .int .u64 0, .int .i64 0] (0, 0) _ rfl (by (with_reducible repeat (first | refine blk_drewN ?_ _ | refine blk_drew ?_ | refine blk_alloc ?_ _)); refine blk_put (cs := #[.bool false, .int .u64 0, .int .u64 0, .int .i64 0]) ?_ 3 _ rfl; refine blk_put (cs := #[.bool false, .int .u64 0, .int .u64 0, .int .i64 0]) ?_ 2 _ rfl; refine blk_put (cs := #[.bool false, .int .u64 0, .int .u64 0, .int .i64 0]) ?_ 1 _ rfl; refine blk_put (cs := #[.bool false, .int .u64 0, .int .u64 0, .int .i64 0]) ?_ 0 _ rfl; (with_reducible repeat (first | refine blk_drewN ?_ _ | refine blk_drew ?_ | refine blk_alloc ?_ _)); exact Z4.out) Tryd.underlying26 rfl (by kernel_rfl)) rfl ?_
  exact ⟨rfl, by repeat (first | exact W4.out | apply below_alloc | apply pw_below_drewN | apply below_drew1 | refine below_set ?_ (Nat.le_refl _))⟩
set_option maxHeartbeats 4000000 in
set_option maxRecDepth 100000 in
theorem Parse_e (k : Nat) (s a n : ByteArray) (hs : s.size ≤ 140737488355328) (ha : (⟨(Lib.cut s.data.toList [47]).1.toArray⟩ : ByteArray) = a) (hb : (⟨(Lib.cut s.data.toList [47]).2.1.toArray⟩ : ByteArray) = n) (hk : (Lib.cut s.data.toList [47]).2.2 = true) (v : Bool) (hi lo : Int) (hp : addr_Parse.f k a = some (v, hi, lo, 0)) (hz : n.size ≤ 140737488355328) (b : Int) (hat : Lib.atoiAll n.data.toList = .ok b) (m : ByteArray) (hit : strconv_Itoa.f b = some m) (hne : m.toList = n.toList) (hv : prefix_Valid.f v hi lo b = some false) (w : World) (hLD : Laid w) :
    Calls Tryd.prog 12 #[.string s] w fun e w' => e = .returned (.tuple #[.agg #[.bool false, .int .u64 0, .int .u64 0, .int .i64 0], .int .i64 3]) ∧ Below w.heap.size w w' := by
  have huA_ := Tryd.underlying24
  have huP_ := Tryd.underlying26
  have HLD := Aside0.mk hLD
  have HA := Aside0.mk ha
  have HB := Aside0.mk hb
  have HK := Aside0.mk hk
  have HP := Aside0.mk hp
  have HT := Aside0.mk hat
  have HI := Aside0.mk hit
  have hs2 : (m.toList == n.toList) = true := beq_iff_eq.mpr hne
  have HV := Aside0.mk hv
  clear hLD ha hb hk hp hat hit hne hv
  go_enter Tryd.func12, Tryd.ntmps12
  go_wp2_with fail
  with_reducible refine (cutp_calls s a n true (by omega) HA.out HB.out HK.out _).mono ?_
  rintro e w1 ⟨rfl, hb⟩
  have W1 := Aside0.mk (show Below w.heap.size w w1 from Below.trans (below_alloc (Below.refl _ _) _) (pp_below_mono_ hb (by simp)))
  have Z1 := Aside0.mk (show w1.heap[w.heap.size]? = some (.cells #[.bool false, .int .u64 0, .int .u64 0, .int .i64 0] 26 (0, 0)) from blk_below (blk_new _ _) hb)
  clear hb
  go_wp2_with fail
  with_reducible refine (addr_Parse.calls k a v hi lo 0 _ (HLD.out.below W1.out) HP.out).mono ?_
  rintro e1 w2 ⟨rfl, hb⟩
  have W2 := Aside0.mk (show Below w.heap.size w w2 from Below.trans W1.out (pp_below_mono_ hb W1.out.size))
  have Z2 := Aside0.mk (show w2.heap[w.heap.size]? = some (.cells #[.bool false, .int .u64 0, .int .u64 0, .int .i64 0] 26 (0, 0)) from blk_below Z1.out hb)
  have n2 : w.heap.size ≠ w2.heap.size := Nat.ne_of_lt (blk_lt Z2.out)
  have n2s : w2.heap.size ≠ w.heap.size := n2.symm
  clear hb
  go_wp2_with fail
  refine (atoi_yes n (by omega) b HT.out _).mono ?_
  rintro e1 w3 ⟨rfl, hb⟩
  have W3 := Aside0.mk (show Below w.heap.size w w3 from Below.trans (below_alloc W2.out _) (pp_below_mono_ hb (below_alloc W2.out _).size))
  have Z3 := Aside0.mk (show w3.heap[w.heap.size]? = some (.cells #[.bool false, .int .u64 0, .int .u64 0, .int .i64 0] 26 (0, 0)) from blk_below (blk_alloc Z2.out _) hb)
  have A3 := Aside0.mk (show w3.heap[w2.heap.size]? = some (.cells #[.bool v, .int .u64 hi, .int .u64 lo] 24 (0, 0)) from blk_below (blk_new _ _) hb)
  clear hb
  go_wp2_with fail
  with_reducible refine (strconv_Itoa.calls b m _ (HLD.out.below W3.out) HI.out).mono ?_
  rintro e1 w4 ⟨rfl, hb⟩
  have W4 := Aside0.mk (show Below w.heap.size w w4 from Below.trans W3.out (pp_below_mono_ hb W3.out.size))
  have Z4 := Aside0.mk (show w4.heap[w.heap.size]? = some (.cells #[.bool false, .int .u64 0, .int .u64 0, .int .i64 0] 26 (0, 0)) from blk_below Z3.out hb)
  have A4 := Aside0.mk (show w4.heap[w2.heap.size]? = some (.cells #[.bool v, .int .u64 hi, .int .u64 lo] 24 (0, 0)) from blk_below A3.out hb)
  have n4 : w.heap.size ≠ w4.heap.size := Nat.ne_of_lt (blk_lt Z4.out)
  have n4s : w4.heap.size ≠ w.heap.size := n4.symm
  have m4 : w2.heap.size ≠ w4.heap.size := Nat.ne_of_lt (blk_lt A4.out)
  have m4s : w4.heap.size ≠ w2.heap.size := m4.symm
  clear hb
  have c0 : w4.cell? ⟨w2.heap.size, 0, none⟩ = some (.bool v) := (blk_cell A4.out 0).trans rfl
  have c1 : w4.cell? ⟨w2.heap.size, 1, none⟩ = some (.int .u64 hi) := (blk_cell A4.out 1).trans rfl
  have c2 : w4.cell? ⟨w2.heap.size, 2, none⟩ = some (.int .u64 lo) := (blk_cell A4.out 2).trans rfl
  go_wp2_with fail
  with_reducible refine (prefix_Valid.calls v hi lo b false _ HV.out).mono ?_
  rintro e1 w5 ⟨rfl, hb⟩
  have W5 := Aside0.mk (show Below w.heap.size w w5 from Below.trans (below_alloc W4.out _) (pp_below_mono_ hb (below_alloc W4.out _).size))
  have Z5 := Aside0.mk (show w5.heap[w.heap.size]? = some (.cells #[.bool false, .int .u64 0, .int .u64 0, .int .i64 0] 26 (0, 0)) from blk_below (blk_alloc Z4.out _) hb)
  have A5 := Aside0.mk (show w5.heap[w4.heap.size]? = some (.cells #[.bool v, .int .u64 hi, .int .u64 lo, .int .i64 b] 26 (0, 0)) from blk_below (blk_new _ _) hb)
  clear hb c0 c1 c2
  have z0 : w5.cell? ⟨w.heap.size, 0, none⟩ = some (.bool false) := (blk_cell Z5.out 0).trans rfl
  have zf0 := blk_frozen Z5.out 0
  have z1 : w5.cell? ⟨w.heap.size, 1, none⟩ = some (.int .u64 0) := (blk_cell Z5.out 1).trans rfl
  have zf1 := blk_frozen Z5.out 1
  have z2 : w5.cell? ⟨w.heap.size, 2, none⟩ = some (.int .u64 0) := (blk_cell Z5.out 2).trans rfl
  have zf2 := blk_frozen Z5.out 2
  have z3 : w5.cell? ⟨w.heap.size, 3, none⟩ = some (.int .i64 0) := (blk_cell Z5.out 3).trans rfl
  have zf3 := blk_frozen Z5.out 3
  have d0 : w5.cell? ⟨w4.heap.size, 0, none⟩ = some (.bool v) := (blk_cell A5.out 0).trans rfl
  have d1 : w5.cell? ⟨w4.heap.size, 1, none⟩ = some (.int .u64 hi) := (blk_cell A5.out 1).trans rfl
  have d2 : w5.cell? ⟨w4.heap.size, 2, none⟩ = some (.int .u64 lo) := (blk_cell A5.out 2).trans rfl
  have d3 : w5.cell? ⟨w4.heap.size, 3, none⟩ = some (.int .i64 b) := (blk_cell A5.out 3).trans rfl
  go_wp2_with fail
  refine bodyPost_ret (results_ct rfl _ _ w.heap.size 26 #[.bool false, .int .u64 0, .int .u64 0, .int .i64 0] (0, 0) _ rfl (by (with_reducible repeat (first | refine blk_drewN ?_ _ | refine blk_drew ?_ | refine blk_alloc ?_ _)); refine blk_put (cs := #[.bool false, .int .u64 0, .int .u64 0, .int .i64 0]) ?_ 3 _ rfl; refine blk_put (cs := #[.bool false, .int .u64 0, .int .u64 0, .int .i64 0]) ?_ 2 _ rfl; refine blk_put (cs := #[.bool false, .int .u64 0, .int .u64 0, .int .i64 0]) ?_ 1 _ rfl; refine blk_put (cs := #[.bool false, .int .u64 0, .int .u64 0, .int .i64 0]) ?_ 0 _ rfl; (with_reducible repeat (first | refine blk_drewN ?_ _ | refine blk_drew ?_ | refine blk_alloc ?_ _)); exact Z5.out) Tryd.underlying26 rfl (by kernel_rfl)) rfl ?_
  exact ⟨rfl, by repeat (first | exact W5.out | apply below_alloc | apply pw_below_drewN | apply below_drew1 | refine below_set ?_ (Nat.le_refl _))⟩
set_option maxHeartbeats 4000000 in
set_option maxRecDepth 100000 in
theorem Parse_f (k : Nat) (s a n : ByteArray) (hs : s.size ≤ 140737488355328) (ha : (⟨(Lib.cut s.data.toList [47]).1.toArray⟩ : ByteArray) = a) (hb : (⟨(Lib.cut s.data.toList [47]).2.1.toArray⟩ : ByteArray) = n) (hk : (Lib.cut s.data.toList [47]).2.2 = true) (v : Bool) (hi lo : Int) (hp : addr_Parse.f k a = some (v, hi, lo, 0)) (hz : n.size ≤ 140737488355328) (b : Int) (hat : Lib.atoiAll n.data.toList = .ok b) (m : ByteArray) (hit : strconv_Itoa.f b = some m) (hne : m.toList = n.toList) (hv : prefix_Valid.f v hi lo b = some true) (w : World) (hLD : Laid w) :
    Calls Tryd.prog 12 #[.string s] w fun e w' => e = .returned (.tuple #[.agg #[.bool v, .int .u64 hi, .int .u64 lo, .int .i64 b], .int .i64 0]) ∧ Below w.heap.size w w' := by
  have huA_ := Tryd.underlying24
  have huP_ := Tryd.underlying26
  have HLD := Aside0.mk hLD
  have HA := Aside0.mk ha
  have HB := Aside0.mk hb
  have HK := Aside0.mk hk
  have HP := Aside0.mk hp
  have HT := Aside0.mk hat
  have HI := Aside0.mk hit
  have hs2 : (m.toList == n.toList) = true := beq_iff_eq.mpr hne
  have HV := Aside0.mk hv
  clear hLD ha hb hk hp hat hit hne hv
  go_enter Tryd.func12, Tryd.ntmps12
  go_wp2_with fail
  with_reducible refine (cutp_calls s a n true (by omega) HA.out HB.out HK.out _).mono ?_
  rintro e w1 ⟨rfl, hb⟩
  have W1 := Aside0.mk (show Below w.heap.size w w1 from Below.trans (below_alloc (Below.refl _ _) _) (pp_below_mono_ hb (by simp)))
  have Z1 := Aside0.mk (show w1.heap[w.heap.size]? = some (.cells #[.bool false, .int .u64 0, .int .u64 0, .int .i64 0] 26 (0, 0)) from blk_below (blk_new _ _) hb)
  clear hb
  go_wp2_with fail
  with_reducible refine (addr_Parse.calls k a v hi lo 0 _ (HLD.out.below W1.out) HP.out).mono ?_
  rintro e1 w2 ⟨rfl, hb⟩
  have W2 := Aside0.mk (show Below w.heap.size w w2 from Below.trans W1.out (pp_below_mono_ hb W1.out.size))
  have Z2 := Aside0.mk (show w2.heap[w.heap.size]? = some (.cells #[.bool false, .int .u64 0, .int .u64 0, .int .i64 0] 26 (0, 0)) from blk_below Z1.out hb)
  have n2 : w.heap.size ≠ w2.heap.size := Nat.ne_of_lt (blk_lt Z2.out)
  have n2s : w2.heap.size ≠ w.heap.size := n2.symm
  clear hb
  go_wp2_with fail
  refine (atoi_yes n (by omega) b HT.out _).mono ?_
  rintro e1 w3 ⟨rfl, hb⟩
  have W3 := Aside0.mk (show Below w.heap.size w w3 from Below.trans (below_alloc W2.out _) (pp_below_mono_ hb (below_alloc W2.out _).size))
  have Z3 := Aside0.mk (show w3.heap[w.heap.size]? = some (.cells #[.bool false, .int .u64 0, .int .u64 0, .int .i64 0] 26 (0, 0)) from blk_below (blk_alloc Z2.out _) hb)
  have A3 := Aside0.mk (show w3.heap[w2.heap.size]? = some (.cells #[.bool v, .int .u64 hi, .int .u64 lo] 24 (0, 0)) from blk_below (blk_new _ _) hb)
  clear hb
  go_wp2_with fail
  with_reducible refine (strconv_Itoa.calls b m _ (HLD.out.below W3.out) HI.out).mono ?_
  rintro e1 w4 ⟨rfl, hb⟩
  have W4 := Aside0.mk (show Below w.heap.size w w4 from Below.trans W3.out (pp_below_mono_ hb W3.out.size))
  have Z4 := Aside0.mk (show w4.heap[w.heap.size]? = some (.cells #[.bool false, .int .u64 0, .int .u64 0, .int .i64 0] 26 (0, 0)) from blk_below Z3.out hb)
  have A4 := Aside0.mk (show w4.heap[w2.heap.size]? = some (.cells #[.bool v, .int .u64 hi, .int .u64 lo] 24 (0, 0)) from blk_below A3.out hb)
  have n4 : w.heap.size ≠ w4.heap.size := Nat.ne_of_lt (blk_lt Z4.out)
  have n4s : w4.heap.size ≠ w.heap.size := n4.symm
  have m4 : w2.heap.size ≠ w4.heap.size := Nat.ne_of_lt (blk_lt A4.out)
  have m4s : w4.heap.size ≠ w2.heap.size := m4.symm
  clear hb
  have c0 : w4.cell? ⟨w2.heap.size, 0, none⟩ = some (.bool v) := (blk_cell A4.out 0).trans rfl
  have c1 : w4.cell? ⟨w2.heap.size, 1, none⟩ = some (.int .u64 hi) := (blk_cell A4.out 1).trans rfl
  have c2 : w4.cell? ⟨w2.heap.size, 2, none⟩ = some (.int .u64 lo) := (blk_cell A4.out 2).trans rfl
  go_wp2_with fail
  with_reducible refine (prefix_Valid.calls v hi lo b true _ HV.out).mono ?_
  rintro e1 w5 ⟨rfl, hb⟩
  have W5 := Aside0.mk (show Below w.heap.size w w5 from Below.trans (below_alloc W4.out _) (pp_below_mono_ hb (below_alloc W4.out _).size))
  have Z5 := Aside0.mk (show w5.heap[w.heap.size]? = some (.cells #[.bool false, .int .u64 0, .int .u64 0, .int .i64 0] 26 (0, 0)) from blk_below (blk_alloc Z4.out _) hb)
  have A5 := Aside0.mk (show w5.heap[w4.heap.size]? = some (.cells #[.bool v, .int .u64 hi, .int .u64 lo, .int .i64 b] 26 (0, 0)) from blk_below (blk_new _ _) hb)
  clear hb c0 c1 c2
  have z0 : w5.cell? ⟨w.heap.size, 0, none⟩ = some (.bool false) := (blk_cell Z5.out 0).trans rfl
  have zf0 := blk_frozen Z5.out 0
  have z1 : w5.cell? ⟨w.heap.size, 1, none⟩ = some (.int .u64 0) := (blk_cell Z5.out 1).trans rfl
  have zf1 := blk_frozen Z5.out 1
  have z2 : w5.cell? ⟨w.heap.size, 2, none⟩ = some (.int .u64 0) := (blk_cell Z5.out 2).trans rfl
  have zf2 := blk_frozen Z5.out 2
  have z3 : w5.cell? ⟨w.heap.size, 3, none⟩ = some (.int .i64 0) := (blk_cell Z5.out 3).trans rfl
  have zf3 := blk_frozen Z5.out 3
  have d0 : w5.cell? ⟨w4.heap.size, 0, none⟩ = some (.bool v) := (blk_cell A5.out 0).trans rfl
  have d1 : w5.cell? ⟨w4.heap.size, 1, none⟩ = some (.int .u64 hi) := (blk_cell A5.out 1).trans rfl
  have d2 : w5.cell? ⟨w4.heap.size, 2, none⟩ = some (.int .u64 lo) := (blk_cell A5.out 2).trans rfl
  have d3 : w5.cell? ⟨w4.heap.size, 3, none⟩ = some (.int .i64 b) := (blk_cell A5.out 3).trans rfl
  go_wp2_with fail
  refine bodyPost_ret (results_ct rfl _ _ w.heap.size 26 #[.bool v, .int .u64 hi, .int .u64 lo, .int .i64 b] (0, 0) _ rfl (by (with_reducible repeat (first | refine blk_drewN ?_ _ | refine blk_drew ?_ | refine blk_alloc ?_ _)); refine blk_put (cs := #[.bool v, .int .u64 hi, .int .u64 lo, .int .i64 0]) ?_ 3 _ rfl; refine blk_put (cs := #[.bool v, .int .u64 hi, .int .u64 0, .int .i64 0]) ?_ 2 _ rfl; refine blk_put (cs := #[.bool v, .int .u64 0, .int .u64 0, .int .i64 0]) ?_ 1 _ rfl; refine blk_put (cs := #[.bool false, .int .u64 0, .int .u64 0, .int .i64 0]) ?_ 0 _ rfl; (with_reducible repeat (first | refine blk_drewN ?_ _ | refine blk_drew ?_ | refine blk_alloc ?_ _)); exact Z5.out) Tryd.underlying26 rfl (by kernel_rfl)) rfl ?_
  exact ⟨rfl, by repeat (first | exact W5.out | apply below_alloc | apply pw_below_drewN | apply below_drew1 | refine below_set ?_ (Nat.le_refl _))⟩
def pfx_rest (n : ByteArray) (v : Bool) (hi lo e : Int) : Option (Bool × Int × Int × Int × Int) :=
  if e = 0 then
    (match Lib.atoiAll n.data.toList with
    | .ok b => (strconv_Itoa.f b).bind fun m => if m.toList = n.toList then (prefix_Valid.f v hi lo b).bind fun q => (if q = true then some (v, hi, lo, b, 0) else some (false, 0, 0, 0, 3)) else some (false, 0, 0, 0, 3)
    | _ => some (false, 0, 0, 0, 3))
  else some (false, 0, 0, 0, 3)
def prefix_Parse.f (k : Nat) (a0 : ByteArray) : Option (Bool × Int × Int × Int × Int) :=
  if a0.size ≤ 140737488355328 ∧ (⟨(Lib.cut a0.data.toList [47]).2.1.toArray⟩ : ByteArray).size ≤ 140737488355328 then
    (if (Lib.cut a0.data.toList [47]).2.2 = true then (addr_Parse.f k (⟨(Lib.cut a0.data.toList [47]).1.toArray⟩ : ByteArray)).bind fun p => pfx_rest (⟨(Lib.cut a0.data.toList [47]).2.1.toArray⟩ : ByteArray) p.1 p.2.1 p.2.2.1 p.2.2.2
    else some (false, 0, 0, 0, 3))
  else none
theorem prefix_Parse.mono : ∀ a0 k, LeO (prefix_Parse.f k a0) (prefix_Parse.f (k + 1) a0) := by
  intro a0 k
  unfold prefix_Parse.f
  refine LeO.ite ?_ (LeO.refl _)
  refine LeO.ite ?_ (LeO.refl _)
  exact LeO.bind (addr_Parse.mono _ _) (fun _ => LeO.refl _)
theorem prefix_Parse.calls (k : Nat) (a0 : ByteArray) (r1 : Bool) (r2 : Int) (r3 : Int) (r4 : Int) (r5 : Int) (w : World) (hLD : Laid w) (h : prefix_Parse.f k a0 = some (r1, r2, r3, r4, r5)) :
    Calls Tryd.prog 12 #[.string a0] w fun e w' => e = .returned (.tuple #[.agg #[.bool r1, .int .u64 r2, .int .u64 r3, .int .i64 r4], .int .i64 r5]) ∧ Below w.heap.size w w' := by
  unfold prefix_Parse.f at h
  by_cases hz : a0.size ≤ 140737488355328 ∧ (⟨(Lib.cut a0.data.toList [47]).2.1.toArray⟩ : ByteArray).size ≤ 140737488355328
  · rw [if_pos hz] at h
    obtain ⟨hs, hn⟩ := hz
    by_cases hk : (Lib.cut a0.data.toList [47]).2.2 = true
    · rw [if_pos hk] at h
      obtain ⟨⟨v, hi, lo, e⟩, hp, h⟩ := Option.bind_eq_some_iff.mp h
      unfold pfx_rest at h
      by_cases he : e = 0
      · subst he
        rw [if_pos rfl] at h
        cases hat : Lib.atoiAll (⟨(Lib.cut a0.data.toList [47]).2.1.toArray⟩ : ByteArray).data.toList with
        | ok b =>
          rw [hat] at h
          obtain ⟨m, hit, h⟩ := Option.bind_eq_some_iff.mp h
          by_cases hne : m.toList = (⟨(Lib.cut a0.data.toList [47]).2.1.toArray⟩ : ByteArray).toList
          · rw [if_pos hne] at h
            obtain ⟨q, hv, h⟩ := Option.bind_eq_some_iff.mp h
            cases q with
            | true =>
              simp only [if_true, Option.some.injEq, Prod.mk.injEq] at h
              obtain ⟨rfl, rfl, rfl, rfl, rfl⟩ := h
              exact Parse_f k a0 _ _ hs rfl rfl hk v hi lo hp hn b hat m hit hne hv w hLD
            | false =>
              simp only [Bool.false_eq_true, if_false, Option.some.injEq, Prod.mk.injEq] at h
              obtain ⟨rfl, rfl, rfl, rfl, rfl⟩ := h
              exact Parse_e k a0 _ _ hs rfl rfl hk v hi lo hp hn b hat m hit hne hv w hLD
          · rw [if_neg hne] at h
            simp only [Option.some.injEq, Prod.mk.injEq] at h
            obtain ⟨rfl, rfl, rfl, rfl, rfl⟩ := h
            exact Parse_d k a0 _ _ hs rfl rfl hk v hi lo hp hn b hat m hit hne w hLD
        | range =>
          rw [hat] at h
          simp only [Option.some.injEq, Prod.mk.injEq] at h
          obtain ⟨rfl, rfl, rfl, rfl, rfl⟩ := h
          exact Parse_c k a0 _ _ hs rfl rfl hk v hi lo hp hn (fun v hv => by rw [hat] at hv; cases hv) w hLD
        | _ =>
          rw [hat] at h
          simp only [Option.some.injEq, Prod.mk.injEq] at h
          obtain ⟨rfl, rfl, rfl, rfl, rfl⟩ := h
          exact Parse_c k a0 _ _ hs rfl rfl hk v hi lo hp hn (fun v hv => by rw [hat] at hv; cases hv) w hLD
      · rw [if_neg he] at h
        simp only [Option.some.injEq, Prod.mk.injEq] at h
        obtain ⟨rfl, rfl, rfl, rfl, rfl⟩ := h
        exact Parse_b k a0 _ _ hs rfl rfl hk v hi lo e hp he w hLD
    · rw [if_neg hk] at h
      simp only [Option.some.injEq, Prod.mk.injEq] at h
      obtain ⟨rfl, rfl, rfl, rfl, rfl⟩ := h
      exact Parse_a k a0 _ _ hs rfl rfl (by simpa using hk) w hLD
  · rw [if_neg hz] at h
    cases h


/-! ### addr_bytes: function 50 -/
def addr_bytes.l0 : Nat → Int → List Int → Int → Int → Option (List Int)
 | 0, _, _, _, _ => none
 | k + 1, x0, x3, x7, x8 => if x8 < x7 then (if 0 ≤ (wrap64 (56 - (wrap64 (8 * x8)))) then (if 0 ≤ x8 then (if x8 < (x3.length : Int) then (addr_bytes.l0 k x0 (x3.set (x8 : Int).toNat ((shr .u64 x0 (wrap64 (56 - (wrap64 (8 * x8))))) % 256)) x7 (wrap64 (x8 + 1))) else (none)) else (none)) else (none)) else (some x3)
def addr_bytes.f (k : Nat) (a0 : Int) : Option (List Int) := if 8 ≤ 281474976710656 then ((some (List.replicate 8 0 : List Int)).bind fun y162 => (addr_bytes.l0 k a0 y162 (y162.length : Int) 0)) else (none)
theorem addr_bytes.mono_l : ∀ k, (∀ y0 y1 y2 y3, LeO (addr_bytes.l0 k y0 y1 y2 y3) (addr_bytes.l0 (k + 1) y0 y1 y2 y3))
 | 0 => fun _ _ _ _ r h => by simp [addr_bytes.l0] at h
 | k + 1 => by
  have ih0 := addr_bytes.mono_l k
  ·
   intro y0 y1 y2 y3
   unfold addr_bytes.l0
   repeat' first
   | (with_reducible exact ih0 _ _ _ _)
   | (with_reducible exact LeO.refl _)
   | (with_reducible exact LeO.none _)
   | (with_reducible refine LeO.ite ?_ ?_)
   | (with_reducible refine LeO.bind ?_ (fun _ => ?_))
   | exact ih0 _ _ _ _
   | exact LeO.none _
   | refine LeO.ite ?_ ?_
   | refine LeO.bind ?_ (fun _ => ?_)
theorem addr_bytes.mono : ∀ a0 k, LeO (addr_bytes.f k a0) (addr_bytes.f (k + 1) a0) := by
 intro a0 k
 have ih0 := addr_bytes.mono_l k
 unfold addr_bytes.f
 repeat' first
  | (with_reducible exact ih0 _ _ _ _)
  | (with_reducible exact LeO.refl _)
  | (with_reducible exact LeO.none _)
  | (with_reducible refine LeO.ite ?_ ?_)
  | (with_reducible refine LeO.bind ?_ (fun _ => ?_))
  | exact ih0 _ _ _ _
  | exact LeO.none _
  | refine LeO.ite ?_ ?_
  | refine LeO.bind ?_ (fun _ => ?_)
set_option maxHeartbeats 40000000 in
set_option maxRecDepth 100000 in
theorem addr_bytes.calls (k : Nat) (a0 : Int) (r : List Int) (w : World) (h : addr_bytes.f k a0 = some r) :
 Calls Tryd.prog 50 #[.int .u64 a0] w fun e w' => ∃ v0_ : Value, e = .returned (v0_) ∧ Kd.R (Kd.int .u8) 5 w' w.heap.size (fun _ => True) v0_ r ∧ Below w.heap.size w w' := by
 have HB := Aside0.mk (Below.refl w.heap.size w)
 have H : (if 8 ≤ 281474976710656 then ((some (List.replicate 8 0 : List Int)).bind fun y162 => (addr_bytes.l0 k a0 y162 (y162.length : Int) 0)) else (none)) = some r := h
 clear h
 by_cases c2 : 8 ≤ 281474976710656
 ·
  rw [if_pos c2] at H
  have c2b0 := eq_true c2
  have c2b1 : decide (8 ≤ 281474976710656) = true := decide_eq_true c2
  clear c2
  obtain ⟨y162, hy162⟩ : ∃ y_ : List Int, y_ = (List.replicate 8 0) := ⟨_, rfl⟩
  replace H : (addr_bytes.l0 k a0 y162 (y162.length : Int) 0) = some r := by first | (rw [hy162]; with_reducible exact H) | (have H2_ := (Option.bind_some _ _).symm.trans H; rw [hy162]; with_reducible exact H2_) | (have H2_ := (Option.bind_some _ _).symm.trans H; with_reducible exact H2_) | with_reducible exact H | (rw [hy162]; exact H) | exact H
  have Ny162 := Aside0.mk hy162
  clear hy162
  have H' := Aside0.mk H
  clear H
  go_enter Tryd.func50, Tryd.ntmps50
  go_wp2_with (first | ((with_reducible refine gate_dst (N := 5) rfl ?_); refine Kd.R_make (Kd.int .u8) _ 5 rfl (N := 5) rfl 90 _ _ rfl 8 rfl rfl Tryd.underlying90 (.int .u8 0) 1 info5 rfl (by decide) (by omega) 0 (ok := fun _ => True) (okp := fun _ => True) rfl (fun _ hk => hk) trivial (by omega) (by omega) (Below.refl _ _) (Nat.le_refl _) ?_; intro v163 w3 ho4 hb hg_ hnew_; clear hg_ hnew_; (first | rw [← Ny162.out] at ho4 | (simp only [Int.reduceToNat] at ho4; rw [← Ny162.out] at ho4)); have HO164 := Aside0.mk (Kd.R_lower ho4 (below_size (by repeat (first | (with_reducible first | exact HB.out | apply below_alloc | apply pw_below_drewN | apply below_drew1) | exact HB.out)))); replace HB := (pS HB hb); clear hb ho4; obtain ⟨Ao5, co5, eo5⟩ := Kd.R_slice HO164.out; subst eo5))
  go_loopg [8] k (fun kq v8 w' => ∃ (x3_1 : List Int) (x8_1 : Int), v8 = .int .i64 x8_1 ∧ Aside0 (addr_bytes.l0 kq a0 x3_1 (y162.length : Int) x8_1 = some r) ∧ Aside0 (kq ≤ k) ∧ Aside0 (Kd.R (Kd.int .u8) 5 w' w.heap.size (fun _ => True) (.slice Ao5 y162.length co5) x3_1) ∧ Aside0 (Below w.heap.size w w'))
  case atStart => exact ⟨(y162), (0), pT, H', ⟨Nat.le_refl _⟩, ⟨by (with_reducible repeat (first | apply Kd.R_alloc | apply Kd.R_drewN | apply Kd.R_drew)); exact HO164.out⟩, ⟨pE HB⟩⟩
  case round =>
   clear H'
   try clear c2
   try clear c2b0
   try clear c2b1
   try clear p2
   try clear c5
   obtain ⟨x3_1, x8_1, rfl, HA, HK1, HO_3, HB⟩ := hrel
   have hl3_1 := (Kd.R_reads' HO_3.out).1
   rw [hl3_1] at HO_3
   (try simp only [hl3_1])
   cases gk with
   | zero => exact absurd HA.out (by simp [addr_bytes.l0])
   | succ k1 =>
    have H := HA.out
    clear HA
    simp only [addr_bytes.l0] at H
    by_cases c6 : x8_1 < (y162.length : Int)
    ·
     rw [if_pos c6] at H
     have c6b0 : decide (x8_1 < (y162.length : Int)) = true := decide_eq_true c6
     have c6b0_hl3_1 := c6b0
     (try rw [hl3_1] at c6b0_hl3_1)
     clear c6
     obtain ⟨ji7, hji7⟩ : ∃ j_ : Int, (wrap64 (56 - (wrap64 (8 * x8_1)))) = j_ := ⟨_, rfl⟩
     replace H : (if 0 ≤ (ji7) then (if 0 ≤ x8_1 then (if x8_1 < (x3_1.length : Int) then (addr_bytes.l0 k1 a0 (x3_1.set (x8_1 : Int).toNat ((shr .u64 a0 (ji7)) % 256)) (y162.length : Int) (wrap64 (x8_1 + 1))) else (none)) else (none)) else (none)) = some r := by first | (rw [hji7] at H; exact H) | (simp only [hji7] at H ⊢; exact H)
     have hji7w : (IntKind.i64.wrap (56 - (wrap64 (8 * x8_1)))) = ji7 := (i64_w _).trans hji7
     by_cases c8 : 0 ≤ (ji7)
     ·
      rw [if_pos c8] at H
      have c8b0 := eq_true c8
      have c8b1 : decide (0 ≤ (ji7)) = true := decide_eq_true c8
      clear c8
      obtain ⟨ji9, hji9⟩ : ∃ j_ : Int, (shr .u64 a0 (ji7)) = j_ := ⟨_, rfl⟩
      (try rw [hji9] at hji7)
      replace H : (if 0 ≤ x8_1 then (if x8_1 < (x3_1.length : Int) then (addr_bytes.l0 k1 a0 (x3_1.set (x8_1 : Int).toNat ((ji9) % 256)) (y162.length : Int) (wrap64 (x8_1 + 1))) else (none)) else (none)) = some r := by first | (rw [hji9] at H; exact H) | (simp only [hji9] at H ⊢; exact H)
      have hji9_ : (a0 / 2 ^ min (ji7).toNat 64) = ji9 := hji9
      have hji9z : (ji7) ≤ 64 → (a0 / 2 ^ (ji7).toNat) = ji9 := shr_small hji9
      by_cases c10 : 0 ≤ x8_1
      ·
       rw [if_pos c10] at H
       have c10b0 : decide (0 ≤ x8_1) = true := decide_eq_true c10
       clear c10
       by_cases c11 : x8_1 < (x3_1.length : Int)
       ·
        rw [if_pos c11] at H
        have c11b0 : decide (x8_1 < (x3_1.length : Int)) = true := decide_eq_true c11
        have c11b0_hl3_1 := c11b0
        (try rw [hl3_1] at c11b0_hl3_1)
        clear c11
        obtain ⟨y165, hy165⟩ : ∃ y_ : List Int, y_ = (x3_1.set (x8_1 : Int).toNat ((ji9) % 256)) := ⟨_, rfl⟩
        replace H : (addr_bytes.l0 k1 a0 y165 (y162.length : Int) (wrap64 (x8_1 + 1))) = some r := by first | (rw [hy165]; with_reducible exact H) | (have H2_ := (Option.bind_some _ _).symm.trans H; rw [hy165]; with_reducible exact H2_) | (have H2_ := (Option.bind_some _ _).symm.trans H; with_reducible exact H2_) | with_reducible exact H | (rw [hy165]; exact H) | exact H
        have Ny165 := Aside0.mk hy165
        clear hy165
        have H' := Aside0.mk H
        clear H
        have p12 : 0 ≤ (x8_1 : Int) := of_decide_eq_true (by first | (with_reducible assumption) | assumption)
        have q12 : (x8_1 : Int) < ((x3_1.length : Int) : Int) := of_decide_eq_true (by first | (with_reducible assumption) | assumption)
        obtain ⟨go12, co12, eo12, gb12, gl12, cl12, HG12⟩ := Kd.R_form HO_3.out (by omega)
        (first | cases eo12 | (injection eo12 with ea_ en_ ec_; (first | subst ea_ | (injection ea_ with ea_; subst ea_)); subst ec_; clear en_))
        have GB12 := Aside0.mk gb12
        have GG12 := Aside0.mk HG12
        clear gb12 gl12 HG12
        obtain ⟨hx12_0, hf12_0⟩ := Kd.R_celln 0 HO_3.out (x8_1 : Int) p12 q12
        replace p12 := eq_true p12
        replace q12 := eq_true q12
        have HP13 := Kd.R_putg HO_3.out (x8_1 : Int) ((ji9) % 256)
        go_wp2_with (first | ((with_reducible refine gate_store (t := 5) (p := 19) rfl ?_); refine store_event (t := 5) (p := 19) (v := ?vo_w14) (w1 := (wr.setCell ⟨go12, (x8_1 : Int).toNat, none⟩ (.int .u8 ((ji9) % 256)))) ?hg ?ho ?hn ?hr ?_; (case ho => rfl); (case hg => rfl); (case hn => rfl); (case hr => first | (go_simp; done) | (go_simp; rfl)); intro w14 hw; have hg : wr.grownBy w14 (some go12) := (by rw [hw]; exact HP13.2); have hp_ : Kd.R (Kd.int .u8) 5 w14 w.heap.size (fun _ => True) (.slice (some ⟨go12, 0, none⟩) x3_1.length co5) y165 := (by rw [hw, Ny165.out]; exact HP13.1); clear HP13; replace HO_3 := Aside0.mk (hp_); replace HB := Aside0.mk ((by rw [hw]; exact below_set (HB.out) GB12.out : Below w.heap.size w w14)); clear hg hw hp_))
        (try simp only [← hl3_1])
        go_roundg k1
        case measure => have := HK1.out; omega
        case rel => exact ⟨(y165), (wrap64 (x8_1 + 1)), pT, (by first | exact H' | (simp only [hji7, hji9]; exact H') | (simp only [hji7, hji9] at H' ⊢; exact H')), ⟨by have := HK1.out; omega⟩, ⟨by (try simp only [hl3_1]); (with_reducible repeat (first | apply Kd.R_alloc | apply Kd.R_drewN | apply Kd.R_drew)); exact HO_3.out⟩, ⟨pE HB⟩⟩
       ·
        rw [if_neg c11] at H
        exact absurd H (by simp)
      ·
       rw [if_neg c10] at H
       exact absurd H (by simp)
     ·
      rw [if_neg c8] at H
      exact absurd H (by simp)
    ·
     rw [if_neg c6] at H
     have c6b0 : decide (x8_1 < (y162.length : Int)) = false := decide_eq_false c6
     have c6b0_hl3_1 := c6b0
     (try rw [hl3_1] at c6b0_hl3_1)
     clear c6
     obtain rfl := Option.some.inj H
     go_wp2
     go_ret
     exact ⟨_, by first | rfl | (simp [errW_none, errW_some] <;> rfl) | (simp [*, errW_none, errW_some] <;> rfl), by (with_reducible repeat (first | apply Kd.R_alloc | apply Kd.R_drewN | apply Kd.R_drew)); exact HO_3.out, by repeat (first | (with_reducible first | exact HB.out | apply below_alloc | apply pw_below_drewN | apply below_drew1) | exact HB.out)⟩
 ·
  rw [if_neg c2] at H
  exact absurd H (by simp)

end Go.Proofs.YteflcmmandlknaaDoor.PA
