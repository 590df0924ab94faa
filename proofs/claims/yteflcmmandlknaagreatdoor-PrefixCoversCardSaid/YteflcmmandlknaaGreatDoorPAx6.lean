/- The Go functions in Lean, with the proofs that the code comes to these answers: printed by this session's program (wip/px) out of the seat's translation. Conditions: each theorem's own. -/
import Derived.Test.YteflcmmandlknaaGreatDoorPAx0
import Derived.Test.YteflcmmandlknaaGreatDoorPAx4
import Derived.Test.YteflcmmandlknaaGreatDoorPAx5
namespace Go.Proofs.YteflcmmandlknaaGreatDoor.PA
open Go.RowKit Go.Proofs.YteflcmmandlknaaGreatDoorW.PrintWords Go.Proofs.YteflcmmandlknaaGreatDoorW.PrintLast Go.Proofs.YteflcmmandlknaaGreatDoorW.PrintMore
attribute [local go_sem] max2_int min2_int max_two min_two max_three min_three max_four min_four   -- for this text's walks alone
attribute [local go_sem ↓] Ext.isSome_setCell
open Press
set_option linter.unusedVariables false
set_option linter.unusedSimpArgs false
/-! ### prefix_Parse: function 7 (given) -/
theorem pp_below_mono_ {B B' : Nat} {w w' : World} (h : Below B w w') (hb : B' ≤ B) : Below B' w w' := ⟨h.os, h.tape, h.output, h.size, fun k hk => h.block k (by omega)⟩
theorem cut1_lite (s : ByteArray) (c : UInt8) (hn : s.size ≤ 4611686018427387904) (w : World) : Calls Tryz.prog 61 #[.string s, .string (⟨#[c]⟩ : ByteArray)] w fun e w' => e = .returned (.tuple #[.string (⟨(Lib.cut s.data.toList [c]).1.toArray⟩ : ByteArray), .string (⟨(Lib.cut s.data.toList [c]).2.1.toArray⟩ : ByteArray), .bool (Lib.cut s.data.toList [c]).2.2]) ∧ ∃ n, w' = w.drewN n := by
  have hone : Lib.index s.data.toList [c] = Lib.indexByte s.data.toList c := Lib.index_one _ _
  rcases Lib.indexB_cases s (⟨#[c]⟩ : ByteArray) with hix | ⟨i, hix, hroom⟩
  · obtain ⟨e1, e2, e3⟩ := Lib.cutB_miss s (⟨#[c]⟩ : ByteArray) hix
    have hix' : Lib.indexByte s.data.toList c = -1 := by rw [← hone]; exact hix
    have e1' : (⟨(Lib.cut s.data.toList [c]).1.toArray⟩ : ByteArray) = _ := e1
    have e2' : (⟨(Lib.cut s.data.toList [c]).2.1.toArray⟩ : ByteArray) = _ := e2
    have e3' : (Lib.cut s.data.toList [c]).2.2 = _ := e3
    rw [e1', e2', e3']
    go_enter Tryz.func61, Tryz.ntmps61
    go_wp2_with fail
    refine (Tryz.stringslite_Index_one s c _).mono ?_
    rintro e w' ⟨rfl, rfl⟩
    rw [hix']
    go_wp2_with fail
    refine bodyPost_ret (v := .tuple #[.string s, .string (⟨#[]⟩ : ByteArray), .bool false]) (by simp [results, Tryz.results61, go_sem]) rfl ⟨rfl, 0, rfl⟩
  · obtain ⟨e1, e2, e3⟩ := Lib.cutB_hit s (⟨#[c]⟩ : ByteArray) i hix
    have hix' : Lib.indexByte s.data.toList c = (i : Int) := by rw [← hone]; exact hix
    have e1' : (⟨(Lib.cut s.data.toList [c]).1.toArray⟩ : ByteArray) = _ := e1
    have e2' : (⟨(Lib.cut s.data.toList [c]).2.1.toArray⟩ : ByteArray) = _ := e2
    have e3' : (Lib.cut s.data.toList [c]).2.2 = _ := e3
    rw [e1', e2', e3']
    have hsz : (⟨#[c]⟩ : ByteArray).size = 1 := rfl
    rw [hsz] at hroom
    have c1 : (0 : Int) ≤ ↑i := by omega
    have c2 : (↑i : Int) ≤ ↑s.size := by omega
    have c3 : (0 : Int) ≤ ↑i + 1 := by omega
    have c4 : (↑i + 1 : Int) ≤ ↑s.size := by omega
    have hwr : wrap64 ((i : Int) + 1) = (i : Int) + 1 := by unfold wrap64; omega
    go_enter Tryz.func61, Tryz.ntmps61
    go_wp2_with fail
    refine (Tryz.stringslite_Index_one s c _).mono ?_
    rintro e w' ⟨rfl, rfl⟩
    rw [hix']
    go_wp2_with fail
    go_region
    go_wp2_with fail
    refine bodyPost_ret (v := .tuple #[.string (s.extract 0 i), .string (s.extract (i + 1) s.size), .bool true]) (by simp [results, Tryz.results61, go_sem]) rfl ⟨rfl, 1, rfl⟩
theorem cut1_calls (s : ByteArray) (c : UInt8) (hn : s.size ≤ 4611686018427387904) (w : World) : Calls Tryz.prog 36 #[.string s, .string (⟨#[c]⟩ : ByteArray)] w fun e w' => e = .returned (.tuple #[.string (⟨(Lib.cut s.data.toList [c]).1.toArray⟩ : ByteArray), .string (⟨(Lib.cut s.data.toList [c]).2.1.toArray⟩ : ByteArray), .bool (Lib.cut s.data.toList [c]).2.2]) ∧ ∃ n, w' = w.drewN n := by
  go_enter Tryz.func36, Tryz.ntmps36
  go_wp2_with fail
  refine (cut1_lite s c hn _).mono ?_
  rintro e w' ⟨rfl, n, rfl⟩
  go_wp2_with fail
  refine bodyPost_ret (v := .tuple #[.string (⟨(Lib.cut s.data.toList [c]).1.toArray⟩ : ByteArray), .string (⟨(Lib.cut s.data.toList [c]).2.1.toArray⟩ : ByteArray), .bool (Lib.cut s.data.toList [c]).2.2]) (by simp [results, Tryz.results36, go_sem]) rfl ⟨rfl, n, rfl⟩
theorem cutp_calls (s a b : ByteArray) (ok : Bool) (hn : s.size ≤ 4611686018427387904) (ha : (⟨(Lib.cut s.data.toList [47]).1.toArray⟩ : ByteArray) = a) (hb : (⟨(Lib.cut s.data.toList [47]).2.1.toArray⟩ : ByteArray) = b) (hk : (Lib.cut s.data.toList [47]).2.2 = ok) (w : World) : Calls Tryz.prog 36 #[.string s, .string (⟨#[47]⟩ : ByteArray)] w fun e w' => e = .returned (.tuple #[.string a, .string b, .bool ok]) ∧ Below w.heap.size w w' := by
  subst ha
  subst hb
  subst hk
  refine (cut1_calls s 47 hn w).mono ?_
  rintro e w' ⟨rfl, n, rfl⟩
  exact ⟨rfl, pw_below_drewN (Below.refl _ _) _⟩
theorem atoi_no (s : ByteArray) (hs : s.size ≤ 281474976710656) (h : ∀ v, Lib.atoiAll s.data.toList ≠ .ok v) (w : World) (hLD : Laid w) : Calls Tryz.prog 38 #[.string s] w fun e w' => ∃ (v : Int) (t : TypeId) (p : Value), e = .returned (.tuple #[.int .i64 v, .iface t p]) ∧ Below w.heap.size w w' := by
  cases ha : Lib.atoiAll s.data.toList with
  | ok v => exact absurd ha (h v)
  | range =>
    obtain ⟨tp, p, hv⟩ := hLD.erng
    refine (Tryz.strconv_Atoi_range_var s hs ha tp p w hv).mono ?_
    rintro e w' ⟨N, rfl, _, _, hb⟩
    exact ⟨_, _, _, rfl, hb⟩
  | _ =>
    obtain ⟨tp, p, hv⟩ := hLD.esyn
    refine (Tryz.strconv_Atoi_syntax_var s hs ha tp p w hv).mono ?_
    rintro e w' ⟨N, rfl, _, _, hb⟩
    exact ⟨_, _, _, rfl, hb⟩
theorem atoi_yes (s : ByteArray) (hs : s.size ≤ 281474976710656) (v : Int) (h : Lib.atoiAll s.data.toList = .ok v) (w : World) : Calls Tryz.prog 38 #[.string s] w fun e w' => e = .returned (.tuple #[.int .i64 v, .nilIface]) ∧ Below w.heap.size w w' := by
  refine (Tryz.strconv_Atoi_ok s (by omega) v h w).mono ?_
  rintro e w' ⟨rfl, hw⟩
  refine ⟨rfl, ?_⟩
  rcases hw with rfl | ⟨t, rfl⟩
  · exact Below.refl _ _
  · exact Joins.below_bytesWorld _ _ _ _ (Nat.le_refl _)
set_option maxHeartbeats 4000000 in
set_option maxRecDepth 100000 in
theorem Parse_a (k : Nat) (s a n : ByteArray) (hs : s.size ≤ 140737488355328) (ha : (⟨(Lib.cut s.data.toList [47]).1.toArray⟩ : ByteArray) = a) (hb : (⟨(Lib.cut s.data.toList [47]).2.1.toArray⟩ : ByteArray) = n) (hk : (Lib.cut s.data.toList [47]).2.2 = false) (w : World) (hLD : Laid w) :
    Calls Tryz.prog 7 #[.string s] w fun e w' => e = .returned (.tuple #[.agg #[.bool false, .int .u64 0, .int .u64 0, .int .i64 0], .int .i64 3]) ∧ Below w.heap.size w w' := by
  have huA_ := Tryz.underlying24
  have huP_ := Tryz.underlying26
  have HLD := Aside0.mk hLD
  have HA := Aside0.mk ha
  have HB := Aside0.mk hb
  have HK := Aside0.mk hk
  clear hLD ha hb hk
  go_enter Tryz.func7, Tryz.ntmps7
  go_wp2_with fail
  with_reducible refine (cutp_calls s a n false (by omega) HA.out HB.out HK.out _).mono ?_
  rintro e w1 ⟨rfl, hb⟩
  have W1 := Aside0.mk (show Below w.heap.size w w1 from Below.trans (below_alloc (Below.refl _ _) _) (pp_below_mono_ hb (by simp)))
  have Z1 := Aside0.mk (show w1.heap[w.heap.size]? = some (.cells #[.bool false, .int .u64 0, .int .u64 0, .int .i64 0] 26 (0, 0)) from blk_below (blk_new _ _) hb)
  clear hb
  have z0 : w1.cell? ⟨w.heap.size, 0, none⟩ = some (.bool false) := (blk_cell Z1.out 0).trans rfl
  have zf0 := blk_frozen Z1.out 0
  have z1 : w1.cell? ⟨w.heap.size, 1, none⟩ = some (.int .u64 0) := (blk_cell Z1.out 1).trans rfl
  have zf1 := blk_frozen Z1.out 1
  have z2 : w1.cell? ⟨w.heap.size, 2, none⟩ = some (.int .u64 0) := (blk_cell Z1.out 2).trans rfl
  have zf2 := blk_frozen Z1.out 2
  have z3 : w1.cell? ⟨w.heap.size, 3, none⟩ = some (.int .i64 0) := (blk_cell Z1.out 3).trans rfl
  have zf3 := blk_frozen Z1.out 3
  go_wp2_with fail
  refine bodyPost_ret (results_ct rfl _ _ w.heap.size 26 #[.bool false, .int .u64 0, .int .u64 0, .int .i64 0] (0, 0) _ rfl (by (with_reducible repeat (first | refine blk_drewN ?_ _ | refine blk_drew ?_ | refine blk_alloc ?_ _)); refine blk_put (cs := #[.bool false, .int .u64 0, .int .u64 0, .int .i64 0]) ?_ 3 _ rfl; refine blk_put (cs := #[.bool false, .int .u64 0, .int .u64 0, .int .i64 0]) ?_ 2 _ rfl; refine blk_put (cs := #[.bool false, .int .u64 0, .int .u64 0, .int .i64 0]) ?_ 1 _ rfl; refine blk_put (cs := #[.bool false, .int .u64 0, .int .u64 0, .int .i64 0]) ?_ 0 _ rfl; (with_reducible repeat (first | refine blk_drewN ?_ _ | refine blk_drew ?_ | refine blk_alloc ?_ _)); exact Z1.out) Tryz.underlying26 rfl (by kernel_rfl)) rfl ?_
  exact ⟨rfl, by repeat (first | exact W1.out | apply below_alloc | apply pw_below_drewN | apply below_drew1 | refine below_set ?_ (Nat.le_refl _))⟩
set_option maxHeartbeats 4000000 in
set_option maxRecDepth 100000 in
theorem Parse_b (k : Nat) (s a n : ByteArray) (hs : s.size ≤ 140737488355328) (ha : (⟨(Lib.cut s.data.toList [47]).1.toArray⟩ : ByteArray) = a) (hb : (⟨(Lib.cut s.data.toList [47]).2.1.toArray⟩ : ByteArray) = n) (hk : (Lib.cut s.data.toList [47]).2.2 = true) (v : Bool) (hi lo : Int) (e : Int) (hp : addr_Parse.f k a = some (v, hi, lo, e)) (he : ¬ e = 0) (w : World) (hLD : Laid w) :
    Calls Tryz.prog 7 #[.string s] w fun e w' => e = .returned (.tuple #[.agg #[.bool false, .int .u64 0, .int .u64 0, .int .i64 0], .int .i64 3]) ∧ Below w.heap.size w w' := by
  have huA_ := Tryz.underlying24
  have huP_ := Tryz.underlying26
  have HLD := Aside0.mk hLD
  have HA := Aside0.mk ha
  have HB := Aside0.mk hb
  have HK := Aside0.mk hk
  have HP := Aside0.mk hp
  clear hLD ha hb hk hp
  go_enter Tryz.func7, Tryz.ntmps7
  go_wp2_with fail
  with_reducible refine (cutp_calls s a n true (by omega) HA.out HB.out HK.out _).mono ?_
  rintro e w1 ⟨rfl, hb⟩
  have W1 := Aside0.mk (show Below w.heap.size w w1 from Below.trans (below_alloc (Below.refl _ _) _) (pp_below_mono_ hb (by simp)))
  have Z1 := Aside0.mk (show w1.heap[w.heap.size]? = some (.cells #[.bool false, .int .u64 0, .int .u64 0, .int .i64 0] 26 (0, 0)) from blk_below (blk_new _ _) hb)
  clear hb
  go_wp2_with fail
  with_reducible refine (addr_Parse.calls k a v hi lo e _ (HLD.out.below W1.out) HP.out).mono ?_
  rintro e1 w2 ⟨rfl, hb⟩
  have W2 := Aside0.mk (show Below w.heap.size w w2 from Below.trans W1.out (pp_below_mono_ hb W1.out.size))
  have Z2 := Aside0.mk (show w2.heap[w.heap.size]? = some (.cells #[.bool false, .int .u64 0, .int .u64 0, .int .i64 0] 26 (0, 0)) from blk_below Z1.out hb)
  have n2 : w.heap.size ≠ w2.heap.size := Nat.ne_of_lt (blk_lt Z2.out)
  have n2s : w2.heap.size ≠ w.heap.size := n2.symm
  clear hb
  have Z2a := Aside0.mk (show (w2.alloc (.cells #[.bool v, .int .u64 hi, .int .u64 lo] 24)).heap[w.heap.size]? = some (.cells #[.bool false, .int .u64 0, .int .u64 0, .int .i64 0] 26 (0, 0)) from blk_alloc Z2.out _)
  have z0 : (w2.alloc (.cells #[.bool v, .int .u64 hi, .int .u64 lo] 24)).cell? ⟨w.heap.size, 0, none⟩ = some (.bool false) := (blk_cell Z2a.out 0).trans rfl
  have zf0 := blk_frozen Z2a.out 0
  have z1 : (w2.alloc (.cells #[.bool v, .int .u64 hi, .int .u64 lo] 24)).cell? ⟨w.heap.size, 1, none⟩ = some (.int .u64 0) := (blk_cell Z2a.out 1).trans rfl
  have zf1 := blk_frozen Z2a.out 1
  have z2 : (w2.alloc (.cells #[.bool v, .int .u64 hi, .int .u64 lo] 24)).cell? ⟨w.heap.size, 2, none⟩ = some (.int .u64 0) := (blk_cell Z2a.out 2).trans rfl
  have zf2 := blk_frozen Z2a.out 2
  have z3 : (w2.alloc (.cells #[.bool v, .int .u64 hi, .int .u64 lo] 24)).cell? ⟨w.heap.size, 3, none⟩ = some (.int .i64 0) := (blk_cell Z2a.out 3).trans rfl
  have zf3 := blk_frozen Z2a.out 3
  go_wp2_with fail
  refine bodyPost_ret (results_ct rfl _ _ w.heap.size 26 #[.bool false, .int .u64 0, .int .u64 0, .int .i64 0] (0, 0) _ rfl (by (with_reducible repeat (first | refine blk_drewN ?_ _ | refine blk_drew ?_ | refine blk_alloc ?_ _)); refine blk_put (cs := #[.bool false, .int .u64 0, .int .u64 0, .int .i64 0]) ?_ 3 _ rfl; refine blk_put (cs := #[.bool false, .int .u64 0, .int .u64 0, .int .i64 0]) ?_ 2 _ rfl; refine blk_put (cs := #[.bool false, .int .u64 0, .int .u64 0, .int .i64 0]) ?_ 1 _ rfl; refine blk_put (cs := #[.bool false, .int .u64 0, .int .u64 0, .int .i64 0]) ?_ 0 _ rfl; (with_reducible repeat (first | refine blk_drewN ?_ _ | refine blk_drew ?_ | refine blk_alloc ?_ _)); exact Z2.out) Tryz.underlying26 rfl (by kernel_rfl)) rfl ?_
  exact ⟨rfl, by repeat (first | exact W2.out | apply below_alloc | apply pw_below_drewN | apply below_drew1 | refine below_set ?_ (Nat.le_refl _))⟩
set_option maxHeartbeats 4000000 in
set_option maxRecDepth 100000 in
theorem Parse_c (k : Nat) (s a n : ByteArray) (hs : s.size ≤ 140737488355328) (ha : (⟨(Lib.cut s.data.toList [47]).1.toArray⟩ : ByteArray) = a) (hb : (⟨(Lib.cut s.data.toList [47]).2.1.toArray⟩ : ByteArray) = n) (hk : (Lib.cut s.data.toList [47]).2.2 = true) (v : Bool) (hi lo : Int) (hp : addr_Parse.f k a = some (v, hi, lo, 0)) (hz : n.size ≤ 140737488355328) (hat : ∀ v, Lib.atoiAll n.data.toList ≠ .ok v) (w : World) (hLD : Laid w) :
    Calls Tryz.prog 7 #[.string s] w fun e w' => e = .returned (.tuple #[.agg #[.bool false, .int .u64 0, .int .u64 0, .int .i64 0], .int .i64 3]) ∧ Below w.heap.size w w' := by
  have huA_ := Tryz.underlying24
  have huP_ := Tryz.underlying26
  have HLD := Aside0.mk hLD
  have HA := Aside0.mk ha
  have HB := Aside0.mk hb
  have HK := Aside0.mk hk
  have HP := Aside0.mk hp
  have HT := Aside0.mk hat
  clear hLD ha hb hk hp hat
  go_enter Tryz.func7, Tryz.ntmps7
  go_wp2_with fail
  with_reducible refine (cutp_calls s a n true (by omega) HA.out HB.out HK.out _).mono ?_
  rintro e w1 ⟨rfl, hb⟩
  have W1 := Aside0.mk (show Below w.heap.size w w1 from Below.trans (below_alloc (Below.refl _ _) _) (pp_below_mono_ hb (by simp)))
  have Z1 := Aside0.mk (show w1.heap[w.heap.size]? = some (.cells #[.bool false, .int .u64 0, .int .u64 0, .int .i64 0] 26 (0, 0)) from blk_below (blk_new _ _) hb)
  clear hb
  go_wp2_with fail
  with_reducible refine (addr_Parse.calls k a v hi lo 0 _ (HLD.out.below W1.out) HP.out).mono ?_
  rintro e1 w2 ⟨rfl, hb⟩
  have W2 := Aside0.mk (show Below w.heap.size w w2 from Below.trans W1.out (pp_below_mono_ hb W1.out.size))
  have Z2 := Aside0.mk (show w2.heap[w.heap.size]? = some (.cells #[.bool false, .int .u64 0, .int .u64 0, .int .i64 0] 26 (0, 0)) from blk_below Z1.out hb)
  have n2 : w.heap.size ≠ w2.heap.size := Nat.ne_of_lt (blk_lt Z2.out)
  have n2s : w2.heap.size ≠ w.heap.size := n2.symm
  clear hb
  go_wp2_with fail
  refine (atoi_no n (by omega) HT.out _ (HLD.out.below (below_alloc W2.out _))).mono ?_
  rintro e1 w3 ⟨b, ti, pv, rfl, hb⟩
  have W3 := Aside0.mk (show Below w.heap.size w w3 from Below.trans (below_alloc W2.out _) (pp_below_mono_ hb (below_alloc W2.out _).size))
  have Z3 := Aside0.mk (show w3.heap[w.heap.size]? = some (.cells #[.bool false, .int .u64 0, .int .u64 0, .int .i64 0] 26 (0, 0)) from blk_below (blk_alloc Z2.out _) hb)
  clear hb
  have z0 : w3.cell? ⟨w.heap.size, 0, none⟩ = some (.bool false) := (blk_cell Z3.out 0).trans rfl
  have zf0 := blk_frozen Z3.out 0
  have z1 : w3.cell? ⟨w.heap.size, 1, none⟩ = some (.int .u64 0) := (blk_cell Z3.out 1).trans rfl
  have zf1 := blk_frozen Z3.out 1
  have z2 : w3.cell? ⟨w.heap.size, 2, none⟩ = some (.int .u64 0) := (blk_cell Z3.out 2).trans rfl
  have zf2 := blk_frozen Z3.out 2
  have z3 : w3.cell? ⟨w.heap.size, 3, none⟩ = some (.int .i64 0) := (blk_cell Z3.out 3).trans rfl
  have zf3 := blk_frozen Z3.out 3
  go_wp2_with fail
  refine bodyPost_ret (results_ct rfl _ _ w.heap.size 26 #[.bool false, .int .u64 0, .int .u64 0, .int .i64 0] (0, 0) _ rfl (by (with_reducible repeat (first | refine blk_drewN ?_ _ | refine blk_drew ?_ | refine blk_alloc ?_ _)); refine blk_put (cs := #[.bool false, .int .u64 0, .int .u64 0, .int .i64 0]) ?_ 3 _ rfl; refine blk_put (cs := #[.bool false, .int .u64 0, .int .u64 0, .int .i64 0]) ?_ 2 _ rfl; refine blk_put (cs := #[.bool false, .int .u64 0, .int .u64 0, .int .i64 0]) ?_ 1 _ rfl; refine blk_put (cs := #[.bool false, .int .u64 0, .int .u64 0, .int .i64 0]) ?_ 0 _ rfl; (with_reducible repeat (first | refine blk_drewN ?_ _ | refine blk_drew ?_ | refine blk_alloc ?_ _)); exact Z3.out) Tryz.underlying26 rfl (by kernel_rfl)) rfl ?_
  exact ⟨rfl, by repeat (first | exact W3.out | apply below_alloc | apply pw_below_drewN | apply below_drew1 | refine below_set ?_ (Nat.le_refl _))⟩
set_option maxHeartbeats 4000000 in
set_option maxRecDepth 100000 in
theorem Parse_d (k : Nat) (s a n : ByteArray) (hs : s.size ≤ 140737488355328) (ha : (⟨(Lib.cut s.data.toList [47]).1.toArray⟩ : ByteArray) = a) (hb : (⟨(Lib.cut s.data.toList [47]).2.1.toArray⟩ : ByteArray) = n) (hk : (Lib.cut s.data.toList [47]).2.2 = true) (v : Bool) (hi lo : Int) (hp : addr_Parse.f k a = some (v, hi, lo, 0)) (hz : n.size ≤ 140737488355328) (b : Int) (hat : Lib.atoiAll n.data.toList = .ok b) (m : ByteArray) (hit : strconv_Itoa.f b = some m) (hne : ¬ m.toList = n.toList) (w : World) (hLD : Laid w) :
    Calls Tryz.prog 7 #[.string s] w fun e w' => e = .returned (.tuple #[.agg #[.bool false, .int .u64 0, .int .u64 0, .int .i64 0], .int .i64 3]) ∧ Below w.heap.size w w' := by
  have huA_ := Tryz.underlying24
  have huP_ := Tryz.underlying26
  have HLD := Aside0.mk hLD
  have HA := Aside0.mk ha
  have HB := Aside0.mk hb
  have HK := Aside0.mk hk
  have HP := Aside0.mk hp
  have HT := Aside0.mk hat
  have HI := Aside0.mk hit
  have hs2 : (m.toList == n.toList) = false := beq_eq_false_iff_ne.mpr hne
  clear hLD ha hb hk hp hat hit hne
  go_enter Tryz.func7, Tryz.ntmps7
  go_wp2_with fail
  with_reducible refine (cutp_calls s a n true (by omega) HA.out HB.out HK.out _).mono ?_
  rintro e w1 ⟨rfl, hb⟩
  have W1 := Aside0.mk (show Below w.heap.size w w1 from Below.trans (below_alloc (Below.refl _ _) _) (pp_below_mono_ hb (by simp)))
  have Z1 := Aside0.mk (show w1.heap[w.heap.size]? = some (.cells #[.bool false, .int .u64 0, .int .u64 0, .int .i64 0] 26 (0, 0)) from blk_below (blk_new _ _) hb)
  clear hb
  go_wp2_with fail
  with_reducible refine (addr_Parse.calls k a v hi lo 0 _ (HLD.out.below W1.out) HP.out).mono ?_
  rintro e1 w2 ⟨rfl, hb⟩
  have W2 := Aside0.mk (show Below w.heap.size w w2 from Below.trans W1.out (pp_below_mono_ hb W1.out.size))
  have Z2 := Aside0.mk (show w2.heap[w.heap.size]? = some (.cells #[.bool false, .int .u64 0, .int .u64 0, .int .i64 0] 26 (0, 0)) from blk_below Z1.out hb)
  have n2 : w.heap.size ≠ w2.heap.size := Nat.ne_of_lt (blk_lt Z2.out)
  have n2s : w2.heap.size ≠ w.heap.size := n2.symm
  clear hb
  go_wp2_with fail
  refine (atoi_yes n (by omega) b HT.out _).mono ?_
  rintro e1 w3 ⟨rfl, hb⟩
  have W3 := Aside0.mk (show Below w.heap.size w w3 from Below.trans (below_alloc W2.out _) (pp_below_mono_ hb (below_alloc W2.out _).size))
  have Z3 := Aside0.mk (show w3.heap[w.heap.size]? = some (.cells #[.bool false, .int .u64 0, .int .u64 0, .int .i64 0] 26 (0, 0)) from blk_below (blk_alloc Z2.out _) hb)
  have A3 := Aside0.mk (show w3.heap[w2.heap.size]? = some (.cells #[.bool v, .int .u64 hi, .int .u64 lo] 24 (0, 0)) from blk_below (blk_new _ _) hb)
  clear hb
  go_wp2_with fail
  with_reducible refine (strconv_Itoa.calls b m _ (HLD.out.below W3.out) HI.out).mono ?_
  rintro e1 w4 ⟨rfl, hb⟩
  have W4 := Aside0.mk (show Below w.heap.size w w4 from Below.trans W3.out (pp_below_mono_ hb W3.out.size))
  have Z4 := Aside0.mk (show w4.heap[w.heap.size]? = some (.cells #[.bool false, .int .u64 0, .int .u64 0, .int .i64 0] 26 (0, 0)) from blk_below Z3.out hb)
  have A4 := Aside0.mk (show w4.heap[w2.heap.size]? = some (.cells #[.bool v, .int .u64 hi, .int .u64 lo] 24 (0, 0)) from blk_below A3.out hb)
  have n4 : w.heap.size ≠ w4.heap.size := Nat.ne_of_lt (blk_lt Z4.out)
  have n4s : w4.heap.size ≠ w.heap.size := n4.symm
  have m4 : w2.heap.size ≠ w4.heap.size := Nat.ne_of_lt (blk_lt A4.out)
  have m4s : w4.heap.size ≠ w2.heap.size := m4.symm
  clear hb
  have z0 : w4.cell? ⟨w.heap.size, 0, none⟩ = some (.bool false) := (blk_cell Z4.out 0).trans rfl
  have zf0 := blk_frozen Z4.out 0
  have z1 : w4.cell? ⟨w.heap.size, 1, none⟩ = some (.int .u64 0) := (blk_cell Z4.out 1).trans rfl
  have zf1 := blk_frozen Z4.out 1
  have z2 : w4.cell? ⟨w.heap.size, 2, none⟩ = some (.int .u64 0) := (blk_cell Z4.out 2).trans rfl
  have zf2 := blk_frozen Z4.out 2
  have z3 : w4.cell? ⟨w.heap.size, 3, none⟩ = some (.int .i64 0) := (blk_cell Z4.out 3).trans rfl
  have zf3 := blk_frozen Z4.out 3
  go_wp2_with fail
  refine bodyPost_ret (results_ct rfl _ _ w.heap.size 26 #[.bool false, .int .u64 0, .int .u64 0, .int .i64 0] (0, 0) _ rfl (by (with_reducible repeat (first | refine blk_drewN ?_ _ | refine blk_drew ?_ | refine blk_alloc ?_ _)); refine blk_put (cs := #[.bool false, .int .u64 0, .int .u64 0, .int .i64 0]) ?_ 3 _ rfl; refine blk_put (cs := #[.bool false, .int .u64 0, .int .u64 0, .int .i64 0]) ?_ 2 _ rfl; refine blk_put (cs := #[.bool false, .int .u64 0, .int .u64 0, .int .i64 0]) ?_ 1 _ rfl; refine blk_put (cs := #[.bool false, .int .u64 0, .int .u64 0, .int .i64 0]) ?_ 0 _ rfl; (with_reducible repeat (first | refine blk_drewN ?_ _ | refine blk_drew ?_ | refine blk_alloc ?_ _)); exact Z4.out) Tryz.underlying26 rfl (by kernel_rfl)) rfl ?_
  exact ⟨rfl, by repeat (first | exact W4.out | apply below_alloc | apply pw_below_drewN | apply below_drew1 | refine below_set ?_ (Nat.le_refl _))⟩
set_option maxHeartbeats 4000000 in
set_option maxRecDepth 100000 in
theorem Parse_e (k : Nat) (s a n : ByteArray) (hs : s.size ≤ 140737488355328) (ha : (⟨(Lib.cut s.data.toList [47]).1.toArray⟩ : ByteArray) = a) (hb : (⟨(Lib.cut s.data.toList [47]).2.1.toArray⟩ : ByteArray) = n) (hk : (Lib.cut s.data.toList [47]).2.2 = true) (v : Bool) (hi lo : Int) (hp : addr_Parse.f k a = some (v, hi, lo, 0)) (hz : n.size ≤ 140737488355328) (b : Int) (hat : Lib.atoiAll n.data.toList = .ok b) (m : ByteArray) (hit : strconv_Itoa.f b = some m) (hne : m.toList = n.toList) (hv : prefix_Valid.f v hi lo b = some false) (w : World) (hLD : Laid w) :
    Calls Tryz.prog 7 #[.string s] w fun e w' => e = .returned (.tuple #[.agg #[.bool false, .int .u64 0, .int .u64 0, .int .i64 0], .int .i64 3]) ∧ Below w.heap.size w w' := by
  have huA_ := Tryz.underlying24
  have huP_ := Tryz.underlying26
  have HLD := Aside0.mk hLD
  have HA := Aside0.mk ha
  have HB := Aside0.mk hb
  have HK := Aside0.mk hk
  have HP := Aside0.mk hp
  have HT := Aside0.mk hat
  have HI := Aside0.mk hit
  have hs2 : (m.toList == n.toList) = true := beq_iff_eq.mpr hne
  have HV := Aside0.mk hv
  clear hLD ha hb hk hp hat hit hne hv
  go_enter Tryz.func7, Tryz.ntmps7
  go_wp2_with fail
  with_reducible refine (cutp_calls s a n true (by omega) HA.out HB.out HK.out _).mono ?_
  rintro e w1 ⟨rfl, hb⟩
  have W1 := Aside0.mk (show Below w.heap.size w w1 from Below.trans (below_alloc (Below.refl _ _) _) (pp_below_mono_ hb (by simp)))
  have Z1 := Aside0.mk (show w1.heap[w.heap.size]? = some (.cells #[.bool false, .int .u64 0, .int .u64 0, .int .i64 0] 26 (0, 0)) from blk_below (blk_new _ _) hb)
  clear hb
  go_wp2_with fail
  with_reducible refine (addr_Parse.calls k a v hi lo 0 _ (HLD.out.below W1.out) HP.out).mono ?_
  rintro e1 w2 ⟨rfl, hb⟩
  have W2 := Aside0.mk (show Below w.heap.size w w2 from Below.trans W1.out (pp_below_mono_ hb W1.out.size))
  have Z2 := Aside0.mk (show w2.heap[w.heap.size]? = some (.cells #[.bool false, .int .u64 0, .int .u64 0, .int .i64 0] 26 (0, 0)) from blk_below Z1.out hb)
  have n2 : w.heap.size ≠ w2.heap.size := Nat.ne_of_lt (blk_lt Z2.out)
  have n2s : w2.heap.size ≠ w.heap.size := n2.symm
  clear hb
  go_wp2_with fail
  refine (atoi_yes n (by omega) b HT.out _).mono ?_
  rintro e1 w3 ⟨rfl, hb⟩
  have W3 := Aside0.mk (show Below w.heap.size w w3 from Below.trans (below_alloc W2.out _) (pp_below_mono_ hb (below_alloc W2.out _).size))
  have Z3 := Aside0.mk (show w3.heap[w.heap.size]? = some (.cells #[.bool false, .int .u64 0, .int .u64 0, .int .i64 0] 26 (0, 0)) from blk_below (blk_alloc Z2.out _) hb)
  have A3 := Aside0.mk (show w3.heap[w2.heap.size]? = some (.cells #[.bool v, .int .u64 hi, .int .u64 lo] 24 (0, 0)) from blk_below (blk_new _ _) hb)
  clear hb
  go_wp2_with fail
  with_reducible refine (strconv_Itoa.calls b m _ (HLD.out.below W3.out) HI.out).mono ?_
  rintro e1 w4 ⟨rfl, hb⟩
  have W4 := Aside0.mk (show Below w.heap.size w w4 from Below.trans W3.out (pp_below_mono_ hb W3.out.size))
  have Z4 := Aside0.mk (show w4.heap[w.heap.size]? = some (.cells #[.bool false, .int .u64 0, .int .u64 0, .int .i64 0] 26 (0, 0)) from blk_below Z3.out hb)
  have A4 := Aside0.mk (show w4.heap[w2.heap.size]? = some (.cells #[.bool v, .int .u64 hi, .int .u64 lo] 24 (0, 0)) from blk_below A3.out hb)
  have n4 : w.heap.size ≠ w4.heap.size := Nat.ne_of_lt (blk_lt Z4.out)
  have n4s : w4.heap.size ≠ w.heap.size := n4.symm
  have m4 : w2.heap.size ≠ w4.heap.size := Nat.ne_of_lt (blk_lt A4.out)
  have m4s : w4.heap.size ≠ w2.heap.size := m4.symm
  clear hb
  have c0 : w4.cell? ⟨w2.heap.size, 0, none⟩ = some (.bool v) := (blk_cell A4.out 0).trans rfl
  have c1 : w4.cell? ⟨w2.heap.size, 1, none⟩ = some (.int .u64 hi) := (blk_cell A4.out 1).trans rfl
  have c2 : w4.cell? ⟨w2.heap.size, 2, none⟩ = some (.int .u64 lo) := (blk_cell A4.out 2).trans rfl
  go_wp2_with fail
  with_reducible refine (prefix_Valid.calls v hi lo b false _ HV.out).mono ?_
  rintro e1 w5 ⟨rfl, hb⟩
  have W5 := Aside0.mk (show Below w.heap.size w w5 from Below.trans (below_alloc W4.out _) (pp_below_mono_ hb (below_alloc W4.out _).size))
  have Z5 := Aside0.mk (show w5.heap[w.heap.size]? = some (.cells #[.bool false, .int .u64 0, .int .u64 0, .int .i64 0] 26 (0, 0)) from blk_below (blk_alloc Z4.out _) hb)
  have A5 := Aside0.mk (show w5.heap[w4.heap.size]? = some (.cells #[.bool v, .int .u64 hi, .int .u64 lo, .int .i64 b] 26 (0, 0)) from blk_below (blk_new _ _) hb)
  clear hb c0 c1 c2
  have z0 : w5.cell? ⟨w.heap.size, 0, none⟩ = some (.bool false) := (blk_cell Z5.out 0).trans rfl
  have zf0 := blk_frozen Z5.out 0
  have z1 : w5.cell? ⟨w.heap.size, 1, none⟩ = some (.int .u64 0) := (blk_cell Z5.out 1).trans rfl
  have zf1 := blk_frozen Z5.out 1
  have z2 : w5.cell? ⟨w.heap.size, 2, none⟩ = some (.int .u64 0) := (blk_cell Z5.out 2).trans rfl
  have zf2 := blk_frozen Z5.out 2
  have z3 : w5.cell? ⟨w.heap.size, 3, none⟩ = some (.int .i64 0) := (blk_cell Z5.out 3).trans rfl
  have zf3 := blk_frozen Z5.out 3
  have d0 : w5.cell? ⟨w4.heap.size, 0, none⟩ = some (.bool v) := (blk_cell A5.out 0).trans rfl
  have d1 : w5.cell? ⟨w4.heap.size, 1, none⟩ = some (.int .u64 hi) := (blk_cell A5.out 1).trans rfl
  have d2 : w5.cell? ⟨w4.heap.size, 2, none⟩ = some (.int .u64 lo) := (blk_cell A5.out 2).trans rfl
  have d3 : w5.cell? ⟨w4.heap.size, 3, none⟩ = some (.int .i64 b) := (blk_cell A5.out 3).trans rfl
  go_wp2_with fail
  refine bodyPost_ret (results_ct rfl _ _ w.heap.size 26 #[.bool false, .int .u64 0, .int .u64 0, .int .i64 0] (0, 0) _ rfl (by (with_reducible repeat (first | refine blk_drewN ?_ _ | refine blk_drew ?_ | refine blk_alloc ?_ _)); refine blk_put (cs := #[.bool false, .int .u64 0, .int .u64 0, .int .i64 0]) ?_ 3 _ rfl; refine blk_put (cs := #[.bool false, .int .u64 0, .int .u64 0, .int .i64 0]) ?_ 2 _ rfl; refine blk_put (cs := #[.bool false, .int .u64 0, .int .u64 0, .int .i64 0]) ?_ 1 _ rfl; refine blk_put (cs := #[.bool false, .int .u64 0, .int .u64 0, .int .i64 0]) ?_ 0 _ rfl; (with_reducible repeat (first | refine blk_drewN ?_ _ | refine blk_drew ?_ | refine blk_alloc ?_ _)); exact Z5.out) Tryz.underlying26 rfl (by kernel_rfl)) rfl ?_
  exact ⟨rfl, by repeat (first | exact W5.out | apply below_alloc | apply pw_below_drewN | apply below_drew1 | refine below_set ?_ (Nat.le_refl _))⟩
set_option maxHeartbeats 4000000 in
set_option maxRecDepth 100000 in
theorem Parse_f (k : Nat) (s a n : ByteArray) (hs : s.size ≤ 140737488355328) (ha : (⟨(Lib.cut s.data.toList [47]).1.toArray⟩ : ByteArray) = a) (hb : (⟨(Lib.cut s.data.toList [47]).2.1.toArray⟩ : ByteArray) = n) (hk : (Lib.cut s.data.toList [47]).2.2 = true) (v : Bool) (hi lo : Int) (hp : addr_Parse.f k a = some (v, hi, lo, 0)) (hz : n.size ≤ 140737488355328) (b : Int) (hat : Lib.atoiAll n.data.toList = .ok b) (m : ByteArray) (hit : strconv_Itoa.f b = some m) (hne : m.toList = n.toList) (hv : prefix_Valid.f v hi lo b = some true) (w : World) (hLD : Laid w) :
    Calls Tryz.prog 7 #[.string s] w fun e w' => e = .returned (.tuple #[.agg #[.bool v, .int .u64 hi, .int .u64 lo, .int .i64 b], .int .i64 0]) ∧ Below w.heap.size w w' := by
  have huA_ := Tryz.underlying24
  have huP_ := Tryz.underlying26
  have HLD := Aside0.mk hLD
  have HA := Aside0.mk ha
  have HB := Aside0.mk hb
  have HK := Aside0.mk hk
  have HP := Aside0.mk hp
  have HT := Aside0.mk hat
  have HI := Aside0.mk hit
  have hs2 : (m.toList == n.toList) = true := beq_iff_eq.mpr hne
  have HV := Aside0.mk hv
  clear hLD ha hb hk hp hat hit hne hv
  go_enter Tryz.func7, Tryz.ntmps7
  go_wp2_with fail
  with_reducible refine (cutp_calls s a n true (by omega) HA.out HB.out HK.out _).mono ?_
  rintro e w1 ⟨rfl, hb⟩
  have W1 := Aside0.mk (show Below w.heap.size w w1 from Below.trans (below_alloc (Below.refl _ _) _) (pp_below_mono_ hb (by simp)))
  have Z1 := Aside0.mk (show w1.heap[w.heap.size]? = some (.cells #[.bool false, .int .u64 0, .int .u64 0, .int .i64 0] 26 (0, 0)) from blk_below (blk_new _ _) hb)
  clear hb
  go_wp2_with fail
  with_reducible refine (addr_Parse.calls k a v hi lo 0 _ (HLD.out.below W1.out) HP.out).mono ?_
  rintro e1 w2 ⟨rfl, hb⟩
  have W2 := Aside0.mk (show Below w.heap.size w w2 from Below.trans W1.out (pp_below_mono_ hb W1.out.size))
  have Z2 := Aside0.mk (show w2.heap[w.heap.size]? = some (.cells #[.bool false, .int .u64 0, .int .u64 0, .int .i64 0] 26 (0, 0)) from blk_below Z1.out hb)
  have n2 : w.heap.size ≠ w2.heap.size := Nat.ne_of_lt (blk_lt Z2.out)
  have n2s : w2.heap.size ≠ w.heap.size := n2.symm
  clear hb
  go_wp2_with fail
  refine (atoi_yes n (by omega) b HT.out _).mono ?_
  rintro e1 w3 ⟨rfl, hb⟩
  have W3 := Aside0.mk (show Below w.heap.size w w3 from Below.trans (below_alloc W2.out _) (pp_below_mono_ hb (below_alloc W2.out _).size))
  have Z3 := Aside0.mk (show w3.heap[w.heap.size]? = some (.cells #[.bool false, .int .u64 0, .int .u64 0, .int .i64 0] 26 (0, 0)) from blk_below (blk_alloc Z2.out _) hb)
  have A3 := Aside0.mk (show w3.heap[w2.heap.size]? = some (.cells #[.bool v, .int .u64 hi, .int .u64 lo] 24 (0, 0)) from blk_below (blk_new _ _) hb)
  clear hb
  go_wp2_with fail
  with_reducible refine (strconv_Itoa.calls b m _ (HLD.out.below W3.out) HI.out).mono ?_
  rintro e1 w4 ⟨rfl, hb⟩
  have W4 := Aside0.mk (show Below w.heap.size w w4 from Below.trans W3.out (pp_below_mono_ hb W3.out.size))
  have Z4 := Aside0.mk (show w4.heap[w.heap.size]? = some (.cells #[.bool false, .int .u64 0, .int .u64 0, .int .i64 0] 26 (0, 0)) from blk_below Z3.out hb)
  have A4 := Aside0.mk (show w4.heap[w2.heap.size]? = some (.cells #[.bool v, .int .u64 hi, .int .u64 lo] 24 (0, 0)) from blk_below A3.out hb)
  have n4 : w.heap.size ≠ w4.heap.size := Nat.ne_of_lt (blk_lt Z4.out)
  have n4s : w4.heap.size ≠ w.heap.size := n4.symm
  have m4 : w2.heap.size ≠ w4.heap.size := Nat.ne_of_lt (blk_lt A4.out)
  have m4s : w4.heap.size ≠ w2.heap.size := m4.symm
  clear hb
  have c0 : w4.cell? ⟨w2.heap.size, 0, none⟩ = some (.bool v) := (blk_cell A4.out 0).trans rfl
  have c1 : w4.cell? ⟨w2.heap.size, 1, none⟩ = some (.int .u64 hi) := (blk_cell A4.out 1).trans rfl
  have c2 : w4.cell? ⟨w2.heap.size, 2, none⟩ = some (.int .u64 lo) := (blk_cell A4.out 2).trans rfl
  go_wp2_with fail
  with_reducible refine (prefix_Valid.calls v hi lo b true _ HV.out).mono ?_
  rintro e1 w5 ⟨rfl, hb⟩
  have W5 := Aside0.mk (show Below w.heap.size w w5 from Below.trans (below_alloc W4.out _) (pp_below_mono_ hb (below_alloc W4.out _).size))
  have Z5 := Aside0.mk (show w5.heap[w.heap.size]? = some (.cells #[.bool false, .int .u64 0, .int .u64 0, .int .i64 0] 26 (0, 0)) from blk_below (blk_alloc Z4.out _) hb)
  have A5 := Aside0.mk (show w5.heap[w4.heap.size]? = some (.cells #[.bool v, .int .u64 hi, .int .u64 lo, .int .i64 b] 26 (0, 0)) from blk_below (blk_new _ _) hb)
  clear hb c0 c1 c2
  have z0 : w5.cell? ⟨w.heap.size, 0, none⟩ = some (.bool false) := (blk_cell Z5.out 0).trans rfl
  have zf0 := blk_frozen Z5.out 0
  have z1 : w5.cell? ⟨w.heap.size, 1, none⟩ = some (.int .u64 0) := (blk_cell Z5.out 1).trans rfl
  have zf1 := blk_frozen Z5.out 1
  have z2 : w5.cell? ⟨w.heap.size, 2, none⟩ = some (.int .u64 0) := (blk_cell Z5.out 2).trans rfl
  have zf2 := blk_frozen Z5.out 2
  have z3 : w5.cell? ⟨w.heap.size, 3, none⟩ = some (.int .i64 0) := (blk_cell Z5.out 3).trans rfl
  have zf3 := blk_frozen Z5.out 3
  have d0 : w5.cell? ⟨w4.heap.size, 0, none⟩ = some (.bool v) := (blk_cell A5.out 0).trans rfl
  have d1 : w5.cell? ⟨w4.heap.size, 1, none⟩ = some (.int .u64 hi) := (blk_cell A5.out 1).trans rfl
  have d2 : w5.cell? ⟨w4.heap.size, 2, none⟩ = some (.int .u64 lo) := (blk_cell A5.out 2).trans rfl
  have d3 : w5.cell? ⟨w4.heap.size, 3, none⟩ = some (.int .i64 b) := (blk_cell A5.out 3).trans rfl
  go_wp2_with fail
  refine bodyPost_ret (results_ct rfl _ _ w.heap.size 26 #[.bool v, .int .u64 hi, .int .u64 lo, .int .i64 b] (0, 0) _ rfl (by (with_reducible repeat (first | refine blk_drewN ?_ _ | refine blk_drew ?_ | refine blk_alloc ?_ _)); refine blk_put (cs := #[.bool v, .int .u64 hi, .int .u64 lo, .int .i64 0]) ?_ 3 _ rfl; refine blk_put (cs := #[.bool v, .int .u64 hi, .int .u64 0, .int .i64 0]) ?_ 2 _ rfl; refine blk_put (cs := #[.bool v, .int .u64 0, .int .u64 0, .int .i64 0]) ?_ 1 _ rfl; refine blk_put (cs := #[.bool false, .int .u64 0, .int .u64 0, .int .i64 0]) ?_ 0 _ rfl; (with_reducible repeat (first | refine blk_drewN ?_ _ | refine blk_drew ?_ | refine blk_alloc ?_ _)); exact Z5.out) Tryz.underlying26 rfl (by kernel_rfl)) rfl ?_
  exact ⟨rfl, by repeat (first | exact W5.out | apply below_alloc | apply pw_below_drewN | apply below_drew1 | refine below_set ?_ (Nat.le_refl _))⟩
def pfx_rest (n : ByteArray) (v : Bool) (hi lo e : Int) : Option (Bool × Int × Int × Int × Int) :=
  if e = 0 then
    (match Lib.atoiAll n.data.toList with
    | .ok b => (strconv_Itoa.f b).bind fun m => if m.toList = n.toList then (prefix_Valid.f v hi lo b).bind fun q => (if q = true then some (v, hi, lo, b, 0) else some (false, 0, 0, 0, 3)) else some (false, 0, 0, 0, 3)
    | _ => some (false, 0, 0, 0, 3))
  else some (false, 0, 0, 0, 3)
def prefix_Parse.f (k : Nat) (a0 : ByteArray) : Option (Bool × Int × Int × Int × Int) :=
  if a0.size ≤ 140737488355328 ∧ (⟨(Lib.cut a0.data.toList [47]).2.1.toArray⟩ : ByteArray).size ≤ 140737488355328 then
    (if (Lib.cut a0.data.toList [47]).2.2 = true then (addr_Parse.f k (⟨(Lib.cut a0.data.toList [47]).1.toArray⟩ : ByteArray)).bind fun p => pfx_rest (⟨(Lib.cut a0.data.toList [47]).2.1.toArray⟩ : ByteArray) p.1 p.2.1 p.2.2.1 p.2.2.2
    else some (false, 0, 0, 0, 3))
  else none
theorem prefix_Parse.mono : ∀ a0 k, LeO (prefix_Parse.f k a0) (prefix_Parse.f (k + 1) a0) := by
  intro a0 k
  unfold prefix_Parse.f
  refine LeO.ite ?_ (LeO.refl _)
  refine LeO.ite ?_ (LeO.refl _)
  exact LeO.bind (addr_Parse.mono _ _) (fun _ => LeO.refl _)
theorem prefix_Parse.calls (k : Nat) (a0 : ByteArray) (r1 : Bool) (r2 : Int) (r3 : Int) (r4 : Int) (r5 : Int) (w : World) (hLD : Laid w) (h : prefix_Parse.f k a0 = some (r1, r2, r3, r4, r5)) :
    Calls Tryz.prog 7 #[.string a0] w fun e w' => e = .returned (.tuple #[.agg #[.bool r1, .int .u64 r2, .int .u64 r3, .int .i64 r4], .int .i64 r5]) ∧ Below w.heap.size w w' := by
  unfold prefix_Parse.f at h
  by_cases hz : a0.size ≤ 140737488355328 ∧ (⟨(Lib.cut a0.data.toList [47]).2.1.toArray⟩ : ByteArray).size ≤ 140737488355328
  · rw [if_pos hz] at h
    obtain ⟨hs, hn⟩ := hz
    by_cases hk : (Lib.cut a0.data.toList [47]).2.2 = true
    · rw [if_pos hk] at h
      obtain ⟨⟨v, hi, lo, e⟩, hp, h⟩ := Option.bind_eq_some_iff.mp h
      unfold pfx_rest at h
      by_cases he : e = 0
      · subst he
        rw [if_pos rfl] at h
        cases hat : Lib.atoiAll (⟨(Lib.cut a0.data.toList [47]).2.1.toArray⟩ : ByteArray).data.toList with
        | ok b =>
          rw [hat] at h
          obtain ⟨m, hit, h⟩ := Option.bind_eq_some_iff.mp h
          by_cases hne : m.toList = (⟨(Lib.cut a0.data.toList [47]).2.1.toArray⟩ : ByteArray).toList
          · rw [if_pos hne] at h
            obtain ⟨q, hv, h⟩ := Option.bind_eq_some_iff.mp h
            cases q with
            | true =>
              simp only [if_true, Option.some.injEq, Prod.mk.injEq] at h
              obtain ⟨rfl, rfl, rfl, rfl, rfl⟩ := h
              exact Parse_f k a0 _ _ hs rfl rfl hk v hi lo hp hn b hat m hit hne hv w hLD
            | false =>
              simp only [Bool.false_eq_true, if_false, Option.some.injEq, Prod.mk.injEq] at h
              obtain ⟨rfl, rfl, rfl, rfl, rfl⟩ := h
              exact Parse_e k a0 _ _ hs rfl rfl hk v hi lo hp hn b hat m hit hne hv w hLD
          · rw [if_neg hne] at h
            simp only [Option.some.injEq, Prod.mk.injEq] at h
            obtain ⟨rfl, rfl, rfl, rfl, rfl⟩ := h
            exact Parse_d k a0 _ _ hs rfl rfl hk v hi lo hp hn b hat m hit hne w hLD
        | range =>
          rw [hat] at h
          simp only [Option.some.injEq, Prod.mk.injEq] at h
          obtain ⟨rfl, rfl, rfl, rfl, rfl⟩ := h
          exact Parse_c k a0 _ _ hs rfl rfl hk v hi lo hp hn (fun v hv => by rw [hat] at hv; cases hv) w hLD
        | _ =>
          rw [hat] at h
          simp only [Option.some.injEq, Prod.mk.injEq] at h
          obtain ⟨rfl, rfl, rfl, rfl, rfl⟩ := h
          exact Parse_c k a0 _ _ hs rfl rfl hk v hi lo hp hn (fun v hv => by rw [hat] at hv; cases hv) w hLD
      · rw [if_neg he] at h
        simp only [Option.some.injEq, Prod.mk.injEq] at h
        obtain ⟨rfl, rfl, rfl, rfl, rfl⟩ := h
        exact Parse_b k a0 _ _ hs rfl rfl hk v hi lo e hp he w hLD
    · rw [if_neg hk] at h
      simp only [Option.some.injEq, Prod.mk.injEq] at h
      obtain ⟨rfl, rfl, rfl, rfl, rfl⟩ := h
      exact Parse_a k a0 _ _ hs rfl rfl (by simpa using hk) w hLD
  · rw [if_neg hz] at h
    cases h

/-! ### ddiref03_ones: function 44 -/
def ddiref03_ones.l0 : Nat → Int → Int → Int → Int → Option (Int × Int)
 | 0, _, _, _, _ => none
 | k + 1, x0, x4, x5, x6 => if x6 < x0 then (if x6 < 128 then (ddiref03_ones.l0 k x0 (IntKind.u64.wrap ((IntKind.u64.wrap (x4 * 2)) + (IntKind.u64.wrap (Int.tdiv x5 9223372036854775808)))) (IntKind.u64.wrap ((IntKind.u64.wrap (x5 * 2)) + 1)) (wrap64 (x6 + 1))) else (some (x4, x5))) else (some (x4, x5))
def ddiref03_ones.f (k : Nat) (a0 : Int) : Option (Int × Int) := ddiref03_ones.l0 k a0 0 0 0
theorem ddiref03_ones.mono_l : ∀ k, (∀ y0 y1 y2 y3, LeO (ddiref03_ones.l0 k y0 y1 y2 y3) (ddiref03_ones.l0 (k + 1) y0 y1 y2 y3))
 | 0 => fun _ _ _ _ r h => by simp [ddiref03_ones.l0] at h
 | k + 1 => by
  have ih0 := ddiref03_ones.mono_l k
  ·
   intro y0 y1 y2 y3
   unfold ddiref03_ones.l0
   repeat' with_reducible first | exact ih0 _ _ _ _ | exact LeO.refl _ | exact LeO.none _ | refine LeO.ite ?_ ?_ | refine LeO.bind ?_ (fun _ => ?_)
theorem ddiref03_ones.mono : ∀ a0 k, LeO (ddiref03_ones.f k a0) (ddiref03_ones.f (k + 1) a0) := by
 intro a0 k
 have ih0 := ddiref03_ones.mono_l k
 unfold ddiref03_ones.f
 repeat' with_reducible first | exact ih0 _ _ _ _ | exact LeO.refl _ | exact LeO.none _ | refine LeO.ite ?_ ?_ | refine LeO.bind ?_ (fun _ => ?_)
set_option maxHeartbeats 40000000 in
set_option maxRecDepth 100000 in
theorem ddiref03_ones.calls (k : Nat) (a0 : Int) (r1 : Int) (r2 : Int) (w : World) (h : ddiref03_ones.f k a0 = some (r1, r2)) :
 Calls Tryz.prog 44 #[.int .i64 a0] w fun e w' => e = .returned (.tuple #[.int .u64 r1, .int .u64 r2]) ∧ Drawn0 w w' := by
 have H : (ddiref03_ones.l0 k a0 0 0 0) = some (r1, r2) := h
 clear h
 have H' := Aside0.mk H
 clear H
 go_enter Tryz.func44, Tryz.ntmps44
 go_wp2
 go_loopg [4, 5, 6] k (fun kq v4 v5 v6 w' => ∃ (x4_1 : Int) (x5_1 : Int) (x6_1 : Int), v4 = .int .u64 x4_1 ∧ v5 = .int .u64 x5_1 ∧ v6 = .int .i64 x6_1 ∧ Aside0 (ddiref03_ones.l0 kq a0 x4_1 x5_1 x6_1 = some (r1, r2)) ∧ Aside0 (kq ≤ k) ∧ Drawn0 w w')
 case atStart => exact ⟨(0), (0), (0), pT, pT, pT, H', ⟨Nat.le_refl _⟩, by repeat (first | exact Drawn0.refl _ | apply Drawn0.step)⟩
 case round =>
  clear H'
  obtain ⟨x4_1, x5_1, x6_1, rfl, rfl, rfl, HA, HK1, ⟨m1, rfl⟩⟩ := hrel
  cases gk with
  | zero => exact absurd HA.out (by simp [ddiref03_ones.l0])
  | succ k1 =>
   have H := HA.out
   clear HA
   simp only [ddiref03_ones.l0] at H
   by_cases c2 : x6_1 < a0
   ·
    rw [if_pos c2] at H
    have c2b0 := decide_eq_true c2
    clear c2
    by_cases c3 : x6_1 < 128
    ·
     rw [if_pos c3] at H
     have c3b0 := decide_eq_true c3
     clear c3
     have H' := Aside0.mk H
     clear H
     go_wp2
     go_roundg k1
     case measure => have := HK1.out; omega
     case rel => exact ⟨(IntKind.u64.wrap ((IntKind.u64.wrap (x4_1 * 2)) + (IntKind.u64.wrap (Int.tdiv x5_1 9223372036854775808)))), (IntKind.u64.wrap ((IntKind.u64.wrap (x5_1 * 2)) + 1)), (wrap64 (x6_1 + 1)), pT, pT, pT, H', ⟨by have := HK1.out; omega⟩, by repeat (first | exact Drawn0.refl _ | apply Drawn0.step)⟩
    ·
     rw [if_neg c3] at H
     have c3b0 := decide_eq_false c3
     clear c3
     simp only [Option.some.injEq, Prod.mk.injEq] at H
     obtain ⟨rfl, rfl⟩ := H
     go_wp2
     go_ret2
     exact ⟨by first | rfl | (simp; done) | (simp [*]; done) | ((try simp only [Bool.not_not]); (generalize ByteArray.toList _ = l_); cases l_ <;> rfl) | (simp; (generalize ByteArray.toList _ = l_); cases l_ <;> rfl), by repeat (first | exact Drawn0.refl _ | apply Drawn0.step)⟩
   ·
    rw [if_neg c2] at H
    have c2b0 := decide_eq_false c2
    clear c2
    simp only [Option.some.injEq, Prod.mk.injEq] at H
    obtain ⟨rfl, rfl⟩ := H
    go_wp2
    go_ret2
    exact ⟨by first | rfl | (simp; done) | (simp [*]; done) | ((try simp only [Bool.not_not]); (generalize ByteArray.toList _ = l_); cases l_ <;> rfl) | (simp; (generalize ByteArray.toList _ = l_); cases l_ <;> rfl), by repeat (first | exact Drawn0.refl _ | apply Drawn0.step)⟩

/-! ### ddiref03_Long: function 45 -/
def ddiref03_Long.f (a0 : Bool) : Option (Int) := if a0 = true then (some 128) else (some 32)
set_option maxHeartbeats 40000000 in
set_option maxRecDepth 100000 in
theorem ddiref03_Long.calls (a0 : Bool) (r : Int) (w : World) (h : ddiref03_Long.f a0 = some r) :
 Calls Tryz.prog 45 #[.bool a0] w fun e w' => e = .returned (.int .i64 r) ∧ Drawn0 w w' := by
 have H : (if a0 = true then (some 128) else (some 32)) = some r := h
 clear h
 by_cases c2 : a0 = true
 ·
  subst c2
  rw [if_pos rfl] at H
  obtain rfl := Option.some.inj H
  go_enter Tryz.func45, Tryz.ntmps45
  go_wp2
  go_ret
  exact ⟨by first | rfl | (simp; done) | (simp [*]; done) | ((try simp only [Bool.not_not]); (generalize ByteArray.toList _ = l_); cases l_ <;> rfl) | (simp; (generalize ByteArray.toList _ = l_); cases l_ <;> rfl), by repeat (first | exact Drawn0.refl _ | apply Drawn0.step)⟩
 ·
  replace c2 := Bool.eq_false_iff.mpr c2
  subst c2
  rw [if_neg (show ¬ (false = true) by decide)] at H
  obtain rfl := Option.some.inj H
  go_enter Tryz.func45, Tryz.ntmps45
  go_wp2
  go_ret
  exact ⟨by first | rfl | (simp; done) | (simp [*]; done) | ((try simp only [Bool.not_not]); (generalize ByteArray.toList _ = l_); cases l_ <;> rfl) | (simp; (generalize ByteArray.toList _ = l_); cases l_ <;> rfl), by repeat (first | exact Drawn0.refl _ | apply Drawn0.step)⟩

/-! ### ddiref02_Valid: function 54 -/
def ddiref02_Valid.f (a0_0 : Bool) (a0_1 : Int) (a0_2 : Int) : Option (Bool) := if a0_0 = true then (some true) else (if a0_1 = 0 then (some (decide (a0_2 < 4294967296))) else (some false))
set_option maxHeartbeats 40000000 in
set_option maxRecDepth 100000 in
theorem ddiref02_Valid.calls (a0_0 : Bool) (a0_1 : Int) (a0_2 : Int) (r : Bool) (w : World) (h : ddiref02_Valid.f a0_0 a0_1 a0_2 = some r) :
 Calls Tryz.prog 54 #[.agg #[.bool a0_0, .int .u64 a0_1, .int .u64 a0_2]] w fun e w' => e = .returned (.bool r) ∧ Below w.heap.size w w' := by
 have hu24 := Tryz.underlying24
 have HB := Aside0.mk (Below.refl w.heap.size w)
 have H : (if a0_0 = true then (some true) else (if a0_1 = 0 then (some (decide (a0_2 < 4294967296))) else (some false))) = some r := h
 clear h
 by_cases c2 : a0_0 = true
 ·
  subst c2
  rw [if_pos rfl] at H
  obtain rfl := Option.some.inj H
  go_enter Tryz.func54, Tryz.ntmps54
  go_wp2_with (first | ((with_reducible refine gate_dst (N := 1) rfl ?_); refine boxA (N := 1) (cs := #[.bool true, .int .u64 a0_1, .int .u64 a0_2]) (t := 24) ?_; intro gb135 hg w3 hbox hb; have BK135 := Aside0.mk (hbox); have GW135 := (pZ HB hg); have GE135 := (pZ HB hg); replace HB := (pS HB hb); clear hb hbox hg; obtain ⟨hcz4_0, hcz4_1, hcz4_2, hfz4_0, hfz4_1, hfz4_2⟩ := pC3 BK135))
  go_ret
  exact pR (pE HB)
 ·
  replace c2 := Bool.eq_false_iff.mpr c2
  subst c2
  rw [if_neg (show ¬ (false = true) by decide)] at H
  by_cases c5 : a0_1 = 0
  ·
   rw [if_pos c5] at H
   have c5b0 : (a0_1 == 0) = true := beq_iff_eq.mpr c5
   have c5b1 : (a0_1 != 0) = false := bne_eq_false_iff_eq.mpr c5
   clear c5
   obtain rfl := Option.some.inj H
   go_enter Tryz.func54, Tryz.ntmps54
   go_wp2_with (first | ((with_reducible refine gate_dst (N := 1) rfl ?_); refine boxA (N := 1) (cs := #[.bool false, .int .u64 a0_1, .int .u64 a0_2]) (t := 24) ?_; intro gb135 hg w6 hbox hb; have BK135 := Aside0.mk (hbox); have GW135 := (pZ HB hg); have GE135 := (pZ HB hg); replace HB := (pS HB hb); clear hb hbox hg; obtain ⟨hcz7_0, hcz7_1, hcz7_2, hfz7_0, hfz7_1, hfz7_2⟩ := pC3 BK135))
   go_ret
   exact pR (pE HB)
  ·
   rw [if_neg c5] at H
   have c5b0 : (a0_1 == 0) = false := beq_eq_false_iff_ne.mpr c5
   have c5b1 : (a0_1 != 0) = true := bne_iff_ne.mpr c5
   obtain rfl := Option.some.inj H
   go_enter Tryz.func54, Tryz.ntmps54
   go_wp2_with (first | ((with_reducible refine gate_dst (N := 1) rfl ?_); refine boxA (N := 1) (cs := #[.bool false, .int .u64 a0_1, .int .u64 a0_2]) (t := 24) ?_; intro gb135 hg w8 hbox hb; have BK135 := Aside0.mk (hbox); have GW135 := (pZ HB hg); have GE135 := (pZ HB hg); replace HB := (pS HB hb); clear hb hbox hg; obtain ⟨hcz9_0, hcz9_1, hcz9_2, hfz9_0, hfz9_1, hfz9_2⟩ := pC3 BK135))
   go_ret
   exact pR (pE HB)

/-! ### ddiref03_Valid: function 27 -/
def ddiref03_Valid.j0 : Nat → Bool → Bool → Int → Int → Int → Option (Bool)
 | 0, _, _, _, _, _ => none
 | k + 1, x22, x137000, x137001, x137002, x137003 => if x22 = true then (some false) else ((ddiref03_Long.f x137000).bind fun t139 => ((ddiref03_ones.f k (wrap64 (t139 - x137003))).bind fun bt140 => (if (Go.bits .and .u64 x137001 bt140.1) = 0 then (some ((Go.bits .and .u64 x137002 bt140.2) == 0)) else (some false))))
def ddiref03_Valid.f (k : Nat) (a0_0 : Bool) (a0_1 : Int) (a0_2 : Int) (a0_3 : Int) : Option (Bool) := (ddiref02_Valid.f a0_0 a0_1 a0_2).bind fun t137 => (if t137 = true then (if a0_3 < 0 then (ddiref03_Valid.j0 k true a0_0 a0_1 a0_2 a0_3) else ((ddiref03_Long.f a0_0).bind fun t138 => (ddiref03_Valid.j0 k (decide (a0_3 > t138)) a0_0 a0_1 a0_2 a0_3))) else (ddiref03_Valid.j0 k true a0_0 a0_1 a0_2 a0_3))
theorem ddiref03_Valid.mono_l : ∀ k, (∀ y0 y1 y2 y3 y4, LeO (ddiref03_Valid.j0 k y0 y1 y2 y3 y4) (ddiref03_Valid.j0 (k + 1) y0 y1 y2 y3 y4))
 | 0 => fun _ _ _ _ _ r h => by simp [ddiref03_Valid.j0] at h
 | k + 1 => by
  have ih0 := ddiref03_Valid.mono_l k
  ·
   intro y0 y1 y2 y3 y4
   unfold ddiref03_Valid.j0
   repeat' with_reducible first | exact ih0 _ _ _ _ _ | exact ddiref03_ones.mono _ _ | exact LeO.refl _ | exact LeO.none _ | refine LeO.ite ?_ ?_ | refine LeO.bind ?_ (fun _ => ?_)
theorem ddiref03_Valid.mono : ∀ a0 a1 a2 a3 k, LeO (ddiref03_Valid.f k a0 a1 a2 a3) (ddiref03_Valid.f (k + 1) a0 a1 a2 a3) := by
 intro a0 a1 a2 a3 k
 have ih0 := ddiref03_Valid.mono_l k
 unfold ddiref03_Valid.f
 repeat' with_reducible first | exact ih0 _ _ _ _ _ | exact ddiref03_ones.mono _ _ | exact LeO.refl _ | exact LeO.none _ | refine LeO.ite ?_ ?_ | refine LeO.bind ?_ (fun _ => ?_)
def ddiref03_Valid.T1 : Bool × List (List Nat × List Nat) := (true, [([], []), ([0], [0]), ([1], [1]), ([2], [2]), ([3, 2], [3]), ([4], [4]), ([5, 4], [4, 5]), ([6, 4], [4, 6]), ([4, 7], [4, 7]), ([8, 4], [8]), ([9], [9]), ([10, 9], [9, 10]), ([9], [9]), ([12, 9], [9, 12]), ([13, 9], [9, 13]), ([14, 9, 9], [9, 14]), ([11, 15, 9], [9, 11, 15]), ([9, 16], [9, 16])])
def ddiref03_Valid.B1 : List Nat := [0, 1, 3, 7, 15, 31, 63, 127, 255, 511, 1023, 2047, 1023, 5119, 13311, 29695, 65535, 131071]
theorem ddiref03_Valid.tab1 : rtab .any (opsOf Tryz.f27 1) = ddiref03_Valid.T1 := by kernel_rfl
theorem ddiref03_Valid.bits1 : waitsOk ddiref03_Valid.T1.2 ddiref03_Valid.B1 = true := by kernel_rfl
def ddiref03_Valid.T3 : Bool × List (List Nat × List Nat) := (true, [([], []), ([0], [0]), ([1], [1]), ([2], [2]), ([], []), ([4], [4]), ([3, 5], [3, 5]), ([6, 3], [6]), ([7], [7]), ([8], [8]), ([8], [8]), ([9, 7, 0, 1, 2, 3, 4, 5, 6, 7, 8, 9], [9]), ([10, 11, 0, 1, 2, 3, 4, 5, 6, 7, 8, 9, 10, 11], [10])])
def ddiref03_Valid.B3 : List Nat := [0, 1, 3, 7, 0, 16, 63, 127, 255, 511, 511, 1023, 4095]
theorem ddiref03_Valid.tab3 : rtab .any (opsOf Tryz.f27 3) = ddiref03_Valid.T3 := by kernel_rfl
theorem ddiref03_Valid.bits3 : waitsOk ddiref03_Valid.T3.2 ddiref03_Valid.B3 = true := by kernel_rfl
set_option maxHeartbeats 40000000 in
set_option maxRecDepth 100000 in
theorem ddiref03_Valid.calls (k : Nat) (a0_0 : Bool) (a0_1 : Int) (a0_2 : Int) (a0_3 : Int) (r : Bool) (w : World) (h : ddiref03_Valid.f k a0_0 a0_1 a0_2 a0_3 = some r) :
 Calls Tryz.prog 27 #[.agg #[.bool a0_0, .int .u64 a0_1, .int .u64 a0_2, .int .i64 a0_3]] w fun e w' => e = .returned (.bool r) ∧ Below w.heap.size w w' := by
 have hu26 := Tryz.underlying26
 have hu24 := Tryz.underlying24
 have HB := Aside0.mk (Below.refl w.heap.size w)
 have H : ((ddiref02_Valid.f a0_0 a0_1 a0_2).bind fun t137 => (if t137 = true then (if a0_3 < 0 then (ddiref03_Valid.j0 k true a0_0 a0_1 a0_2 a0_3) else ((ddiref03_Long.f a0_0).bind fun t138 => (ddiref03_Valid.j0 k (decide (a0_3 > t138)) a0_0 a0_1 a0_2 a0_3))) else (ddiref03_Valid.j0 k true a0_0 a0_1 a0_2 a0_3))) = some r := h
 clear h
 have HC2 := Aside0.mk H
 clear H
 go_enter Tryz.func27, Tryz.ntmps27
 go_upto_region 1 with (first | ((with_reducible refine gate_dst (N := 1) rfl ?_); refine boxA (N := 1) (cs := #[.bool a0_0, .int .u64 a0_1, .int .u64 a0_2, .int .i64 a0_3]) (t := 26) ?_; intro gb136 hg w3 hbox hb; have BK136 := Aside0.mk (hbox); have GE136 := (pZ HB hg); replace HB := (pS HB hb); clear hb hbox hg))
 (try simp only [Act.put, List.setIfInBounds_toArray, List.set_cons_zero, List.set_cons_succ])
 go_cut [22] (fun v22 wc => ∃ (kq : Nat) (x22_1 : Bool), v22 = .bool x22_1 ∧ Aside0 (ddiref03_Valid.j0 kq x22_1 a0_0 a0_1 a0_2 a0_3 = some r) ∧ Aside0 (kq ≤ k) ∧ Aside0 (wc.heap[gb136]? = some (.cells #[.bool a0_0, .int .u64 a0_1, .int .u64 a0_2, .int .i64 a0_3] 26 (0, 0))) ∧ Aside0 (Below w.heap.size w wc))
 case first =>
  have H := HC2.out
  clear HC2
  replace H := Option.bind_eq_some_iff.mp H
  obtain ⟨t137, A40, H⟩ := H
  have A4 := Aside0.mk A40
  clear A40
  by_cases c5 : t137 = true
  ·
   subst c5
   rw [if_pos rfl] at H
   by_cases c6 : a0_3 < 0
   ·
    rw [if_pos c6] at H
    have c6b0 := decide_eq_true c6
    clear c6
    (first | rw [c6b0] | (simp only [i64_w, i32_w]; rw [c6b0]) | skip)
    have H' := Aside0.mk H
    clear H
    try go_wp2
    replace BK136 := Aside0.mk (blk_drew BK136.out)
    replace HB := Aside0.mk (below_drew1 HB.out)
    refine start_ (n := 18) (S := fun w' => w'.cell? ⟨gb136, 0, none⟩ = some (.bool a0_0) ∧ w'.cell? ⟨gb136, 1, none⟩ = some (.int .u64 a0_1) ∧ w'.cell? ⟨gb136, 2, none⟩ = some (.int .u64 a0_2) ∧ w'.cell? ⟨gb136, 3, none⟩ = some (.int .i64 a0_3)) (ds := []) (tk 18 0) (by kernel_rfl) rfl rfl ⟨(blk_cell BK136.out 0).trans rfl, (blk_cell BK136.out 1).trans rfl, (blk_cell BK136.out 2).trans rfl, (blk_cell BK136.out 3).trans rfl⟩ (fun hHeld => ?_); refine with_tabW ddiref03_Valid.tab1 ddiref03_Valid.bits1 (fun HT_ HW_ => ?_)
    generalize w3.drew = w7 at BK136 HB hHeld ⊢
    refine pureA (i := 0) (some 5) HT_ (tk 18 1) ?_
    refine takeA (i := 1) (some 6) HT_ HW_ (tk 18 2) hHeld ?_
    refine one_ (i := 2) (N := some 7) (tk 18 3) rfl rfl (one_of HT_.out (by kernel_rfl)) (by decide) (fun K hK => ?_)
    refine goesR Tryz.func54 #[.agg #[.bool a0_0, .int .u64 a0_1, .int .u64 a0_2]] ?_
    with_reducible refine (ddiref02_Valid.calls a0_0 a0_1 a0_2 true _ A4.out).mono ?_
    rintro e w8 ⟨rfl, hb⟩
    refine ⟨_, rfl, ?_⟩
    replace BK136 := (pB BK136 hb)
    replace HB := (pS HB hb)
    (try clear hb)
    refine hK.out _ _ ⟨(blk_cell BK136.out 0).trans rfl, (blk_cell BK136.out 1).trans rfl, (blk_cell BK136.out 2).trans rfl, (blk_cell BK136.out 3).trans rfl⟩ (fun hHeld => ?_)
    clear hK K
    refine normA (N := some 7) ?_
    refine pureA (i := 3) (some 8) HT_ (tk 18 4) ?_
    refine pureA (i := 4) (some 9) HT_ (tk 18 5) ?_
    refine pureA (i := 5) (some 10) HT_ (tk 18 6) ?_
    refine takeA (i := 6) (some 11) HT_ HW_ (tk 18 7) hHeld ?_
    refine pureA (i := 7) (some 12) HT_ (tk 18 8) ?_
    refine pureA (i := 8) (some 13) HT_ (tk 18 9) ?_
    refine pureA (i := 9) (some 14) HT_ (tk 18 10) ?_
    refine pureB (i := 10) (some 15) HT_ (tk 18 11) ?_
    refine pureB (i := 11) (some 16) HT_ (tk 18 12) ?_
    refine pureB (i := 12) (some 17) HT_ (tk 18 13) ?_
    refine pureB (i := 13) (some 18) HT_ (tk 18 14) ?_
    refine pureB (i := 14) (some 19) HT_ (tk 18 15) ?_
    refine pureB (i := 15) (some 20) HT_ (tk 18 16) ?_
    refine pureB (i := 16) (some 21) HT_ (tk 18 17) ?_
    refine pureA (i := 17) (some 22) HT_ (tk 18 18) ?_
    refine done_ (done_of HT_.out (by kernel_rfl)) ?_
    try go_wp2
    refine Met.intro ?_
    go_step
    (repeat apply Exists.intro)
    refine ⟨?rel, ?heq_⟩
    case heq_ => first | rfl | (rw [c6b0]) | (simp only [c6b0])
    case rel => exact ⟨_, (true), pT, H', ⟨by first | omega | exact Nat.le_refl _⟩, ⟨pM BK136⟩, ⟨pE HB⟩⟩
   ·
    rw [if_neg c6] at H
    have c6b0 := decide_eq_false c6
    clear c6
    (first | rw [c6b0] | (simp only [i64_w, i32_w]; rw [c6b0]) | skip)
    replace H := Option.bind_eq_some_iff.mp H
    obtain ⟨t138, A90, H⟩ := H
    have A9 := Aside0.mk A90
    clear A90
    have H' := Aside0.mk H
    clear H
    try go_wp2
    replace BK136 := Aside0.mk (blk_drew BK136.out)
    replace HB := Aside0.mk (below_drew1 HB.out)
    refine start_ (n := 18) (S := fun w' => w'.cell? ⟨gb136, 0, none⟩ = some (.bool a0_0) ∧ w'.cell? ⟨gb136, 1, none⟩ = some (.int .u64 a0_1) ∧ w'.cell? ⟨gb136, 2, none⟩ = some (.int .u64 a0_2) ∧ w'.cell? ⟨gb136, 3, none⟩ = some (.int .i64 a0_3)) (ds := []) (tk 18 0) (by kernel_rfl) rfl rfl ⟨(blk_cell BK136.out 0).trans rfl, (blk_cell BK136.out 1).trans rfl, (blk_cell BK136.out 2).trans rfl, (blk_cell BK136.out 3).trans rfl⟩ (fun hHeld => ?_); refine with_tabW ddiref03_Valid.tab1 ddiref03_Valid.bits1 (fun HT_ HW_ => ?_)
    generalize w3.drew = w10 at BK136 HB hHeld ⊢
    refine pureA (i := 0) (some 5) HT_ (tk 18 1) ?_
    refine takeA (i := 1) (some 6) HT_ HW_ (tk 18 2) hHeld ?_
    refine one_ (i := 2) (N := some 7) (tk 18 3) rfl rfl (one_of HT_.out (by kernel_rfl)) (by decide) (fun K hK => ?_)
    refine goesR Tryz.func54 #[.agg #[.bool a0_0, .int .u64 a0_1, .int .u64 a0_2]] ?_
    with_reducible refine (ddiref02_Valid.calls a0_0 a0_1 a0_2 true _ A4.out).mono ?_
    rintro e w11 ⟨rfl, hb⟩
    refine ⟨_, rfl, ?_⟩
    replace BK136 := (pB BK136 hb)
    replace HB := (pS HB hb)
    (try clear hb)
    refine hK.out _ _ ⟨(blk_cell BK136.out 0).trans rfl, (blk_cell BK136.out 1).trans rfl, (blk_cell BK136.out 2).trans rfl, (blk_cell BK136.out 3).trans rfl⟩ (fun hHeld => ?_)
    clear hK K
    refine normA (N := some 7) ?_
    refine pureA (i := 3) (some 8) HT_ (tk 18 4) ?_
    refine pureA (i := 4) (some 9) HT_ (tk 18 5) ?_
    refine pureA (i := 5) (some 10) HT_ (tk 18 6) ?_
    refine takeA (i := 6) (some 11) HT_ HW_ (tk 18 7) hHeld ?_
    refine pureA (i := 7) (some 12) HT_ (tk 18 8) ?_
    refine pureA (i := 8) (some 13) HT_ (tk 18 9) ?_
    refine pureA (i := 9) (some 14) HT_ (tk 18 10) ?_
    refine pureA (i := 10) (some 15) HT_ (tk 18 11) ?_
    refine pureA (i := 12) (some 17) HT_ (tr [11, 1, 1, 5]) ?_
    refine pureA (i := 13) (some 18) HT_ (tr [11, 1, 2, 4]) ?_
    refine takeA (i := 11) (some 16) HT_ HW_ (tk 18 14) hHeld ?_
    refine takeA (i := 14) (some 19) HT_ HW_ (tk 18 15) hHeld ?_
    refine one_ (i := 15) (N := some 20) (tk 18 16) rfl rfl (one_of HT_.out (by kernel_rfl)) (by decide) (fun K hK => ?_)
    refine goesR Tryz.func45 #[.bool a0_0] ?_
    with_reducible refine (ddiref03_Long.calls a0_0 t138 _ A9.out).mono ?_
    rintro e w' ⟨rfl, ⟨nd, rfl⟩⟩
    refine ⟨_, rfl, ?_⟩
    refine hK.out _ _ ⟨(blk_cell BK136.out 0).trans rfl, (blk_cell BK136.out 1).trans rfl, (blk_cell BK136.out 2).trans rfl, (blk_cell BK136.out 3).trans rfl⟩ (fun hHeld => ?_)
    clear hK K
    refine normA (N := some 20) ?_
    refine pureA (i := 16) (some 21) HT_ (tk 18 17) ?_
    refine pureA (i := 17) (some 22) HT_ (tk 18 18) ?_
    refine done_ (done_of HT_.out (by kernel_rfl)) ?_
    try go_wp2
    refine Met.intro ?_
    go_step
    (repeat apply Exists.intro)
    refine ⟨?rel, ?heq_⟩
    case heq_ => first | rfl | (rw [c6b0]) | (simp only [c6b0])
    case rel => exact ⟨_, (decide (a0_3 > t138)), pT, H', ⟨by first | omega | exact Nat.le_refl _⟩, ⟨pM BK136⟩, ⟨pE HB⟩⟩
  ·
   replace c5 := Bool.eq_false_iff.mpr c5
   subst c5
   rw [if_neg (show ¬ (false = true) by decide)] at H
   have H' := Aside0.mk H
   clear H
   try go_wp2
   replace BK136 := Aside0.mk (blk_drew BK136.out)
   replace HB := Aside0.mk (below_drew1 HB.out)
   refine start_ (n := 18) (S := fun w' => w'.cell? ⟨gb136, 0, none⟩ = some (.bool a0_0) ∧ w'.cell? ⟨gb136, 1, none⟩ = some (.int .u64 a0_1) ∧ w'.cell? ⟨gb136, 2, none⟩ = some (.int .u64 a0_2) ∧ w'.cell? ⟨gb136, 3, none⟩ = some (.int .i64 a0_3)) (ds := []) (tk 18 0) (by kernel_rfl) rfl rfl ⟨(blk_cell BK136.out 0).trans rfl, (blk_cell BK136.out 1).trans rfl, (blk_cell BK136.out 2).trans rfl, (blk_cell BK136.out 3).trans rfl⟩ (fun hHeld => ?_); refine with_tabW ddiref03_Valid.tab1 ddiref03_Valid.bits1 (fun HT_ HW_ => ?_)
   generalize w3.drew = w12 at BK136 HB hHeld ⊢
   refine pureA (i := 0) (some 5) HT_ (tk 18 1) ?_
   refine takeA (i := 1) (some 6) HT_ HW_ (tk 18 2) hHeld ?_
   refine one_ (i := 2) (N := some 7) (tk 18 3) rfl rfl (one_of HT_.out (by kernel_rfl)) (by decide) (fun K hK => ?_)
   refine goesR Tryz.func54 #[.agg #[.bool a0_0, .int .u64 a0_1, .int .u64 a0_2]] ?_
   with_reducible refine (ddiref02_Valid.calls a0_0 a0_1 a0_2 false _ A4.out).mono ?_
   rintro e w13 ⟨rfl, hb⟩
   refine ⟨_, rfl, ?_⟩
   replace BK136 := (pB BK136 hb)
   replace HB := (pS HB hb)
   (try clear hb)
   refine hK.out _ _ ⟨(blk_cell BK136.out 0).trans rfl, (blk_cell BK136.out 1).trans rfl, (blk_cell BK136.out 2).trans rfl, (blk_cell BK136.out 3).trans rfl⟩ (fun hHeld => ?_)
   clear hK K
   refine normA (N := some 7) ?_
   refine pureA (i := 3) (some 8) HT_ (tk 18 4) ?_
   refine pureA (i := 4) (some 9) HT_ (tk 18 5) ?_
   refine pureB (i := 5) (some 10) HT_ (tk 18 6) ?_
   refine pureB (i := 6) (some 11) HT_ (tk 18 7) ?_
   refine pureB (i := 7) (some 12) HT_ (tk 18 8) ?_
   refine pureA (i := 8) (some 13) HT_ (tk 18 9) ?_
   refine pureA (i := 9) (some 14) HT_ (tk 18 10) ?_
   refine pureB (i := 10) (some 15) HT_ (tk 18 11) ?_
   refine pureB (i := 11) (some 16) HT_ (tk 18 12) ?_
   refine pureB (i := 12) (some 17) HT_ (tk 18 13) ?_
   refine pureB (i := 13) (some 18) HT_ (tk 18 14) ?_
   refine pureB (i := 14) (some 19) HT_ (tk 18 15) ?_
   refine pureB (i := 15) (some 20) HT_ (tk 18 16) ?_
   refine pureB (i := 16) (some 21) HT_ (tk 18 17) ?_
   refine pureA (i := 17) (some 22) HT_ (tk 18 18) ?_
   refine done_ (done_of HT_.out (by kernel_rfl)) ?_
   try go_wp2
   go_meet
   case rel => exact ⟨_, (true), pT, H', ⟨by first | omega | exact Nat.le_refl _⟩, ⟨pM BK136⟩, ⟨pE HB⟩⟩
 case rest =>
  clear HC2
  obtain ⟨kq, x22_1, rfl, HA, HJ1, BK136, HB⟩ := hcut
  cases kq with
  | zero => exact absurd HA.out (by simp [ddiref03_Valid.j0])
  | succ kj1 =>
   have H := HA.out
   clear HA
   simp only [ddiref03_Valid.j0] at H
   by_cases c14 : x22_1 = true
   ·
    subst c14
    rw [if_pos rfl] at H
    obtain rfl := Option.some.inj H
    go_wp2
    go_ret
    exact pR (pE HB)
   ·
    replace c14 := Bool.eq_false_iff.mpr c14
    subst c14
    rw [if_neg (show ¬ (false = true) by decide)] at H
    replace H := Option.bind_eq_some_iff.mp H
    obtain ⟨t139, A150, H⟩ := H
    have A15 := Aside0.mk A150
    clear A150
    replace H := Option.bind_eq_some_iff.mp H
    obtain ⟨⟨t140, t141⟩, A160, H⟩ := H
    replace H : (if (Go.bits .and .u64 a0_1 t140) = 0 then (some ((Go.bits .and .u64 a0_2 t141) == 0)) else (some false)) = some r := H
    have A16 := Aside0.mk A160
    clear A160
    by_cases c17 : (Go.bits .and .u64 a0_1 t140) = 0
    ·
     rw [if_pos c17] at H
     have c17b0 : ((Go.bits .and .u64 a0_1 t140) == 0) = true := beq_iff_eq.mpr c17
     have c17b1 : ((Go.bits .and .u64 a0_1 t140) != 0) = false := bne_eq_false_iff_eq.mpr c17
     clear c17
     obtain rfl := Option.some.inj H
     try go_wp2
     replace BK136 := Aside0.mk (blk_drew BK136.out)
     replace HB := Aside0.mk (below_drew1 HB.out)
     refine start_ (n := 13) (S := fun w' => w'.cell? ⟨gb136, 0, none⟩ = some (.bool a0_0) ∧ w'.cell? ⟨gb136, 1, none⟩ = some (.int .u64 a0_1) ∧ w'.cell? ⟨gb136, 2, none⟩ = some (.int .u64 a0_2) ∧ w'.cell? ⟨gb136, 3, none⟩ = some (.int .i64 a0_3)) (ds := []) (tk 13 0) (by kernel_rfl) rfl rfl ⟨(blk_cell BK136.out 0).trans rfl, (blk_cell BK136.out 1).trans rfl, (blk_cell BK136.out 2).trans rfl, (blk_cell BK136.out 3).trans rfl⟩ (fun hHeld => ?_); refine with_tabW ddiref03_Valid.tab3 ddiref03_Valid.bits3 (fun HT_ HW_ => ?_)
     generalize wc.drew = w18 at BK136 HB hHeld ⊢
     refine pureA (i := 0) (some 24) HT_ (tk 13 1) ?_
     refine pureA (i := 1) (some 25) HT_ (tk 13 2) ?_
     refine pureA (i := 4) (some 28) HT_ (tr [2, 2, 1, 8]) ?_
     refine takeA (i := 2) (some 26) HT_ HW_ (tr [3, 1, 1, 8]) hHeld ?_
     refine takeA (i := 5) (some 29) HT_ HW_ (tr [3, 1, 2, 7]) hHeld ?_
     refine one_ (i := 3) (N := some 27) (tk 13 6) rfl rfl (one_of HT_.out (by kernel_rfl)) (by decide) (fun K hK => ?_)
     refine goesR Tryz.func45 #[.bool a0_0] ?_
     with_reducible refine (ddiref03_Long.calls a0_0 t139 _ A15.out).mono ?_
     rintro e w' ⟨rfl, ⟨nd, rfl⟩⟩
     refine ⟨_, rfl, ?_⟩
     refine hK.out _ _ ⟨(blk_cell BK136.out 0).trans rfl, (blk_cell BK136.out 1).trans rfl, (blk_cell BK136.out 2).trans rfl, (blk_cell BK136.out 3).trans rfl⟩ (fun hHeld => ?_)
     clear hK K
     refine normA (N := some 27) ?_
     refine pureA (i := 6) (some 30) HT_ (tk 13 7) ?_
     refine one_ (i := 7) (N := some 31) (tk 13 8) rfl rfl (one_of HT_.out (by kernel_rfl)) (by decide) (fun K hK => ?_)
     refine goesR Tryz.func44 #[.int .i64 (wrap64 (t139 - a0_3))] ?_
     with_reducible refine (ddiref03_ones.calls kj1 (wrap64 (t139 - a0_3)) t140 t141 _ A16.out).mono ?_
     rintro e w' ⟨rfl, ⟨nd, rfl⟩⟩
     refine ⟨_, rfl, ?_⟩
     refine hK.out _ _ ⟨(blk_cell BK136.out 0).trans rfl, (blk_cell BK136.out 1).trans rfl, (blk_cell BK136.out 2).trans rfl, (blk_cell BK136.out 3).trans rfl⟩ (fun hHeld => ?_)
     clear hK K
     refine normA (N := some 31) ?_
     refine pureA (i := 8) (some 23) HT_ (tk 13 9) ?_
     refine pureA (i := 9) (some 32) HT_ (tk 13 10) ?_
     refine pureA (i := 10) (some 33) HT_ (tk 13 11) ?_
     refine pureA (i := 11) (some 3) HT_ (tk 13 12) ?_
     refine pureA (i := 12) (some 4) HT_ (tk 13 13) ?_
     refine done_ (done_of HT_.out (by kernel_rfl)) ?_
     obtain ⟨hcz19_0, hcz19_1, hcz19_2, hcz19_3, hfz19_0, hfz19_1, hfz19_2, hfz19_3⟩ := pC4 BK136
     try go_wp2
     go_ret
     exact pR (pE HB)
    ·
     rw [if_neg c17] at H
     have c17b0 : ((Go.bits .and .u64 a0_1 t140) == 0) = false := beq_eq_false_iff_ne.mpr c17
     have c17b1 : ((Go.bits .and .u64 a0_1 t140) != 0) = true := bne_iff_ne.mpr c17
     obtain rfl := Option.some.inj H
     try go_wp2
     replace BK136 := Aside0.mk (blk_drew BK136.out)
     replace HB := Aside0.mk (below_drew1 HB.out)
     refine start_ (n := 13) (S := fun w' => w'.cell? ⟨gb136, 0, none⟩ = some (.bool a0_0) ∧ w'.cell? ⟨gb136, 1, none⟩ = some (.int .u64 a0_1) ∧ w'.cell? ⟨gb136, 2, none⟩ = some (.int .u64 a0_2) ∧ w'.cell? ⟨gb136, 3, none⟩ = some (.int .i64 a0_3)) (ds := []) (tk 13 0) (by kernel_rfl) rfl rfl ⟨(blk_cell BK136.out 0).trans rfl, (blk_cell BK136.out 1).trans rfl, (blk_cell BK136.out 2).trans rfl, (blk_cell BK136.out 3).trans rfl⟩ (fun hHeld => ?_); refine with_tabW ddiref03_Valid.tab3 ddiref03_Valid.bits3 (fun HT_ HW_ => ?_)
     generalize wc.drew = w20 at BK136 HB hHeld ⊢
     refine pureA (i := 0) (some 24) HT_ (tk 13 1) ?_
     refine pureA (i := 1) (some 25) HT_ (tk 13 2) ?_
     refine pureA (i := 4) (some 28) HT_ (tr [2, 2, 1, 8]) ?_
     refine takeA (i := 2) (some 26) HT_ HW_ (tr [3, 1, 1, 8]) hHeld ?_
     refine takeA (i := 5) (some 29) HT_ HW_ (tr [3, 1, 2, 7]) hHeld ?_
     refine one_ (i := 3) (N := some 27) (tk 13 6) rfl rfl (one_of HT_.out (by kernel_rfl)) (by decide) (fun K hK => ?_)
     refine goesR Tryz.func45 #[.bool a0_0] ?_
     with_reducible refine (ddiref03_Long.calls a0_0 t139 _ A15.out).mono ?_
     rintro e w' ⟨rfl, ⟨nd, rfl⟩⟩
     refine ⟨_, rfl, ?_⟩
     refine hK.out _ _ ⟨(blk_cell BK136.out 0).trans rfl, (blk_cell BK136.out 1).trans rfl, (blk_cell BK136.out 2).trans rfl, (blk_cell BK136.out 3).trans rfl⟩ (fun hHeld => ?_)
     clear hK K
     refine normA (N := some 27) ?_
     refine pureA (i := 6) (some 30) HT_ (tk 13 7) ?_
     refine one_ (i := 7) (N := some 31) (tk 13 8) rfl rfl (one_of HT_.out (by kernel_rfl)) (by decide) (fun K hK => ?_)
     refine goesR Tryz.func44 #[.int .i64 (wrap64 (t139 - a0_3))] ?_
     with_reducible refine (ddiref03_ones.calls kj1 (wrap64 (t139 - a0_3)) t140 t141 _ A16.out).mono ?_
     rintro e w' ⟨rfl, ⟨nd, rfl⟩⟩
     refine ⟨_, rfl, ?_⟩
     refine hK.out _ _ ⟨(blk_cell BK136.out 0).trans rfl, (blk_cell BK136.out 1).trans rfl, (blk_cell BK136.out 2).trans rfl, (blk_cell BK136.out 3).trans rfl⟩ (fun hHeld => ?_)
     clear hK K
     refine normA (N := some 31) ?_
     refine pureA (i := 8) (some 23) HT_ (tk 13 9) ?_
     refine pureA (i := 9) (some 32) HT_ (tk 13 10) ?_
     refine pureA (i := 10) (some 33) HT_ (tk 13 11) ?_
     refine pureA (i := 11) (some 3) HT_ (tk 13 12) ?_
     refine pureA (i := 12) (some 4) HT_ (tk 13 13) ?_
     refine done_ (done_of HT_.out (by kernel_rfl)) ?_
     obtain ⟨hcz21_0, hcz21_1, hcz21_2, hcz21_3, hfz21_0, hfz21_1, hfz21_2, hfz21_3⟩ := pC4 BK136
     try go_wp2
     go_ret
     exact pR (pE HB)
end Go.Proofs.YteflcmmandlknaaGreatDoor.PA
