/- The Go functions in Lean, with the proofs that the code comes to these answers: printed by this session's program (wip/px) out of the seat's translation. Conditions: each theorem's own. -/
import Derived.Test.YteflcmmandlknaaGreatDoorPAx0
import Derived.Test.YteflcmmandlknaaGreatDoorPAx4
import Derived.Test.YteflcmmandlknaaGreatDoorPAx5
namespace Go.Proofs.YteflcmmandlknaaGreatDoor.PA
open Go.RowKit Go.Proofs.YteflcmmandlknaaGreatDoorW.PrintWords Go.Proofs.YteflcmmandlknaaGreatDoorW.PrintLast Go.Proofs.YteflcmmandlknaaGreatDoorW.PrintMore
attribute [local go_sem] max2_int min2_int max_two min_two max_three min_three max_four min_four   -- for this text's walks alone
attribute [local go_sem ↓] Ext.isSome_setCell
open Press
set_option linter.unusedVariables false
set_option linter.unusedSimpArgs false
/-! ### prefix_Parse: function 7 (given) -/
theorem pp_below_mono_ {B B' : Nat} {w w' : World} (h : Below B w w') (hb : B' ≤ B) : Below B' w w' := ⟨h.os, h.tape, h.output, h.size, fun k hk => h.block k (by omega)⟩
theorem cut1_lite (s : ByteArray) (c : UInt8) (hn : s.size ≤ 4611686018427387904) (w : World) : Calls Tryz.prog 61 #[.string s, .string (⟨#[c]⟩ : ByteArray)] w fun e w' => e = .returned (.tuple #[.string (⟨(Lib.cut s.data.toList [c]).1.toArray⟩ : ByteArray), .string (⟨(Lib.cut s.data.toList [c]).2.1.toArray⟩ : ByteArray), .bool (Lib.cut s.data.toList [c]).2.2]) ∧ ∃ n, w' = w.drewN n := by
  have hone : Lib.index s.data.toList [c] = Lib.indexByte s.data.toList c := Lib.index_one _ _
  rcases Lib.indexB_cases s (⟨#[c]⟩ : ByteArray) with hix | ⟨i, hix, hroom⟩
  · obtain ⟨e1, e2, e3⟩ := Lib.cutB_miss s (⟨#[c]⟩ : ByteArray) hix
    have hix' : Lib.indexByte s.data.toList c = -1 := by rw [← hone]; exact hix
    have e1' : (⟨(Lib.cut s.data.toList [c]).1.toArray⟩ : ByteArray) = _ := e1
    have e2' : (⟨(Lib.cut s.data.toList [c]).2.1.toArray⟩ : ByteArray) = _ := e2
    have e3' : (Lib.cut s.data.toList [c]).2.2 = _ := e3
    rw [e1', e2', e3']
    go_enter Tryz.func61, Tryz.ntmps61
    go_wp2_with fail
    refine (Tryz.stringslite_Index_one s c _).mono ?_
    rintro e w' ⟨rfl, rfl⟩
    rw [hix']
    go_wp2_with fail
    refine bodyPost_ret (v := .tuple #[.string s, .string (⟨#[]⟩ : ByteArray), .bool false]) (by simp [results, Tryz.results61, go_sem]) rfl ⟨rfl, 0, rfl⟩
  · obtain ⟨e1, e2, e3⟩ := Lib.cutB_hit s (⟨#[c]⟩ : ByteArray) i hix
    have hix' : Lib.indexByte s.data.toList c = (i : Int) := by rw [← hone]; exact hix
    have e1' : (⟨(Lib.cut s.data.toList [c]).1.toArray⟩ : ByteArray) = _ := e1
    have e2' : (⟨(Lib.cut s.data.toList [c]).2.1.toArray⟩ : ByteArray) = _ := e2
    have e3' : (Lib.cut s.data.toList [c]).2.2 = _ := e3
    rw [e1', e2', e3']
    have hsz : (⟨#[c]⟩ : ByteArray).size = 1 := rfl
    rw [hsz] at hroom
    have c1 : (0 : Int) ≤ ↑i := by omega
    have c2 : (↑i : Int) ≤ ↑s.size := by omega
    have c3 : (0 : Int) ≤ ↑i + 1 := by omega
    have c4 : (↑i + 1 : Int) ≤ ↑s.size := by omega
    have hwr : wrap64 ((i : Int) + 1) = (i : Int) + 1 := by unfold wrap64; omega
    go_enter Tryz.func61, Tryz.ntmps61
    go_wp2_with fail
    refine (Tryz.stringslite_Index_one s c _).mono ?_
    rintro e w' ⟨rfl, rfl⟩
    rw [hix']
    go_wp2_with fail
    go_region
    go_wp2_with fail
    refine bodyPost_ret (v := .tuple #[.string (s.extract 0 i), .string (s.extract (i + 1) s.size), .bool true]) (by simp [results, Tryz.results61, go_sem]) rfl ⟨rfl, 1, rfl⟩
theorem cut1_calls (s : ByteArray) (c : UInt8) (hn : s.size ≤ 4611686018427387904) (w : World) : Calls Tryz.prog 36 #[.string s, .string (⟨#[c]⟩ : ByteArray)] w fun e w' => e = .returned (.tuple #[.string (⟨(Lib.cut s.data.toList [c]).1.toArray⟩ : ByteArray), .string (⟨(Lib.cut s.data.toList [c]).2.1.toArray⟩ : ByteArray), .bool (Lib.cut s.data.toList [c]).2.2]) ∧ ∃ n, w' = w.drewN n := by
  go_enter Tryz.func36, Tryz.ntmps36
  go_wp2_with fail
  refine (cut1_lite s c hn _).mono ?_
  rintro e w' ⟨rfl, n, rfl⟩
  go_wp2_with fail
  refine bodyPost_ret (v := .tuple #[.string (⟨(Lib.cut s.data.toList [c]).1.toArray⟩ : ByteArray), .string (⟨(Lib.cut s.data.toList [c]).2.1.toArray⟩ : ByteArray), .bool (Lib.cut s.data.toList [c]).2.2]) (by simp [results, Tryz.results36, go_sem]) rfl ⟨rfl, n, rfl⟩
theorem cutp_calls (s a b : ByteArray) (ok : Bool) (hn : s.size ≤ 4611686018427387904) (ha : (⟨(Lib.cut s.data.toList [47]).1.toArray⟩ : ByteArray) = a) (hb : (⟨(Lib.cut s.data.toList [47]).2.1.toArray⟩ : ByteArray) = b) (hk : (Lib.cut s.data.toList [47]).2.2 = ok) (w : World) : Calls Tryz.prog 36 #[.string s, .string (⟨#[47]⟩ : ByteArray)] w fun e w' => e = .returned (.tuple #[.string a, .string b, .bool ok]) ∧ Below w.heap.size w w' := by
  subst ha
  subst hb
  subst hk
  refine (cut1_calls s 47 hn w).mono ?_
  rintro e w' ⟨rfl, n, rfl⟩
  exact ⟨rfl, pw_below_drewN (Below.refl _ _) _⟩
theorem atoi_no (s : ByteArray) (hs : s.size ≤ 281474976710656) (h : ∀ v, Lib.atoiAll s.data.toList ≠ .ok v) (w : World) (hLD : Laid w) : Calls Tryz.prog 38 #[.string s] w fun e w' => ∃ (v : Int) (t : TypeId) (p : Value), e = .returned (.tuple #[.int .i64 v, .iface t p]) ∧ Below w.heap.size w w' := by
  cases ha : Lib.atoiAll s.data.toList with
  | ok v => exact absurd ha (h v)
  | range =>
    obtain ⟨tp, p, hv⟩ := hLD.erng
    refine (Tryz.strconv_Atoi_range_var s hs ha tp p w hv).mono ?_
    rintro e w' ⟨N, rfl, _, _, hb⟩
    exact ⟨_, _, _, rfl, hb⟩
  | _ =>
    obtain ⟨tp, p, hv⟩ := hLD.esyn
    refine (Tryz.strconv_Atoi_syntax_var s hs ha tp p w hv).mono ?_
    rintro e w' ⟨N, rfl, _, _, hb⟩
    exact ⟨_, _, _, rfl, hb⟩
theorem atoi_yes (s : ByteArray) (hs : s.size ≤ 281474976710656) (v : Int) (h : Lib.atoiAll s.data.toList = .ok v) (w : World) : Calls Tryz.prog 38 #[.string s] w fun e w' => e = .returned (.tuple #[.int .i64 v, .nilIface]) ∧ Below w.heap.size w w' := by
  refine (Tryz.strconv_Atoi_ok s (by omega) v h w).mono ?_
  rintro e w' ⟨rfl, hw⟩
  refine ⟨rfl, ?_⟩
  rcases hw with rfl | ⟨t, rfl⟩
  · exact Below.refl _ _
  · exact Joins.below_bytesWorld _ _ _ _ (Nat.le_refl _)
set_option maxHeartbeats 4000000 in
set_option maxRecDepth 100000 in
theorem Parse_a (k : Nat) (s a n : ByteArray) (hs : s.size ≤ 140737488355328) (ha : (⟨(Lib.cut s.data.toList [47]).1.toArray⟩ : ByteArray) = a) (hb : (⟨(Lib.cut s.data.toList [47]).2.1.toArray⟩ : ByteArray) = n) (hk : (Lib.cut s.data.toList [47]).2.2 = false) (w : World) (hLD : Laid w) :
    Calls Tryz.prog 7 #[.string s] w fun e w' => e = .returned (.tuple #[.agg #[.bool false, .int .u64 0, .int .u64 0, .int .i64 0], .int .i64 3]) ∧ Below w.heap.size w w' := by
  have huA_ := Tryz.underlying24
  have huP_ := Tryz.underlying26
  have HLD := Aside0.mk hLD
  have HA := Aside0.mk ha
  have HB := Aside0.mk hb
  have HK := Aside0.mk hk
  clear hLD ha hb hk
  go_enter Tryz.func7, Tryz.ntmps7
  go_wp2_with fail
  with_reducible refine (cutp_calls s a n false (by omega) HA.out HB.out HK.out _).mono ?_
  rintro e w1 ⟨rfl, hb⟩
  have W1 := Aside0.mk (show Below w.heap.size w w1 from Below.trans (below_alloc (Below.refl _ _) _) (pp_below_mono_ hb (by simp)))
  have Z1 := Aside0.mk (show w1.heap[w.heap.size]? = some (.cells #[.bool false, .int .u64 0, .int .u64 0, .int .i64 0] 26 (0, 0)) from blk_below (blk_new _ _) hb)
  clear hb
  have z0 : w1.cell? ⟨w.heap.size, 0, none⟩ = some (.bool false) := (blk_cell Z1.out 0).trans rfl
  have zf0 := blk_frozen Z1.out 0
  have z1 : w1.cell? ⟨w.heap.size, 1, none⟩ = some (.int .u64 0) := (blk_cell Z1.out 1).trans rfl
  have zf1 := blk_frozen Z1.out 1
  have z2 : w1.cell? ⟨w.heap.size, 2, none⟩ = some (.int .u64 0) := (blk_cell Z1.out 2).trans rfl
  have zf2 := blk_frozen Z1.out 2
  have z3 : w1.cell? ⟨w.heap.size, 3, none⟩ = some (.int .i64 0) := (blk_cell Z1.out 3).trans rfl
  have zf3 := blk_frozen Z1.out 3
  go_wp2_with fail
  refine bodyPost_ret (results_ct rfl _ _ w.heap.size 26 #[.bool false, .int .u64 0, .int .u64 0, .int .i64 0] (0, 0) _ rfl (by (with_reducible repeat (first | refine blk_drewN ?_ _ | refine blk_drew ?_ | refine blk_alloc ?_ _)); refine blk_put (cs := #[.bool false, .int .u64 0, .int .u64 0, .int .i64 0]) ?_ 3 _ rfl; refine blk_put (cs := #[.bool false, .int .u64 0, .int .u64 0, .int .i64 0]) ?_ 2 _ rfl; refine blk_put (cs := #[.bool false, .int .u64 0, .int .u64 0, .int .i64 0]) ?_ 1 _ rfl; refine blk_put (cs := #[.bool false, .int .u64 0, .int .u64 0, .int .i64 0]) ?_ 0 _ rfl; (with_reducible repeat (first | refine blk_drewN ?_ _ | refine blk_drew ?_ | refine blk_alloc ?_ _)); exact Z1.out) Tryz.underlying26 rfl (by kernel_rfl)) rfl ?_
  exact ⟨rfl, by repeat (first | exact W1.out | apply below_alloc | apply pw_below_drewN | apply below_drew1 | refine below_set ?_ (Nat.le_refl _))⟩
set_option maxHeartbeats 4000000 in
set_option maxRecDepth 100000 in
theorem Parse_b (k : Nat) (s a n : ByteArray) (hs : s.size ≤ 140737488355328) (ha : (⟨(Lib.cut s.data.toList [47]).1.toArray⟩ : ByteArray) = a) (hb : (⟨(Lib.cut s.data.toList [47]).2.1.toArray⟩ : ByteArray) = n) (hk : (Lib.cut s.data.toList [47]).2.2 = true) (v : Bool) (hi lo : Int) (e : Int) (hp : addr_Parse.f k a = some (v, hi, lo, e)) (he : ¬ e = 0) (w : World) (hLD : Laid w) :
    Calls Tryz.prog 7 #[.string s] w fun e w' => e = .returned (.tuple #[.agg #[.bool false, .int .u64 0, .int .u64 0, .int .i64 0], .int .i64 3]) ∧ Below w.heap.size w w' := by
  have huA_ := Tryz.underlying24
  have huP_ := Tryz.underlying26
  have HLD := Aside0.mk hLD
  have HA := Aside0.mk ha
  have HB := Aside0.mk hb
  have HK := Aside0.mk hk
  have HP := Aside0.mk hp
  clear hLD ha hb hk hp
  go_enter Tryz.func7, Tryz.ntmps7
  go_wp2_with fail
  with_reducible refine (cutp_calls s a n true (by omega) HA.out HB.out HK.out _).mono ?_
  rintro e w1 ⟨rfl, hb⟩
  have W1 := Aside0.mk (show Below w.heap.size w w1 from Below.trans (below_alloc (Below.refl _ _) _) (pp_below_mono_ hb (by simp)))
  have Z1 := Aside0.mk (show w1.heap[w.heap.size]? = some (.cells #[.bool false, .int .u64 0, .int .u64 0, .int .i64 0] 26 (0, 0)) from blk_below (blk_new _ _) hb)
  clear hb
  go_wp2_with fail
  with_reducible refine (addr_Parse.calls k a v hi lo e _ (HLD.out.below W1.out) HP.out).mono ?_
  rintro e1 w2 ⟨rfl, hb⟩
  have W2 := Aside0.mk (show Below w.heap.size w w2 from Below.trans W1.out (pp_below_mono_ hb W1.out.size))
  have Z2 := Aside0.mk (show w2.heap[w.heap.size]? = some (.cells #[.bool false, .int .u64 0, .int .u64 0, .int .i64 0] 26 (0, 0)) from blk_below Z1.out hb)
  have n2 : w.heap.size ≠ w2.heap.size := Nat.ne_of_lt (blk_lt Z2.out)
  have n2s : w2.heap.size ≠ w.heap.size := n2.symm
  clear hb
  have Z2a := Aside0.mk (show (w2.alloc (.cells #[.bool v, .int .u64 hi, .int .u64 lo] 24)).heap[w.heap.size]? = some (.cells #[.bool false, .int .u64 0, .int .u64 0, .int .i64 0] 26 (0, 0)) from blk_alloc Z2.out _)
  have z0 : (w2.alloc (.cells #[.bool v, .int .u64 hi, .int .u64 lo] 24)).cell? ⟨w.heap.size, 0, none⟩ = some (.bool false) := (blk_cell Z2a.out 0).trans rfl
  have zf0 := blk_frozen Z2a.out 0
  have z1 : (w2.alloc (.cells #[.bool v, .int .u64 hi, .int .u64 lo] 24)).cell? ⟨w.heap.size, 1, none⟩ = some (.int .u64 0) := (blk_cell Z2a.out 1).trans rfl
  have zf1 := blk_frozen Z2a.out 1
  have z2 : (w2.alloc (.cells #[.bool v, .int .u64 hi, .int .u64 lo] 24)).cell? ⟨w.heap.size, 2, none⟩ = some (.int .u64 0) := (blk_cell Z2a.out 2).trans rfl
  have zf2 := blk_frozen Z2a.out 2
  have z3 : (w2.alloc (.cells #[.bool v, .int .u64 hi, .int .u64 lo] 24)).cell? ⟨w.heap.size, 3, none⟩ = some (.int .i64 0) := (blk_cell Z2a.out 3).trans rfl
  have zf3 := blk_frozen Z2a.out 3
  go_wp2_with fail
  refine bodyPost_ret (results_ct rfl _ _ w.heap.size 26 #[.bool false, .int .u64 0, .int .u64 0, .int .i64 0] (0, 0) _ rfl (by (with_reducible repeat (first | refine blk_drewN ?_ _ | refine blk_drew ?_ | refine blk_alloc ?_ _)); refine blk_put (cs := #[.bool false, .int .u64 0, .int .u64 0, .int .i64 0]) ?_ 3 _ rfl; refine blk_put (cs := #[.bool false, .int .u64 0, .int .u64 0, .int .i64 0]) ?_ 2 _ rfl; refine blk_put (cs := #[.bool false, .int .u64 0, .int .u64 0, .int .i64 0]) ?_ 1 _ rfl; refine blk_put (cs := #[.bool false, .int .u64 0, .int .u64 0, .int .i64 0]) ?_ 0 _ rfl; (with_reducible repeat (first | refine blk_drewN ?_ _ | refine blk_drew ?_ | refine blk_alloc ?_ _)); exact Z2.out) Tryz.underlying26 rfl (by kernel_rfl)) rfl ?_
  exact ⟨rfl, by repeat (first | exact W2.out | apply below_alloc | apply pw_below_drewN | apply below_drew1 | refine below_set ?_ (Nat.le_refl _))⟩
set_option maxHeartbeats 4000000 in
set_option maxRecDepth 100000 in
theorem Parse_c (k : Nat) (s a n : ByteArray) (hs : s.size ≤ 140737488355328) (ha : (⟨(Lib.cut s.data.toList [47]).1.toArray⟩ : ByteArray) = a) (hb : (⟨(Lib.cut s.data.toList [47]).2.1.toArray⟩ : ByteArray) = n) (hk : (Lib.cut s.data.toList [47]).2.2 = true) (v : Bool) (hi lo : Int) (hp : addr_Parse.f k a = some (v, hi, lo, 0)) (hz : n.size ≤ 140737488355328) (hat : ∀ v, Lib.atoiAll n.data.toList ≠ .ok v) (w : World) (hLD : Laid w) :
    Calls Tryz.prog 7 #[.string s] w fun e w' => e = .returned (.tuple #[.agg #[.bool false, .int .u64 0, .int .u64 0, .int .i64 0], .int .i64 3]) ∧ Below w.heap.size w w' := by
  have huA_ := Tryz.underlying24
  have huP_ := Tryz.underlying26
  have HLD := Aside0.mk hLD
  have HA := Aside0.mk ha
  have HB := Aside0.mk hb
  have HK := Aside0.mk hk
  have HP := Aside0.mk hp
  have HT := Aside0.mk hat
  clear hLD ha hb hk hp hat
  go_enter Tryz.func7, Tryz.ntmps7
  go_wp2_with fail
  with_reducible refine (cutp_calls s a n true (by omega) HA.out HB.out HK.out _).mono ?_
  rintro e w1 ⟨rfl, hb⟩
  have W1 := Aside0.mk (show Below w.heap.size w w1 from Below.trans (below_alloc (Below.refl _ _) _) (pp_below_mono_ hb (by simp)))
  have Z1 := Aside0.mk (show w1.heap[w.heap.size]? = some (.cells #[.bool false, .int .u64 0, .int .u64 0, .int .i64 0] 26 (0, 0)) from blk_below (blk_new _ _) hb)
  clear hb
  go_wp2_with fail
  with_reducible refine (addr_Parse.calls k a v hi lo 0 _ (HLD.out.below W1.out) HP.out).mono ?_
  rintro e1 w2 ⟨rfl, hb⟩
  have W2 := Aside0.mk (show Below w.heap.size w w2 from Below.trans W1.out (pp_below_mono_ hb W1.out.size))
  have Z2 := Aside0.mk (show w2.heap[w.heap.size]? = some (.cells #[.bool false, .int .u64 0, .int .u64 0, .int .i64 0] 26 (0, 0)) from blk_below Z1.out hb)
  have n2 : w.heap.size ≠ w2.heap.size := Nat.ne_of_lt (blk_lt Z2.out)
  have n2s : w2.heap.size ≠ w.heap.size := n2.symm
  clear hb
  go_wp2_with fail
  refine (atoi_no n (by omega) HT.out _ (HLD.out.below (below_alloc W2.out _))).mono ?_
  rintro e1 w3 ⟨b, ti, pv, rfl, hb⟩
  have W3 := Aside0.mk (show Below w.heap.size w w3 from Below.trans (below_alloc W2.out _) (pp_below_mono_ hb (below_alloc W2.out _).size))
  have Z3 := Aside0.mk (show w3.heap[w.heap.size]? = some (.cells #[.bool false, .int .u64 0, .int .u64 0, .int .i64 0] 26 (0, 0)) from blk_below (blk_alloc Z2.out _) hb)
  clear hb
  have z0 : w3.cell? ⟨w.heap.size, 0, none⟩ = some (.bool false) := (blk_cell Z3.out 0).trans rfl
  have zf0 := blk_frozen Z3.out 0
  have z1 : w3.cell? ⟨w.heap.size, 1, none⟩ = some (.int .u64 0) := (blk_cell Z3.out 1).trans rfl
  have zf1 := blk_frozen Z3.out 1
  have z2 : w3.cell? ⟨w.heap.size, 2, none⟩ = some (.int .u64 0) := (blk_cell Z3.out 2).trans rfl
  have zf2 := blk_frozen Z3.out 2
  have z3 : w3.cell? ⟨w.heap.size, 3, none⟩ = some (.int .i64 0) := (blk_cell Z3.out 3).trans rfl
  have zf3 := blk_frozen Z3.out 3
  go_wp2_with fail
  refine bodyPost_ret (results_ct rfl _ _ w.heap.size 26 #[.bool false, .int .u64 0, .int .u64 0, .int .i64 0] (0, 0) _ rfl (by (with_reducible repeat (first | refine blk_drewN ?_ _ | refine blk_drew ?_ | refine blk_alloc ?_ _)); refine blk_put (cs := #[.bool false, .int .u64 0, .int .u64 0, .int .i64 0]) ?_ 3 _ rfl; refine blk_put (cs := #[.bool false, .int .u64 0, .int .u64 0, .int .i64 0]) ?_ 2 _ rfl; refine blk_put (cs := #[.bool false, .int .u64 0, .int .u64 0, .int .i64 0]) ?_ 1 _ rfl; refine blk_put (cs := #[.bool false, .int .u64 0, .int .u64 0, .int .i64 0]) ?_ 0 _ rfl; (with_reducible repeat (first | refine blk_drewN ?_ _ | refine blk_drew ?_ | refine blk_alloc ?_ _)); exact Z3.out) Tryz.underlying26 rfl (by kernel_rfl)) rfl ?_
  exact ⟨rfl, by repeat (first | exact W3.out | apply below_alloc | apply pw_below_drewN | apply below_drew1 | refine below_set ?_ (Nat.le_refl _))⟩
set_option maxHeartbeats 4000000 in
set_option maxRecDepth 100000 in
theorem Parse_d (k : Nat) (s a n : ByteArray) (hs : s.size ≤ 140737488355328) (ha : (⟨(Lib.cut s.data.toList [47]).1.toArray⟩ : ByteArray) = a) (hb : (⟨(Lib.cut s.data.toList [47]).2.1.toArray⟩ : ByteArray) = n) (hk : (Lib.cut s.data.toList [47]).2.2 = true) (v : Bool) (hi lo : Int) (hp : addr_Parse.f k a = some (v, hi, lo, 0)) (hz : n.size ≤ 140737488355328) (b : Int) (hat : Lib.atoiAll n.data.toList = .ok b) (m : ByteArray) (hit : strconv_Itoa.f b = some m) (hne : ¬ m.toList = n.toList) (w : World) (hLD : Laid w) :
    Calls Tryz.prog 7 #[.string s] w fun e w' => e = .returned (.tuple #[.agg #[.bool false, .int .u64 0, .int .u64 0, .int .i64 0], .int .i64 3]) ∧ Below w.heap.size w w' := by
  have huA_ := Tryz.underlying24
  have huP_ := Tryz.underlying26
  have HLD := Aside0.mk hLD
  have HA := Aside0.mk ha
  have HB := Aside0.mk hb
  have HK := Aside0.mk hk
  have HP := Aside0.mk hp
  have HT := Aside0.mk hat
  have HI := Aside0.mk hit
  have hs2 : (m.toList == n.toList) = false := beq_eq_false_iff_ne.mpr hne
  clear hLD ha hb hk hp hat hit hne
  go_enter Tryz.func7, Tryz.ntmps7
  go_wp2_with fail
  with_reducible refine (cutp_calls s a n true (by omega) HA.out HB.out HK.out _).mono ?_
  rintro e w1 ⟨rfl, hb⟩
  have W1 := Aside0.mk (show Below w.heap.size w w1 from Below.trans (below_alloc (Below.refl _ _) _) (pp_below_mono_ hb (by simp)))
  have Z1 := Aside0.mk (show w1.heap[w.heap.size]? = some (.cells #[.bool false, .int .u64 0, .int .u64 0, .int .i64 0] 26 (0, 0)) from blk_below (blk_new _ _) hb)
  clear hb
  go_wp2_with fail
  with_reducible refine (addr_Parse.calls k a v hi lo 0 _ (HLD.out.below W1.out) HP.out).mono ?_
  rintro e1 w2 ⟨rfl, hb⟩
  have W2 := Aside0.mk (show Below w.heap.size w w2 from Below.trans W1.out (pp_below_mono_ hb W1.out.size))
  have Z2 := Aside0.mk (show w2.heap[w.heap.size]? = some (.cells #[.bool false, .int .u64 0, .int .u64 0, .int .i64 0] 26 (0, 0)) from blk_below Z1.out hb)
  have n2 : w.heap.size ≠ w2.heap.size := Nat.ne_of_lt (blk_lt Z2.out)
  have n2s : w2.heap.size ≠ w.heap.size := n2.symm
  clear hb
  go_wp2_with fail
  refine (atoi_yes n (by omega) b HT.out _).mono ?_
  rintro e1 w3 ⟨rfl, hb⟩
  have W3 := Aside0.mk (show Below w.heap.size w w3 from Below.trans (below_alloc W2.out _) (pp_below_mono_ hb (below_alloc W2.out _).size))
  have Z3 := Aside0.mk (show w3.heap[w.heap.size]? = some (.cells #[.bool false, .int .u64 0, .int .u64 0, .int .i64 0] 26 (0, 0)) from blk_below (blk_alloc Z2.out _) hb)
  have A3 := Aside0.mk (show w3.heap[w2.heap.size]? = some (.cells #[.bool v, .int .u64 hi, .int .u64 lo] 24 (0, 0)) from blk_below (blk_new _ _) hb)
  clear hb
  go_wp2_with fail
  with_reducible refine (strconv_Itoa.calls b m _ (HLD.out.below W3.out) HI.out).mono ?_
  rintro e1 w4 ⟨rfl, hb⟩
  have W4 := Aside0.mk (show Below w.heap.size w w4 from Below.trans W3.out (pp_below_mono_ hb W3.out.size))
  have Z4 := Aside0.mk (show w4.heap[w.heap.size]? = some (.cells #[.bool false, .int .u64 0, .int .u64 0, .int .i64 0] 26 (0, 0)) from blk_below Z3.out hb)
  have A4 := Aside0.mk (show w4.heap[w2.heap.size]? = some (.cells #[.bool v, .int .u64 hi, .int .u64 lo] 24 (0, 0)) from blk_below A3.out hb)
  have n4 : w.heap.size ≠ w4.heap.size := Nat.ne_of_lt (blk_lt Z4.out)
  have n4s : w4.heap.size ≠ w.heap.size := n4.symm
  have m4 : w2.heap.size ≠ w4.heap.size := Nat.ne_of_lt (blk_lt A4.out)
  have m4s : w4.heap.size ≠ w2.heap.size := m4.symm
  clear hb
  have z0 : w4.cell? ⟨w.heap.size, 0, none⟩ = some (.bool false) := (blk_cell Z4.out 0).trans rfl
  have zf0 := blk_frozen Z4.out 0
  have z1 : w4.cell? ⟨w.heap.size, 1, none⟩ = some (.int .u64 0) := (blk_cell Z4.out 1).trans rfl
  have zf1 := blk_frozen Z4.out 1
  have z2 : w4.cell? ⟨w.heap.size, 2, none⟩ = some (.int .u64 0) := (blk_cell Z4.out 2).trans rfl
  have zf2 := blk_frozen Z4.out 2
  have z3 : w4.cell? ⟨w.heap.size, 3, none⟩ = some (.int .i64 0) := (blk_cell Z4.out 3).trans rfl
  have zf3 := blk_frozen Z4.out 3
  go_wp2_with fail
  refine bodyPost_ret (results_ct rfl _ _ w.heap.size 26 #[.bool false, .int .u64 0, .int .u64 0, .int .i64 0] (0, 0) _ rfl (by (with_reducible repeat (first | refine blk_drewN ?_ _ | refine blk_drew ?_ | refine blk_alloc ?_ _)); refine blk_put (cs := #[.bool false, .int .u64 0, .int .u64 0, .int .i64 0]) ?_ 3 _ rfl; refine blk_put (cs := #[.bool false, .int .u64 0, .int .u64 0, .int .i64 0]) ?_ 2 _ rfl; refine blk_put (cs := #[.bool false, .int .u64 0, .int .u64 0, .int .i64 0]) ?_ 1 _ rfl; refine blk_put (cs := #[.bool false, .int .u64 0, .int .u64 0, .int .i64 0]) ?_ 0 _ rfl; (with_reducible repeat (first | refine blk_drewN ?_ _ | refine blk_drew ?_ | refine blk_alloc ?_ _)); exact Z4.out) Tryz.underlying26 rfl (by kernel_rfl)) rfl ?_
  exact ⟨rfl, by repeat (first | exact W4.out | apply below_alloc | apply pw_below_drewN | apply below_drew1 | refine below_set ?_ (Nat.le_refl _))⟩
set_option maxHeartbeats 4000000 in
set_option maxRecDepth 100000 in
theorem Parse_e (k : Nat) (s a n : ByteArray) (hs : s.size ≤ 140737488355328) (ha : (⟨(Lib.cut s.data.toList [47]).1.toArray⟩ : ByteArray) = a) (hb : (⟨(Lib.cut s.data.toList [47]).2.1.toArray⟩ : ByteArray) = n) (hk : (Lib.cut s.data.toList [47]).2.2 = true) (v : Bool) (hi lo : Int) (hp : addr_Parse.f k a = some (v, hi, lo, 0)) (hz : n.size ≤ 140737488355328) (b : Int) (hat : Lib.atoiAll n.data.toList = .ok b) (m : ByteArray) (hit : strconv_Itoa.f b = some m) (hne : m.toList = n.toList) (hv : prefix_Valid.f v hi lo b = some false) (w : World) (hLD : Laid w) :
    Calls Tryz.prog 7 #[.string s] w fun e w' => e = .returned (.tuple #[.agg #[.bool false, .int .u64 0, .int .u64 0, .int .i64 0], .int .i64 3]) ∧ Below w.heap.size w w' := by
  have huA_ := Tryz.underlying24
  have huP_ := Tryz.underlying26
  have HLD := Aside0.mk hLD
  have HA := Aside0.mk ha
  have HB := Aside0.mk hb
  have HK := Aside0.mk hk
  have HP := Aside0.mk hp
  have HT := Aside0.mk hat
  have HI := Aside0.mk hit
  have hs2 : (m.toList == n.toList) = true := beq_iff_eq.mpr hne
  have HV := Aside0.mk hv
  clear hLD ha hb hk hp hat hit hne hv
  go_enter Tryz.func7, Tryz.ntmps7
  go_wp2_with fail
  with_reducible refine (cutp_calls s a n true (by omega) HA.out HB.out HK.out _).mono ?_
  rintro e w1 ⟨rfl, hb⟩
  have W1 := Aside0.mk (show Below w.heap.size w w1 from Below.trans (below_alloc (Below.refl _ _) _) (pp_below_mono_ hb (by simp)))
  have Z1 := Aside0.mk (show w1.heap[w.heap.size]? = some (.cells #[.bool false, .int .u64 0, .int .u64 0, .int .i64 0] 26 (0, 0)) from blk_below (blk_new _ _) hb)
  clear hb
  go_wp2_with fail
  with_reducible refine (addr_Parse.calls k a v hi lo 0 _ (HLD.out.below W1.out) HP.out).mono ?_
  rintro e1 w2 ⟨rfl, hb⟩
  have W2 := Aside0.mk (show Below w.heap.size w w2 from Below.trans W1.out (pp_below_mono_ hb W1.out.size))
  have Z2 := Aside0.mk (show w2.heap[w.heap.size]? = some (.cells #[.bool false, .int .u64 0, .int .u64 0, .int .i64 0] 26 (0, 0)) from blk_below Z1.out hb)
  have n2 : w.heap.size ≠ w2.heap.size := Nat.ne_of_lt (blk_lt Z2.out)
  have n2s : w2.heap.size ≠ w.heap.size := n2.symm
  clear hb
  go_wp2_with fail
  refine (atoi_yes n (by omega) b HT.out _).mono ?_
  rintro e1 w3 ⟨rfl, hb⟩
  have W3 := Aside0.mk (show Below w.heap.size w w3 from Below.trans (below_alloc W2.out _) (pp_below_mono_ hb (below_alloc W2.out _).size))
  have Z3 := Aside0.mk (show w3.heap[w.heap.size]? = some (.cells #[.bool false, .int .u64 0, .int .u64 0, .int .i64 0] 26 (0, 0)) from blk_below (blk_alloc Z2.out _) hb)
  have A3 := Aside0.mk (show w3.heap[w2.heap.size]? = some (.cells #[.bool v, .int .u64 hi, .int .u64 lo] 24 (0, 0)) from blk_below (blk_new _ _) hb)
  clear hb
  go_wp2_with fail
  with_reducible refine (strconv_Itoa.calls b m _ (HLD.out.below W3.out) HI.out).mono ?_
  rintro e1 w4 ⟨rfl, hb⟩
  have W4 := Aside0.mk (show Below w.heap.size w w4 from Below.trans W3.out (pp_below_mono_ hb W3.out.size))
  have Z4 := Aside0.mk (show w4.heap[w.heap.size]? = some (.cells #[.bool false, .int .u64 0, .int .u64 0, .int .i64 0] 26 (0, 0)) from blk_below Z3.out hb)
  have A4 := Aside0.mk (show w4.heap[w2.heap.size]? = some (.cells #[.bool v, .int .u64 hi, .int .u64 lo] 24 (0, 0)) from blk_below A3.out hb)
  have n4 : w.heap.size ≠ w4.heap.size := Nat.ne_of_lt (blk_lt Z4.out)
  have n4s : w4.heap.size ≠ w.heap.size := n4.symm
  have m4 : w2.heap.size ≠ w4.heap.size := Nat.ne_of_lt (blk_lt A4.out)
  have m4s : w4.heap.size ≠ w2.heap.size := m4.symm
  clear hb
  have c0 : w4.cell? ⟨w2.heap.size, 0, none⟩ = some (.bool v) := (blk_cell A4.out 0).trans rfl
  have c1 : w4.cell? ⟨w2.heap.size, 1, none⟩ = some (.int .u64 hi) := (blk_cell A4.out 1).trans rfl
  have c2 : w4.cell? ⟨w2.heap.size, 2, none⟩ = some (.int .u64 lo) := (blk_cell A4.out 2).trans rfl
  go_wp2_with fail
  with_reducible refine (prefix_Valid.calls v hi lo b false _ HV.out).mono ?_
  rintro e1 w5 ⟨rfl, hb⟩
  have W5 := Aside0.mk (show Below w.heap.size w w5 from Below.trans (below_alloc W4.out _) (pp_below_mono_ hb (below_alloc W4.out _).size))
  have Z5 := Aside0.mk (show w5.heap[w.heap.size]? = some (.cells #[.bool false, .int .u64 0, .int .u64 0, .int .i64 0] 26 (0, 0)) from blk_below (blk_alloc Z4.out _) hb)
  have A5 := Aside0.mk (show w5.heap[w4.heap.size]? = some (.cells #[.bool v, .int .u64 hi, .int .u64 lo, .int .i64 b] 26 (0, 0)) from blk_below (blk_new _ _) hb)
  clear hb c0 c1 c2
  have z0 : w5.cell? ⟨w.heap.size, 0, none⟩ = some (.bool false) := (blk_cell Z5.out 0).trans rfl
  have zf0 := blk_frozen Z5.out 0
  have z1 : w5.cell? ⟨w.heap.size, 1, none⟩ = some (.int .u64 0) := (blk_cell Z5.out 1).trans rfl
  have zf1 := blk_frozen Z5.out 1
  have z2 : w5.cell? ⟨w.heap.size, 2, none⟩ = some (.int .u64 0) := (blk_cell Z5.out 2).trans rfl
  have zf2 := blk_frozen Z5.out 2
  have z3 : w5.cell? ⟨w.heap.size, 3, none⟩ = some (.int .i64 0) := (blk_cell Z5.out 3).trans rfl
  have zf3 := blk_frozen Z5.out 3
  have d0 : w5.cell? ⟨w4.heap.size, 0, none⟩ = some (.bool v) := (blk_cell A5.out 0).trans rfl
  have d1 : w5.cell? ⟨w4.heap.size, 1, none⟩ = some (.int .u64 hi) := (blk_cell A5.out 1).trans rfl
  have d2 : w5.cell? ⟨w4.heap.size, 2, none⟩ = some (.int .u64 lo) := (blk_cell A5.out 2).trans rfl
  have d3 : w5.cell? ⟨w4.heap.size, 3, none⟩ = some (.int .i64 b) := (blk_cell A5.out 3).trans rfl
  go_wp2_with fail
  refine bodyPost_ret (results_ct rfl _ _ w.heap.size 26 #[.bool false, .int .u64 0, .int .u64 0, .int .i64 0] (0, 0) _ rfl (by (with_reducible repeat (first | refine blk_drewN ?_ _ | refine blk_drew ?_ | refine blk_alloc ?_ _)); refine blk_put (cs := #[.bool false, .int .u64 0, .int .u64 0, .int .i64 0]) ?_ 3 _ rfl; refine blk_put (cs := #[.bool false, .int .u64 0, .int .u64 0, .int .i64 0]) ?_ 2 _ rfl; refine blk_put (cs := #[.bool false, .int .u64 0, .int .u64 0, .int .i64 0]) ?_ 1 _ rfl; refine blk_put (cs := #[.bool false, .int .u64 0, .int .u64 0, .int .i64 0]) ?_ 0 _ rfl; (with_reducible repeat (first | refine blk_drewN ?_ _ | refine blk_drew ?_ | refine blk_alloc ?_ _)); exact Z5.out) Tryz.underlying26 rfl (by kernel_rfl)) rfl ?_
  exact ⟨rfl, by repeat (first | exact W5.out | apply below_alloc | apply pw_below_drewN | apply below_drew1 | refine below_set ?_ (Nat.le_refl _))⟩
set_option maxHeartbeats 4000000 in
set_option maxRecDepth 100000 in
theorem Parse_f (k : Nat) (s a n : ByteArray) (hs : s.size ≤ 140737488355328) (ha : (⟨(Lib.cut s.data.toList [47]).1.toArray⟩ : ByteArray) = a) (hb : (⟨(Lib.cut s.data.toList [47]).2.1.toArray⟩ : ByteArray) = n) (hk : (Lib.cut s.data.toList [47]).2.2 = true) (v : Bool) (hi lo : Int) (hp : addr_Parse.f k a = some (v, hi, lo, 0)) (hz : n.size ≤ 140737488355328) (b : Int) (hat : Lib.atoiAll n.data.toList = .ok b) (m : ByteArray) (hit : strconv_Itoa.f b = some m) (hne : m.toList = n.toList) (hv : prefix_Valid.f v hi lo b = some true) (w : World) (hLD : Laid w) :
    Calls Tryz.prog 7 #[.string s] w fun e w' => e = .returned (.tuple #[.agg #[.bool v, .int .u64 hi, .int .u64 lo, .int .i64 b], .int .i64 0]) ∧ Below w.heap.size w w' := by
  have huA_ := Tryz.underlying24
  have huP_ := Tryz.underlying26
  have HLD := Aside0.mk hLD
  have HA := Aside0.mk ha
  have HB := Aside0.mk hb
  have HK := Aside0.mk hk
  have HP := Aside0.mk hp
  have HT := Aside0.mk hat
  have HI := Aside0.mk hit
  have hs2 : (m.toList == n.toList) = true := beq_iff_eq.mpr hne
  have HV := Aside0.mk hv
  clear hLD ha hb hk hp hat hit hne hv
  go_enter Tryz.func7, Tryz.ntmps7
  go_wp2_with fail
  with_reducible refine (cutp_calls s a n true (by omega) HA.out HB.out HK.out _).mono ?_
  rintro e w1 ⟨rfl, hb⟩
  have W1 := Aside0.mk (show Below w.heap.size w w1 from Below.trans (below_alloc (Below.refl _ _) _) (pp_below_mono_ hb (by simp)))
  have Z1 := Aside0.mk (show w1.heap[w.heap.size]? = some (.cells #[.bool false, .int .u64 0, .int .u64 0, .int .i64 0] 26 (0, 0)) from blk_below (blk_new _ _) hb)
  clear hb
  go_wp2_with fail
  with_reducible refine (addr_Parse.calls k a v hi lo 0 _ (HLD.out.below W1.out) HP.out).mono ?_
  rintro e1 w2 ⟨rfl, hb⟩
  have W2 := Aside0.mk (show Below w.heap.size w w2 from Below.trans W1.out (pp_below_mono_ hb W1.out.size))
  have Z2 := Aside0.mk (show w2.heap[w.heap.size]? = some (.cells #[.bool false, .int .u64 0, .int .u64 0, .int .i64 0] 26 (0, 0)) from blk_below Z1.out hb)
  have n2 : w.heap.size ≠ w2.heap.size := Nat.ne_of_lt (blk_lt Z2.out)
  have n2s : w2.heap.size ≠ w.heap.size := n2.symm
  clear hb
  go_wp2_with fail
  refine (atoi_yes n (by omega) b HT.out _).mono ?_
  rintro e1 w3 ⟨rfl, hb⟩
  have W3 := Aside0.mk (show Below w.heap.size w w3 from Below.trans (below_alloc W2.out _) (pp_below_mono_ hb (below_alloc W2.out _).size))
  have Z3 := Aside0.mk (show w3.heap[w.heap.size]? = some (.cells #[.bool false, .int .u64 0, .int .u64 0, .int .i64 0] 26 (0, 0)) from blk_below (blk_alloc Z2.out _) hb)
  have A3 := Aside0.mk (show w3.heap[w2.heap.size]? = some (.cells #[.bool v, .int .u64 hi, .int .u64 lo] 24 (0, 0)) from blk_below (blk_new _ _) hb)
  clear hb
  go_wp2_with fail
  with_reducible refine (strconv_Itoa.calls b m _ (HLD.out.below W3.out) HI.out).mono ?_
  rintro e1 w4 ⟨rfl, hb⟩
  have W4 := Aside0.mk (show Below w.heap.size w w4 from Below.trans W3.out (pp_below_mono_ hb W3.out.size))
  have Z4 := Aside0.mk (show w4.heap[w.heap.size]? = some (.cells #[.bool false, .int .u64 0, .int .u64 0, .int .i64 0] 26 (0, 0)) from blk_below Z3.out hb)
  have A4 := Aside0.mk (show w4.heap[w2.heap.size]? = some (.cells #[.bool v, .int .u64 hi, .int .u64 lo] 24 (0, 0)) from blk_below A3.out hb)
  have n4 : w.heap.size ≠ w4.heap.size := Nat.ne_of_lt (blk_lt Z4.out)
  have n4s : w4.heap.size ≠ w.heap.size := n4.symm
  have m4 : w2.heap.size ≠ w4.heap.size := Nat.ne_of_lt (blk_lt A4.out)
  have m4s : w4.heap.size ≠ w2.heap.size := m4.symm
  clear hb
  have c0 : w4.cell? ⟨w2.heap.size, 0, none⟩ = some (.bool v) := (blk_cell A4.out 0).trans rfl
  have c1 : w4.cell? ⟨w2.heap.size, 1, none⟩ = some (.int .u64 hi) := (blk_cell A4.out 1).trans rfl
  have c2 : w4.cell? ⟨w2.heap.size, 2, none⟩ = some (.int .u64 lo) := (blk_cell A4.out 2).trans rfl
  go_wp2_with fail
  with_reducible refine (prefix_Valid.calls v hi lo b true _ HV.out).mono ?_
  rintro e1 w5 ⟨rfl, hb⟩
  have W5 := Aside0.mk (show Below w.heap.size w w5 from Below.trans (below_alloc W4.out _) (pp_below_mono_ hb (below_alloc W4.out _).size))
  have Z5 := Aside0.mk (show w5.heap[w.heap.size]? = some (.cells #[.bool false, .int .u64 0, .int .u64 0, .int .i64 0] 26 (0, 0)) from blk_below (blk_alloc Z4.out _) hb)
  have A5 := Aside0.mk (show w5.heap[w4.heap.size]? = some (.cells #[.bool v, .int .u64 hi, .int .u64 lo, .int .i64 b] 26 (0, 0)) from blk_below (blk_new _ _) hb)
  clear hb c0 c1 c2
  have z0 : w5.cell? ⟨w.heap.size, 0, none⟩ = some (.bool false) := (blk_cell Z5.out 0).trans rfl
  have zf0 := blk_frozen Z5.out 0
  have z1 : w5.cell? ⟨w.heap.size, 1, none⟩ = some (.int .u64 0) := (blk_cell Z5.out 1).trans rfl
  have zf1 := blk_frozen Z5.out 1
  have z2 : w5.cell? ⟨w.heap.size, 2, none⟩ = some (.int .u64 0) := (blk_cell Z5.out 2).trans rfl
  have zf2 := blk_frozen Z5.out 2
  have z3 : w5.cell? ⟨w.heap.size, 3, none⟩ = some (.int .i64 0) := (blk_cell Z5.out 3).trans rfl
  have zf3 := blk_frozen Z5.out 3
  have d0 : w5.cell? ⟨w4.heap.size, 0, none⟩ = some (.bool v) := (blk_cell A5.out 0).trans rfl
  have d1 : w5.cell? ⟨w4.heap.size, 1, none⟩ = some (.int .u64 hi) := (blk_cell A5.out 1).trans rfl
  have d2 : w5.cell? ⟨w4.heap.size, 2, none⟩ = some (.int .u64 lo) := (blk_cell A5.out 2).trans rfl
  have d3 : w5.cell? ⟨w4.heap.size, 3, none⟩ = some (.int .i64 b) := (blk_cell A5.out 3).trans rfl
  go_wp2_with fail
  refine bodyPost_ret (results_ct rfl _ _ w.heap.size 26 #[.bool v, .int .u64 hi, .int .u64 lo, .int .i64 b] (0, 0) _ rfl (by (with_reducible repeat (first | refine blk_drewN ?_ _ | refine blk_drew ?_ | refine blk_alloc ?_ _)); refine blk_put (cs := #[.bool v, .int .u64 hi, .int .u64 lo, .int .i64 0]) ?_ 3 _ rfl; refine blk_put (cs := #[.bool v, .int .u64 hi, .int .u64 0, .int .i64 0]) ?_ 2 _ rfl; refine blk_put (cs := #[.bool v, .int .u64 0, .int .u64 0, .int .i64 0]) ?_ 1 _ rfl; refine blk_put (cs := #[.bool false, .int .u64 0, .int .u64 0, .int .i64 0]) ?_ 0 _ rfl; (with_reducible repeat (first | refine blk_drewN ?_ _ | refine blk_drew ?_ | refine blk_alloc ?_ _)); exact Z5.out) Tryz.underlying26 rfl (by kernel_rfl)) rfl ?_
  exact ⟨rfl, by repeat (first | exact W5.out | apply below_alloc | apply pw_below_drewN | apply below_drew1 | refine below_set ?_ (Nat.le_refl _))⟩
def pfx_rest (n : ByteArray) (v : Bool) (hi lo e : Int) : Option (Bool × Int × Int × Int × Int) :=
  if e = 0 then
    (match Lib.atoiAll n.data.toList with
    | .ok b => (strconv_Itoa.f b).bind fun m => if m.toList = n.toList then (prefix_Valid.f v hi lo b).bind fun q => (if q = true then some (v, hi, lo, b, 0) else some (false, 0, 0, 0, 3)) else some (false, 0, 0, 0, 3)
    | _ => some (false, 0, 0, 0, 3))
  else some (false, 0, 0, 0, 3)
def prefix_Parse.f (k : Nat) (a0 : ByteArray) : Option (Bool × Int × Int × Int × Int) :=
  if a0.size ≤ 140737488355328 ∧ (⟨(Lib.cut a0.data.toList [47]).2.1.toArray⟩ : ByteArray).size ≤ 140737488355328 then
    (if (Lib.cut a0.data.toList [47]).2.2 = true then (addr_Parse.f k (⟨(Lib.cut a0.data.toList [47]).1.toArray⟩ : ByteArray)).bind fun p => pfx_rest (⟨(Lib.cut a0.data.toList [47]).2.1.toArray⟩ : ByteArray) p.1 p.2.1 p.2.2.1 p.2.2.2
    else some (false, 0, 0, 0, 3))
  else none
theorem prefix_Parse.mono : ∀ a0 k, LeO (prefix_Parse.f k a0) (prefix_Parse.f (k + 1) a0) := by
  intro a0 k
  unfold prefix_Parse.f
  refine LeO.ite ?_ (LeO.refl _)
  refine LeO.ite ?_ (LeO.refl _)
  exact LeO.bind (addr_Parse.mono _ _) (fun _ => LeO.refl _)
theorem prefix_Parse.calls (k : Nat) (a0 : ByteArray) (r1 : Bool) (r2 : Int) (r3 : Int) (r4 : Int) (r5 : Int) (w : World) (hLD : Laid w) (h : prefix_Parse.f k a0 = some (r1, r2, r3, r4, r5)) :
    Calls Tryz.prog 7 #[.string a0] w fun e w' => e = .returned (.tuple #[.agg #[.bool r1, .int .u64 r2, .int .u64 r3, .int .i64 r4], .int .i64 r5]) ∧ Below w.heap.size w w' := by
  unfold prefix_Parse.f at h
  by_cases hz : a0.size ≤ 140737488355328 ∧ (⟨(Lib.cut a0.data.toList [47]).2.1.toArray⟩ : ByteArray).size ≤ 140737488355328
  · rw [if_pos hz] at h
    obtain ⟨hs, hn⟩ := hz
    by_cases hk : (Lib.cut a0.data.toList [47]).2.2 = true
    · rw [if_pos hk] at h
      obtain ⟨⟨v, hi, lo, e⟩, hp, h⟩ := Option.bind_eq_some_iff.mp h
      unfold pfx_rest at h
      by_cases he : e = 0
      · subst he
        rw [if_pos rfl] at h
        cases hat : Lib.atoiAll (⟨(Lib.cut a0.data.toList [47]).2.1.toArray⟩ : ByteArray).data.toList with
        | ok b =>
          rw [hat] at h
          obtain ⟨m, hit, h⟩ := Option.bind_eq_some_iff.mp h
          by_cases hne : m.toList = (⟨(Lib.cut a0.data.toList [47]).2.1.toArray⟩ : ByteArray).toList
          · rw [if_pos hne] at h
            obtain ⟨q, hv, h⟩ := Option.bind_eq_some_iff.mp h
            cases q with
            | true =>
              simp only [if_true, Option.some.injEq, Prod.mk.injEq] at h
              obtain ⟨rfl, rfl, rfl, rfl, rfl⟩ := h
              exact Parse_f k a0 _ _ hs rfl rfl hk v hi lo hp hn b hat m hit hne hv w hLD
            | false =>
              simp only [Bool.false_eq_true, if_false, Option.some.injEq, Prod.mk.injEq] at h
              obtain ⟨rfl, rfl, rfl, rfl, rfl⟩ := h
              exact Parse_e k a0 _ _ hs rfl rfl hk v hi lo hp hn b hat m hit hne hv w hLD
          · rw [if_neg hne] at h
            simp only [Option.some.injEq, Prod.mk.injEq] at h
            obtain ⟨rfl, rfl, rfl, rfl, rfl⟩ := h
            exact Parse_d k a0 _ _ hs rfl rfl hk v hi lo hp hn b hat m hit hne w hLD
        | range =>
          rw [hat] at h
          simp only [Option.some.injEq, Prod.mk.injEq] at h
          obtain ⟨rfl, rfl, rfl, rfl, rfl⟩ := h
          exact Parse_c k a0 _ _ hs rfl rfl hk v hi lo hp hn (fun v hv => by rw [hat] at hv; cases hv) w hLD
        | _ =>
          rw [hat] at h
          simp only [Option.some.injEq, Prod.mk.injEq] at h
          obtain ⟨rfl, rfl, rfl, rfl, rfl⟩ := h
          exact Parse_c k a0 _ _ hs rfl rfl hk v hi lo hp hn (fun v hv => by rw [hat] at hv; cases hv) w hLD
      · rw [if_neg he] at h
        simp only [Option.some.injEq, Prod.mk.injEq] at h
        obtain ⟨rfl, rfl, rfl, rfl, rfl⟩ := h
        exact Parse_b k a0 _ _ hs rfl rfl hk v hi lo e hp he w hLD
    · rw [if_neg hk] at h
      simp only [Option.some.injEq, Prod.mk.injEq] at h
      obtain ⟨rfl, rfl, rfl, rfl, rfl⟩ := h
      exact Parse_a k a0 _ _ hs rfl rfl (by simpa using hk) w hLD
  · rw [if_neg hz] at h
    cases h

/-! ### prefix_Part: function 14 -/
mutual
def prefix_Part.j0 : Nat → Int → Int → Bool → Bool → Int → Int → Int → Option (Bool × Int × Int × Int × Bool)
 | 0, _, _, _, _, _, _, _ => none
 | k + 1, x1, x2, x28, x136000, x136001, x136002, x136003 => if x28 = true then (some (false, 0, 0, 0, false)) else (if (wrap64 (x1 - x136003)) < 64 then (if 0 ≤ (IntKind.u64.wrap (wrap64 (x1 - x136003))) then (prefix_Part.j1 k x1 x2 ((shr .u64 x2 (IntKind.u64.wrap (wrap64 (x1 - x136003)))) != 0) x136000 x136001 x136002 x136003) else (none)) else (prefix_Part.j1 k x1 x2 false x136000 x136001 x136002 x136003))
def prefix_Part.j1 : Nat → Int → Int → Bool → Bool → Int → Int → Int → Option (Bool × Int × Int × Int × Bool)
 | 0, _, _, _, _, _, _, _ => none
 | k + 1, x1, x2, x42, x136000, x136001, x136002, x136003 => if x42 = true then (some (false, 0, 0, 0, false)) else ((prefix_length.f x136000 x136001 x136002).bind fun t139 => (if (IntKind.u64.wrap (wrap64 (t139 - x1))) ≥ 64 then (if 0 ≤ (IntKind.u64.wrap ((IntKind.u64.wrap (wrap64 (t139 - x1))) - 64)) then (some (x136000, Go.bits .or .u64 x136001 (shl .u64 x2 (IntKind.u64.wrap ((IntKind.u64.wrap (wrap64 (t139 - x1))) - 64))), Go.bits .or .u64 x136002 0, x1, true)) else (none)) else (if (IntKind.u64.wrap (wrap64 (t139 - x1))) > 0 then (if 0 ≤ (IntKind.u64.wrap (64 - (IntKind.u64.wrap (wrap64 (t139 - x1))))) then (if 0 ≤ (IntKind.u64.wrap (wrap64 (t139 - x1))) then (some (x136000, Go.bits .or .u64 x136001 (shr .u64 x2 (IntKind.u64.wrap (64 - (IntKind.u64.wrap (wrap64 (t139 - x1)))))), Go.bits .or .u64 x136002 (shl .u64 x2 (IntKind.u64.wrap (wrap64 (t139 - x1)))), x1, true)) else (none)) else (none)) else (some (x136000, Go.bits .or .u64 x136001 0, Go.bits .or .u64 x136002 x2, x1, true)))))
end
def prefix_Part.f (k : Nat) (a0_0 : Bool) (a0_1 : Int) (a0_2 : Int) (a0_3 : Int) (a1 : Int) (a2 : Int) : Option (Bool × Int × Int × Int × Bool) := (prefix_Valid.f a0_0 a0_1 a0_2 a0_3).bind fun t137 => (if t137 = true then (if a1 < a0_3 then (prefix_Part.j0 k a1 a2 true a0_0 a0_1 a0_2 a0_3) else ((prefix_length.f a0_0 a0_1 a0_2).bind fun t138 => (prefix_Part.j0 k a1 a2 (decide (a1 > t138)) a0_0 a0_1 a0_2 a0_3))) else (prefix_Part.j0 k a1 a2 true a0_0 a0_1 a0_2 a0_3))
theorem prefix_Part.mono_l : ∀ k, (∀ y0 y1 y2 y3 y4 y5 y6, LeO (prefix_Part.j0 k y0 y1 y2 y3 y4 y5 y6) (prefix_Part.j0 (k + 1) y0 y1 y2 y3 y4 y5 y6)) ∧ (∀ y0 y1 y2 y3 y4 y5 y6, LeO (prefix_Part.j1 k y0 y1 y2 y3 y4 y5 y6) (prefix_Part.j1 (k + 1) y0 y1 y2 y3 y4 y5 y6))
 | 0 => ⟨fun _ _ _ _ _ _ _ r h => by simp [prefix_Part.j0] at h, fun _ _ _ _ _ _ _ r h => by simp [prefix_Part.j1] at h⟩
 | k + 1 => by
  obtain ⟨ih0, ih1⟩ := prefix_Part.mono_l k
  refine ⟨?_, ?_⟩
  ·
   intro y0 y1 y2 y3 y4 y5 y6
   unfold prefix_Part.j0
   repeat' with_reducible first | exact ih0 _ _ _ _ _ _ _ | exact ih1 _ _ _ _ _ _ _ | exact LeO.refl _ | exact LeO.none _ | refine LeO.ite ?_ ?_ | refine LeO.bind ?_ (fun _ => ?_)
  ·
   intro y0 y1 y2 y3 y4 y5 y6
   unfold prefix_Part.j1
   repeat' with_reducible first | exact ih0 _ _ _ _ _ _ _ | exact ih1 _ _ _ _ _ _ _ | exact LeO.refl _ | exact LeO.none _ | refine LeO.ite ?_ ?_ | refine LeO.bind ?_ (fun _ => ?_)
theorem prefix_Part.mono : ∀ a0 a1 a2 a3 a4 a5 k, LeO (prefix_Part.f k a0 a1 a2 a3 a4 a5) (prefix_Part.f (k + 1) a0 a1 a2 a3 a4 a5) := by
 intro a0 a1 a2 a3 a4 a5 k
 obtain ⟨ih0, ih1⟩ := prefix_Part.mono_l k
 unfold prefix_Part.f
 repeat' with_reducible first | exact ih0 _ _ _ _ _ _ _ | exact ih1 _ _ _ _ _ _ _ | exact LeO.refl _ | exact LeO.none _ | refine LeO.ite ?_ ?_ | refine LeO.bind ?_ (fun _ => ?_)
set_option maxHeartbeats 40000000 in
set_option maxRecDepth 100000 in
theorem prefix_Part.calls (k : Nat) (a0_0 : Bool) (a0_1 : Int) (a0_2 : Int) (a0_3 : Int) (a1 : Int) (a2 : Int) (r1 : Bool) (r2 : Int) (r3 : Int) (r4 : Int) (r5 : Bool) (w : World) (h : prefix_Part.f k a0_0 a0_1 a0_2 a0_3 a1 a2 = some (r1, r2, r3, r4, r5)) :
 Calls Tryz.prog 14 #[.agg #[.bool a0_0, .int .u64 a0_1, .int .u64 a0_2, .int .i64 a0_3], .int .i64 a1, .int .u64 a2] w fun e w' => e = .returned (.tuple #[.agg #[.bool r1, .int .u64 r2, .int .u64 r3, .int .i64 r4], .bool r5]) ∧ Below w.heap.size w w' := by
 have hu26 := Tryz.underlying26
 have hu24 := Tryz.underlying24
 have HB := Aside0.mk (Below.refl w.heap.size w)
 have H : ((prefix_Valid.f a0_0 a0_1 a0_2 a0_3).bind fun t137 => (if t137 = true then (if a1 < a0_3 then (prefix_Part.j0 k a1 a2 true a0_0 a0_1 a0_2 a0_3) else ((prefix_length.f a0_0 a0_1 a0_2).bind fun t138 => (prefix_Part.j0 k a1 a2 (decide (a1 > t138)) a0_0 a0_1 a0_2 a0_3))) else (prefix_Part.j0 k a1 a2 true a0_0 a0_1 a0_2 a0_3))) = some (r1, r2, r3, r4, r5) := h
 clear h
 have HC4 := Aside0.mk H
 clear H
 go_enter Tryz.func14, Tryz.ntmps14
 go_upto_region 1 with (first | ((with_reducible refine gate_dst (N := 3) rfl ?_); refine boxA (N := 3) (cs := #[.bool a0_0, .int .u64 a0_1, .int .u64 a0_2, .int .i64 a0_3]) (t := 26) ?_; intro gb135 hg w5 hbox hb; have BK135 := Aside0.mk (hbox); have GE135 := (pZ HB hg); replace HB := (pS HB hb); clear hb hbox hg) | ((with_reducible refine gate_dst (N := 6) rfl ?_); refine boxA (N := 6) (cs := #[.bool false, .int .u64 0, .int .u64 0, .int .i64 0]) (t := 26) ?_; intro gb136 hg w6 hbox hb; have BK136 := Aside0.mk (hbox); have GE136 := (pZ HB hg); have NB135_136 := (pL BK135 hg); have NB136_135 := (pG BK135 hg); replace BK135 := (pB BK135 hb); replace HB := (pS HB hb); clear hb hbox hg))
 (try simp only [Act.put, List.setIfInBounds_toArray, List.set_cons_zero, List.set_cons_succ])
 go_cut [28] (fun v28 wc => ∃ (kq : Nat) (x28_3 : Bool), v28 = .bool x28_3 ∧ Aside0 (prefix_Part.j0 kq a1 a2 x28_3 a0_0 a0_1 a0_2 a0_3 = some (r1, r2, r3, r4, r5)) ∧ Aside0 (kq ≤ k) ∧ Aside0 (wc.heap[gb135]? = some (.cells #[.bool a0_0, .int .u64 a0_1, .int .u64 a0_2, .int .i64 a0_3] 26 (0, 0))) ∧ Aside0 (wc.heap[gb136]? = some (.cells #[.bool false, .int .u64 0, .int .u64 0, .int .i64 0] 26 (0, 0))) ∧ Aside0 (Below w.heap.size w wc))
 case first =>
  have H := HC4.out
  clear HC4
  replace H := Option.bind_eq_some_iff.mp H
  obtain ⟨t137, A70, H⟩ := H
  have A7 := Aside0.mk A70
  clear A70
  by_cases c8 : t137 = true
  ·
   subst c8
   have H1 : (if a1 < a0_3 then (prefix_Part.j0 k a1 a2 true a0_0 a0_1 a0_2 a0_3) else ((prefix_length.f a0_0 a0_1 a0_2).bind fun t138 => (prefix_Part.j0 k a1 a2 (decide (a1 > t138)) a0_0 a0_1 a0_2 a0_3))) = some (r1, r2, r3, r4, r5) := by rw [if_pos rfl] at H; exact H
   clear H
   have H := H1
   clear H1
   by_cases c9 : a1 < a0_3
   ·
    rw [if_pos c9] at H
    have c9b0 := decide_eq_true c9
    clear c9
    (first | rw [c9b0] | (simp only [i64_w, i32_w]; rw [c9b0]) | skip)
    have H' := Aside0.mk H
    clear H
    have hnb10 := NB135_136.out
    have hnc10 := NB136_135.out
    obtain ⟨hcz11_0, hcz11_1, hcz11_2, hcz11_3, hfz11_0, hfz11_1, hfz11_2, hfz11_3⟩ := pC4 BK135
    go_wp2_with (first | ((with_reducible refine gate_callee (f := 26) rfl ?_); refine goesA (some 14) Tryz.func26 #[.agg #[.bool a0_0, .int .u64 a0_1, .int .u64 a0_2, .int .i64 a0_3]] ?_; (with_reducible refine (prefix_Valid.calls a0_0 a0_1 a0_2 a0_3 true _ A7.out).mono ?_); rintro e w12 ⟨rfl, hb⟩; refine ⟨_, rfl, ?_⟩; replace BK135 := (pB BK135 hb); replace BK136 := (pB BK136 hb); replace HB := (pS HB hb); (try clear hb); obtain ⟨hcz13_0, hcz13_1, hcz13_2, hcz13_3, hfz13_0, hfz13_1, hfz13_2, hfz13_3⟩ := pC4 BK135))
    refine Met.intro ?_
    go_step
    (repeat apply Exists.intro)
    refine ⟨?rel, ?heq_⟩
    case heq_ => first | rfl | (rw [c9b0]) | (simp only [c9b0])
    case rel => exact ⟨_, (true), pT, H', ⟨by first | omega | exact Nat.le_refl _⟩, ⟨pM BK135⟩, ⟨pM BK136⟩, ⟨pE HB⟩⟩
   ·
    rw [if_neg c9] at H
    have c9b0 := decide_eq_false c9
    clear c9
    (first | rw [c9b0] | (simp only [i64_w, i32_w]; rw [c9b0]) | skip)
    replace H := Option.bind_eq_some_iff.mp H
    obtain ⟨t138, A140, H⟩ := H
    have A14 := Aside0.mk A140
    clear A140
    have H' := Aside0.mk H
    clear H
    have hnb15 := NB135_136.out
    have hnc15 := NB136_135.out
    obtain ⟨hcz16_0, hcz16_1, hcz16_2, hcz16_3, hfz16_0, hfz16_1, hfz16_2, hfz16_3⟩ := pC4 BK135
    go_wp2_with (first | ((with_reducible refine gate_callee (f := 26) rfl ?_); refine goesA (some 14) Tryz.func26 #[.agg #[.bool a0_0, .int .u64 a0_1, .int .u64 a0_2, .int .i64 a0_3]] ?_; (with_reducible refine (prefix_Valid.calls a0_0 a0_1 a0_2 a0_3 true _ A7.out).mono ?_); rintro e w17 ⟨rfl, hb⟩; refine ⟨_, rfl, ?_⟩; replace BK135 := (pB BK135 hb); replace BK136 := (pB BK136 hb); replace HB := (pS HB hb); (try clear hb); obtain ⟨hcz18_0, hcz18_1, hcz18_2, hcz18_3, hfz18_0, hfz18_1, hfz18_2, hfz18_3⟩ := pC4 BK135) | (go_at_call 46; (with_reducible refine (prefix_length.calls a0_0 a0_1 a0_2 t138 _ A14.out).mono ?_); rintro e w19 ⟨rfl, hb⟩; replace BK135 := (pB BK135 hb); replace BK136 := (pB BK136 hb); replace HB := (pS HB hb); (try clear hb)))
    refine Met.intro ?_
    go_step
    (repeat apply Exists.intro)
    refine ⟨?rel, ?heq_⟩
    case heq_ => first | rfl | (rw [c9b0]) | (simp only [c9b0])
    case rel => exact ⟨_, (decide (a1 > t138)), pT, H', ⟨by first | omega | exact Nat.le_refl _⟩, ⟨pM BK135⟩, ⟨pM BK136⟩, ⟨pE HB⟩⟩
  ·
   replace c8 := Bool.eq_false_iff.mpr c8
   subst c8
   rw [if_neg (show ¬ (false = true) by decide)] at H
   have H' := Aside0.mk H
   clear H
   have hnb20 := NB135_136.out
   have hnc20 := NB136_135.out
   obtain ⟨hcz21_0, hcz21_1, hcz21_2, hcz21_3, hfz21_0, hfz21_1, hfz21_2, hfz21_3⟩ := pC4 BK135
   go_wp2_with (first | ((with_reducible refine gate_callee (f := 26) rfl ?_); refine goesA (some 14) Tryz.func26 #[.agg #[.bool a0_0, .int .u64 a0_1, .int .u64 a0_2, .int .i64 a0_3]] ?_; (with_reducible refine (prefix_Valid.calls a0_0 a0_1 a0_2 a0_3 false _ A7.out).mono ?_); rintro e w22 ⟨rfl, hb⟩; refine ⟨_, rfl, ?_⟩; replace BK135 := (pB BK135 hb); replace BK136 := (pB BK136 hb); replace HB := (pS HB hb); (try clear hb)))
   go_meet
   case rel => exact ⟨_, (true), pT, H', ⟨by first | omega | exact Nat.le_refl _⟩, ⟨pM BK135⟩, ⟨pM BK136⟩, ⟨pE HB⟩⟩
 case rest =>
  clear HC4
  obtain ⟨kq, x28_3, rfl, HA, HJ3, BK135, BK136, HB⟩ := hcut
  cases kq with
  | zero => exact absurd HA.out (by simp [prefix_Part.j0])
  | succ kj3 =>
   have H := HA.out
   clear HA
   simp only [prefix_Part.j0] at H
   by_cases c23 : x28_3 = true
   ·
    subst c23
    have H1 : (some (false, 0, 0, 0, false)) = some (r1, r2, r3, r4, r5) := by rw [if_pos rfl] at H; exact H
    clear H
    have H := H1
    clear H1
    simp only [Option.some.injEq, Prod.mk.injEq] at H
    obtain ⟨rfl, rfl, rfl, rfl, rfl⟩ := H
    have hnb24 := NB136_135.out
    have hnc24 := NB135_136.out
    obtain ⟨hcz25_0, hcz25_1, hcz25_2, hcz25_3, hfz25_0, hfz25_1, hfz25_2, hfz25_3⟩ := pC4 BK136
    go_wp2
    refine bodyPost_ret (results_ct rfl _ _ gb136 26 #[.bool false, .int .u64 0, .int .u64 0, .int .i64 0] (0, 0) _ rfl (pP (pP (pP (pP (pM BK136))))) Tryz.underlying26 rfl (by kernel_rfl)) rfl ?_
    exact pR (pE HB)
   ·
    replace c23 := Bool.eq_false_iff.mpr c23
    subst c23
    rw [if_neg (show ¬ (false = true) by decide)] at H
    have HC26 := Aside0.mk H
    clear H
    have hnb27 := NB135_136.out
    have hnc27 := NB136_135.out
    obtain ⟨hcz28_0, hcz28_1, hcz28_2, hcz28_3, hfz28_0, hfz28_1, hfz28_2, hfz28_3⟩ := pC4 BK135
    go_upto_region 4 with (fail)
    go_cut [42] (fun v42 wc => ∃ (kq : Nat) (x42_25 : Bool), v42 = .bool x42_25 ∧ Aside0 (prefix_Part.j1 kq a1 a2 x42_25 a0_0 a0_1 a0_2 a0_3 = some (r1, r2, r3, r4, r5)) ∧ Aside0 (kq ≤ kj3) ∧ Aside0 (wc.heap[gb135]? = some (.cells #[.bool a0_0, .int .u64 a0_1, .int .u64 a0_2, .int .i64 a0_3] 26 (0, 0))) ∧ Aside0 (wc.heap[gb136]? = some (.cells #[.bool false, .int .u64 0, .int .u64 0, .int .i64 0] 26 (0, 0))) ∧ Aside0 (Below w.heap.size w wc))
    case first =>
     have H := HC26.out
     clear HC26
     by_cases c29 : (wrap64 (a1 - a0_3)) < 64
     ·
      rw [if_pos c29] at H
      have c29b0 := decide_eq_true c29
      clear c29
      (first | rw [c29b0] | (simp only [i64_w, i32_w]; rw [c29b0]) | skip)
      obtain ⟨ji30, hji30⟩ : ∃ j_ : Int, (IntKind.u64.wrap (wrap64 (a1 - a0_3))) = j_ := ⟨_, rfl⟩
      replace H : (if 0 ≤ (ji30) then (prefix_Part.j1 kj3 a1 a2 ((shr .u64 a2 (ji30)) != 0) a0_0 a0_1 a0_2 a0_3) else (none)) = some (r1, r2, r3, r4, r5) := by first | (rw [hji30] at H; exact H) | (simp only [hji30] at H ⊢; exact H)
      by_cases c31 : 0 ≤ (ji30)
      ·
       rw [if_pos c31] at H
       have c31b0 := eq_true c31
       have c31b1 := decide_eq_true c31
       clear c31
       obtain ⟨ji32, hji32⟩ : ∃ j_ : Int, (shr .u64 a2 (ji30)) = j_ := ⟨_, rfl⟩
       (try rw [hji32] at hji30)
       replace H : (prefix_Part.j1 kj3 a1 a2 ((ji32) != 0) a0_0 a0_1 a0_2 a0_3) = some (r1, r2, r3, r4, r5) := by first | (rw [hji32] at H; exact H) | (simp only [hji32] at H ⊢; exact H)
       have hji32_ : (a2 / 2 ^ min (ji30).toNat 64) = ji32 := hji32
       have hji32z : (ji30) ≤ 64 → (a2 / 2 ^ (ji30).toNat) = ji32 := shr_small hji32
       have H' := Aside0.mk H
       clear H
       go_wp2
       refine Met.intro ?_
       go_step
       (repeat apply Exists.intro)
       refine ⟨?rel, ?heq_⟩
       case heq_ => first | rfl | (rw [c29b0]) | (simp only [c29b0])
       case rel => exact ⟨_, (((ji32) != 0)), (by first | rfl | (simp; done) | (simp only [← hji32] <;> (first | rfl | simp)) | (simp [*]; done) | ((try simp only [Bool.not_not]); (generalize ByteArray.toList _ = l_); cases l_ <;> rfl) | (simp; (generalize ByteArray.toList _ = l_); cases l_ <;> rfl)), (by first | exact H' | (simp only [hji30, hji32]; exact H') | (simp only [hji30, hji32] at H' ⊢; exact H')), ⟨by have := HJ3.out; first | omega | exact Nat.le_refl _⟩, ⟨pM BK135⟩, ⟨pM BK136⟩, ⟨pE HB⟩⟩
      ·
       rw [if_neg c31] at H
       exact absurd H (by simp)
     ·
      rw [if_neg c29] at H
      have c29b0 := decide_eq_false c29
      clear c29
      (first | rw [c29b0] | (simp only [i64_w, i32_w]; rw [c29b0]) | skip)
      have H' := Aside0.mk H
      clear H
      go_wp2
      refine Met.intro ?_
      go_step
      (repeat apply Exists.intro)
      refine ⟨?rel, ?heq_⟩
      case heq_ => first | rfl | (rw [c29b0]) | (simp only [c29b0])
      case rel => exact ⟨_, (false), pT, H', ⟨by have := HJ3.out; first | omega | exact Nat.le_refl _⟩, ⟨pM BK135⟩, ⟨pM BK136⟩, ⟨pE HB⟩⟩
    case rest =>
     clear HC26
     try clear c23
     try clear hcz28_0 hcz28_1 hcz28_2 hcz28_3
     try clear hfz28_0 hfz28_1 hfz28_2 hfz28_3
     obtain ⟨kq, x42_25, rfl, HA, HJ25, BK135, BK136, HB⟩ := hcut
     cases kq with
     | zero => exact absurd HA.out (by simp [prefix_Part.j1])
     | succ kj25 =>
      have H := HA.out
      clear HA
      simp only [prefix_Part.j1] at H
      by_cases c33 : x42_25 = true
      ·
       subst c33
       have H1 : (some (false, 0, 0, 0, false)) = some (r1, r2, r3, r4, r5) := by rw [if_pos rfl] at H; exact H
       clear H
       have H := H1
       clear H1
       simp only [Option.some.injEq, Prod.mk.injEq] at H
       obtain ⟨rfl, rfl, rfl, rfl, rfl⟩ := H
       have hnb34 := NB136_135.out
       have hnc34 := NB135_136.out
       obtain ⟨hcz35_0, hcz35_1, hcz35_2, hcz35_3, hfz35_0, hfz35_1, hfz35_2, hfz35_3⟩ := pC4 BK136
       go_wp2
       refine bodyPost_ret (results_ct rfl _ _ gb136 26 #[.bool false, .int .u64 0, .int .u64 0, .int .i64 0] (0, 0) _ rfl (pP (pP (pP (pP (pM BK136))))) Tryz.underlying26 rfl (by kernel_rfl)) rfl ?_
       exact pR (pE HB)
      ·
       replace c33 := Bool.eq_false_iff.mpr c33
       subst c33
       rw [if_neg (show ¬ (false = true) by decide)] at H
       replace H := Option.bind_eq_some_iff.mp H
       obtain ⟨t139, A360, H⟩ := H
       have A36 := Aside0.mk A360
       clear A360
       by_cases c37 : (IntKind.u64.wrap (wrap64 (t139 - a1))) ≥ 64
       ·
        rw [if_pos c37] at H
        have c37b0 := decide_eq_true c37
        clear c37
        obtain ⟨ji38, hji38⟩ : ∃ j_ : Int, (IntKind.u64.wrap ((IntKind.u64.wrap (wrap64 (t139 - a1))) - 64)) = j_ := ⟨_, rfl⟩
        replace H : (if 0 ≤ (ji38) then (some (a0_0, Go.bits .or .u64 a0_1 (shl .u64 a2 (ji38)), Go.bits .or .u64 a0_2 0, a1, true)) else (none)) = some (r1, r2, r3, r4, r5) := by first | (rw [hji38] at H; exact H) | (simp only [hji38] at H ⊢; exact H)
        (try rw [hji38] at A36)
        by_cases c39 : 0 ≤ (ji38)
        ·
         rw [if_pos c39] at H
         have c39b0 := eq_true c39
         have c39b1 := decide_eq_true c39
         clear c39
         obtain ⟨ji40, hji40⟩ : ∃ j_ : Int, (shl .u64 a2 (ji38)) = j_ := ⟨_, rfl⟩
         (try rw [hji40] at hji38)
         replace H : (some (a0_0, Go.bits .or .u64 a0_1 (ji40), Go.bits .or .u64 a0_2 0, a1, true)) = some (r1, r2, r3, r4, r5) := by first | (rw [hji40] at H; exact H) | (simp only [hji40] at H ⊢; exact H)
         (try rw [hji40] at A36)
         have hji40_ : (IntKind.u64.wrap (a2 * 2 ^ min (ji38).toNat 64)) = ji40 := hji40
         have hji40z : (ji38) ≤ 64 → (IntKind.u64.wrap (a2 * 2 ^ (ji38).toNat)) = ji40 := shl_small hji40
         simp only [Option.some.injEq, Prod.mk.injEq] at H
         obtain ⟨rfl, rfl, rfl, rfl, rfl⟩ := H
         have hnb41 := NB135_136.out
         have hnc41 := NB136_135.out
         obtain ⟨hcz42_0, hcz42_1, hcz42_2, hcz42_3, hfz42_0, hfz42_1, hfz42_2, hfz42_3⟩ := pC4 BK135
         go_wp2_with (first | ((with_reducible refine gate_callee (f := 46) rfl ?_); refine goesA (some 46) Tryz.func46 #[.agg #[.bool a0_0, .int .u64 a0_1, .int .u64 a0_2]] ?_; (with_reducible refine (prefix_length.calls a0_0 a0_1 a0_2 t139 _ A36.out).mono ?_); rintro e w43 ⟨rfl, hb⟩; refine ⟨_, rfl, ?_⟩; replace BK135 := (pB BK135 hb); replace BK136 := (pB BK136 hb); replace HB := (pS HB hb); (try clear hb); obtain ⟨hcz44_0, hcz44_1, hcz44_2, hcz44_3, hfz44_0, hfz44_1, hfz44_2, hfz44_3⟩ := pC4 BK135) | ((with_reducible refine gate_dst (N := 12) rfl ?_); refine boxA (N := 12) (cs := #[.bool false, .int .u64 0, .int .u64 0]) (t := 24) ?_; intro gb140 hg w45 hbox hb; have BK140 := Aside0.mk (hbox); have GE140 := (pZ HB hg); have NB135_140 := (pL BK135 hg); have NB140_135 := (pG BK135 hg); have NB136_140 := (pL BK136 hg); have NB140_136 := (pG BK136 hg); replace BK135 := (pB BK135 hb); replace BK136 := (pB BK136 hb); replace HB := (pS HB hb); clear hb hbox hg; have hnb46 := NB140_135.out; have hnc46 := NB135_140.out; have hnb47 := NB140_136.out; have hnc47 := NB136_140.out; obtain ⟨hcz48_0, hcz48_1, hcz48_2, hfz48_0, hfz48_1, hfz48_2⟩ := pC3 BK140; obtain ⟨hcz49_0, hcz49_1, hcz49_2, hcz49_3, hfz49_0, hfz49_1, hfz49_2, hfz49_3⟩ := pC4 BK136) | ((with_reducible refine gate_store (t := 26) (p := 6) rfl ?_); refine store_event (t := 26) (p := 6) (v := ?vo_w50) (w1 := (((((((((w45.setCell ⟨gb140, 0, none⟩ (.bool a0_0)).setCell ⟨gb140, 1, none⟩ (.int .u64 a0_1)).setCell ⟨gb140, 2, none⟩ (.int .u64 a0_2)).setCell ⟨gb140, 1, none⟩ (.int .u64 (Go.bits .or .u64 a0_1 (ji40)))).setCell ⟨gb140, 2, none⟩ (.int .u64 (Go.bits .or .u64 a0_2 0))).setCell ⟨gb136, 0, none⟩ (.bool a0_0)).setCell ⟨gb136, 1, none⟩ (.int .u64 (Go.bits .or .u64 a0_1 (ji40)))).setCell ⟨gb136, 2, none⟩ (.int .u64 (Go.bits .or .u64 a0_2 0))).setCell ⟨gb136, 3, none⟩ (.int .i64 a1))) ?hg ?ho ?hn ?hr ?_; (case ho => rfl); (case hg => rfl); (case hn => rfl); (case hr => first | (exact Ext.run_store_chain 26 _ _ rfl _ _ _ _ rfl rfl (pK NB136_140 (pK NB136_140 (pK NB136_140 (pK NB136_140 (pK NB136_140 (pM BK136)))))) (by kernel_rfl) rfl rfl rfl) | (go_simp; done) | (go_simp; rfl)); intro w50 hw; replace BK135 : Aside0 (w50.heap[gb135]? = some (.cells #[.bool a0_0, .int .u64 a0_1, .int .u64 a0_2, .int .i64 a0_3] 26 (0, 0))) := (pW hw (pK NB135_136 (pK NB135_136 (pK NB135_136 (pK NB135_136 (pK NB135_140 (pK NB135_140 (pK NB135_140 (pK NB135_140 (pK NB135_140 (pM BK135))))))))))); replace BK136 : Aside0 (w50.heap[gb136]? = some (.cells #[.bool a0_0, .int .u64 (Go.bits .or .u64 a0_1 (ji40)), .int .u64 (Go.bits .or .u64 a0_2 0), .int .i64 a1] 26 (0, 0))) := (pW hw (pP (pP (pP (pP (pK NB136_140 (pK NB136_140 (pK NB136_140 (pK NB136_140 (pK NB136_140 (pM BK136))))))))))); replace BK140 : Aside0 (w50.heap[gb140]? = some (.cells #[.bool a0_0, .int .u64 (Go.bits .or .u64 a0_1 (ji40)), .int .u64 (Go.bits .or .u64 a0_2 0)] 24 (0, 0))) := (pW hw (pK NB140_136 (pK NB140_136 (pK NB140_136 (pK NB140_136 (pP (pP (pP (pP (pP (pM BK140))))))))))); replace HB : Aside0 (Below w.heap.size w w50) := ⟨(by rw [hw]; exact (by repeat (first | (with_reducible first | exact HB.out | apply below_alloc | apply pw_below_drewN | apply below_drew1 | refine below_set ?_ GE135.out | refine below_set ?_ GE136.out | refine below_set ?_ GE140.out) | exact HB.out)))⟩; clear hw))
         refine bodyPost_ret (results_ct rfl _ _ gb136 26 #[.bool a0_0, .int .u64 (Go.bits .or .u64 a0_1 (ji40)), .int .u64 (Go.bits .or .u64 a0_2 0), .int .i64 a1] (0, 0) _ rfl (pM BK136) Tryz.underlying26 rfl (by kernel_rfl)) rfl ?_
         exact ⟨by first | rfl | (simp [errW_none, errW_some] <;> rfl) | (simp only [← hji38, ← hji40]; first | rfl | (simp [errW_none, errW_some] <;> rfl)) | (simp [*, errW_none, errW_some] <;> rfl), by repeat (first | (with_reducible first | exact HB.out | apply below_alloc | apply pw_below_drewN | apply below_drew1 | refine below_set ?_ GE135.out | refine below_set ?_ GE136.out | refine below_set ?_ GE140.out) | exact HB.out)⟩
        ·
         rw [if_neg c39] at H
         exact absurd H (by simp)
       ·
        rw [if_neg c37] at H
        have c37b0 := decide_eq_false c37
        clear c37
        by_cases c51 : (IntKind.u64.wrap (wrap64 (t139 - a1))) > 0
        ·
         rw [if_pos c51] at H
         have c51b0 := decide_eq_true c51
         clear c51
         obtain ⟨ji52, hji52⟩ : ∃ j_ : Int, (IntKind.u64.wrap (64 - (IntKind.u64.wrap (wrap64 (t139 - a1))))) = j_ := ⟨_, rfl⟩
         replace H : (if 0 ≤ (ji52) then (if 0 ≤ (IntKind.u64.wrap (wrap64 (t139 - a1))) then (some (a0_0, Go.bits .or .u64 a0_1 (shr .u64 a2 (ji52)), Go.bits .or .u64 a0_2 (shl .u64 a2 (IntKind.u64.wrap (wrap64 (t139 - a1)))), a1, true)) else (none)) else (none)) = some (r1, r2, r3, r4, r5) := by first | (rw [hji52] at H; exact H) | (simp only [hji52] at H ⊢; exact H)
         (try rw [hji52] at A36)
         by_cases c53 : 0 ≤ (ji52)
         ·
          rw [if_pos c53] at H
          have c53b0 := eq_true c53
          have c53b1 := decide_eq_true c53
          clear c53
          obtain ⟨ji54, hji54⟩ : ∃ j_ : Int, (shr .u64 a2 (ji52)) = j_ := ⟨_, rfl⟩
          (try rw [hji54] at hji52)
          replace H : (if 0 ≤ (IntKind.u64.wrap (wrap64 (t139 - a1))) then (some (a0_0, Go.bits .or .u64 a0_1 (ji54), Go.bits .or .u64 a0_2 (shl .u64 a2 (IntKind.u64.wrap (wrap64 (t139 - a1)))), a1, true)) else (none)) = some (r1, r2, r3, r4, r5) := by first | (rw [hji54] at H; exact H) | (simp only [hji54] at H ⊢; exact H)
          (try rw [hji54] at A36)
          have hji54_ : (a2 / 2 ^ min (ji52).toNat 64) = ji54 := hji54
          have hji54z : (ji52) ≤ 64 → (a2 / 2 ^ (ji52).toNat) = ji54 := shr_small hji54
          obtain ⟨ji55, hji55⟩ : ∃ j_ : Int, (IntKind.u64.wrap (wrap64 (t139 - a1))) = j_ := ⟨_, rfl⟩
          (try rw [hji55] at hji52)
          (try rw [hji55] at hji54)
          replace H : (if 0 ≤ (ji55) then (some (a0_0, Go.bits .or .u64 a0_1 (ji54), Go.bits .or .u64 a0_2 (shl .u64 a2 (ji55)), a1, true)) else (none)) = some (r1, r2, r3, r4, r5) := by first | (rw [hji55] at H; exact H) | (simp only [hji55] at H ⊢; exact H)
          (try rw [hji55] at c37b0)
          (try rw [hji55] at c51b0)
          (try rw [hji55] at A36)
          by_cases c56 : 0 ≤ (ji55)
          ·
           rw [if_pos c56] at H
           have c56b0 := eq_true c56
           have c56b1 := decide_eq_true c56
           clear c56
           obtain ⟨ji57, hji57⟩ : ∃ j_ : Int, (shl .u64 a2 (ji55)) = j_ := ⟨_, rfl⟩
           (try rw [hji57] at hji52)
           (try rw [hji57] at hji54)
           (try rw [hji57] at hji55)
           replace H : (some (a0_0, Go.bits .or .u64 a0_1 (ji54), Go.bits .or .u64 a0_2 (ji57), a1, true)) = some (r1, r2, r3, r4, r5) := by first | (rw [hji57] at H; exact H) | (simp only [hji57] at H ⊢; exact H)
           (try rw [hji57] at A36)
           have hji57_ : (IntKind.u64.wrap (a2 * 2 ^ min (ji55).toNat 64)) = ji57 := hji57
           have hji57z : (ji55) ≤ 64 → (IntKind.u64.wrap (a2 * 2 ^ (ji55).toNat)) = ji57 := shl_small hji57
           simp only [Option.some.injEq, Prod.mk.injEq] at H
           obtain ⟨rfl, rfl, rfl, rfl, rfl⟩ := H
           have hnb58 := NB135_136.out
           have hnc58 := NB136_135.out
           obtain ⟨hcz59_0, hcz59_1, hcz59_2, hcz59_3, hfz59_0, hfz59_1, hfz59_2, hfz59_3⟩ := pC4 BK135
           go_wp2_with (first | ((with_reducible refine gate_callee (f := 46) rfl ?_); refine goesA (some 46) Tryz.func46 #[.agg #[.bool a0_0, .int .u64 a0_1, .int .u64 a0_2]] ?_; (with_reducible refine (prefix_length.calls a0_0 a0_1 a0_2 t139 _ A36.out).mono ?_); rintro e w60 ⟨rfl, hb⟩; refine ⟨_, rfl, ?_⟩; replace BK135 := (pB BK135 hb); replace BK136 := (pB BK136 hb); replace HB := (pS HB hb); (try clear hb); obtain ⟨hcz61_0, hcz61_1, hcz61_2, hcz61_3, hfz61_0, hfz61_1, hfz61_2, hfz61_3⟩ := pC4 BK135) | ((with_reducible refine gate_dst (N := 12) rfl ?_); refine boxA (N := 12) (cs := #[.bool false, .int .u64 0, .int .u64 0]) (t := 24) ?_; intro gb141 hg w62 hbox hb; have BK141 := Aside0.mk (hbox); have GE141 := (pZ HB hg); have NB135_141 := (pL BK135 hg); have NB141_135 := (pG BK135 hg); have NB136_141 := (pL BK136 hg); have NB141_136 := (pG BK136 hg); replace BK135 := (pB BK135 hb); replace BK136 := (pB BK136 hb); replace HB := (pS HB hb); clear hb hbox hg; have hnb63 := NB141_135.out; have hnc63 := NB135_141.out; have hnb64 := NB141_136.out; have hnc64 := NB136_141.out; obtain ⟨hcz65_0, hcz65_1, hcz65_2, hfz65_0, hfz65_1, hfz65_2⟩ := pC3 BK141; obtain ⟨hcz66_0, hcz66_1, hcz66_2, hcz66_3, hfz66_0, hfz66_1, hfz66_2, hfz66_3⟩ := pC4 BK136) | ((with_reducible refine gate_store (t := 26) (p := 6) rfl ?_); refine store_event (t := 26) (p := 6) (v := ?vo_w67) (w1 := (((((((((w62.setCell ⟨gb141, 0, none⟩ (.bool a0_0)).setCell ⟨gb141, 1, none⟩ (.int .u64 a0_1)).setCell ⟨gb141, 2, none⟩ (.int .u64 a0_2)).setCell ⟨gb141, 1, none⟩ (.int .u64 (Go.bits .or .u64 a0_1 (ji54)))).setCell ⟨gb141, 2, none⟩ (.int .u64 (Go.bits .or .u64 a0_2 (ji57)))).setCell ⟨gb136, 0, none⟩ (.bool a0_0)).setCell ⟨gb136, 1, none⟩ (.int .u64 (Go.bits .or .u64 a0_1 (ji54)))).setCell ⟨gb136, 2, none⟩ (.int .u64 (Go.bits .or .u64 a0_2 (ji57)))).setCell ⟨gb136, 3, none⟩ (.int .i64 a1))) ?hg ?ho ?hn ?hr ?_; (case ho => rfl); (case hg => rfl); (case hn => rfl); (case hr => first | (exact Ext.run_store_chain 26 _ _ rfl _ _ _ _ rfl rfl (pK NB136_141 (pK NB136_141 (pK NB136_141 (pK NB136_141 (pK NB136_141 (pM BK136)))))) (by kernel_rfl) rfl rfl rfl) | (go_simp; done) | (go_simp; rfl)); intro w67 hw; replace BK135 : Aside0 (w67.heap[gb135]? = some (.cells #[.bool a0_0, .int .u64 a0_1, .int .u64 a0_2, .int .i64 a0_3] 26 (0, 0))) := (pW hw (pK NB135_136 (pK NB135_136 (pK NB135_136 (pK NB135_136 (pK NB135_141 (pK NB135_141 (pK NB135_141 (pK NB135_141 (pK NB135_141 (pM BK135))))))))))); replace BK136 : Aside0 (w67.heap[gb136]? = some (.cells #[.bool a0_0, .int .u64 (Go.bits .or .u64 a0_1 (ji54)), .int .u64 (Go.bits .or .u64 a0_2 (ji57)), .int .i64 a1] 26 (0, 0))) := (pW hw (pP (pP (pP (pP (pK NB136_141 (pK NB136_141 (pK NB136_141 (pK NB136_141 (pK NB136_141 (pM BK136))))))))))); replace BK141 : Aside0 (w67.heap[gb141]? = some (.cells #[.bool a0_0, .int .u64 (Go.bits .or .u64 a0_1 (ji54)), .int .u64 (Go.bits .or .u64 a0_2 (ji57))] 24 (0, 0))) := (pW hw (pK NB141_136 (pK NB141_136 (pK NB141_136 (pK NB141_136 (pP (pP (pP (pP (pP (pM BK141))))))))))); replace HB : Aside0 (Below w.heap.size w w67) := ⟨(by rw [hw]; exact (by repeat (first | (with_reducible first | exact HB.out | apply below_alloc | apply pw_below_drewN | apply below_drew1 | refine below_set ?_ GE135.out | refine below_set ?_ GE136.out | refine below_set ?_ GE141.out) | exact HB.out)))⟩; clear hw))
           refine bodyPost_ret (results_ct rfl _ _ gb136 26 #[.bool a0_0, .int .u64 (Go.bits .or .u64 a0_1 (ji54)), .int .u64 (Go.bits .or .u64 a0_2 (ji57)), .int .i64 a1] (0, 0) _ rfl (pM BK136) Tryz.underlying26 rfl (by kernel_rfl)) rfl ?_
           exact ⟨by first | rfl | (simp [errW_none, errW_some] <;> rfl) | (simp only [← hji52, ← hji54, ← hji55, ← hji57]; first | rfl | (simp [errW_none, errW_some] <;> rfl)) | (simp [*, errW_none, errW_some] <;> rfl), by repeat (first | (with_reducible first | exact HB.out | apply below_alloc | apply pw_below_drewN | apply below_drew1 | refine below_set ?_ GE135.out | refine below_set ?_ GE136.out | refine below_set ?_ GE141.out) | exact HB.out)⟩
          ·
           rw [if_neg c56] at H
           exact absurd H (by simp)
         ·
          rw [if_neg c53] at H
          exact absurd H (by simp)
        ·
         rw [if_neg c51] at H
         have c51b0 := decide_eq_false c51
         clear c51
         simp only [Option.some.injEq, Prod.mk.injEq] at H
         obtain ⟨rfl, rfl, rfl, rfl, rfl⟩ := H
         have hnb68 := NB135_136.out
         have hnc68 := NB136_135.out
         obtain ⟨hcz69_0, hcz69_1, hcz69_2, hcz69_3, hfz69_0, hfz69_1, hfz69_2, hfz69_3⟩ := pC4 BK135
         go_wp2_with (first | ((with_reducible refine gate_callee (f := 46) rfl ?_); refine goesA (some 46) Tryz.func46 #[.agg #[.bool a0_0, .int .u64 a0_1, .int .u64 a0_2]] ?_; (with_reducible refine (prefix_length.calls a0_0 a0_1 a0_2 t139 _ A36.out).mono ?_); rintro e w70 ⟨rfl, hb⟩; refine ⟨_, rfl, ?_⟩; replace BK135 := (pB BK135 hb); replace BK136 := (pB BK136 hb); replace HB := (pS HB hb); (try clear hb); obtain ⟨hcz71_0, hcz71_1, hcz71_2, hcz71_3, hfz71_0, hfz71_1, hfz71_2, hfz71_3⟩ := pC4 BK135) | ((with_reducible refine gate_dst (N := 12) rfl ?_); refine boxA (N := 12) (cs := #[.bool false, .int .u64 0, .int .u64 0]) (t := 24) ?_; intro gb142 hg w72 hbox hb; have BK142 := Aside0.mk (hbox); have GE142 := (pZ HB hg); have NB135_142 := (pL BK135 hg); have NB142_135 := (pG BK135 hg); have NB136_142 := (pL BK136 hg); have NB142_136 := (pG BK136 hg); replace BK135 := (pB BK135 hb); replace BK136 := (pB BK136 hb); replace HB := (pS HB hb); clear hb hbox hg; have hnb73 := NB142_135.out; have hnc73 := NB135_142.out; have hnb74 := NB142_136.out; have hnc74 := NB136_142.out; obtain ⟨hcz75_0, hcz75_1, hcz75_2, hfz75_0, hfz75_1, hfz75_2⟩ := pC3 BK142; obtain ⟨hcz76_0, hcz76_1, hcz76_2, hcz76_3, hfz76_0, hfz76_1, hfz76_2, hfz76_3⟩ := pC4 BK136) | ((with_reducible refine gate_store (t := 26) (p := 6) rfl ?_); refine store_event (t := 26) (p := 6) (v := ?vo_w77) (w1 := (((((((((w72.setCell ⟨gb142, 0, none⟩ (.bool a0_0)).setCell ⟨gb142, 1, none⟩ (.int .u64 a0_1)).setCell ⟨gb142, 2, none⟩ (.int .u64 a0_2)).setCell ⟨gb142, 1, none⟩ (.int .u64 (Go.bits .or .u64 a0_1 0))).setCell ⟨gb142, 2, none⟩ (.int .u64 (Go.bits .or .u64 a0_2 a2))).setCell ⟨gb136, 0, none⟩ (.bool a0_0)).setCell ⟨gb136, 1, none⟩ (.int .u64 (Go.bits .or .u64 a0_1 0))).setCell ⟨gb136, 2, none⟩ (.int .u64 (Go.bits .or .u64 a0_2 a2))).setCell ⟨gb136, 3, none⟩ (.int .i64 a1))) ?hg ?ho ?hn ?hr ?_; (case ho => rfl); (case hg => rfl); (case hn => rfl); (case hr => first | (exact Ext.run_store_chain 26 _ _ rfl _ _ _ _ rfl rfl (pK NB136_142 (pK NB136_142 (pK NB136_142 (pK NB136_142 (pK NB136_142 (pM BK136)))))) (by kernel_rfl) rfl rfl rfl) | (go_simp; done) | (go_simp; rfl)); intro w77 hw; replace BK135 : Aside0 (w77.heap[gb135]? = some (.cells #[.bool a0_0, .int .u64 a0_1, .int .u64 a0_2, .int .i64 a0_3] 26 (0, 0))) := (pW hw (pK NB135_136 (pK NB135_136 (pK NB135_136 (pK NB135_136 (pK NB135_142 (pK NB135_142 (pK NB135_142 (pK NB135_142 (pK NB135_142 (pM BK135))))))))))); replace BK136 : Aside0 (w77.heap[gb136]? = some (.cells #[.bool a0_0, .int .u64 (Go.bits .or .u64 a0_1 0), .int .u64 (Go.bits .or .u64 a0_2 a2), .int .i64 a1] 26 (0, 0))) := (pW hw (pP (pP (pP (pP (pK NB136_142 (pK NB136_142 (pK NB136_142 (pK NB136_142 (pK NB136_142 (pM BK136))))))))))); replace BK142 : Aside0 (w77.heap[gb142]? = some (.cells #[.bool a0_0, .int .u64 (Go.bits .or .u64 a0_1 0), .int .u64 (Go.bits .or .u64 a0_2 a2)] 24 (0, 0))) := (pW hw (pK NB142_136 (pK NB142_136 (pK NB142_136 (pK NB142_136 (pP (pP (pP (pP (pP (pM BK142))))))))))); replace HB : Aside0 (Below w.heap.size w w77) := ⟨(by rw [hw]; exact (by repeat (first | (with_reducible first | exact HB.out | apply below_alloc | apply pw_below_drewN | apply below_drew1 | refine below_set ?_ GE135.out | refine below_set ?_ GE136.out | refine below_set ?_ GE142.out) | exact HB.out)))⟩; clear hw))
         refine bodyPost_ret (results_ct rfl _ _ gb136 26 #[.bool a0_0, .int .u64 (Go.bits .or .u64 a0_1 0), .int .u64 (Go.bits .or .u64 a0_2 a2), .int .i64 a1] (0, 0) _ rfl (pM BK136) Tryz.underlying26 rfl (by kernel_rfl)) rfl ?_
         exact pR (pE HB)
end Go.Proofs.YteflcmmandlknaaGreatDoor.PA
