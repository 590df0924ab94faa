/- The Go functions in Lean, with the proofs that the code comes to these answers: printed by this session's program (wip/px) out of the seat's translation. Conditions: each theorem's own. -/
import Derived.Test.YtmkgjibmfabbdabDoorPAx0
import Derived.Test.YtmkgjibmfabbdabDoorPAx11
namespace Go.Proofs.YtmkgjibmfabbdabDoor.PA
open Go.RowKit Go.Proofs.YtmkgjibmfabbdabDoorW.PrintWords Go.Proofs.YtmkgjibmfabbdabDoorW.PrintLast Go.Proofs.YtmkgjibmfabbdabDoorW.PrintMore
attribute [local go_sem] max2_int min2_int max_two min_two max_three min_three max_four min_four   -- for this text's walks alone
attribute [local go_sem ↓] Ext.isSome_setCell
set_option linter.unusedVariables false
set_option linter.unusedSimpArgs false

/-! ### addr_six: function 31 (given) -/
/-- One more group behind a number. -/
def shift16 (x g : Int) : Int := Go.bits .or .u64 (IntKind.u64.wrap (x * 65536)) (IntKind.u64.wrap g)
def num4 (a b c d : Int) : Int := shift16 (shift16 (shift16 (Go.bits .or .u64 0 (IntKind.u64.wrap a)) b) c) d
set_option maxHeartbeats 4000000 in
set_option maxRecDepth 100000 in
theorem groups_addr.calls (g0 g1 g2 g3 g4 g5 g6 g7 : Int) (w : World) :
    Calls Tryd.prog 45 #[.agg #[.int .u16 g0, .int .u16 g1, .int .u16 g2, .int .u16 g3, .int .u16 g4, .int .u16 g5, .int .u16 g6, .int .u16 g7]] w fun e w' => e = .returned (.agg #[.bool true, .int .u64 (num4 g0 g1 g2 g3), .int .u64 (num4 g4 g5 g6 g7)]) ∧ Below w.heap.size w w' := by
  have huA_ := Tryd.underlying24
  have huG_ := Tryd.underlying52
  have hz : (0 : Int) * 65536 = 0 := rfl
  go_enter Tryd.func45, Tryd.ntmps45
  go_wp2
  refine wp_loop_rounds 5 ?_
  rw [rounds_succ]
  go_wp2
  go_region
  go_wp2
  go_region
  go_wp2
  rw [rounds_succ]
  go_wp2
  go_region
  go_wp2
  go_region
  go_wp2
  rw [rounds_succ]
  go_wp2
  go_region
  go_wp2
  go_region
  go_wp2
  rw [rounds_succ]
  go_wp2
  go_region
  go_wp2
  go_region
  go_wp2
  rw [rounds_succ]
  go_wp2
  refine bodyPost_ret (v := .agg #[.bool true, .int .u64 (num4 g0 g1 g2 g3), .int .u64 (num4 g4 g5 g6 g7)]) (by simp [results, Tryd.results45, go_sem, num4, shift16]) rfl ⟨rfl, ?_⟩
  repeat (first | exact Below.refl _ _ | apply below_drew | apply below_alloc | apply pw_below_drewN)
theorem below_mono_ {B B' : Nat} {w w' : World} (h : Below B w w') (hb : B' ≤ B) : Below B' w w' := ⟨h.os, h.tape, h.output, h.size, fun k hk => h.block k (by omega)⟩
theorem blk_new_drewN (w : World) (o : Obj) (n : Nat) : ((w.alloc o).drewN n).heap[w.heap.size]? = some o := by
  show (w.heap.push o)[w.heap.size]? = _
  simp
def zeros8 : List Value := [.int .u16 0, .int .u16 0, .int .u16 0, .int .u16 0, .int .u16 0, .int .u16 0, .int .u16 0, .int .u16 0]
/-- Eight groups: the head's, zeros, the tail's. -/
def six8 (a b : List Int) : List Int := a ++ (List.replicate (8 - a.length - b.length) 0 ++ b)
theorem nums_one (k : IntKind) (xs : List Int) : ∀ v ∈ nums k xs, v.oneCell' = true := by
  intro v hv
  simp only [nums, List.mem_map] at hv
  obtain ⟨x, _, rfl⟩ := hv
  rfl
theorem cells_of_C {k : IntKind} {w : World} {A : Option Addr} {n : Nat} {xs : List Int} (h : (Kd.int k).C w A n xs) (hn : 0 < n) : ∃ ad, A = some ad ∧ ∀ j v, (nums k xs)[j]? = some v → w.cell? (ad.add j) = some v := by
  obtain ⟨ad, e, hc⟩ := h.2.2 hn
  refine ⟨ad, e, fun j v hv => ?_⟩
  simp only [nums, List.getElem?_map, Option.map_eq_some_iff] at hv
  obtain ⟨p, hp, rfl⟩ := hv
  obtain ⟨c, _, hr, hcell⟩ := hc j p hp
  have := hcell 0 (.int k p) (by rw [show c = [Value.int k p] from hr]; rfl)
  simpa [Kd.int, Kd.scalar] using this
theorem six8_length (a b : List Int) (h : a.length + b.length ≤ 8) : (six8 a b).length = 8 := by simp [six8]; omega
theorem list8 (l : List Int) (h : l.length = 8) : nums .u16 l = [.int .u16 (rd l 0), .int .u16 (rd l 1), .int .u16 (rd l 2), .int .u16 (rd l 3), .int .u16 (rd l 4), .int .u16 (rd l 5), .int .u16 (rd l 6), .int .u16 (rd l 7)] := by
  match l, h with
  | [_, _, _, _, _, _, _, _], _ => rfl
theorem six_splice (a b : List Int) (lo : Nat) (h : lo + b.length = 8) (h2 : a.length + b.length ≤ 8) : splice (splice zeros8 0 (nums .u16 a)) lo (nums .u16 b) = nums .u16 (six8 a b) := by
  have hz : zeros8 = List.replicate 8 (.int .u16 0) := rfl
  have e1 : splice zeros8 0 (nums .u16 a) = nums .u16 a ++ List.replicate (8 - a.length) (.int .u16 0) := by
    unfold splice
    rw [hz, List.drop_replicate, nums_length, Nat.zero_add]; rfl
  rw [e1]
  unfold splice
  rw [List.drop_of_length_le (by simp [nums_length]; omega), List.append_nil, List.take_append, List.take_of_length_le (by rw [nums_length]; omega), nums_length, List.take_replicate]
  simp only [six8, nums, List.map_append, List.map_replicate, List.append_assoc]
  congr 2
  congr 1
  omega
theorem six_row {w : World} {g lo : Nat} {X1 X2 : List Value} {a b : List Int} (h : Hid (w.heap[g]? = some (.cells (splice (splice zeros8 0 X1) lo X2).toArray 52 (0, 0)))) (h1 : X1 = nums .u16 a) (h2 : X2 = nums .u16 b) (hl : lo + b.length = 8) (hs : a.length + b.length ≤ 8) :
    w.heap[g]? = some (.cells #[.int .u16 (rd (six8 a b) 0), .int .u16 (rd (six8 a b) 1), .int .u16 (rd (six8 a b) 2), .int .u16 (rd (six8 a b) 3), .int .u16 (rd (six8 a b) 4), .int .u16 (rd (six8 a b) 5), .int .u16 (rd (six8 a b) 6), .int .u16 (rd (six8 a b) 7)] 52 (0, 0)) := by
  have h' : w.heap[g]? = _ := h
  rw [h', h1, h2, six_splice a b lo hl hs, list8 _ (six8_length a b hs)]
set_option maxHeartbeats 4000000 in
set_option maxRecDepth 100000 in
theorem six_ok (k : Nat) (a0 s1 s2 : ByteArray) (ok is sh : Bool) (a b : List Int) (w : World) (hLD : Laid w) (hc : strings_Cut.f a0 (⟨#[58, 58]⟩ : ByteArray) = some (s1, s2, sh)) (hx : addr_list.f k s1 = some (a, ok)) (hy : addr_list.f k s2 = some (b, is)) (h1 : ok = false) :
    Calls Tryd.prog 31 #[.string a0] w fun e w' => e = .returned (.tuple #[.agg #[.bool false, .int .u64 0, .int .u64 0], .bool false]) ∧ Below w.heap.size w w' := by
  have huA_ := Tryd.underlying24
  have huG_ := Tryd.underlying52
  have HLD := Aside0.mk hLD
  have HC := Aside0.mk hc
  have HX := Aside0.mk hx
  have HY := Aside0.mk hy
  clear hc hx hy hLD
  subst h1
  go_enter Tryd.func31, Tryd.ntmps31
  go_wp2_with fail
  refine (strings_Cut.calls a0 _ s1 s2 _ _ (HLD.out.below (by repeat (first | exact Below.refl _ _ | apply below_drew | apply below_alloc | apply pw_below_drewN))) HC.out).mono ?_
  rintro e w1 ⟨rfl, ⟨n, rfl⟩⟩
  go_wp2_with fail
  refine (addr_list.calls k s1 a _ _ (HLD.out.below (by repeat (first | exact Below.refl _ _ | apply below_drew | apply below_alloc | apply pw_below_drewN))) HX.out).mono ?_
  rintro e w2 ⟨va, rfl, ha, hb2⟩
  obtain ⟨Aa, ca, rfl⟩ := Kd.R_slice ha
  have hw2 : Below w.heap.size w w2 := Below.trans (by repeat (first | exact Below.refl _ _ | apply below_drew | apply below_alloc | apply pw_below_drewN)) (below_mono_ hb2 (by simp))
  have hr2 : w2.heap[w.heap.size]? = some (.cells #[.bool false, .int .u64 0, .int .u64 0] 24 (0, 0)) := (hb2.block _ (by simp)).trans (blk_new_drewN _ _ _)
  have HA := Aside0.mk ha
  have HW2 := Aside0.mk hw2
  have HR2 := Aside0.mk hr2
  clear ha hw2 hr2 hb2
  go_wp2_with fail
  refine (addr_list.calls k s2 b _ _ (HLD.out.below HW2.out) HY.out).mono ?_
  rintro e w3 ⟨vb, rfl, hb, hb3⟩
  obtain ⟨Ab, cb, rfl⟩ := Kd.R_slice hb
  have hw3 : Below w.heap.size w w3 := HW2.out.trans (below_mono_ hb3 HW2.out.size)
  have hr3 : w3.heap[w.heap.size]? = some (.cells #[.bool false, .int .u64 0, .int .u64 0] 24 (0, 0)) := (hb3.block _ (blk_lt HR2.out)).trans HR2.out
  have ha3 := Kd.R_below HA.out hb3
  have HA3 := Aside0.mk ha3
  have HB3 := Aside0.mk hb
  have HW3 := Aside0.mk hw3
  have HR3 := Aside0.mk hr3
  clear ha3 hb hw3 hr3 hb3 HA HW2 HR2
  have hc0 : w3.cell? ⟨w.heap.size, 0, none⟩ = some (.bool false) := (blk_cell HR3.out 0).trans rfl
  have hc1 : w3.cell? ⟨w.heap.size, 1, none⟩ = some (.int .u64 0) := (blk_cell HR3.out 1).trans rfl
  have hc2 : w3.cell? ⟨w.heap.size, 2, none⟩ = some (.int .u64 0) := (blk_cell HR3.out 2).trans rfl
  have hf0 := blk_frozen HR3.out 0
  have hf1 := blk_frozen HR3.out 1
  have hf2 := blk_frozen HR3.out 2
  have hnb : w.heap.size < w3.heap.size := blk_lt HR3.out
  go_wp2_with fail
  refine bodyPost_ret (results_ct rfl _ _ w.heap.size 24 #[.bool false, .int .u64 0, .int .u64 0] (0, 0) _ rfl (by (with_reducible repeat (first | refine blk_drewN ?_ _ | refine blk_drew ?_ | refine blk_alloc ?_ _)); refine blk_put (cs := #[.bool false, .int .u64 0, .int .u64 0]) ?_ 2 _ rfl; refine blk_put (cs := #[.bool false, .int .u64 0, .int .u64 0]) ?_ 1 _ rfl; refine blk_put (cs := #[.bool false, .int .u64 0, .int .u64 0]) ?_ 0 _ rfl; exact HR3.out) Tryd.underlying24 rfl (by kernel_rfl)) rfl ?_
  exact ⟨rfl, by repeat (first | exact HW3.out | apply below_alloc | apply pw_below_drewN | apply below_drew1 | refine below_set ?_ (Nat.le_refl _))⟩
set_option maxHeartbeats 4000000 in
set_option maxRecDepth 100000 in
theorem six_is (k : Nat) (a0 s1 s2 : ByteArray) (ok is sh : Bool) (a b : List Int) (w : World) (hLD : Laid w) (hc : strings_Cut.f a0 (⟨#[58, 58]⟩ : ByteArray) = some (s1, s2, sh)) (hx : addr_list.f k s1 = some (a, ok)) (hy : addr_list.f k s2 = some (b, is)) (h1 : ok = true) (h2 : is = false) :
    Calls Tryd.prog 31 #[.string a0] w fun e w' => e = .returned (.tuple #[.agg #[.bool false, .int .u64 0, .int .u64 0], .bool false]) ∧ Below w.heap.size w w' := by
  have huA_ := Tryd.underlying24
  have huG_ := Tryd.underlying52
  have HLD := Aside0.mk hLD
  have HC := Aside0.mk hc
  have HX := Aside0.mk hx
  have HY := Aside0.mk hy
  clear hc hx hy hLD
  subst h1 h2
  go_enter Tryd.func31, Tryd.ntmps31
  go_wp2_with fail
  refine (strings_Cut.calls a0 _ s1 s2 _ _ (HLD.out.below (by repeat (first | exact Below.refl _ _ | apply below_drew | apply below_alloc | apply pw_below_drewN))) HC.out).mono ?_
  rintro e w1 ⟨rfl, ⟨n, rfl⟩⟩
  go_wp2_with fail
  refine (addr_list.calls k s1 a _ _ (HLD.out.below (by repeat (first | exact Below.refl _ _ | apply below_drew | apply below_alloc | apply pw_below_drewN))) HX.out).mono ?_
  rintro e w2 ⟨va, rfl, ha, hb2⟩
  obtain ⟨Aa, ca, rfl⟩ := Kd.R_slice ha
  have hw2 : Below w.heap.size w w2 := Below.trans (by repeat (first | exact Below.refl _ _ | apply below_drew | apply below_alloc | apply pw_below_drewN)) (below_mono_ hb2 (by simp))
  have hr2 : w2.heap[w.heap.size]? = some (.cells #[.bool false, .int .u64 0, .int .u64 0] 24 (0, 0)) := (hb2.block _ (by simp)).trans (blk_new_drewN _ _ _)
  have HA := Aside0.mk ha
  have HW2 := Aside0.mk hw2
  have HR2 := Aside0.mk hr2
  clear ha hw2 hr2 hb2
  go_wp2_with fail
  refine (addr_list.calls k s2 b _ _ (HLD.out.below HW2.out) HY.out).mono ?_
  rintro e w3 ⟨vb, rfl, hb, hb3⟩
  obtain ⟨Ab, cb, rfl⟩ := Kd.R_slice hb
  have hw3 : Below w.heap.size w w3 := HW2.out.trans (below_mono_ hb3 HW2.out.size)
  have hr3 : w3.heap[w.heap.size]? = some (.cells #[.bool false, .int .u64 0, .int .u64 0] 24 (0, 0)) := (hb3.block _ (blk_lt HR2.out)).trans HR2.out
  have ha3 := Kd.R_below HA.out hb3
  have HA3 := Aside0.mk ha3
  have HB3 := Aside0.mk hb
  have HW3 := Aside0.mk hw3
  have HR3 := Aside0.mk hr3
  clear ha3 hb hw3 hr3 hb3 HA HW2 HR2
  have hc0 : w3.cell? ⟨w.heap.size, 0, none⟩ = some (.bool false) := (blk_cell HR3.out 0).trans rfl
  have hc1 : w3.cell? ⟨w.heap.size, 1, none⟩ = some (.int .u64 0) := (blk_cell HR3.out 1).trans rfl
  have hc2 : w3.cell? ⟨w.heap.size, 2, none⟩ = some (.int .u64 0) := (blk_cell HR3.out 2).trans rfl
  have hf0 := blk_frozen HR3.out 0
  have hf1 := blk_frozen HR3.out 1
  have hf2 := blk_frozen HR3.out 2
  have hnb : w.heap.size < w3.heap.size := blk_lt HR3.out
  go_wp2_with fail
  refine bodyPost_ret (results_ct rfl _ _ w.heap.size 24 #[.bool false, .int .u64 0, .int .u64 0] (0, 0) _ rfl (by (with_reducible repeat (first | refine blk_drewN ?_ _ | refine blk_drew ?_ | refine blk_alloc ?_ _)); refine blk_put (cs := #[.bool false, .int .u64 0, .int .u64 0]) ?_ 2 _ rfl; refine blk_put (cs := #[.bool false, .int .u64 0, .int .u64 0]) ?_ 1 _ rfl; refine blk_put (cs := #[.bool false, .int .u64 0, .int .u64 0]) ?_ 0 _ rfl; exact HR3.out) Tryd.underlying24 rfl (by kernel_rfl)) rfl ?_
  exact ⟨rfl, by repeat (first | exact HW3.out | apply below_alloc | apply pw_below_drewN | apply below_drew1 | refine below_set ?_ (Nat.le_refl _))⟩
set_option maxHeartbeats 4000000 in
set_option maxRecDepth 100000 in
theorem six_sum (k : Nat) (a0 s1 s2 : ByteArray) (ok is sh : Bool) (a b : List Int) (w : World) (hLD : Laid w) (hc : strings_Cut.f a0 (⟨#[58, 58]⟩ : ByteArray) = some (s1, s2, sh)) (hx : addr_list.f k s1 = some (a, ok)) (hy : addr_list.f k s2 = some (b, is)) (h1 : ok = true) (h2 : is = true) (h3 : sh = true) (h4 : 7 < wrap64 ((a.length : Int) + b.length)) :
    Calls Tryd.prog 31 #[.string a0] w fun e w' => e = .returned (.tuple #[.agg #[.bool false, .int .u64 0, .int .u64 0], .bool false]) ∧ Below w.heap.size w w' := by
  have huA_ := Tryd.underlying24
  have huG_ := Tryd.underlying52
  have HLD := Aside0.mk hLD
  have HC := Aside0.mk hc
  have HX := Aside0.mk hx
  have HY := Aside0.mk hy
  clear hc hx hy hLD
  subst h1 h2 h3
  have h4b : decide (7 < wrap64 ((a.length : Int) + b.length)) = true := decide_eq_true h4
  clear h4
  go_enter Tryd.func31, Tryd.ntmps31
  go_wp2_with fail
  refine (strings_Cut.calls a0 _ s1 s2 _ _ (HLD.out.below (by repeat (first | exact Below.refl _ _ | apply below_drew | apply below_alloc | apply pw_below_drewN))) HC.out).mono ?_
  rintro e w1 ⟨rfl, ⟨n, rfl⟩⟩
  go_wp2_with fail
  refine (addr_list.calls k s1 a _ _ (HLD.out.below (by repeat (first | exact Below.refl _ _ | apply below_drew | apply below_alloc | apply pw_below_drewN))) HX.out).mono ?_
  rintro e w2 ⟨va, rfl, ha, hb2⟩
  obtain ⟨Aa, ca, rfl⟩ := Kd.R_slice ha
  have hw2 : Below w.heap.size w w2 := Below.trans (by repeat (first | exact Below.refl _ _ | apply below_drew | apply below_alloc | apply pw_below_drewN)) (below_mono_ hb2 (by simp))
  have hr2 : w2.heap[w.heap.size]? = some (.cells #[.bool false, .int .u64 0, .int .u64 0] 24 (0, 0)) := (hb2.block _ (by simp)).trans (blk_new_drewN _ _ _)
  have HA := Aside0.mk ha
  have HW2 := Aside0.mk hw2
  have HR2 := Aside0.mk hr2
  clear ha hw2 hr2 hb2
  go_wp2_with fail
  refine (addr_list.calls k s2 b _ _ (HLD.out.below HW2.out) HY.out).mono ?_
  rintro e w3 ⟨vb, rfl, hb, hb3⟩
  obtain ⟨Ab, cb, rfl⟩ := Kd.R_slice hb
  have hw3 : Below w.heap.size w w3 := HW2.out.trans (below_mono_ hb3 HW2.out.size)
  have hr3 : w3.heap[w.heap.size]? = some (.cells #[.bool false, .int .u64 0, .int .u64 0] 24 (0, 0)) := (hb3.block _ (blk_lt HR2.out)).trans HR2.out
  have ha3 := Kd.R_below HA.out hb3
  have HA3 := Aside0.mk ha3
  have HB3 := Aside0.mk hb
  have HW3 := Aside0.mk hw3
  have HR3 := Aside0.mk hr3
  clear ha3 hb hw3 hr3 hb3 HA HW2 HR2
  have hc0 : w3.cell? ⟨w.heap.size, 0, none⟩ = some (.bool false) := (blk_cell HR3.out 0).trans rfl
  have hc1 : w3.cell? ⟨w.heap.size, 1, none⟩ = some (.int .u64 0) := (blk_cell HR3.out 1).trans rfl
  have hc2 : w3.cell? ⟨w.heap.size, 2, none⟩ = some (.int .u64 0) := (blk_cell HR3.out 2).trans rfl
  have hf0 := blk_frozen HR3.out 0
  have hf1 := blk_frozen HR3.out 1
  have hf2 := blk_frozen HR3.out 2
  have hnb : w.heap.size < w3.heap.size := blk_lt HR3.out
  go_wp2_with fail
  refine bodyPost_ret (results_ct rfl _ _ w.heap.size 24 #[.bool false, .int .u64 0, .int .u64 0] (0, 0) _ rfl (by (with_reducible repeat (first | refine blk_drewN ?_ _ | refine blk_drew ?_ | refine blk_alloc ?_ _)); refine blk_put (cs := #[.bool false, .int .u64 0, .int .u64 0]) ?_ 2 _ rfl; refine blk_put (cs := #[.bool false, .int .u64 0, .int .u64 0]) ?_ 1 _ rfl; refine blk_put (cs := #[.bool false, .int .u64 0, .int .u64 0]) ?_ 0 _ rfl; exact HR3.out) Tryd.underlying24 rfl (by kernel_rfl)) rfl ?_
  exact ⟨rfl, by repeat (first | exact HW3.out | apply below_alloc | apply pw_below_drewN | apply below_drew1 | refine below_set ?_ (Nat.le_refl _))⟩
set_option maxHeartbeats 4000000 in
set_option maxRecDepth 100000 in
theorem six_len (k : Nat) (a0 s1 s2 : ByteArray) (ok is sh : Bool) (a b : List Int) (w : World) (hLD : Laid w) (hc : strings_Cut.f a0 (⟨#[58, 58]⟩ : ByteArray) = some (s1, s2, sh)) (hx : addr_list.f k s1 = some (a, ok)) (hy : addr_list.f k s2 = some (b, is)) (h1 : ok = true) (h2 : is = true) (h3 : sh = false) (h4 : ¬ (a.length : Int) = 8) :
    Calls Tryd.prog 31 #[.string a0] w fun e w' => e = .returned (.tuple #[.agg #[.bool false, .int .u64 0, .int .u64 0], .bool false]) ∧ Below w.heap.size w w' := by
  have huA_ := Tryd.underlying24
  have huG_ := Tryd.underlying52
  have HLD := Aside0.mk hLD
  have HC := Aside0.mk hc
  have HX := Aside0.mk hx
  have HY := Aside0.mk hy
  clear hc hx hy hLD
  subst h1 h2 h3
  have h4b : ((a.length : Int) != 8) = true := bne_iff_ne.mpr h4
  clear h4
  go_enter Tryd.func31, Tryd.ntmps31
  go_wp2_with fail
  refine (strings_Cut.calls a0 _ s1 s2 _ _ (HLD.out.below (by repeat (first | exact Below.refl _ _ | apply below_drew | apply below_alloc | apply pw_below_drewN))) HC.out).mono ?_
  rintro e w1 ⟨rfl, ⟨n, rfl⟩⟩
  go_wp2_with fail
  refine (addr_list.calls k s1 a _ _ (HLD.out.below (by repeat (first | exact Below.refl _ _ | apply below_drew | apply below_alloc | apply pw_below_drewN))) HX.out).mono ?_
  rintro e w2 ⟨va, rfl, ha, hb2⟩
  obtain ⟨Aa, ca, rfl⟩ := Kd.R_slice ha
  have hw2 : Below w.heap.size w w2 := Below.trans (by repeat (first | exact Below.refl _ _ | apply below_drew | apply below_alloc | apply pw_below_drewN)) (below_mono_ hb2 (by simp))
  have hr2 : w2.heap[w.heap.size]? = some (.cells #[.bool false, .int .u64 0, .int .u64 0] 24 (0, 0)) := (hb2.block _ (by simp)).trans (blk_new_drewN _ _ _)
  have HA := Aside0.mk ha
  have HW2 := Aside0.mk hw2
  have HR2 := Aside0.mk hr2
  clear ha hw2 hr2 hb2
  go_wp2_with fail
  refine (addr_list.calls k s2 b _ _ (HLD.out.below HW2.out) HY.out).mono ?_
  rintro e w3 ⟨vb, rfl, hb, hb3⟩
  obtain ⟨Ab, cb, rfl⟩ := Kd.R_slice hb
  have hw3 : Below w.heap.size w w3 := HW2.out.trans (below_mono_ hb3 HW2.out.size)
  have hr3 : w3.heap[w.heap.size]? = some (.cells #[.bool false, .int .u64 0, .int .u64 0] 24 (0, 0)) := (hb3.block _ (blk_lt HR2.out)).trans HR2.out
  have ha3 := Kd.R_below HA.out hb3
  have HA3 := Aside0.mk ha3
  have HB3 := Aside0.mk hb
  have HW3 := Aside0.mk hw3
  have HR3 := Aside0.mk hr3
  clear ha3 hb hw3 hr3 hb3 HA HW2 HR2
  have hc0 : w3.cell? ⟨w.heap.size, 0, none⟩ = some (.bool false) := (blk_cell HR3.out 0).trans rfl
  have hc1 : w3.cell? ⟨w.heap.size, 1, none⟩ = some (.int .u64 0) := (blk_cell HR3.out 1).trans rfl
  have hc2 : w3.cell? ⟨w.heap.size, 2, none⟩ = some (.int .u64 0) := (blk_cell HR3.out 2).trans rfl
  have hf0 := blk_frozen HR3.out 0
  have hf1 := blk_frozen HR3.out 1
  have hf2 := blk_frozen HR3.out 2
  have hnb : w.heap.size < w3.heap.size := blk_lt HR3.out
  go_wp2_with fail
  refine bodyPost_ret (results_ct rfl _ _ w.heap.size 24 #[.bool false, .int .u64 0, .int .u64 0] (0, 0) _ rfl (by (with_reducible repeat (first | refine blk_drewN ?_ _ | refine blk_drew ?_ | refine blk_alloc ?_ _)); refine blk_put (cs := #[.bool false, .int .u64 0, .int .u64 0]) ?_ 2 _ rfl; refine blk_put (cs := #[.bool false, .int .u64 0, .int .u64 0]) ?_ 1 _ rfl; refine blk_put (cs := #[.bool false, .int .u64 0, .int .u64 0]) ?_ 0 _ rfl; exact HR3.out) Tryd.underlying24 rfl (by kernel_rfl)) rfl ?_
  exact ⟨rfl, by repeat (first | exact HW3.out | apply below_alloc | apply pw_below_drewN | apply below_drew1 | refine below_set ?_ (Nat.le_refl _))⟩
set_option maxHeartbeats 4000000 in
set_option maxRecDepth 100000 in
theorem six_short0 (k : Nat) (a0 s1 s2 : ByteArray) (ok is sh : Bool) (a b : List Int) (w : World) (hLD : Laid w) (hc : strings_Cut.f a0 (⟨#[58, 58]⟩ : ByteArray) = some (s1, s2, sh)) (hx : addr_list.f k s1 = some (a, ok)) (hy : addr_list.f k s2 = some (b, is)) (h1 : ok = true) (h2 : is = true) (h3 : sh = true) (h4 : a.length + b.length ≤ 7) (h5 : b.length = 0) :
    Calls Tryd.prog 31 #[.string a0] w fun e w' => e = .returned (.tuple #[.agg #[.bool true, .int .u64 (num4 (rd (six8 a b) 0) (rd (six8 a b) 1) (rd (six8 a b) 2) (rd (six8 a b) 3)), .int .u64 (num4 (rd (six8 a b) 4) (rd (six8 a b) 5) (rd (six8 a b) 6) (rd (six8 a b) 7))], .bool true]) ∧ Below w.heap.size w w' := by
  have huA_ := Tryd.underlying24
  have huG_ := Tryd.underlying52
  have HLD := Aside0.mk hLD
  have HC := Aside0.mk hc
  have HX := Aside0.mk hx
  have HY := Aside0.mk hy
  clear hc hx hy hLD
  subst h1 h2 h3
  have h4b : decide (7 < wrap64 ((a.length : Int) + b.length)) = false := decide_eq_false (by unfold wrap64; omega)
  have H4 := Aside0.mk h4
  clear h4
  go_enter Tryd.func31, Tryd.ntmps31
  go_wp2_with fail
  refine (strings_Cut.calls a0 _ s1 s2 _ _ (HLD.out.below (by repeat (first | exact Below.refl _ _ | apply below_drew | apply below_alloc | apply pw_below_drewN))) HC.out).mono ?_
  rintro e w1 ⟨rfl, ⟨n, rfl⟩⟩
  go_wp2_with fail
  refine (addr_list.calls k s1 a _ _ (HLD.out.below (by repeat (first | exact Below.refl _ _ | apply below_drew | apply below_alloc | apply pw_below_drewN))) HX.out).mono ?_
  rintro e w2 ⟨va, rfl, ha, hb2⟩
  obtain ⟨Aa, ca, rfl⟩ := Kd.R_slice ha
  have hw2 : Below w.heap.size w w2 := Below.trans (by repeat (first | exact Below.refl _ _ | apply below_drew | apply below_alloc | apply pw_below_drewN)) (below_mono_ hb2 (by simp))
  have hr2 : w2.heap[w.heap.size]? = some (.cells #[.bool false, .int .u64 0, .int .u64 0] 24 (0, 0)) := (hb2.block _ (by simp)).trans (blk_new_drewN _ _ _)
  have HA := Aside0.mk ha
  have HW2 := Aside0.mk hw2
  have HR2 := Aside0.mk hr2
  clear ha hw2 hr2 hb2
  go_wp2_with fail
  refine (addr_list.calls k s2 b _ _ (HLD.out.below HW2.out) HY.out).mono ?_
  rintro e w3 ⟨vb, rfl, hb, hb3⟩
  obtain ⟨Ab, cb, rfl⟩ := Kd.R_slice hb
  have hw3 : Below w.heap.size w w3 := HW2.out.trans (below_mono_ hb3 HW2.out.size)
  have hr3 : w3.heap[w.heap.size]? = some (.cells #[.bool false, .int .u64 0, .int .u64 0] 24 (0, 0)) := (hb3.block _ (blk_lt HR2.out)).trans HR2.out
  have ha3 := Kd.R_below HA.out hb3
  have HA3 := Aside0.mk ha3
  have HB3 := Aside0.mk hb
  have HW3 := Aside0.mk hw3
  have HR3 := Aside0.mk hr3
  clear ha3 hb hw3 hr3 hb3 HA HW2 HR2
  have hc0 : w3.cell? ⟨w.heap.size, 0, none⟩ = some (.bool false) := (blk_cell HR3.out 0).trans rfl
  have hc1 : w3.cell? ⟨w.heap.size, 1, none⟩ = some (.int .u64 0) := (blk_cell HR3.out 1).trans rfl
  have hc2 : w3.cell? ⟨w.heap.size, 2, none⟩ = some (.int .u64 0) := (blk_cell HR3.out 2).trans rfl
  have hf0 := blk_frozen HR3.out 0
  have hf1 := blk_frozen HR3.out 1
  have hf2 := blk_frozen HR3.out 2
  have hnb : w.heap.size < w3.heap.size := blk_lt HR3.out
  obtain ⟨lo, hlo⟩ : ∃ lo : Nat, lo + b.length = 8 := ⟨8 - b.length, by have := H4.out; omega⟩
  have HLO := Aside0.mk hlo
  have hw0 : wrap64 (8 - (b.length : Int)) = (lo : Int) := by unfold wrap64; omega
  have hlo8 : lo ≤ 8 := by omega
  have hloI : (lo : Int) ≤ 8 := by omega
  have hlo0 : (0 : Int) ≤ (lo : Int) := by omega
  have har8 : Tryd.prog.arrayLen 52 = 8 := by kernel_rfl
  have har : (lo : Int) ≤ ((Tryd.prog.arrayLen 52 : Nat) : Int) := by rw [har8]; omega
  clear hlo
  have HBL := Aside0.mk h5
  clear h5
  obtain rfl : lo = 8 := by have := HLO.out; have := HBL.out; omega
  have hla : a.length ≤ 8 := by have := H4.out; omega
  obtain ⟨X1, hX1⟩ : ∃ X1 : List Value, X1 = nums .u16 a := ⟨_, rfl⟩
  have HX1 := Aside0.mk hX1
  obtain ⟨X2, hX2⟩ : ∃ X2 : List Value, X2 = nums .u16 b := ⟨_, rfl⟩
  have HX2 := Aside0.mk hX2
  have hl1 : X1.length = a.length := by rw [hX1, nums_length]
  have hl2 : X2.length = b.length := by rw [hX2, nums_length]
  have HL1 := Aside0.mk hl1
  have HL2 := Aside0.mk hl2
  clear hX1 hX2 hl1 hl2
  have hca := Kd.C_alloc (Kd.R_reads' HA3.out).2.2 (.cells zeros8.toArray 52)
  have HCA := Aside0.mk hca
  clear hca
  go_wp2_with (first
    | ((with_reducible refine gate_builtin (b := .copy) (xs := #[.tmp 55, .tmp 56]) rfl ?_); (refine wpList_copy_splice rfl (.tmp 55) (.tmp 56) 57 57 rfl 50 Tryd.underlying57 (by kernel_rfl) _ _ 8 8 a.length ca (by rfl) (by rfl) w3.heap.size 0 zeros8 52 (blk_new _ _) X1 (by rw [HL1.out]; simp [Nat.min_def]; omega) (fun hp => (by rw [HX1.out]; exact ⟨rfl, cells_of_C HCA.out (by rw [← HL1.out]; exact hp)⟩)) (by rw [HL1.out]; show 0 + a.length ≤ 8; omega) (by rw [HX1.out]; exact nums_one _ _) w3.heap.size w3 (below_alloc (Below.refl _ _) _) (Nat.le_refl _) ?_); intro w4 HG4 hB4; have HB4 := Aside0.mk hB4; have HCB := Aside0.mk (Kd.C_below (Kd.R_reads' HB3.out).2.2 hB4); clear hB4)
    | ((with_reducible refine gate_builtin (b := .copy) (xs := #[.tmp 61, .tmp 62]) rfl ?_); (refine wpList_copy_splice rfl (.tmp 61) (.tmp 62) 57 57 rfl 50 Tryd.underlying57 (by kernel_rfl) _ _ 0 0 b.length cb (by rfl) (by rfl) w3.heap.size 8 (splice zeros8 0 X1) 52 HG4 X2 (by rw [HL2.out, HBL.out]; rfl) (fun hp => absurd hp (by rw [HL2.out]; have := HBL.out; omega)) (by rw [HL2.out, length_splice _ _ _ (by rw [HL1.out]; show 0 + a.length ≤ 8; omega)]; have := HLO.out; show 8 + b.length ≤ 8; omega) (by rw [HX2.out]; exact nums_one _ _) w3.heap.size w3 HB4.out (Nat.le_refl _) ?_); intro w5 HG5 hB5; have HB5 := Aside0.mk hB5; clear hB5)
    | ((with_reducible refine gate_ (.load 52 (.tmp 11)) rfl ?_); (refine wpList_load_row rfl 52 (.tmp 11) rfl w3.heap.size (by rfl) 52 #[.int .u16 (rd (six8 a b) 0), .int .u16 (rd (six8 a b) 1), .int .u16 (rd (six8 a b) 2), .int .u16 (rd (six8 a b) 3), .int .u16 (rd (six8 a b) 4), .int .u16 (rd (six8 a b) 5), .int .u16 (rd (six8 a b) 6), .int .u16 (rd (six8 a b) 7)] (0, 0) _ (six_row HG5 HX1.out HX2.out HLO.out (by have := H4.out; omega)) huG_ rfl (by kernel_rfl) ?_)))
  refine (groups_addr.calls (rd (six8 a b) 0) (rd (six8 a b) 1) (rd (six8 a b) 2) (rd (six8 a b) 3) (rd (six8 a b) 4) (rd (six8 a b) 5) (rd (six8 a b) 6) (rd (six8 a b) 7) _).mono ?_
  rintro e w6 ⟨rfl, hb6⟩
  have hr5 : w5.heap[w.heap.size]? = some (.cells #[.bool false, .int .u64 0, .int .u64 0] 24 (0, 0)) := (HB5.out.block _ hnb).trans HR3.out
  have hr6 : w6.heap[w.heap.size]? = some (.cells #[.bool false, .int .u64 0, .int .u64 0] 24 (0, 0)) := (hb6.block _ (blk_lt hr5)).trans hr5
  have hw5 : Below w.heap.size w w5 := HW3.out.trans (below_mono_ HB5.out (Nat.le_of_lt hnb))
  have hw6 : Below w.heap.size w w6 := hw5.trans (below_mono_ hb6 hw5.size)
  have HR6 := Aside0.mk hr6
  have HW6 := Aside0.mk hw6
  clear hr5 hw5 hb6 hr6 hw6 hc0 hc1 hc2 hf0 hf1 hf2
  have hc0 : w6.cell? ⟨w.heap.size, 0, none⟩ = some (.bool false) := (blk_cell HR6.out 0).trans rfl
  have hc1 : w6.cell? ⟨w.heap.size, 1, none⟩ = some (.int .u64 0) := (blk_cell HR6.out 1).trans rfl
  have hc2 : w6.cell? ⟨w.heap.size, 2, none⟩ = some (.int .u64 0) := (blk_cell HR6.out 2).trans rfl
  have hf0 := blk_frozen HR6.out 0
  have hf1 := blk_frozen HR6.out 1
  have hf2 := blk_frozen HR6.out 2
  obtain ⟨hi, hhi⟩ : ∃ x : Int, num4 (rd (six8 a b) 0) (rd (six8 a b) 1) (rd (six8 a b) 2) (rd (six8 a b) 3) = x := ⟨_, rfl⟩
  obtain ⟨lo_, hlo_⟩ : ∃ x : Int, num4 (rd (six8 a b) 4) (rd (six8 a b) 5) (rd (six8 a b) 6) (rd (six8 a b) 7) = x := ⟨_, rfl⟩
  rw [hhi, hlo_]
  have HHI := Aside0.mk hhi
  have HLO_ := Aside0.mk hlo_
  clear hhi hlo_
  go_wp2_with fail
  refine bodyPost_ret (results_ct rfl _ _ w.heap.size 24 #[.bool true, .int .u64 hi, .int .u64 lo_] (0, 0) _ rfl (by (with_reducible repeat (first | refine blk_drewN ?_ _ | refine blk_drew ?_ | refine blk_alloc ?_ _)); refine blk_put (cs := #[.bool true, .int .u64 hi, .int .u64 0]) ?_ 2 _ rfl; refine blk_put (cs := #[.bool true, .int .u64 0, .int .u64 0]) ?_ 1 _ rfl; refine blk_put (cs := #[.bool false, .int .u64 0, .int .u64 0]) ?_ 0 _ rfl; exact HR6.out) Tryd.underlying24 rfl (by kernel_rfl)) rfl ?_
  exact ⟨by rw [HHI.out, HLO_.out]; rfl, by repeat (first | exact HW6.out | apply below_alloc | apply pw_below_drewN | apply below_drew1 | refine below_set ?_ (Nat.le_refl _))⟩
set_option maxHeartbeats 4000000 in
set_option maxRecDepth 100000 in
theorem six_short1 (k : Nat) (a0 s1 s2 : ByteArray) (ok is sh : Bool) (a b : List Int) (w : World) (hLD : Laid w) (hc : strings_Cut.f a0 (⟨#[58, 58]⟩ : ByteArray) = some (s1, s2, sh)) (hx : addr_list.f k s1 = some (a, ok)) (hy : addr_list.f k s2 = some (b, is)) (h1 : ok = true) (h2 : is = true) (h3 : sh = true) (h4 : a.length + b.length ≤ 7) (h5 : 0 < b.length) :
    Calls Tryd.prog 31 #[.string a0] w fun e w' => e = .returned (.tuple #[.agg #[.bool true, .int .u64 (num4 (rd (six8 a b) 0) (rd (six8 a b) 1) (rd (six8 a b) 2) (rd (six8 a b) 3)), .int .u64 (num4 (rd (six8 a b) 4) (rd (six8 a b) 5) (rd (six8 a b) 6) (rd (six8 a b) 7))], .bool true]) ∧ Below w.heap.size w w' := by
  have huA_ := Tryd.underlying24
  have huG_ := Tryd.underlying52
  have HLD := Aside0.mk hLD
  have HC := Aside0.mk hc
  have HX := Aside0.mk hx
  have HY := Aside0.mk hy
  clear hc hx hy hLD
  subst h1 h2 h3
  have h4b : decide (7 < wrap64 ((a.length : Int) + b.length)) = false := decide_eq_false (by unfold wrap64; omega)
  have H4 := Aside0.mk h4
  clear h4
  go_enter Tryd.func31, Tryd.ntmps31
  go_wp2_with fail
  refine (strings_Cut.calls a0 _ s1 s2 _ _ (HLD.out.below (by repeat (first | exact Below.refl _ _ | apply below_drew | apply below_alloc | apply pw_below_drewN))) HC.out).mono ?_
  rintro e w1 ⟨rfl, ⟨n, rfl⟩⟩
  go_wp2_with fail
  refine (addr_list.calls k s1 a _ _ (HLD.out.below (by repeat (first | exact Below.refl _ _ | apply below_drew | apply below_alloc | apply pw_below_drewN))) HX.out).mono ?_
  rintro e w2 ⟨va, rfl, ha, hb2⟩
  obtain ⟨Aa, ca, rfl⟩ := Kd.R_slice ha
  have hw2 : Below w.heap.size w w2 := Below.trans (by repeat (first | exact Below.refl _ _ | apply below_drew | apply below_alloc | apply pw_below_drewN)) (below_mono_ hb2 (by simp))
  have hr2 : w2.heap[w.heap.size]? = some (.cells #[.bool false, .int .u64 0, .int .u64 0] 24 (0, 0)) := (hb2.block _ (by simp)).trans (blk_new_drewN _ _ _)
  have HA := Aside0.mk ha
  have HW2 := Aside0.mk hw2
  have HR2 := Aside0.mk hr2
  clear ha hw2 hr2 hb2
  go_wp2_with fail
  refine (addr_list.calls k s2 b _ _ (HLD.out.below HW2.out) HY.out).mono ?_
  rintro e w3 ⟨vb, rfl, hb, hb3⟩
  obtain ⟨Ab, cb, rfl⟩ := Kd.R_slice hb
  have hw3 : Below w.heap.size w w3 := HW2.out.trans (below_mono_ hb3 HW2.out.size)
  have hr3 : w3.heap[w.heap.size]? = some (.cells #[.bool false, .int .u64 0, .int .u64 0] 24 (0, 0)) := (hb3.block _ (blk_lt HR2.out)).trans HR2.out
  have ha3 := Kd.R_below HA.out hb3
  have HA3 := Aside0.mk ha3
  have HB3 := Aside0.mk hb
  have HW3 := Aside0.mk hw3
  have HR3 := Aside0.mk hr3
  clear ha3 hb hw3 hr3 hb3 HA HW2 HR2
  have hc0 : w3.cell? ⟨w.heap.size, 0, none⟩ = some (.bool false) := (blk_cell HR3.out 0).trans rfl
  have hc1 : w3.cell? ⟨w.heap.size, 1, none⟩ = some (.int .u64 0) := (blk_cell HR3.out 1).trans rfl
  have hc2 : w3.cell? ⟨w.heap.size, 2, none⟩ = some (.int .u64 0) := (blk_cell HR3.out 2).trans rfl
  have hf0 := blk_frozen HR3.out 0
  have hf1 := blk_frozen HR3.out 1
  have hf2 := blk_frozen HR3.out 2
  have hnb : w.heap.size < w3.heap.size := blk_lt HR3.out
  obtain ⟨lo, hlo⟩ : ∃ lo : Nat, lo + b.length = 8 := ⟨8 - b.length, by have := H4.out; omega⟩
  have HLO := Aside0.mk hlo
  have hw0 : wrap64 (8 - (b.length : Int)) = (lo : Int) := by unfold wrap64; omega
  have hlo8 : lo ≤ 8 := by omega
  have hloI : (lo : Int) ≤ 8 := by omega
  have hlo0 : (0 : Int) ≤ (lo : Int) := by omega
  have har8 : Tryd.prog.arrayLen 52 = 8 := by kernel_rfl
  have har : (lo : Int) ≤ ((Tryd.prog.arrayLen 52 : Nat) : Int) := by rw [har8]; omega
  clear hlo
  have hne : ¬ (8 = lo) := by have := HLO.out; omega
  have hla : a.length ≤ 8 := by have := H4.out; omega
  obtain ⟨X1, hX1⟩ : ∃ X1 : List Value, X1 = nums .u16 a := ⟨_, rfl⟩
  have HX1 := Aside0.mk hX1
  obtain ⟨X2, hX2⟩ : ∃ X2 : List Value, X2 = nums .u16 b := ⟨_, rfl⟩
  have HX2 := Aside0.mk hX2
  have hl1 : X1.length = a.length := by rw [hX1, nums_length]
  have hl2 : X2.length = b.length := by rw [hX2, nums_length]
  have HL1 := Aside0.mk hl1
  have HL2 := Aside0.mk hl2
  clear hX1 hX2 hl1 hl2
  have hca := Kd.C_alloc (Kd.R_reads' HA3.out).2.2 (.cells zeros8.toArray 52)
  have HCA := Aside0.mk hca
  clear hca
  go_wp2_with (first
    | ((with_reducible refine gate_builtin (b := .copy) (xs := #[.tmp 55, .tmp 56]) rfl ?_); (refine wpList_copy_splice rfl (.tmp 55) (.tmp 56) 57 57 rfl 50 Tryd.underlying57 (by kernel_rfl) _ _ 8 8 a.length ca (by rfl) (by rfl) w3.heap.size 0 zeros8 52 (blk_new _ _) X1 (by rw [HL1.out]; simp [Nat.min_def]; omega) (fun hp => (by rw [HX1.out]; exact ⟨rfl, cells_of_C HCA.out (by rw [← HL1.out]; exact hp)⟩)) (by rw [HL1.out]; show 0 + a.length ≤ 8; omega) (by rw [HX1.out]; exact nums_one _ _) w3.heap.size w3 (below_alloc (Below.refl _ _) _) (Nat.le_refl _) ?_); intro w4 HG4 hB4; have HB4 := Aside0.mk hB4; have HCB := Aside0.mk (Kd.C_below (Kd.R_reads' HB3.out).2.2 hB4); clear hB4)
    | ((with_reducible refine gate_builtin (b := .copy) (xs := #[.tmp 61, .tmp 62]) rfl ?_); (refine wpList_copy_splice rfl (.tmp 61) (.tmp 62) 57 57 rfl 50 Tryd.underlying57 (by kernel_rfl) _ _ (8 - lo) (8 - lo) b.length cb (by rfl) (by rfl) w3.heap.size lo (splice zeros8 0 X1) 52 HG4 X2 (by rw [HL2.out]; have := HLO.out; simp [Nat.min_def]; omega) (fun hp => (by rw [HX2.out]; exact ⟨rfl, cells_of_C HCB.out (by rw [← HL2.out]; exact hp)⟩)) (by rw [HL2.out, length_splice _ _ _ (by rw [HL1.out]; show 0 + a.length ≤ 8; omega)]; have := HLO.out; show lo + b.length ≤ 8; omega) (by rw [HX2.out]; exact nums_one _ _) w3.heap.size w3 HB4.out (Nat.le_refl _) ?_); intro w5 HG5 hB5; have HB5 := Aside0.mk hB5; clear hB5)
    | ((with_reducible refine gate_ (.load 52 (.tmp 11)) rfl ?_); (refine wpList_load_row rfl 52 (.tmp 11) rfl w3.heap.size (by rfl) 52 #[.int .u16 (rd (six8 a b) 0), .int .u16 (rd (six8 a b) 1), .int .u16 (rd (six8 a b) 2), .int .u16 (rd (six8 a b) 3), .int .u16 (rd (six8 a b) 4), .int .u16 (rd (six8 a b) 5), .int .u16 (rd (six8 a b) 6), .int .u16 (rd (six8 a b) 7)] (0, 0) _ (six_row HG5 HX1.out HX2.out HLO.out (by have := H4.out; omega)) huG_ rfl (by kernel_rfl) ?_)))
  refine (groups_addr.calls (rd (six8 a b) 0) (rd (six8 a b) 1) (rd (six8 a b) 2) (rd (six8 a b) 3) (rd (six8 a b) 4) (rd (six8 a b) 5) (rd (six8 a b) 6) (rd (six8 a b) 7) _).mono ?_
  rintro e w6 ⟨rfl, hb6⟩
  have hr5 : w5.heap[w.heap.size]? = some (.cells #[.bool false, .int .u64 0, .int .u64 0] 24 (0, 0)) := (HB5.out.block _ hnb).trans HR3.out
  have hr6 : w6.heap[w.heap.size]? = some (.cells #[.bool false, .int .u64 0, .int .u64 0] 24 (0, 0)) := (hb6.block _ (blk_lt hr5)).trans hr5
  have hw5 : Below w.heap.size w w5 := HW3.out.trans (below_mono_ HB5.out (Nat.le_of_lt hnb))
  have hw6 : Below w.heap.size w w6 := hw5.trans (below_mono_ hb6 hw5.size)
  have HR6 := Aside0.mk hr6
  have HW6 := Aside0.mk hw6
  clear hr5 hw5 hb6 hr6 hw6 hc0 hc1 hc2 hf0 hf1 hf2
  have hc0 : w6.cell? ⟨w.heap.size, 0, none⟩ = some (.bool false) := (blk_cell HR6.out 0).trans rfl
  have hc1 : w6.cell? ⟨w.heap.size, 1, none⟩ = some (.int .u64 0) := (blk_cell HR6.out 1).trans rfl
  have hc2 : w6.cell? ⟨w.heap.size, 2, none⟩ = some (.int .u64 0) := (blk_cell HR6.out 2).trans rfl
  have hf0 := blk_frozen HR6.out 0
  have hf1 := blk_frozen HR6.out 1
  have hf2 := blk_frozen HR6.out 2
  obtain ⟨hi, hhi⟩ : ∃ x : Int, num4 (rd (six8 a b) 0) (rd (six8 a b) 1) (rd (six8 a b) 2) (rd (six8 a b) 3) = x := ⟨_, rfl⟩
  obtain ⟨lo_, hlo_⟩ : ∃ x : Int, num4 (rd (six8 a b) 4) (rd (six8 a b) 5) (rd (six8 a b) 6) (rd (six8 a b) 7) = x := ⟨_, rfl⟩
  rw [hhi, hlo_]
  have HHI := Aside0.mk hhi
  have HLO_ := Aside0.mk hlo_
  clear hhi hlo_
  go_wp2_with fail
  refine bodyPost_ret (results_ct rfl _ _ w.heap.size 24 #[.bool true, .int .u64 hi, .int .u64 lo_] (0, 0) _ rfl (by (with_reducible repeat (first | refine blk_drewN ?_ _ | refine blk_drew ?_ | refine blk_alloc ?_ _)); refine blk_put (cs := #[.bool true, .int .u64 hi, .int .u64 0]) ?_ 2 _ rfl; refine blk_put (cs := #[.bool true, .int .u64 0, .int .u64 0]) ?_ 1 _ rfl; refine blk_put (cs := #[.bool false, .int .u64 0, .int .u64 0]) ?_ 0 _ rfl; exact HR6.out) Tryd.underlying24 rfl (by kernel_rfl)) rfl ?_
  exact ⟨by rw [HHI.out, HLO_.out]; rfl, by repeat (first | exact HW6.out | apply below_alloc | apply pw_below_drewN | apply below_drew1 | refine below_set ?_ (Nat.le_refl _))⟩
set_option maxHeartbeats 4000000 in
set_option maxRecDepth 100000 in
theorem six_full (k : Nat) (a0 s1 s2 : ByteArray) (ok is sh : Bool) (a b : List Int) (w : World) (hLD : Laid w) (hc : strings_Cut.f a0 (⟨#[58, 58]⟩ : ByteArray) = some (s1, s2, sh)) (hx : addr_list.f k s1 = some (a, ok)) (hy : addr_list.f k s2 = some (b, is)) (h1 : ok = true) (h2 : is = true) (h3 : sh = false) (h4 : a.length = 8) (h5 : b.length = 0) :
    Calls Tryd.prog 31 #[.string a0] w fun e w' => e = .returned (.tuple #[.agg #[.bool true, .int .u64 (num4 (rd (six8 a b) 0) (rd (six8 a b) 1) (rd (six8 a b) 2) (rd (six8 a b) 3)), .int .u64 (num4 (rd (six8 a b) 4) (rd (six8 a b) 5) (rd (six8 a b) 6) (rd (six8 a b) 7))], .bool true]) ∧ Below w.heap.size w w' := by
  have huA_ := Tryd.underlying24
  have huG_ := Tryd.underlying52
  have HLD := Aside0.mk hLD
  have HC := Aside0.mk hc
  have HX := Aside0.mk hx
  have HY := Aside0.mk hy
  clear hc hx hy hLD
  subst h1 h2 h3
  have h4b : ((a.length : Int) != 8) = false := by simp [h4]
  have H4 := Aside0.mk (show a.length + b.length ≤ 8 by omega)
  clear h4
  go_enter Tryd.func31, Tryd.ntmps31
  go_wp2_with fail
  refine (strings_Cut.calls a0 _ s1 s2 _ _ (HLD.out.below (by repeat (first | exact Below.refl _ _ | apply below_drew | apply below_alloc | apply pw_below_drewN))) HC.out).mono ?_
  rintro e w1 ⟨rfl, ⟨n, rfl⟩⟩
  go_wp2_with fail
  refine (addr_list.calls k s1 a _ _ (HLD.out.below (by repeat (first | exact Below.refl _ _ | apply below_drew | apply below_alloc | apply pw_below_drewN))) HX.out).mono ?_
  rintro e w2 ⟨va, rfl, ha, hb2⟩
  obtain ⟨Aa, ca, rfl⟩ := Kd.R_slice ha
  have hw2 : Below w.heap.size w w2 := Below.trans (by repeat (first | exact Below.refl _ _ | apply below_drew | apply below_alloc | apply pw_below_drewN)) (below_mono_ hb2 (by simp))
  have hr2 : w2.heap[w.heap.size]? = some (.cells #[.bool false, .int .u64 0, .int .u64 0] 24 (0, 0)) := (hb2.block _ (by simp)).trans (blk_new_drewN _ _ _)
  have HA := Aside0.mk ha
  have HW2 := Aside0.mk hw2
  have HR2 := Aside0.mk hr2
  clear ha hw2 hr2 hb2
  go_wp2_with fail
  refine (addr_list.calls k s2 b _ _ (HLD.out.below HW2.out) HY.out).mono ?_
  rintro e w3 ⟨vb, rfl, hb, hb3⟩
  obtain ⟨Ab, cb, rfl⟩ := Kd.R_slice hb
  have hw3 : Below w.heap.size w w3 := HW2.out.trans (below_mono_ hb3 HW2.out.size)
  have hr3 : w3.heap[w.heap.size]? = some (.cells #[.bool false, .int .u64 0, .int .u64 0] 24 (0, 0)) := (hb3.block _ (blk_lt HR2.out)).trans HR2.out
  have ha3 := Kd.R_below HA.out hb3
  have HA3 := Aside0.mk ha3
  have HB3 := Aside0.mk hb
  have HW3 := Aside0.mk hw3
  have HR3 := Aside0.mk hr3
  clear ha3 hb hw3 hr3 hb3 HA HW2 HR2
  have hc0 : w3.cell? ⟨w.heap.size, 0, none⟩ = some (.bool false) := (blk_cell HR3.out 0).trans rfl
  have hc1 : w3.cell? ⟨w.heap.size, 1, none⟩ = some (.int .u64 0) := (blk_cell HR3.out 1).trans rfl
  have hc2 : w3.cell? ⟨w.heap.size, 2, none⟩ = some (.int .u64 0) := (blk_cell HR3.out 2).trans rfl
  have hf0 := blk_frozen HR3.out 0
  have hf1 := blk_frozen HR3.out 1
  have hf2 := blk_frozen HR3.out 2
  have hnb : w.heap.size < w3.heap.size := blk_lt HR3.out
  obtain ⟨lo, hlo⟩ : ∃ lo : Nat, lo + b.length = 8 := ⟨8 - b.length, by have := H4.out; omega⟩
  have HLO := Aside0.mk hlo
  have hw0 : wrap64 (8 - (b.length : Int)) = (lo : Int) := by unfold wrap64; omega
  have hlo8 : lo ≤ 8 := by omega
  have hloI : (lo : Int) ≤ 8 := by omega
  have hlo0 : (0 : Int) ≤ (lo : Int) := by omega
  have har8 : Tryd.prog.arrayLen 52 = 8 := by kernel_rfl
  have har : (lo : Int) ≤ ((Tryd.prog.arrayLen 52 : Nat) : Int) := by rw [har8]; omega
  clear hlo
  have HBL := Aside0.mk h5
  clear h5
  obtain rfl : lo = 8 := by have := HLO.out; have := HBL.out; omega
  have hla : a.length ≤ 8 := by have := H4.out; omega
  obtain ⟨X1, hX1⟩ : ∃ X1 : List Value, X1 = nums .u16 a := ⟨_, rfl⟩
  have HX1 := Aside0.mk hX1
  obtain ⟨X2, hX2⟩ : ∃ X2 : List Value, X2 = nums .u16 b := ⟨_, rfl⟩
  have HX2 := Aside0.mk hX2
  have hl1 : X1.length = a.length := by rw [hX1, nums_length]
  have hl2 : X2.length = b.length := by rw [hX2, nums_length]
  have HL1 := Aside0.mk hl1
  have HL2 := Aside0.mk hl2
  clear hX1 hX2 hl1 hl2
  have hca := Kd.C_alloc (Kd.R_reads' HA3.out).2.2 (.cells zeros8.toArray 52)
  have HCA := Aside0.mk hca
  clear hca
  go_wp2_with (first
    | ((with_reducible refine gate_builtin (b := .copy) (xs := #[.tmp 55, .tmp 56]) rfl ?_); (refine wpList_copy_splice rfl (.tmp 55) (.tmp 56) 57 57 rfl 50 Tryd.underlying57 (by kernel_rfl) _ _ 8 8 a.length ca (by rfl) (by rfl) w3.heap.size 0 zeros8 52 (blk_new _ _) X1 (by rw [HL1.out]; simp [Nat.min_def]; omega) (fun hp => (by rw [HX1.out]; exact ⟨rfl, cells_of_C HCA.out (by rw [← HL1.out]; exact hp)⟩)) (by rw [HL1.out]; show 0 + a.length ≤ 8; omega) (by rw [HX1.out]; exact nums_one _ _) w3.heap.size w3 (below_alloc (Below.refl _ _) _) (Nat.le_refl _) ?_); intro w4 HG4 hB4; have HB4 := Aside0.mk hB4; have HCB := Aside0.mk (Kd.C_below (Kd.R_reads' HB3.out).2.2 hB4); clear hB4)
    | ((with_reducible refine gate_builtin (b := .copy) (xs := #[.tmp 61, .tmp 62]) rfl ?_); (refine wpList_copy_splice rfl (.tmp 61) (.tmp 62) 57 57 rfl 50 Tryd.underlying57 (by kernel_rfl) _ _ 0 0 b.length cb (by rfl) (by rfl) w3.heap.size 8 (splice zeros8 0 X1) 52 HG4 X2 (by rw [HL2.out, HBL.out]; rfl) (fun hp => absurd hp (by rw [HL2.out]; have := HBL.out; omega)) (by rw [HL2.out, length_splice _ _ _ (by rw [HL1.out]; show 0 + a.length ≤ 8; omega)]; have := HLO.out; show 8 + b.length ≤ 8; omega) (by rw [HX2.out]; exact nums_one _ _) w3.heap.size w3 HB4.out (Nat.le_refl _) ?_); intro w5 HG5 hB5; have HB5 := Aside0.mk hB5; clear hB5)
    | ((with_reducible refine gate_ (.load 52 (.tmp 11)) rfl ?_); (refine wpList_load_row rfl 52 (.tmp 11) rfl w3.heap.size (by rfl) 52 #[.int .u16 (rd (six8 a b) 0), .int .u16 (rd (six8 a b) 1), .int .u16 (rd (six8 a b) 2), .int .u16 (rd (six8 a b) 3), .int .u16 (rd (six8 a b) 4), .int .u16 (rd (six8 a b) 5), .int .u16 (rd (six8 a b) 6), .int .u16 (rd (six8 a b) 7)] (0, 0) _ (six_row HG5 HX1.out HX2.out HLO.out (by have := H4.out; omega)) huG_ rfl (by kernel_rfl) ?_)))
  refine (groups_addr.calls (rd (six8 a b) 0) (rd (six8 a b) 1) (rd (six8 a b) 2) (rd (six8 a b) 3) (rd (six8 a b) 4) (rd (six8 a b) 5) (rd (six8 a b) 6) (rd (six8 a b) 7) _).mono ?_
  rintro e w6 ⟨rfl, hb6⟩
  have hr5 : w5.heap[w.heap.size]? = some (.cells #[.bool false, .int .u64 0, .int .u64 0] 24 (0, 0)) := (HB5.out.block _ hnb).trans HR3.out
  have hr6 : w6.heap[w.heap.size]? = some (.cells #[.bool false, .int .u64 0, .int .u64 0] 24 (0, 0)) := (hb6.block _ (blk_lt hr5)).trans hr5
  have hw5 : Below w.heap.size w w5 := HW3.out.trans (below_mono_ HB5.out (Nat.le_of_lt hnb))
  have hw6 : Below w.heap.size w w6 := hw5.trans (below_mono_ hb6 hw5.size)
  have HR6 := Aside0.mk hr6
  have HW6 := Aside0.mk hw6
  clear hr5 hw5 hb6 hr6 hw6 hc0 hc1 hc2 hf0 hf1 hf2
  have hc0 : w6.cell? ⟨w.heap.size, 0, none⟩ = some (.bool false) := (blk_cell HR6.out 0).trans rfl
  have hc1 : w6.cell? ⟨w.heap.size, 1, none⟩ = some (.int .u64 0) := (blk_cell HR6.out 1).trans rfl
  have hc2 : w6.cell? ⟨w.heap.size, 2, none⟩ = some (.int .u64 0) := (blk_cell HR6.out 2).trans rfl
  have hf0 := blk_frozen HR6.out 0
  have hf1 := blk_frozen HR6.out 1
  have hf2 := blk_frozen HR6.out 2
  obtain ⟨hi, hhi⟩ : ∃ x : Int, num4 (rd (six8 a b) 0) (rd (six8 a b) 1) (rd (six8 a b) 2) (rd (six8 a b) 3) = x := ⟨_, rfl⟩
  obtain ⟨lo_, hlo_⟩ : ∃ x : Int, num4 (rd (six8 a b) 4) (rd (six8 a b) 5) (rd (six8 a b) 6) (rd (six8 a b) 7) = x := ⟨_, rfl⟩
  rw [hhi, hlo_]
  have HHI := Aside0.mk hhi
  have HLO_ := Aside0.mk hlo_
  clear hhi hlo_
  go_wp2_with fail
  refine bodyPost_ret (results_ct rfl _ _ w.heap.size 24 #[.bool true, .int .u64 hi, .int .u64 lo_] (0, 0) _ rfl (by (with_reducible repeat (first | refine blk_drewN ?_ _ | refine blk_drew ?_ | refine blk_alloc ?_ _)); refine blk_put (cs := #[.bool true, .int .u64 hi, .int .u64 0]) ?_ 2 _ rfl; refine blk_put (cs := #[.bool true, .int .u64 0, .int .u64 0]) ?_ 1 _ rfl; refine blk_put (cs := #[.bool false, .int .u64 0, .int .u64 0]) ?_ 0 _ rfl; exact HR6.out) Tryd.underlying24 rfl (by kernel_rfl)) rfl ?_
  exact ⟨by rw [HHI.out, HLO_.out]; rfl, by repeat (first | exact HW6.out | apply below_alloc | apply pw_below_drewN | apply below_drew1 | refine below_set ?_ (Nat.le_refl _))⟩
def sixOf (x y : List Int × Bool) (sh : Bool) : Option (Bool × Int × Int × Bool) :=
  if x.2 = false then some (false, 0, 0, false) else if y.2 = false then some (false, 0, 0, false)
  else if sh = true then (if x.1.length + y.1.length ≤ 7 then some (true, num4 (rd (six8 x.1 y.1) 0) (rd (six8 x.1 y.1) 1) (rd (six8 x.1 y.1) 2) (rd (six8 x.1 y.1) 3), num4 (rd (six8 x.1 y.1) 4) (rd (six8 x.1 y.1) 5) (rd (six8 x.1 y.1) 6) (rd (six8 x.1 y.1) 7), true) else if x.1.length + y.1.length < 1000 then some (false, 0, 0, false) else none)
  else (if x.1.length = 8 then (if y.1.length = 0 then some (true, num4 (rd (six8 x.1 y.1) 0) (rd (six8 x.1 y.1) 1) (rd (six8 x.1 y.1) 2) (rd (six8 x.1 y.1) 3), num4 (rd (six8 x.1 y.1) 4) (rd (six8 x.1 y.1) 5) (rd (six8 x.1 y.1) 6) (rd (six8 x.1 y.1) 7), true) else none) else some (false, 0, 0, false))
def addr_six.f (k : Nat) (a0 : ByteArray) : Option (Bool × Int × Int × Bool) := (strings_Cut.f a0 (⟨#[58, 58]⟩ : ByteArray)).bind fun c => (addr_list.f k c.1).bind fun x => (addr_list.f k c.2.1).bind fun y => sixOf x y c.2.2
theorem addr_six.mono : ∀ a0 k, LeO (addr_six.f k a0) (addr_six.f (k + 1) a0) := by
  intro a0 k
  unfold addr_six.f
  exact LeO.bind (LeO.refl _) (fun _ => LeO.bind (addr_list.mono _ _) (fun _ => LeO.bind (addr_list.mono _ _) (fun _ => LeO.refl _)))
theorem addr_six.calls (k : Nat) (a0 : ByteArray) (r1 : Bool) (r2 : Int) (r3 : Int) (r4 : Bool) (w : World) (hLD : Laid w) (h : addr_six.f k a0 = some (r1, r2, r3, r4)) :
    Calls Tryd.prog 31 #[.string a0] w fun e w' => e = .returned (.tuple #[.agg #[.bool r1, .int .u64 r2, .int .u64 r3], .bool r4]) ∧ Below w.heap.size w w' := by
  unfold addr_six.f at h
  obtain ⟨⟨s1, s2, sh⟩, hc, h⟩ := Option.bind_eq_some_iff.1 h
  obtain ⟨⟨a, ok⟩, hx, h⟩ := Option.bind_eq_some_iff.1 h
  obtain ⟨⟨b, is⟩, hy, h⟩ := Option.bind_eq_some_iff.1 h
  unfold sixOf at h
  dsimp only at hc hx hy h
  split at h
  · rename_i h1
    simp only [Option.some.injEq, Prod.mk.injEq] at h
    obtain ⟨rfl, rfl, rfl, rfl⟩ := h
    exact six_ok k a0 s1 s2 ok is sh a b w hLD hc hx hy h1
  · rename_i h1
    have h1 : ok = true := by simpa using h1
    split at h
    · rename_i h2
      simp only [Option.some.injEq, Prod.mk.injEq] at h
      obtain ⟨rfl, rfl, rfl, rfl⟩ := h
      exact six_is k a0 s1 s2 ok is sh a b w hLD hc hx hy h1 h2
    · rename_i h2
      have h2 : is = true := by simpa using h2
      split at h
      · rename_i h3
        split at h
        · rename_i h4
          simp only [Option.some.injEq, Prod.mk.injEq] at h
          obtain ⟨rfl, rfl, rfl, rfl⟩ := h
          rcases Nat.eq_zero_or_pos b.length with h5 | h5
          · exact six_short0 k a0 s1 s2 ok is sh a b w hLD hc hx hy h1 h2 h3 h4 h5
          · exact six_short1 k a0 s1 s2 ok is sh a b w hLD hc hx hy h1 h2 h3 h4 h5
        · rename_i h4
          split at h
          · simp only [Option.some.injEq, Prod.mk.injEq] at h
            obtain ⟨rfl, rfl, rfl, rfl⟩ := h
            exact six_sum k a0 s1 s2 ok is sh a b w hLD hc hx hy h1 h2 h3 (by unfold wrap64; omega)
          · cases h
      · rename_i h3
        have h3 : sh = false := by simpa using h3
        split at h
        · rename_i h4
          split at h
          · rename_i h5
            simp only [Option.some.injEq, Prod.mk.injEq] at h
            obtain ⟨rfl, rfl, rfl, rfl⟩ := h
            exact six_full k a0 s1 s2 ok is sh a b w hLD hc hx hy h1 h2 h3 h4 h5
          · cases h
        · rename_i h4
          simp only [Option.some.injEq, Prod.mk.injEq] at h
          obtain ⟨rfl, rfl, rfl, rfl⟩ := h
          exact six_len k a0 s1 s2 ok is sh a b w hLD hc hx hy h1 h2 h3 (by omega)


/-! ### addr_Parse: function 13 -/
def addr_Parse.f (k : Nat) (a0 : ByteArray) : Option (Bool × Int × Int × Int) := if (a0.size : Int) > 39 then (some (false, 0, 0, 3)) else ((addr_four.f k a0).bind fun bt245 => (if bt245.2.2.2 = true then (some (bt245.1, bt245.2.1, bt245.2.2.1, 0)) else ((addr_six.f k a0).bind fun bt250 => (if bt250.2.2.2 = true then (some (bt250.1, bt250.2.1, bt250.2.2.1, 0)) else (some (false, 0, 0, 3))))))
theorem addr_Parse.mono : ∀ a0 k, LeO (addr_Parse.f k a0) (addr_Parse.f (k + 1) a0) := by
  intro a0 k
  unfold addr_Parse.f
  repeat' first
      | (with_reducible exact addr_four.mono _ _)
      | (with_reducible exact addr_six.mono _ _)
      | (with_reducible exact LeO.refl _)
      | (with_reducible exact LeO.none _)
      | (with_reducible refine LeO.ite ?_ ?_)
      | (with_reducible refine LeO.bind ?_ (fun _ => ?_))
      | exact addr_four.mono _ _
      | exact addr_six.mono _ _
      | exact LeO.none _
      | refine LeO.ite ?_ ?_
      | refine LeO.bind ?_ (fun _ => ?_)
set_option maxHeartbeats 40000000 in
set_option maxRecDepth 100000 in
theorem addr_Parse.calls (k : Nat) (a0 : ByteArray) (r1 : Bool) (r2 : Int) (r3 : Int) (r4 : Int) (w : World) (hLD : Laid w) (h : addr_Parse.f k a0 = some (r1, r2, r3, r4)) :
    Calls Tryd.prog 13 #[.string a0] w fun e w' => e = .returned (.tuple #[.agg #[.bool r1, .int .u64 r2, .int .u64 r3], .int .i64 r4]) ∧ Below w.heap.size w w' := by
  have hu24 := Tryd.underlying24
  have HLD := Aside0.mk hLD
  clear hLD
  have HB := Aside0.mk (Below.refl w.heap.size w)
  have H : (if (a0.size : Int) > 39 then (some (false, 0, 0, 3)) else ((addr_four.f k a0).bind fun bt245 => (if bt245.2.2.2 = true then (some (bt245.1, bt245.2.1, bt245.2.2.1, 0)) else ((addr_six.f k a0).bind fun bt250 => (if bt250.2.2.2 = true then (some (bt250.1, bt250.2.1, bt250.2.2.1, 0)) else (some (false, 0, 0, 3))))))) = some (r1, r2, r3, r4) := h
  clear h
  by_cases c2 : (a0.size : Int) > 39
  · rw [if_pos c2] at H
    have c2b0 : decide (39 < (a0.size : Int)) = true := decide_eq_true c2
    have c2b1 : decide (39 < a0.size) = true := decide_eq_true (by omega)
    clear c2
    simp only [Option.some.injEq, Prod.mk.injEq] at H
    obtain ⟨rfl, rfl, rfl, rfl⟩ := H
    go_enter Tryd.func13, Tryd.ntmps13
    go_wp2_with (first | ((with_reducible refine gate_dst (N := 2) rfl ?_); refine box_event ?hg (N := 2) ?hd (cs := #[.bool false, .int .u64 0, .int .u64 0]) (t := 24) ?hr ?_; (case hd => rfl); (case hg => rfl); (case hr => first | (go_simp; done) | (go_simp; rfl)); intro gb244 hg w3 hbox hb; have n0_ := Aside0.mk (below_step (by repeat (first | (with_reducible first | exact HB.out | apply below_alloc | apply pw_below_drewN | apply below_drew1) | exact HB.out)) hb); have n1_ := Aside0.mk (hbox); have n2_ := Aside0.mk ((by rw [hg]; exact (below_size (by repeat (first | (with_reducible first | exact HB.out | apply below_alloc | apply pw_below_drewN | apply below_drew1) | exact HB.out))) : w.heap.size ≤ gb244)); have n3_ := Aside0.mk ((by rw [hg]; exact (below_size (by repeat (first | (with_reducible first | exact HB.out | apply below_alloc | apply pw_below_drewN | apply below_drew1) | exact HB.out))) : w.heap.size ≤ gb244)); clear HB; have HB := n0_; have BK244 := n1_; have GW244 := n2_; have GE244 := n3_; clear n0_ n1_ n2_ n3_; clear hb hbox hg; have hcz4_0 : w3.cell? ⟨gb244, 0, none⟩ = some (.bool false) := (blk_cell BK244.out 0).trans rfl; have hcz4_1 : w3.cell? ⟨gb244, 1, none⟩ = some (.int .u64 0) := (blk_cell BK244.out 1).trans rfl; have hcz4_2 : w3.cell? ⟨gb244, 2, none⟩ = some (.int .u64 0) := (blk_cell BK244.out 2).trans rfl; have hfz4_0 := blk_frozen BK244.out 0; have hfz4_1 := blk_frozen BK244.out 1; have hfz4_2 := blk_frozen BK244.out 2))
    refine bodyPost_ret (results_ct rfl _ _ gb244 24 #[.bool false, .int .u64 0, .int .u64 0] (0, 0) _ rfl (by (with_reducible repeat (first | refine blk_drewN ?_ _ | refine blk_drew ?_ | refine blk_alloc ?_ _)); refine blk_put (cs := #[.bool false, .int .u64 0, .int .u64 0]) ?_ 2 _ rfl; (with_reducible repeat (first | refine blk_drewN ?_ _ | refine blk_drew ?_ | refine blk_alloc ?_ _)); refine blk_put (cs := #[.bool false, .int .u64 0, .int .u64 0]) ?_ 1 _ rfl; (with_reducible repeat (first | refine blk_drewN ?_ _ | refine blk_drew ?_ | refine blk_alloc ?_ _)); refine blk_put (cs := #[.bool false, .int .u64 0, .int .u64 0]) ?_ 0 _ rfl; (with_reducible repeat (first | refine blk_drewN ?_ _ | refine blk_drew ?_ | refine blk_alloc ?_ _)); exact BK244.out) Tryd.underlying24 rfl (by kernel_rfl)) rfl ?_
    exact ⟨by first | rfl | (simp [errW_none, errW_some] <;> rfl) | (simp [*, errW_none, errW_some] <;> rfl), by repeat (first | (with_reducible first | exact HB.out | apply below_alloc | apply pw_below_drewN | apply below_drew1 | refine below_set ?_ GE244.out) | exact HB.out)⟩
  · rw [if_neg c2] at H
    have c2b0 : decide (39 < (a0.size : Int)) = false := decide_eq_false c2
    have c2b1 : decide (39 < a0.size) = false := decide_eq_false (by omega)
    clear c2
    replace H := Option.bind_eq_some_iff.mp H
    obtain ⟨⟨t245, t246, t247, t248⟩, A50, H⟩ := H
    replace H : (if t248 = true then (some (t245, t246, t247, 0)) else ((addr_six.f k a0).bind fun bt250 => (if bt250.2.2.2 = true then (some (bt250.1, bt250.2.1, bt250.2.2.1, 0)) else (some (false, 0, 0, 3))))) = some (r1, r2, r3, r4) := H
    have A5 := Aside0.mk A50
    clear A50
    by_cases c6 : t248 = true
    · subst c6
      have H1 : (some (t245, t246, t247, 0)) = some (r1, r2, r3, r4) := by rw [if_pos rfl] at H; exact H
      clear H
      have H := H1
      clear H1
      simp only [Option.some.injEq, Prod.mk.injEq] at H
      obtain ⟨rfl, rfl, rfl, rfl⟩ := H
      go_enter Tryd.func13, Tryd.ntmps13
      go_wp2_with (first | ((with_reducible refine gate_dst (N := 2) rfl ?_); refine box_event ?hg (N := 2) ?hd (cs := #[.bool false, .int .u64 0, .int .u64 0]) (t := 24) ?hr ?_; (case hd => rfl); (case hg => rfl); (case hr => first | (go_simp; done) | (go_simp; rfl)); intro gb244 hg w7 hbox hb; have n0_ := Aside0.mk (below_step (by repeat (first | (with_reducible first | exact HB.out | apply below_alloc | apply pw_below_drewN | apply below_drew1) | exact HB.out)) hb); have n1_ := Aside0.mk (hbox); have n2_ := Aside0.mk ((by rw [hg]; exact (below_size (by repeat (first | (with_reducible first | exact HB.out | apply below_alloc | apply pw_below_drewN | apply below_drew1) | exact HB.out))) : w.heap.size ≤ gb244)); have n3_ := Aside0.mk ((by rw [hg]; exact (below_size (by repeat (first | (with_reducible first | exact HB.out | apply below_alloc | apply pw_below_drewN | apply below_drew1) | exact HB.out))) : w.heap.size ≤ gb244)); clear HB; have HB := n0_; have BK244 := n1_; have GW244 := n2_; have GE244 := n3_; clear n0_ n1_ n2_ n3_; clear hb hbox hg) | ((with_reducible refine gate_callee (f := 30) rfl ?_); refine goesL_ (some 14) rfl rfl Tryd.func30 (by kernel_rfl) rfl #[.string a0] rfl (by (try simp only [List.map_toArray, List.map_cons, List.map_nil]); first | done | rfl | (simp only [Ext.u64_u8]; done) | (simp only [Ext.u64_u8]; rfl) | (simp only [List.length_drop, List.length_take]; rfl)) ?_; (with_reducible refine (addr_four.calls k a0 t245 t246 t247 true _ ?side1 A5.out).mono ?_); (case side1 => refine Laid.below HLD.out ?_; repeat (first | (with_reducible first | exact Below.refl _ _ | exact HB.out | apply below_alloc | apply pw_below_drewN | apply below_drew1 | refine below_set ?_ (Aside0.out (by assumption))) | exact HB.out)); rintro e w8 ⟨rfl, hb⟩; refine ⟨_, rfl, ?_⟩; have n0_ := Aside0.mk (blk_below (g := gb244) (o := .cells #[.bool false, .int .u64 0, .int .u64 0] 24 (0, 0)) (by (with_reducible repeat (first | refine blk_drewN ?_ _ | refine blk_drew ?_ | refine blk_alloc ?_ _)); exact BK244.out) hb); have n1_ := Aside0.mk (below_step (by repeat (first | (with_reducible first | exact HB.out | apply below_alloc | apply pw_below_drewN | apply below_drew1 | refine below_set ?_ GE244.out) | exact HB.out)) hb); clear BK244; clear HB; have BK244 := n0_; have HB := n1_; clear n0_ n1_; (try clear hb); (try clear hb2); (try clear hk); (try clear hi)) | ((with_reducible refine gate_dst (N := 4) rfl ?_); refine box_event ?hg (N := 4) ?hd (cs := #[.bool false, .int .u64 0, .int .u64 0]) (t := 24) ?hr ?_; (case hd => rfl); (case hg => rfl); (case hr => first | (go_simp; done) | (go_simp; rfl)); intro gb249 hg w9 hbox hb; have n0_ := Aside0.mk (blk_below (g := gb244) (o := .cells #[.bool false, .int .u64 0, .int .u64 0] 24 (0, 0)) (by (with_reducible repeat (first | refine blk_drewN ?_ _ | refine blk_drew ?_ | refine blk_alloc ?_ _)); exact BK244.out) hb); have n1_ := Aside0.mk (below_step (by repeat (first | (with_reducible first | exact HB.out | apply below_alloc | apply pw_below_drewN | apply below_drew1 | refine below_set ?_ GE244.out) | exact HB.out)) hb); have n2_ := Aside0.mk (hbox); have n3_ := Aside0.mk ((by rw [hg]; exact (below_size (by repeat (first | (with_reducible first | exact HB.out | apply below_alloc | apply pw_below_drewN | apply below_drew1 | refine below_set ?_ GE244.out) | exact HB.out))) : w.heap.size ≤ gb249)); have n4_ := Aside0.mk ((by rw [hg]; exact (below_size (by repeat (first | (with_reducible first | exact HB.out | apply below_alloc | apply pw_below_drewN | apply below_drew1 | refine below_set ?_ GE244.out) | exact HB.out))) : w.heap.size ≤ gb249)); have n5_ := Aside0.mk ((by rw [hg]; exact Nat.ne_of_lt (blk_lt (g := gb244) (o := .cells #[.bool false, .int .u64 0, .int .u64 0] 24 (0, 0)) (by (with_reducible repeat (first | refine blk_drewN ?_ _ | refine blk_drew ?_ | refine blk_alloc ?_ _)); exact BK244.out)) : gb244 ≠ gb249)); have n6_ := Aside0.mk ((by rw [hg]; exact Nat.ne_of_gt (blk_lt (g := gb244) (o := .cells #[.bool false, .int .u64 0, .int .u64 0] 24 (0, 0)) (by (with_reducible repeat (first | refine blk_drewN ?_ _ | refine blk_drew ?_ | refine blk_alloc ?_ _)); exact BK244.out)) : gb249 ≠ gb244)); clear BK244; clear HB; have BK244 := n0_; have HB := n1_; have BK249 := n2_; have GW249 := n3_; have GE249 := n4_; have NB244_249 := n5_; have NB249_244 := n6_; clear n0_ n1_ n2_ n3_ n4_ n5_ n6_; clear hb hbox hg; have hnb10 := NB249_244.out; have hnc10 := NB244_249.out; have hcz11_0 : w9.cell? ⟨gb249, 0, none⟩ = some (.bool false) := (blk_cell BK249.out 0).trans rfl; have hcz11_1 : w9.cell? ⟨gb249, 1, none⟩ = some (.int .u64 0) := (blk_cell BK249.out 1).trans rfl; have hcz11_2 : w9.cell? ⟨gb249, 2, none⟩ = some (.int .u64 0) := (blk_cell BK249.out 2).trans rfl; have hfz11_0 := blk_frozen BK249.out 0; have hfz11_1 := blk_frozen BK249.out 1; have hfz11_2 := blk_frozen BK249.out 2; have hcz12_0 : w9.cell? ⟨gb244, 0, none⟩ = some (.bool false) := (blk_cell BK244.out 0).trans rfl; have hcz12_1 : w9.cell? ⟨gb244, 1, none⟩ = some (.int .u64 0) := (blk_cell BK244.out 1).trans rfl; have hcz12_2 : w9.cell? ⟨gb244, 2, none⟩ = some (.int .u64 0) := (blk_cell BK244.out 2).trans rfl; have hfz12_0 := blk_frozen BK244.out 0; have hfz12_1 := blk_frozen BK244.out 1; have hfz12_2 := blk_frozen BK244.out 2) | ((with_reducible refine gate_store (t := 24) (p := 2) rfl ?_); refine store_event (t := 24) (p := 2) (v := ?vo_w13) (w1 := ((((((w9.setCell ⟨gb249, 0, none⟩ (.bool t245)).setCell ⟨gb249, 1, none⟩ (.int .u64 t246)).setCell ⟨gb249, 2, none⟩ (.int .u64 t247)).setCell ⟨gb244, 0, none⟩ (.bool t245)).setCell ⟨gb244, 1, none⟩ (.int .u64 t246)).setCell ⟨gb244, 2, none⟩ (.int .u64 t247))) ?hg ?ho ?hn ?hr ?_; (case ho => rfl); (case hg => rfl); (case hn => rfl); (case hr => first | (go_simp; done) | (go_simp; rfl)); intro w13 hw; have n0_ : Aside0 (w13.heap[gb244]? = some (.cells #[.bool t245, .int .u64 t246, .int .u64 t247] 24 (0, 0))) := ⟨(by rw [hw]; exact (by (with_reducible repeat (first | refine blk_drewN ?_ _ | refine blk_drew ?_ | refine blk_alloc ?_ _)); refine blk_put (cs := #[.bool t245, .int .u64 t246, .int .u64 0]) ?_ 2 _ rfl; (with_reducible repeat (first | refine blk_drewN ?_ _ | refine blk_drew ?_ | refine blk_alloc ?_ _)); refine blk_put (cs := #[.bool t245, .int .u64 0, .int .u64 0]) ?_ 1 _ rfl; (with_reducible repeat (first | refine blk_drewN ?_ _ | refine blk_drew ?_ | refine blk_alloc ?_ _)); refine blk_put (cs := #[.bool false, .int .u64 0, .int .u64 0]) ?_ 0 _ rfl; (with_reducible repeat (first | refine blk_drewN ?_ _ | refine blk_drew ?_ | refine blk_alloc ?_ _)); refine blk_far ?_ NB244_249.out _; (with_reducible repeat (first | refine blk_drewN ?_ _ | refine blk_drew ?_ | refine blk_alloc ?_ _)); refine blk_far ?_ NB244_249.out _; (with_reducible repeat (first | refine blk_drewN ?_ _ | refine blk_drew ?_ | refine blk_alloc ?_ _)); refine blk_far ?_ NB244_249.out _; (with_reducible repeat (first | refine blk_drewN ?_ _ | refine blk_drew ?_ | refine blk_alloc ?_ _)); exact BK244.out))⟩; have n1_ : Aside0 (w13.heap[gb249]? = some (.cells #[.bool t245, .int .u64 t246, .int .u64 t247] 24 (0, 0))) := ⟨(by rw [hw]; exact (by (with_reducible repeat (first | refine blk_drewN ?_ _ | refine blk_drew ?_ | refine blk_alloc ?_ _)); refine blk_far ?_ NB249_244.out _; (with_reducible repeat (first | refine blk_drewN ?_ _ | refine blk_drew ?_ | refine blk_alloc ?_ _)); refine blk_far ?_ NB249_244.out _; (with_reducible repeat (first | refine blk_drewN ?_ _ | refine blk_drew ?_ | refine blk_alloc ?_ _)); refine blk_far ?_ NB249_244.out _; (with_reducible repeat (first | refine blk_drewN ?_ _ | refine blk_drew ?_ | refine blk_alloc ?_ _)); refine blk_put (cs := #[.bool t245, .int .u64 t246, .int .u64 0]) ?_ 2 _ rfl; (with_reducible repeat (first | refine blk_drewN ?_ _ | refine blk_drew ?_ | refine blk_alloc ?_ _)); refine blk_put (cs := #[.bool t245, .int .u64 0, .int .u64 0]) ?_ 1 _ rfl; (with_reducible repeat (first | refine blk_drewN ?_ _ | refine blk_drew ?_ | refine blk_alloc ?_ _)); refine blk_put (cs := #[.bool false, .int .u64 0, .int .u64 0]) ?_ 0 _ rfl; (with_reducible repeat (first | refine blk_drewN ?_ _ | refine blk_drew ?_ | refine blk_alloc ?_ _)); exact BK249.out))⟩; have n2_ : Aside0 (Below w.heap.size w w13) := ⟨(by rw [hw]; exact (by repeat (first | (with_reducible first | exact HB.out | apply below_alloc | apply pw_below_drewN | apply below_drew1 | refine below_set ?_ GE244.out | refine below_set ?_ GE249.out) | exact HB.out)))⟩; clear hw; clear BK244; clear BK249; clear HB; have BK244 := n0_; have BK249 := n1_; have HB := n2_; clear n0_ n1_ n2_))
      refine bodyPost_ret (results_ct rfl _ _ gb244 24 #[.bool t245, .int .u64 t246, .int .u64 t247] (0, 0) _ rfl (by (with_reducible repeat (first | refine blk_drewN ?_ _ | refine blk_drew ?_ | refine blk_alloc ?_ _)); exact BK244.out) Tryd.underlying24 rfl (by kernel_rfl)) rfl ?_
      exact ⟨by first | rfl | (simp [errW_none, errW_some] <;> rfl) | (simp [*, errW_none, errW_some] <;> rfl), by repeat (first | (with_reducible first | exact HB.out | apply below_alloc | apply pw_below_drewN | apply below_drew1 | refine below_set ?_ GE244.out | refine below_set ?_ GE249.out) | exact HB.out)⟩
    · replace c6 := Bool.eq_false_iff.mpr c6
      subst c6
      have H1 : ((addr_six.f k a0).bind fun bt250 => (if bt250.2.2.2 = true then (some (bt250.1, bt250.2.1, bt250.2.2.1, 0)) else (some (false, 0, 0, 3)))) = some (r1, r2, r3, r4) := by rw [if_neg (show ¬ (false = true) by decide)] at H; exact H
      clear H
      have H := H1
      clear H1
      replace H := Option.bind_eq_some_iff.mp H
      obtain ⟨⟨t250, t251, t252, t253⟩, A140, H⟩ := H
      replace H : (if t253 = true then (some (t250, t251, t252, 0)) else (some (false, 0, 0, 3))) = some (r1, r2, r3, r4) := H
      have A14 := Aside0.mk A140
      clear A140
      by_cases c15 : t253 = true
      · subst c15
        have H1 : (some (t250, t251, t252, 0)) = some (r1, r2, r3, r4) := by rw [if_pos rfl] at H; exact H
        clear H
        have H := H1
        clear H1
        simp only [Option.some.injEq, Prod.mk.injEq] at H
        obtain ⟨rfl, rfl, rfl, rfl⟩ := H
        go_enter Tryd.func13, Tryd.ntmps13
        go_wp2_with (first | ((with_reducible refine gate_dst (N := 2) rfl ?_); refine box_event ?hg (N := 2) ?hd (cs := #[.bool false, .int .u64 0, .int .u64 0]) (t := 24) ?hr ?_; (case hd => rfl); (case hg => rfl); (case hr => first | (go_simp; done) | (go_simp; rfl)); intro gb244 hg w16 hbox hb; have n0_ := Aside0.mk (below_step (by repeat (first | (with_reducible first | exact HB.out | apply below_alloc | apply pw_below_drewN | apply below_drew1) | exact HB.out)) hb); have n1_ := Aside0.mk (hbox); have n2_ := Aside0.mk ((by rw [hg]; exact (below_size (by repeat (first | (with_reducible first | exact HB.out | apply below_alloc | apply pw_below_drewN | apply below_drew1) | exact HB.out))) : w.heap.size ≤ gb244)); have n3_ := Aside0.mk ((by rw [hg]; exact (below_size (by repeat (first | (with_reducible first | exact HB.out | apply below_alloc | apply pw_below_drewN | apply below_drew1) | exact HB.out))) : w.heap.size ≤ gb244)); clear HB; have HB := n0_; have BK244 := n1_; have GW244 := n2_; have GE244 := n3_; clear n0_ n1_ n2_ n3_; clear hb hbox hg) | ((with_reducible refine gate_callee (f := 30) rfl ?_); refine goesL_ (some 14) rfl rfl Tryd.func30 (by kernel_rfl) rfl #[.string a0] rfl (by (try simp only [List.map_toArray, List.map_cons, List.map_nil]); first | done | rfl | (simp only [Ext.u64_u8]; done) | (simp only [Ext.u64_u8]; rfl) | (simp only [List.length_drop, List.length_take]; rfl)) ?_; (with_reducible refine (addr_four.calls k a0 t245 t246 t247 false _ ?side1 A5.out).mono ?_); (case side1 => refine Laid.below HLD.out ?_; repeat (first | (with_reducible first | exact Below.refl _ _ | exact HB.out | apply below_alloc | apply pw_below_drewN | apply below_drew1 | refine below_set ?_ (Aside0.out (by assumption))) | exact HB.out)); rintro e w17 ⟨rfl, hb⟩; refine ⟨_, rfl, ?_⟩; have n0_ := Aside0.mk (blk_below (g := gb244) (o := .cells #[.bool false, .int .u64 0, .int .u64 0] 24 (0, 0)) (by (with_reducible repeat (first | refine blk_drewN ?_ _ | refine blk_drew ?_ | refine blk_alloc ?_ _)); exact BK244.out) hb); have n1_ := Aside0.mk (below_step (by repeat (first | (with_reducible first | exact HB.out | apply below_alloc | apply pw_below_drewN | apply below_drew1 | refine below_set ?_ GE244.out) | exact HB.out)) hb); clear BK244; clear HB; have BK244 := n0_; have HB := n1_; clear n0_ n1_; (try clear hb); (try clear hb2); (try clear hk); (try clear hi)) | ((with_reducible refine gate_dst (N := 4) rfl ?_); refine box_event ?hg (N := 4) ?hd (cs := #[.bool false, .int .u64 0, .int .u64 0]) (t := 24) ?hr ?_; (case hd => rfl); (case hg => rfl); (case hr => first | (go_simp; done) | (go_simp; rfl)); intro gb249 hg w18 hbox hb; have n0_ := Aside0.mk (blk_below (g := gb244) (o := .cells #[.bool false, .int .u64 0, .int .u64 0] 24 (0, 0)) (by (with_reducible repeat (first | refine blk_drewN ?_ _ | refine blk_drew ?_ | refine blk_alloc ?_ _)); exact BK244.out) hb); have n1_ := Aside0.mk (below_step (by repeat (first | (with_reducible first | exact HB.out | apply below_alloc | apply pw_below_drewN | apply below_drew1 | refine below_set ?_ GE244.out) | exact HB.out)) hb); have n2_ := Aside0.mk (hbox); have n3_ := Aside0.mk ((by rw [hg]; exact (below_size (by repeat (first | (with_reducible first | exact HB.out | apply below_alloc | apply pw_below_drewN | apply below_drew1 | refine below_set ?_ GE244.out) | exact HB.out))) : w.heap.size ≤ gb249)); have n4_ := Aside0.mk ((by rw [hg]; exact (below_size (by repeat (first | (with_reducible first | exact HB.out | apply below_alloc | apply pw_below_drewN | apply below_drew1 | refine below_set ?_ GE244.out) | exact HB.out))) : w.heap.size ≤ gb249)); have n5_ := Aside0.mk ((by rw [hg]; exact Nat.ne_of_lt (blk_lt (g := gb244) (o := .cells #[.bool false, .int .u64 0, .int .u64 0] 24 (0, 0)) (by (with_reducible repeat (first | refine blk_drewN ?_ _ | refine blk_drew ?_ | refine blk_alloc ?_ _)); exact BK244.out)) : gb244 ≠ gb249)); have n6_ := Aside0.mk ((by rw [hg]; exact Nat.ne_of_gt (blk_lt (g := gb244) (o := .cells #[.bool false, .int .u64 0, .int .u64 0] 24 (0, 0)) (by (with_reducible repeat (first | refine blk_drewN ?_ _ | refine blk_drew ?_ | refine blk_alloc ?_ _)); exact BK244.out)) : gb249 ≠ gb244)); clear BK244; clear HB; have BK244 := n0_; have HB := n1_; have BK249 := n2_; have GW249 := n3_; have GE249 := n4_; have NB244_249 := n5_; have NB249_244 := n6_; clear n0_ n1_ n2_ n3_ n4_ n5_ n6_; clear hb hbox hg; have hnb19 := NB249_244.out; have hnc19 := NB244_249.out; have hcz20_0 : w18.cell? ⟨gb249, 0, none⟩ = some (.bool false) := (blk_cell BK249.out 0).trans rfl; have hcz20_1 : w18.cell? ⟨gb249, 1, none⟩ = some (.int .u64 0) := (blk_cell BK249.out 1).trans rfl; have hcz20_2 : w18.cell? ⟨gb249, 2, none⟩ = some (.int .u64 0) := (blk_cell BK249.out 2).trans rfl; have hfz20_0 := blk_frozen BK249.out 0; have hfz20_1 := blk_frozen BK249.out 1; have hfz20_2 := blk_frozen BK249.out 2) | ((with_reducible refine gate_callee (f := 31) rfl ?_); refine goesL_ (some 21) rfl rfl Tryd.func31 (by kernel_rfl) rfl #[.string a0] rfl (by (try simp only [List.map_toArray, List.map_cons, List.map_nil]); first | done | rfl | (simp only [Ext.u64_u8]; done) | (simp only [Ext.u64_u8]; rfl) | (simp only [List.length_drop, List.length_take]; rfl)) ?_; (with_reducible refine (addr_six.calls k a0 t250 t251 t252 true _ ?side1 A14.out).mono ?_); (case side1 => refine Laid.below HLD.out ?_; repeat (first | (with_reducible first | exact Below.refl _ _ | exact HB.out | apply below_alloc | apply pw_below_drewN | apply below_drew1 | refine below_set ?_ (Aside0.out (by assumption))) | exact HB.out)); rintro e w21 ⟨rfl, hb⟩; refine ⟨_, rfl, ?_⟩; have n0_ := Aside0.mk (blk_below (g := gb244) (o := .cells #[.bool false, .int .u64 0, .int .u64 0] 24 (0, 0)) (by (with_reducible repeat (first | refine blk_drewN ?_ _ | refine blk_drew ?_ | refine blk_alloc ?_ _)); refine blk_far ?_ NB244_249.out _; (with_reducible repeat (first | refine blk_drewN ?_ _ | refine blk_drew ?_ | refine blk_alloc ?_ _)); refine blk_far ?_ NB244_249.out _; (with_reducible repeat (first | refine blk_drewN ?_ _ | refine blk_drew ?_ | refine blk_alloc ?_ _)); refine blk_far ?_ NB244_249.out _; (with_reducible repeat (first | refine blk_drewN ?_ _ | refine blk_drew ?_ | refine blk_alloc ?_ _)); exact BK244.out) hb); have n1_ := Aside0.mk (blk_below (g := gb249) (o := .cells #[.bool t245, .int .u64 t246, .int .u64 t247] 24 (0, 0)) (by (with_reducible repeat (first | refine blk_drewN ?_ _ | refine blk_drew ?_ | refine blk_alloc ?_ _)); refine blk_put (cs := #[.bool t245, .int .u64 t246, .int .u64 0]) ?_ 2 _ rfl; (with_reducible repeat (first | refine blk_drewN ?_ _ | refine blk_drew ?_ | refine blk_alloc ?_ _)); refine blk_put (cs := #[.bool t245, .int .u64 0, .int .u64 0]) ?_ 1 _ rfl; (with_reducible repeat (first | refine blk_drewN ?_ _ | refine blk_drew ?_ | refine blk_alloc ?_ _)); refine blk_put (cs := #[.bool false, .int .u64 0, .int .u64 0]) ?_ 0 _ rfl; (with_reducible repeat (first | refine blk_drewN ?_ _ | refine blk_drew ?_ | refine blk_alloc ?_ _)); exact BK249.out) hb); have n2_ := Aside0.mk (below_step (by repeat (first | (with_reducible first | exact HB.out | apply below_alloc | apply pw_below_drewN | apply below_drew1 | refine below_set ?_ GE244.out | refine below_set ?_ GE249.out) | exact HB.out)) hb); clear BK244; clear BK249; clear HB; have BK244 := n0_; have BK249 := n1_; have HB := n2_; clear n0_ n1_ n2_; (try clear hb); (try clear hb2); (try clear hk); (try clear hi)) | ((with_reducible refine gate_dst (N := 6) rfl ?_); refine box_event ?hg (N := 6) ?hd (cs := #[.bool false, .int .u64 0, .int .u64 0]) (t := 24) ?hr ?_; (case hd => rfl); (case hg => rfl); (case hr => first | (go_simp; done) | (go_simp; rfl)); intro gb254 hg w22 hbox hb; have n0_ := Aside0.mk (blk_below (g := gb244) (o := .cells #[.bool false, .int .u64 0, .int .u64 0] 24 (0, 0)) (by (with_reducible repeat (first | refine blk_drewN ?_ _ | refine blk_drew ?_ | refine blk_alloc ?_ _)); exact BK244.out) hb); have n1_ := Aside0.mk (blk_below (g := gb249) (o := .cells #[.bool t245, .int .u64 t246, .int .u64 t247] 24 (0, 0)) (by (with_reducible repeat (first | refine blk_drewN ?_ _ | refine blk_drew ?_ | refine blk_alloc ?_ _)); exact BK249.out) hb); have n2_ := Aside0.mk (below_step (by repeat (first | (with_reducible first | exact HB.out | apply below_alloc | apply pw_below_drewN | apply below_drew1 | refine below_set ?_ GE244.out | refine below_set ?_ GE249.out) | exact HB.out)) hb); have n3_ := Aside0.mk (hbox); have n4_ := Aside0.mk ((by rw [hg]; exact (below_size (by repeat (first | (with_reducible first | exact HB.out | apply below_alloc | apply pw_below_drewN | apply below_drew1 | refine below_set ?_ GE244.out | refine below_set ?_ GE249.out) | exact HB.out))) : w.heap.size ≤ gb254)); have n5_ := Aside0.mk ((by rw [hg]; exact (below_size (by repeat (first | (with_reducible first | exact HB.out | apply below_alloc | apply pw_below_drewN | apply below_drew1 | refine below_set ?_ GE244.out | refine below_set ?_ GE249.out) | exact HB.out))) : w.heap.size ≤ gb254)); have n6_ := Aside0.mk ((by rw [hg]; exact Nat.ne_of_lt (blk_lt (g := gb244) (o := .cells #[.bool false, .int .u64 0, .int .u64 0] 24 (0, 0)) (by (with_reducible repeat (first | refine blk_drewN ?_ _ | refine blk_drew ?_ | refine blk_alloc ?_ _)); exact BK244.out)) : gb244 ≠ gb254)); have n7_ := Aside0.mk ((by rw [hg]; exact Nat.ne_of_gt (blk_lt (g := gb244) (o := .cells #[.bool false, .int .u64 0, .int .u64 0] 24 (0, 0)) (by (with_reducible repeat (first | refine blk_drewN ?_ _ | refine blk_drew ?_ | refine blk_alloc ?_ _)); exact BK244.out)) : gb254 ≠ gb244)); have n8_ := Aside0.mk ((by rw [hg]; exact Nat.ne_of_lt (blk_lt (g := gb249) (o := .cells #[.bool t245, .int .u64 t246, .int .u64 t247] 24 (0, 0)) (by (with_reducible repeat (first | refine blk_drewN ?_ _ | refine blk_drew ?_ | refine blk_alloc ?_ _)); exact BK249.out)) : gb249 ≠ gb254)); have n9_ := Aside0.mk ((by rw [hg]; exact Nat.ne_of_gt (blk_lt (g := gb249) (o := .cells #[.bool t245, .int .u64 t246, .int .u64 t247] 24 (0, 0)) (by (with_reducible repeat (first | refine blk_drewN ?_ _ | refine blk_drew ?_ | refine blk_alloc ?_ _)); exact BK249.out)) : gb254 ≠ gb249)); clear BK244; clear BK249; clear HB; have BK244 := n0_; have BK249 := n1_; have HB := n2_; have BK254 := n3_; have GW254 := n4_; have GE254 := n5_; have NB244_254 := n6_; have NB254_244 := n7_; have NB249_254 := n8_; have NB254_249 := n9_; clear n0_ n1_ n2_ n3_ n4_ n5_ n6_ n7_ n8_ n9_; clear hb hbox hg; have hnb23 := NB254_244.out; have hnc23 := NB244_254.out; have hnb24 := NB254_249.out; have hnc24 := NB249_254.out; have hcz25_0 : w22.cell? ⟨gb254, 0, none⟩ = some (.bool false) := (blk_cell BK254.out 0).trans rfl; have hcz25_1 : w22.cell? ⟨gb254, 1, none⟩ = some (.int .u64 0) := (blk_cell BK254.out 1).trans rfl; have hcz25_2 : w22.cell? ⟨gb254, 2, none⟩ = some (.int .u64 0) := (blk_cell BK254.out 2).trans rfl; have hfz25_0 := blk_frozen BK254.out 0; have hfz25_1 := blk_frozen BK254.out 1; have hfz25_2 := blk_frozen BK254.out 2; have hcz26_0 : w22.cell? ⟨gb244, 0, none⟩ = some (.bool false) := (blk_cell BK244.out 0).trans rfl; have hcz26_1 : w22.cell? ⟨gb244, 1, none⟩ = some (.int .u64 0) := (blk_cell BK244.out 1).trans rfl; have hcz26_2 : w22.cell? ⟨gb244, 2, none⟩ = some (.int .u64 0) := (blk_cell BK244.out 2).trans rfl; have hfz26_0 := blk_frozen BK244.out 0; have hfz26_1 := blk_frozen BK244.out 1; have hfz26_2 := blk_frozen BK244.out 2) | ((with_reducible refine gate_store (t := 24) (p := 2) rfl ?_); refine store_event (t := 24) (p := 2) (v := ?vo_w27) (w1 := ((((((w22.setCell ⟨gb254, 0, none⟩ (.bool t250)).setCell ⟨gb254, 1, none⟩ (.int .u64 t251)).setCell ⟨gb254, 2, none⟩ (.int .u64 t252)).setCell ⟨gb244, 0, none⟩ (.bool t250)).setCell ⟨gb244, 1, none⟩ (.int .u64 t251)).setCell ⟨gb244, 2, none⟩ (.int .u64 t252))) ?hg ?ho ?hn ?hr ?_; (case ho => rfl); (case hg => rfl); (case hn => rfl); (case hr => first | (go_simp; done) | (go_simp; rfl)); intro w27 hw; have n0_ : Aside0 (w27.heap[gb244]? = some (.cells #[.bool t250, .int .u64 t251, .int .u64 t252] 24 (0, 0))) := ⟨(by rw [hw]; exact (by (with_reducible repeat (first | refine blk_drewN ?_ _ | refine blk_drew ?_ | refine blk_alloc ?_ _)); refine blk_put (cs := #[.bool t250, .int .u64 t251, .int .u64 0]) ?_ 2 _ rfl; (with_reducible repeat (first | refine blk_drewN ?_ _ | refine blk_drew ?_ | refine blk_alloc ?_ _)); refine blk_put (cs := #[.bool t250, .int .u64 0, .int .u64 0]) ?_ 1 _ rfl; (with_reducible repeat (first | refine blk_drewN ?_ _ | refine blk_drew ?_ | refine blk_alloc ?_ _)); refine blk_put (cs := #[.bool false, .int .u64 0, .int .u64 0]) ?_ 0 _ rfl; (with_reducible repeat (first | refine blk_drewN ?_ _ | refine blk_drew ?_ | refine blk_alloc ?_ _)); refine blk_far ?_ NB244_254.out _; (with_reducible repeat (first | refine blk_drewN ?_ _ | refine blk_drew ?_ | refine blk_alloc ?_ _)); refine blk_far ?_ NB244_254.out _; (with_reducible repeat (first | refine blk_drewN ?_ _ | refine blk_drew ?_ | refine blk_alloc ?_ _)); refine blk_far ?_ NB244_254.out _; (with_reducible repeat (first | refine blk_drewN ?_ _ | refine blk_drew ?_ | refine blk_alloc ?_ _)); exact BK244.out))⟩; have n1_ : Aside0 (w27.heap[gb249]? = some (.cells #[.bool t245, .int .u64 t246, .int .u64 t247] 24 (0, 0))) := ⟨(by rw [hw]; exact (by (with_reducible repeat (first | refine blk_drewN ?_ _ | refine blk_drew ?_ | refine blk_alloc ?_ _)); refine blk_far ?_ NB249_244.out _; (with_reducible repeat (first | refine blk_drewN ?_ _ | refine blk_drew ?_ | refine blk_alloc ?_ _)); refine blk_far ?_ NB249_244.out _; (with_reducible repeat (first | refine blk_drewN ?_ _ | refine blk_drew ?_ | refine blk_alloc ?_ _)); refine blk_far ?_ NB249_244.out _; (with_reducible repeat (first | refine blk_drewN ?_ _ | refine blk_drew ?_ | refine blk_alloc ?_ _)); refine blk_far ?_ NB249_254.out _; (with_reducible repeat (first | refine blk_drewN ?_ _ | refine blk_drew ?_ | refine blk_alloc ?_ _)); refine blk_far ?_ NB249_254.out _; (with_reducible repeat (first | refine blk_drewN ?_ _ | refine blk_drew ?_ | refine blk_alloc ?_ _)); refine blk_far ?_ NB249_254.out _; (with_reducible repeat (first | refine blk_drewN ?_ _ | refine blk_drew ?_ | refine blk_alloc ?_ _)); exact BK249.out))⟩; have n2_ : Aside0 (w27.heap[gb254]? = some (.cells #[.bool t250, .int .u64 t251, .int .u64 t252] 24 (0, 0))) := ⟨(by rw [hw]; exact (by (with_reducible repeat (first | refine blk_drewN ?_ _ | refine blk_drew ?_ | refine blk_alloc ?_ _)); refine blk_far ?_ NB254_244.out _; (with_reducible repeat (first | refine blk_drewN ?_ _ | refine blk_drew ?_ | refine blk_alloc ?_ _)); refine blk_far ?_ NB254_244.out _; (with_reducible repeat (first | refine blk_drewN ?_ _ | refine blk_drew ?_ | refine blk_alloc ?_ _)); refine blk_far ?_ NB254_244.out _; (with_reducible repeat (first | refine blk_drewN ?_ _ | refine blk_drew ?_ | refine blk_alloc ?_ _)); refine blk_put (cs := #[.bool t250, .int .u64 t251, .int .u64 0]) ?_ 2 _ rfl; (with_reducible repeat (first | refine blk_drewN ?_ _ | refine blk_drew ?_ | refine blk_alloc ?_ _)); refine blk_put (cs := #[.bool t250, .int .u64 0, .int .u64 0]) ?_ 1 _ rfl; (with_reducible repeat (first | refine blk_drewN ?_ _ | refine blk_drew ?_ | refine blk_alloc ?_ _)); refine blk_put (cs := #[.bool false, .int .u64 0, .int .u64 0]) ?_ 0 _ rfl; (with_reducible repeat (first | refine blk_drewN ?_ _ | refine blk_drew ?_ | refine blk_alloc ?_ _)); exact BK254.out))⟩; have n3_ : Aside0 (Below w.heap.size w w27) := ⟨(by rw [hw]; exact (by repeat (first | (with_reducible first | exact HB.out | apply below_alloc | apply pw_below_drewN | apply below_drew1 | refine below_set ?_ GE244.out | refine below_set ?_ GE249.out | refine below_set ?_ GE254.out) | exact HB.out)))⟩; clear hw; clear BK244; clear BK249; clear BK254; clear HB; have BK244 := n0_; have BK249 := n1_; have BK254 := n2_; have HB := n3_; clear n0_ n1_ n2_ n3_))
        refine bodyPost_ret (results_ct rfl _ _ gb244 24 #[.bool t250, .int .u64 t251, .int .u64 t252] (0, 0) _ rfl (by (with_reducible repeat (first | refine blk_drewN ?_ _ | refine blk_drew ?_ | refine blk_alloc ?_ _)); exact BK244.out) Tryd.underlying24 rfl (by kernel_rfl)) rfl ?_
        exact ⟨by first | rfl | (simp [errW_none, errW_some] <;> rfl) | (simp [*, errW_none, errW_some] <;> rfl), by repeat (first | (with_reducible first | exact HB.out | apply below_alloc | apply pw_below_drewN | apply below_drew1 | refine below_set ?_ GE244.out | refine below_set ?_ GE249.out | refine below_set ?_ GE254.out) | exact HB.out)⟩
      · replace c15 := Bool.eq_false_iff.mpr c15
        subst c15
        have H1 : (some (false, 0, 0, 3)) = some (r1, r2, r3, r4) := by rw [if_neg (show ¬ (false = true) by decide)] at H; exact H
        clear H
        have H := H1
        clear H1
        simp only [Option.some.injEq, Prod.mk.injEq] at H
        obtain ⟨rfl, rfl, rfl, rfl⟩ := H
        go_enter Tryd.func13, Tryd.ntmps13
        go_wp2_with (first | ((with_reducible refine gate_dst (N := 2) rfl ?_); refine box_event ?hg (N := 2) ?hd (cs := #[.bool false, .int .u64 0, .int .u64 0]) (t := 24) ?hr ?_; (case hd => rfl); (case hg => rfl); (case hr => first | (go_simp; done) | (go_simp; rfl)); intro gb244 hg w28 hbox hb; have n0_ := Aside0.mk (below_step (by repeat (first | (with_reducible first | exact HB.out | apply below_alloc | apply pw_below_drewN | apply below_drew1) | exact HB.out)) hb); have n1_ := Aside0.mk (hbox); have n2_ := Aside0.mk ((by rw [hg]; exact (below_size (by repeat (first | (with_reducible first | exact HB.out | apply below_alloc | apply pw_below_drewN | apply below_drew1) | exact HB.out))) : w.heap.size ≤ gb244)); have n3_ := Aside0.mk ((by rw [hg]; exact (below_size (by repeat (first | (with_reducible first | exact HB.out | apply below_alloc | apply pw_below_drewN | apply below_drew1) | exact HB.out))) : w.heap.size ≤ gb244)); clear HB; have HB := n0_; have BK244 := n1_; have GW244 := n2_; have GE244 := n3_; clear n0_ n1_ n2_ n3_; clear hb hbox hg) | ((with_reducible refine gate_callee (f := 30) rfl ?_); refine goesL_ (some 14) rfl rfl Tryd.func30 (by kernel_rfl) rfl #[.string a0] rfl (by (try simp only [List.map_toArray, List.map_cons, List.map_nil]); first | done | rfl | (simp only [Ext.u64_u8]; done) | (simp only [Ext.u64_u8]; rfl) | (simp only [List.length_drop, List.length_take]; rfl)) ?_; (with_reducible refine (addr_four.calls k a0 t245 t246 t247 false _ ?side1 A5.out).mono ?_); (case side1 => refine Laid.below HLD.out ?_; repeat (first | (with_reducible first | exact Below.refl _ _ | exact HB.out | apply below_alloc | apply pw_below_drewN | apply below_drew1 | refine below_set ?_ (Aside0.out (by assumption))) | exact HB.out)); rintro e w29 ⟨rfl, hb⟩; refine ⟨_, rfl, ?_⟩; have n0_ := Aside0.mk (blk_below (g := gb244) (o := .cells #[.bool false, .int .u64 0, .int .u64 0] 24 (0, 0)) (by (with_reducible repeat (first | refine blk_drewN ?_ _ | refine blk_drew ?_ | refine blk_alloc ?_ _)); exact BK244.out) hb); have n1_ := Aside0.mk (below_step (by repeat (first | (with_reducible first | exact HB.out | apply below_alloc | apply pw_below_drewN | apply below_drew1 | refine below_set ?_ GE244.out) | exact HB.out)) hb); clear BK244; clear HB; have BK244 := n0_; have HB := n1_; clear n0_ n1_; (try clear hb); (try clear hb2); (try clear hk); (try clear hi)) | ((with_reducible refine gate_dst (N := 4) rfl ?_); refine box_event ?hg (N := 4) ?hd (cs := #[.bool false, .int .u64 0, .int .u64 0]) (t := 24) ?hr ?_; (case hd => rfl); (case hg => rfl); (case hr => first | (go_simp; done) | (go_simp; rfl)); intro gb249 hg w30 hbox hb; have n0_ := Aside0.mk (blk_below (g := gb244) (o := .cells #[.bool false, .int .u64 0, .int .u64 0] 24 (0, 0)) (by (with_reducible repeat (first | refine blk_drewN ?_ _ | refine blk_drew ?_ | refine blk_alloc ?_ _)); exact BK244.out) hb); have n1_ := Aside0.mk (below_step (by repeat (first | (with_reducible first | exact HB.out | apply below_alloc | apply pw_below_drewN | apply below_drew1 | refine below_set ?_ GE244.out) | exact HB.out)) hb); have n2_ := Aside0.mk (hbox); have n3_ := Aside0.mk ((by rw [hg]; exact (below_size (by repeat (first | (with_reducible first | exact HB.out | apply below_alloc | apply pw_below_drewN | apply below_drew1 | refine below_set ?_ GE244.out) | exact HB.out))) : w.heap.size ≤ gb249)); have n4_ := Aside0.mk ((by rw [hg]; exact (below_size (by repeat (first | (with_reducible first | exact HB.out | apply below_alloc | apply pw_below_drewN | apply below_drew1 | refine below_set ?_ GE244.out) | exact HB.out))) : w.heap.size ≤ gb249)); have n5_ := Aside0.mk ((by rw [hg]; exact Nat.ne_of_lt (blk_lt (g := gb244) (o := .cells #[.bool false, .int .u64 0, .int .u64 0] 24 (0, 0)) (by (with_reducible repeat (first | refine blk_drewN ?_ _ | refine blk_drew ?_ | refine blk_alloc ?_ _)); exact BK244.out)) : gb244 ≠ gb249)); have n6_ := Aside0.mk ((by rw [hg]; exact Nat.ne_of_gt (blk_lt (g := gb244) (o := .cells #[.bool false, .int .u64 0, .int .u64 0] 24 (0, 0)) (by (with_reducible repeat (first | refine blk_drewN ?_ _ | refine blk_drew ?_ | refine blk_alloc ?_ _)); exact BK244.out)) : gb249 ≠ gb244)); clear BK244; clear HB; have BK244 := n0_; have HB := n1_; have BK249 := n2_; have GW249 := n3_; have GE249 := n4_; have NB244_249 := n5_; have NB249_244 := n6_; clear n0_ n1_ n2_ n3_ n4_ n5_ n6_; clear hb hbox hg; have hnb31 := NB249_244.out; have hnc31 := NB244_249.out; have hcz32_0 : w30.cell? ⟨gb249, 0, none⟩ = some (.bool false) := (blk_cell BK249.out 0).trans rfl; have hcz32_1 : w30.cell? ⟨gb249, 1, none⟩ = some (.int .u64 0) := (blk_cell BK249.out 1).trans rfl; have hcz32_2 : w30.cell? ⟨gb249, 2, none⟩ = some (.int .u64 0) := (blk_cell BK249.out 2).trans rfl; have hfz32_0 := blk_frozen BK249.out 0; have hfz32_1 := blk_frozen BK249.out 1; have hfz32_2 := blk_frozen BK249.out 2) | ((with_reducible refine gate_callee (f := 31) rfl ?_); refine goesL_ (some 21) rfl rfl Tryd.func31 (by kernel_rfl) rfl #[.string a0] rfl (by (try simp only [List.map_toArray, List.map_cons, List.map_nil]); first | done | rfl | (simp only [Ext.u64_u8]; done) | (simp only [Ext.u64_u8]; rfl) | (simp only [List.length_drop, List.length_take]; rfl)) ?_; (with_reducible refine (addr_six.calls k a0 t250 t251 t252 false _ ?side1 A14.out).mono ?_); (case side1 => refine Laid.below HLD.out ?_; repeat (first | (with_reducible first | exact Below.refl _ _ | exact HB.out | apply below_alloc | apply pw_below_drewN | apply below_drew1 | refine below_set ?_ (Aside0.out (by assumption))) | exact HB.out)); rintro e w33 ⟨rfl, hb⟩; refine ⟨_, rfl, ?_⟩; have n0_ := Aside0.mk (blk_below (g := gb244) (o := .cells #[.bool false, .int .u64 0, .int .u64 0] 24 (0, 0)) (by (with_reducible repeat (first | refine blk_drewN ?_ _ | refine blk_drew ?_ | refine blk_alloc ?_ _)); refine blk_far ?_ NB244_249.out _; (with_reducible repeat (first | refine blk_drewN ?_ _ | refine blk_drew ?_ | refine blk_alloc ?_ _)); refine blk_far ?_ NB244_249.out _; (with_reducible repeat (first | refine blk_drewN ?_ _ | refine blk_drew ?_ | refine blk_alloc ?_ _)); refine blk_far ?_ NB244_249.out _; (with_reducible repeat (first | refine blk_drewN ?_ _ | refine blk_drew ?_ | refine blk_alloc ?_ _)); exact BK244.out) hb); have n1_ := Aside0.mk (blk_below (g := gb249) (o := .cells #[.bool t245, .int .u64 t246, .int .u64 t247] 24 (0, 0)) (by (with_reducible repeat (first | refine blk_drewN ?_ _ | refine blk_drew ?_ | refine blk_alloc ?_ _)); refine blk_put (cs := #[.bool t245, .int .u64 t246, .int .u64 0]) ?_ 2 _ rfl; (with_reducible repeat (first | refine blk_drewN ?_ _ | refine blk_drew ?_ | refine blk_alloc ?_ _)); refine blk_put (cs := #[.bool t245, .int .u64 0, .int .u64 0]) ?_ 1 _ rfl; (with_reducible repeat (first | refine blk_drewN ?_ _ | refine blk_drew ?_ | refine blk_alloc ?_ _)); refine blk_put (cs := #[.bool false, .int .u64 0, .int .u64 0]) ?_ 0 _ rfl; (with_reducible repeat (first | refine blk_drewN ?_ _ | refine blk_drew ?_ | refine blk_alloc ?_ _)); exact BK249.out) hb); have n2_ := Aside0.mk (below_step (by repeat (first | (with_reducible first | exact HB.out | apply below_alloc | apply pw_below_drewN | apply below_drew1 | refine below_set ?_ GE244.out | refine below_set ?_ GE249.out) | exact HB.out)) hb); clear BK244; clear BK249; clear HB; have BK244 := n0_; have BK249 := n1_; have HB := n2_; clear n0_ n1_ n2_; (try clear hb); (try clear hb2); (try clear hk); (try clear hi)) | ((with_reducible refine gate_dst (N := 6) rfl ?_); refine box_event ?hg (N := 6) ?hd (cs := #[.bool false, .int .u64 0, .int .u64 0]) (t := 24) ?hr ?_; (case hd => rfl); (case hg => rfl); (case hr => first | (go_simp; done) | (go_simp; rfl)); intro gb254 hg w34 hbox hb; have n0_ := Aside0.mk (blk_below (g := gb244) (o := .cells #[.bool false, .int .u64 0, .int .u64 0] 24 (0, 0)) (by (with_reducible repeat (first | refine blk_drewN ?_ _ | refine blk_drew ?_ | refine blk_alloc ?_ _)); exact BK244.out) hb); have n1_ := Aside0.mk (blk_below (g := gb249) (o := .cells #[.bool t245, .int .u64 t246, .int .u64 t247] 24 (0, 0)) (by (with_reducible repeat (first | refine blk_drewN ?_ _ | refine blk_drew ?_ | refine blk_alloc ?_ _)); exact BK249.out) hb); have n2_ := Aside0.mk (below_step (by repeat (first | (with_reducible first | exact HB.out | apply below_alloc | apply pw_below_drewN | apply below_drew1 | refine below_set ?_ GE244.out | refine below_set ?_ GE249.out) | exact HB.out)) hb); have n3_ := Aside0.mk (hbox); have n4_ := Aside0.mk ((by rw [hg]; exact (below_size (by repeat (first | (with_reducible first | exact HB.out | apply below_alloc | apply pw_below_drewN | apply below_drew1 | refine below_set ?_ GE244.out | refine below_set ?_ GE249.out) | exact HB.out))) : w.heap.size ≤ gb254)); have n5_ := Aside0.mk ((by rw [hg]; exact (below_size (by repeat (first | (with_reducible first | exact HB.out | apply below_alloc | apply pw_below_drewN | apply below_drew1 | refine below_set ?_ GE244.out | refine below_set ?_ GE249.out) | exact HB.out))) : w.heap.size ≤ gb254)); have n6_ := Aside0.mk ((by rw [hg]; exact Nat.ne_of_lt (blk_lt (g := gb244) (o := .cells #[.bool false, .int .u64 0, .int .u64 0] 24 (0, 0)) (by (with_reducible repeat (first | refine blk_drewN ?_ _ | refine blk_drew ?_ | refine blk_alloc ?_ _)); exact BK244.out)) : gb244 ≠ gb254)); have n7_ := Aside0.mk ((by rw [hg]; exact Nat.ne_of_gt (blk_lt (g := gb244) (o := .cells #[.bool false, .int .u64 0, .int .u64 0] 24 (0, 0)) (by (with_reducible repeat (first | refine blk_drewN ?_ _ | refine blk_drew ?_ | refine blk_alloc ?_ _)); exact BK244.out)) : gb254 ≠ gb244)); have n8_ := Aside0.mk ((by rw [hg]; exact Nat.ne_of_lt (blk_lt (g := gb249) (o := .cells #[.bool t245, .int .u64 t246, .int .u64 t247] 24 (0, 0)) (by (with_reducible repeat (first | refine blk_drewN ?_ _ | refine blk_drew ?_ | refine blk_alloc ?_ _)); exact BK249.out)) : gb249 ≠ gb254)); have n9_ := Aside0.mk ((by rw [hg]; exact Nat.ne_of_gt (blk_lt (g := gb249) (o := .cells #[.bool t245, .int .u64 t246, .int .u64 t247] 24 (0, 0)) (by (with_reducible repeat (first | refine blk_drewN ?_ _ | refine blk_drew ?_ | refine blk_alloc ?_ _)); exact BK249.out)) : gb254 ≠ gb249)); clear BK244; clear BK249; clear HB; have BK244 := n0_; have BK249 := n1_; have HB := n2_; have BK254 := n3_; have GW254 := n4_; have GE254 := n5_; have NB244_254 := n6_; have NB254_244 := n7_; have NB249_254 := n8_; have NB254_249 := n9_; clear n0_ n1_ n2_ n3_ n4_ n5_ n6_ n7_ n8_ n9_; clear hb hbox hg; have hnb35 := NB254_244.out; have hnc35 := NB244_254.out; have hnb36 := NB254_249.out; have hnc36 := NB249_254.out; have hcz37_0 : w34.cell? ⟨gb254, 0, none⟩ = some (.bool false) := (blk_cell BK254.out 0).trans rfl; have hcz37_1 : w34.cell? ⟨gb254, 1, none⟩ = some (.int .u64 0) := (blk_cell BK254.out 1).trans rfl; have hcz37_2 : w34.cell? ⟨gb254, 2, none⟩ = some (.int .u64 0) := (blk_cell BK254.out 2).trans rfl; have hfz37_0 := blk_frozen BK254.out 0; have hfz37_1 := blk_frozen BK254.out 1; have hfz37_2 := blk_frozen BK254.out 2; have hcz38_0 : w34.cell? ⟨gb244, 0, none⟩ = some (.bool false) := (blk_cell BK244.out 0).trans rfl; have hcz38_1 : w34.cell? ⟨gb244, 1, none⟩ = some (.int .u64 0) := (blk_cell BK244.out 1).trans rfl; have hcz38_2 : w34.cell? ⟨gb244, 2, none⟩ = some (.int .u64 0) := (blk_cell BK244.out 2).trans rfl; have hfz38_0 := blk_frozen BK244.out 0; have hfz38_1 := blk_frozen BK244.out 1; have hfz38_2 := blk_frozen BK244.out 2) | ((with_reducible refine gate_store (t := 24) (p := 2) rfl ?_); refine store_event (t := 24) (p := 2) (v := ?vo_w39) (w1 := ((((((w34.setCell ⟨gb254, 0, none⟩ (.bool t250)).setCell ⟨gb254, 1, none⟩ (.int .u64 t251)).setCell ⟨gb254, 2, none⟩ (.int .u64 t252)).setCell ⟨gb244, 0, none⟩ (.bool false)).setCell ⟨gb244, 1, none⟩ (.int .u64 0)).setCell ⟨gb244, 2, none⟩ (.int .u64 0))) ?hg ?ho ?hn ?hr ?_; (case ho => rfl); (case hg => rfl); (case hn => rfl); (case hr => first | (go_simp; done) | (go_simp; rfl)); intro w39 hw; have n0_ : Aside0 (w39.heap[gb244]? = some (.cells #[.bool false, .int .u64 0, .int .u64 0] 24 (0, 0))) := ⟨(by rw [hw]; exact (by (with_reducible repeat (first | refine blk_drewN ?_ _ | refine blk_drew ?_ | refine blk_alloc ?_ _)); refine blk_put (cs := #[.bool false, .int .u64 0, .int .u64 0]) ?_ 2 _ rfl; (with_reducible repeat (first | refine blk_drewN ?_ _ | refine blk_drew ?_ | refine blk_alloc ?_ _)); refine blk_put (cs := #[.bool false, .int .u64 0, .int .u64 0]) ?_ 1 _ rfl; (with_reducible repeat (first | refine blk_drewN ?_ _ | refine blk_drew ?_ | refine blk_alloc ?_ _)); refine blk_put (cs := #[.bool false, .int .u64 0, .int .u64 0]) ?_ 0 _ rfl; (with_reducible repeat (first | refine blk_drewN ?_ _ | refine blk_drew ?_ | refine blk_alloc ?_ _)); refine blk_far ?_ NB244_254.out _; (with_reducible repeat (first | refine blk_drewN ?_ _ | refine blk_drew ?_ | refine blk_alloc ?_ _)); refine blk_far ?_ NB244_254.out _; (with_reducible repeat (first | refine blk_drewN ?_ _ | refine blk_drew ?_ | refine blk_alloc ?_ _)); refine blk_far ?_ NB244_254.out _; (with_reducible repeat (first | refine blk_drewN ?_ _ | refine blk_drew ?_ | refine blk_alloc ?_ _)); exact BK244.out))⟩; have n1_ : Aside0 (w39.heap[gb249]? = some (.cells #[.bool t245, .int .u64 t246, .int .u64 t247] 24 (0, 0))) := ⟨(by rw [hw]; exact (by (with_reducible repeat (first | refine blk_drewN ?_ _ | refine blk_drew ?_ | refine blk_alloc ?_ _)); refine blk_far ?_ NB249_244.out _; (with_reducible repeat (first | refine blk_drewN ?_ _ | refine blk_drew ?_ | refine blk_alloc ?_ _)); refine blk_far ?_ NB249_244.out _; (with_reducible repeat (first | refine blk_drewN ?_ _ | refine blk_drew ?_ | refine blk_alloc ?_ _)); refine blk_far ?_ NB249_244.out _; (with_reducible repeat (first | refine blk_drewN ?_ _ | refine blk_drew ?_ | refine blk_alloc ?_ _)); refine blk_far ?_ NB249_254.out _; (with_reducible repeat (first | refine blk_drewN ?_ _ | refine blk_drew ?_ | refine blk_alloc ?_ _)); refine blk_far ?_ NB249_254.out _; (with_reducible repeat (first | refine blk_drewN ?_ _ | refine blk_drew ?_ | refine blk_alloc ?_ _)); refine blk_far ?_ NB249_254.out _; (with_reducible repeat (first | refine blk_drewN ?_ _ | refine blk_drew ?_ | refine blk_alloc ?_ _)); exact BK249.out))⟩; have n2_ : Aside0 (w39.heap[gb254]? = some (.cells #[.bool t250, .int .u64 t251, .int .u64 t252] 24 (0, 0))) := ⟨(by rw [hw]; exact (by (with_reducible repeat (first | refine blk_drewN ?_ _ | refine blk_drew ?_ | refine blk_alloc ?_ _)); refine blk_far ?_ NB254_244.out _; (with_reducible repeat (first | refine blk_drewN ?_ _ | refine blk_drew ?_ | refine blk_alloc ?_ _)); refine blk_far ?_ NB254_244.out _; (with_reducible repeat (first | refine blk_drewN ?_ _ | refine blk_drew ?_ | refine blk_alloc ?_ _)); refine blk_far ?_ NB254_244.out _; (with_reducible repeat (first | refine blk_drewN ?_ _ | refine blk_drew ?_ | refine blk_alloc ?_ _)); refine blk_put (cs := #[.bool t250, .int .u64 t251, .int .u64 0]) ?_ 2 _ rfl; (with_reducible repeat (first | refine blk_drewN ?_ _ | refine blk_drew ?_ | refine blk_alloc ?_ _)); refine blk_put (cs := #[.bool t250, .int .u64 0, .int .u64 0]) ?_ 1 _ rfl; (with_reducible repeat (first | refine blk_drewN ?_ _ | refine blk_drew ?_ | refine blk_alloc ?_ _)); refine blk_put (cs := #[.bool false, .int .u64 0, .int .u64 0]) ?_ 0 _ rfl; (with_reducible repeat (first | refine blk_drewN ?_ _ | refine blk_drew ?_ | refine blk_alloc ?_ _)); exact BK254.out))⟩; have n3_ : Aside0 (Below w.heap.size w w39) := ⟨(by rw [hw]; exact (by repeat (first | (with_reducible first | exact HB.out | apply below_alloc | apply pw_below_drewN | apply below_drew1 | refine below_set ?_ GE244.out | refine below_set ?_ GE249.out | refine below_set ?_ GE254.out) | exact HB.out)))⟩; clear hw; clear BK244; clear BK249; clear BK254; clear HB; have BK244 := n0_; have BK249 := n1_; have BK254 := n2_; have HB := n3_; clear n0_ n1_ n2_ n3_))
        refine bodyPost_ret (results_ct rfl _ _ gb244 24 #[.bool false, .int .u64 0, .int .u64 0] (0, 0) _ rfl (by (with_reducible repeat (first | refine blk_drewN ?_ _ | refine blk_drew ?_ | refine blk_alloc ?_ _)); exact BK244.out) Tryd.underlying24 rfl (by kernel_rfl)) rfl ?_
        exact ⟨by first | rfl | (simp [errW_none, errW_some] <;> rfl) | (simp [*, errW_none, errW_some] <;> rfl), by repeat (first | (with_reducible first | exact HB.out | apply below_alloc | apply pw_below_drewN | apply below_drew1 | refine below_set ?_ GE244.out | refine below_set ?_ GE249.out | refine below_set ?_ GE254.out) | exact HB.out)⟩

/-! ### strings_Join: function 32 (given) -/
def strings_Join.f (l0 : List ByteArray) (a1 : ByteArray) : Option ByteArray := if l0.length ≤ 140737488355328 then (if (Lib.join (l0.map (·.data.toList)) a1.data.toList).length ≤ 140737488355328 then some (⟨(Lib.join (l0.map (·.data.toList)) a1.data.toList).toArray⟩ : ByteArray) else none) else none
theorem cell_spot {w : World} {a : Addr} {v : Value} (h : w.cell? a = some v) : a.spot = none ∧ a.block < w.heap.size := by
  unfold World.cell? at h
  cases hb : w.heap[a.block]? with
  | none => rw [hb] at h; cases h
  | some o =>
    rw [hb] at h
    have hlt := (Array.getElem?_eq_some_iff.1 hb).1
    cases o with
    | cells c t x =>
      cases hs : a.spot with
      | none => exact ⟨rfl, hlt⟩
      | some s => rw [hs] at h; simp at h
    | _ => cases h
theorem strings_Join.calls (A0 : Option Addr) (c0 : Nat) (l0 : List ByteArray) (a1 : ByteArray) (r : ByteArray) (w : World) (hr0 : Kd.C Kd.string w A0 l0.length l0) (hc0 : l0.length ≤ c0) (h : strings_Join.f l0 a1 = some r) :
    Calls Tryd.prog 32 #[.slice A0 l0.length c0, .string a1] w fun e w' => e = .returned (.string r) ∧ Below w.heap.size w w' := by
  unfold strings_Join.f at h
  by_cases h0 : l0.length ≤ 140737488355328
  · rw [if_pos h0] at h
    by_cases h1 : (Lib.join (l0.map (·.data.toList)) a1.data.toList).length ≤ 140737488355328
    · rw [if_pos h1] at h
      obtain rfl := Option.some.inj h
      cases l0 with
      | nil =>
        refine (Tryd.strings_Join_none A0 c0 a1 w).mono ?_
        rintro e w' ⟨rfl, rfl⟩
        exact ⟨rfl, Below.refl _ _⟩
      | cons x t =>
        obtain ⟨ad, rfl, hc⟩ := hr0.2.2 (by simp)
        have hcell : ∀ (j : Nat) p, (x :: t)[j]? = some p → w.cell? (ad.add j) = some (.string p) := by
          intro j p hp
          obtain ⟨c, _, hr, hcell⟩ := hc j p hp
          have := hcell 0 (.string p) (by rw [show c = [Value.string p] from hr]; rfl)
          simpa [Kd.string, Kd.scalar] using this
        obtain ⟨hsp, hlt⟩ := cell_spot (hcell 0 x rfl)
        obtain ⟨bk, o, sp⟩ := ad
        have hsp' : sp = none := by simpa [Addr.add] using hsp
        subst hsp'
        have hlt' : bk < w.heap.size := by simpa [Addr.add] using hlt
        refine (Tryd.strings_Join bk o c0 (x :: t) a1 w (fun j p hp => ?_) hlt' h0 hc0 h1).mono ?_
        · have := hcell j p hp
          rwa [Lib.add_plain] at this
        · rintro e w' ⟨rfl, hb⟩
          exact ⟨rfl, hb⟩
    · rw [if_neg h1] at h; cases h
  · rw [if_neg h0] at h; cases h


end Go.Proofs.YtmkgjibmfabbdabDoor.PA
