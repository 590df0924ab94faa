/-
  The reference's Valid of data, walked: it returns validS. Conditions: what the functions that it calls return (RSp), strings of the reach.
-/
import Derived.Test.YtaehonmfoanloaaDoorRvSp
import Derived.Deep.RegionHeld3
namespace Go.Proofs.YtaehonmfoanloaaDoor.Hand
open Go.RowKit Go.Proofs.YtaehonmfoanloaaDoorW.PrintWords Go.Proofs.YtaehonmfoanloaaDoor.RdW
set_option maxHeartbeats 8000000
set_option maxRecDepth 100000
set_option linter.all false
attribute [local go_sem high] eqD
theorem rv2 (S : RSp) (x : D) (hs1 : x.host.size ≤ 100000) (hs2 : x.mail.size ≤ 100000) (hb0 : 0 ≤ x.bits) (hb1 : x.bits < 18446744073709551616) (w : World) :
    Calls Tryd.prog 15 #[.int .i64 2, x.v] w fun e w' => e = .returned (.bool (validS 2 x)) ∧ Below w.heap.size w w' := by
  have hu := Tryd.underlying26
  have hv := Tryd.underlying24
  obtain ⟨v6, hi, lo, host, mail, text, a, b, c, d, e, f, bits⟩ := x
  have HO : Aside0 (Own w (w.alloc (.cells #[.bool v6, .int .u64 hi, .int .u64 lo, .string host, .string mail, .string text, .int .i64 a, .int .i64 b, .int .i64 c, .int .i64 d, .int .i64 e, .int .i64 f, .int .u64 bits] 26)) #[.bool v6, .int .u64 hi, .int .u64 lo, .string host, .string mail, .string text, .int .i64 a, .int .i64 b, .int .i64 c, .int .i64 d, .int .i64 e, .int .i64 f, .int .u64 bits] 26) := ⟨Own.new _ _ _⟩
  have HUS : Aside0 (∀ w' : World, Calls Tryd.prog 30 #[.int .i64 2, .agg #[.bool v6, .int .u64 hi, .int .u64 lo, .string host, .string mail, .string text, .int .i64 a, .int .i64 b, .int .i64 c, .int .i64 d, .int .i64 e, .int .i64 f, .int .u64 bits]] w' fun e w1 => e = .returned (.agg #[.bool false, .int .u64 0, .int .u64 0, .string host, .string ⟨#[]⟩, .string ⟨#[]⟩, .int .i64 0, .int .i64 0, .int .i64 0, .int .i64 0, .int .i64 0, .int .i64 0, .int .u64 0]) ∧ Below w'.heap.size w' w1) := ⟨fun w' => used_sp 2 (by unfold KT; omega) ⟨v6, hi, lo, host, mail, text, a, b, c, d, e, f, bits⟩ w'⟩
  show Calls Tryd.prog 15 #[_, .agg #[.bool v6, .int .u64 hi, .int .u64 lo, .string host, .string mail, .string text, .int .i64 a, .int .i64 b, .int .i64 c, .int .i64 d, .int .i64 e, .int .i64 f, .int .u64 bits]] w _
  dsimp only at hs1 hs2 hb0 hb1
  obtain ⟨r, hr⟩ : ∃ r, validS 2 ⟨v6, hi, lo, host, mail, text, a, b, c, d, e, f, bits⟩ = r := ⟨_, rfl⟩
  rw [hr]
  have HR := Aside0.mk (show (D.eqb ⟨false, 0, 0, host, ⟨#[]⟩, ⟨#[]⟩, 0, 0, 0, 0, 0, 0, 0⟩ ⟨v6, hi, lo, host, mail, text, a, b, c, d, e, f, bits⟩ && fieldsOk 2 ⟨v6, hi, lo, host, mail, text, a, b, c, d, e, f, bits⟩) = r from hr)
  clear hr
  cases h0 : D.eqb ⟨false, 0, 0, host, ⟨#[]⟩, ⟨#[]⟩, 0, 0, 0, 0, 0, 0, 0⟩ ⟨v6, hi, lo, host, mail, text, a, b, c, d, e, f, bits⟩
  case' true =>
    cases h1 : hostB host
  all_goals
    go_enter Tryd.func15, Tryd.ntmps15
    go_wp2_with fail
    (first
      | (go_region_held3 (fun w' => (∀ o, w'.cell? ⟨w.heap.size, o, none⟩ = (#[.bool v6, .int .u64 hi, .int .u64 lo, .string host, .string mail, .string text, .int .i64 a, .int .i64 b, .int .i64 c, .int .i64 d, .int .i64 e, .int .i64 f, .int .u64 bits] : Array Value)[o]?) ∧ Own w w' #[.bool v6, .int .u64 hi, .int .u64 lo, .string host, .string mail, .string text, .int .i64 a, .int .i64 b, .int .i64 c, .int .i64 d, .int .i64 e, .int .i64 f, .int .u64 bits] 26) ((first | assumption | exact Own.s HO.out.drew | exact Own.s (Own.call HO.out.drew hb) | exact Own.s (Own.call (And.right (by assumption)) hb))) (first | (go_at_call 29; (with_reducible refine (rknown_yes 2 (by unfold KT; omega) _).mono ?_); rintro e_ w_ ⟨rfl, rfl⟩) | (go_at_call 30; (with_reducible refine (HUS.out _).mono ?_); rintro e_ w1 ⟨rfl, hb⟩)))
      | fail "held")
    replace HO := Aside0.mk (And.right ‹(∀ o, World.cell? w1 ⟨w.heap.size, o, none⟩ = _) ∧ Own w w1 _ _›)
    clear hb
    obtain ⟨hc, hf⟩ := HO.out.cells
    go_wp2_with (first
      | (go_at_call 32; (with_reducible refine (S.host _ _ (by assumption) (by assumption) _).mono ?_); rintro e_ w2 ⟨rfl, hb⟩; (try clear hc hf); replace HO := Aside0.mk (HO.out.call hb); clear hb; obtain ⟨hc, hf⟩ := HO.out.cells)
      | (go_at_call 29; (with_reducible refine (S.known _ _ (by assumption) _).mono ?_); rintro e_ w2 ⟨rfl, hb⟩; (try clear hc hf); replace HO := Aside0.mk (HO.out.call hb); clear hb; obtain ⟨hc, hf⟩ := HO.out.cells)
      | (go_at_call 33; (with_reducible refine (S.serial _ _ (by assumption) _).mono ?_); rintro e_ w2 ⟨rfl, hb⟩; (try clear hc hf); replace HO := Aside0.mk (HO.out.call hb); clear hb; obtain ⟨hc, hf⟩ := HO.out.cells)
      | (go_at_call 34; (with_reducible refine (S.within _ _ _ (by assumption) _).mono ?_); rintro e_ w2 ⟨rfl, hb⟩; (try clear hc hf); replace HO := Aside0.mk (HO.out.call hb); clear hb; obtain ⟨hc, hf⟩ := HO.out.cells)
      | (go_at_call 35; (with_reducible refine (S.long _ _ (by assumption) _).mono ?_); rintro e_ w2 ⟨rfl, hb⟩; (try clear hc hf); replace HO := Aside0.mk (HO.out.call hb); clear hb; obtain ⟨hc, hf⟩ := HO.out.cells)
      | (go_at_call 31; (with_reducible refine (S.addr _ _ _ _ (by assumption) _).mono ?_); rintro e_ w2 ⟨rfl, hb⟩; (try clear hc hf); replace HO := Aside0.mk (HO.out.call hb); clear hb; obtain ⟨hc, hf⟩ := HO.out.cells)
      | (go_at_call 36; (with_reducible refine (S.name _ _ (by assumption) (by assumption) _).mono ?_); rintro e_ w2 ⟨rfl, hb⟩; (try clear hc hf); replace HO := Aside0.mk (HO.out.call hb); clear hb; obtain ⟨hc, hf⟩ := HO.out.cells)
      | (go_at_call 37; (with_reducible refine (S.all _ _ (by assumption) (by assumption) (by assumption) _).mono ?_); rintro e_ w2 ⟨rfl, hb⟩; (try clear hc hf); replace HO := Aside0.mk (HO.out.call hb); clear hb; obtain ⟨hc, hf⟩ := HO.out.cells))
    go_ret
    exact ⟨ret_bool (by first | (have h_ := HR.out; simp [fieldsOk, *] at h_; simp [h_]; done) | (have h_ := HR.out; simp [fieldsOk, *] at h_; simp [*]; done)), HO.out.below⟩
theorem rv5 (S : RSp) (x : D) (hs1 : x.host.size ≤ 100000) (hs2 : x.mail.size ≤ 100000) (hb0 : 0 ≤ x.bits) (hb1 : x.bits < 18446744073709551616) (w : World) :
    Calls Tryd.prog 15 #[.int .i64 5, x.v] w fun e w' => e = .returned (.bool (validS 5 x)) ∧ Below w.heap.size w w' := by
  have hu := Tryd.underlying26
  have hv := Tryd.underlying24
  obtain ⟨v6, hi, lo, host, mail, text, a, b, c, d, e, f, bits⟩ := x
  have HO : Aside0 (Own w (w.alloc (.cells #[.bool v6, .int .u64 hi, .int .u64 lo, .string host, .string mail, .string text, .int .i64 a, .int .i64 b, .int .i64 c, .int .i64 d, .int .i64 e, .int .i64 f, .int .u64 bits] 26)) #[.bool v6, .int .u64 hi, .int .u64 lo, .string host, .string mail, .string text, .int .i64 a, .int .i64 b, .int .i64 c, .int .i64 d, .int .i64 e, .int .i64 f, .int .u64 bits] 26) := ⟨Own.new _ _ _⟩
  have HUS : Aside0 (∀ w' : World, Calls Tryd.prog 30 #[.int .i64 5, .agg #[.bool v6, .int .u64 hi, .int .u64 lo, .string host, .string mail, .string text, .int .i64 a, .int .i64 b, .int .i64 c, .int .i64 d, .int .i64 e, .int .i64 f, .int .u64 bits]] w' fun e w1 => e = .returned (.agg #[.bool false, .int .u64 0, .int .u64 0, .string host, .string ⟨#[]⟩, .string ⟨#[]⟩, .int .i64 0, .int .i64 0, .int .i64 0, .int .i64 0, .int .i64 0, .int .i64 0, .int .u64 0]) ∧ Below w'.heap.size w' w1) := ⟨fun w' => used_sp 5 (by unfold KT; omega) ⟨v6, hi, lo, host, mail, text, a, b, c, d, e, f, bits⟩ w'⟩
  show Calls Tryd.prog 15 #[_, .agg #[.bool v6, .int .u64 hi, .int .u64 lo, .string host, .string mail, .string text, .int .i64 a, .int .i64 b, .int .i64 c, .int .i64 d, .int .i64 e, .int .i64 f, .int .u64 bits]] w _
  dsimp only at hs1 hs2 hb0 hb1
  obtain ⟨r, hr⟩ : ∃ r, validS 5 ⟨v6, hi, lo, host, mail, text, a, b, c, d, e, f, bits⟩ = r := ⟨_, rfl⟩
  rw [hr]
  have HR := Aside0.mk (show (D.eqb ⟨false, 0, 0, host, ⟨#[]⟩, ⟨#[]⟩, 0, 0, 0, 0, 0, 0, 0⟩ ⟨v6, hi, lo, host, mail, text, a, b, c, d, e, f, bits⟩ && fieldsOk 5 ⟨v6, hi, lo, host, mail, text, a, b, c, d, e, f, bits⟩) = r from hr)
  clear hr
  cases h0 : D.eqb ⟨false, 0, 0, host, ⟨#[]⟩, ⟨#[]⟩, 0, 0, 0, 0, 0, 0, 0⟩ ⟨v6, hi, lo, host, mail, text, a, b, c, d, e, f, bits⟩
  case' true =>
    cases h1 : hostB host
  all_goals
    go_enter Tryd.func15, Tryd.ntmps15
    go_wp2_with fail
    (first
      | (go_region_held3 (fun w' => (∀ o, w'.cell? ⟨w.heap.size, o, none⟩ = (#[.bool v6, .int .u64 hi, .int .u64 lo, .string host, .string mail, .string text, .int .i64 a, .int .i64 b, .int .i64 c, .int .i64 d, .int .i64 e, .int .i64 f, .int .u64 bits] : Array Value)[o]?) ∧ Own w w' #[.bool v6, .int .u64 hi, .int .u64 lo, .string host, .string mail, .string text, .int .i64 a, .int .i64 b, .int .i64 c, .int .i64 d, .int .i64 e, .int .i64 f, .int .u64 bits] 26) ((first | assumption | exact Own.s HO.out.drew | exact Own.s (Own.call HO.out.drew hb) | exact Own.s (Own.call (And.right (by assumption)) hb))) (first | (go_at_call 29; (with_reducible refine (rknown_yes 5 (by unfold KT; omega) _).mono ?_); rintro e_ w_ ⟨rfl, rfl⟩) | (go_at_call 30; (with_reducible refine (HUS.out _).mono ?_); rintro e_ w1 ⟨rfl, hb⟩)))
      | fail "held")
    replace HO := Aside0.mk (And.right ‹(∀ o, World.cell? w1 ⟨w.heap.size, o, none⟩ = _) ∧ Own w w1 _ _›)
    clear hb
    obtain ⟨hc, hf⟩ := HO.out.cells
    go_wp2_with (first
      | (go_at_call 32; (with_reducible refine (S.host _ _ (by assumption) (by assumption) _).mono ?_); rintro e_ w2 ⟨rfl, hb⟩; (try clear hc hf); replace HO := Aside0.mk (HO.out.call hb); clear hb; obtain ⟨hc, hf⟩ := HO.out.cells)
      | (go_at_call 29; (with_reducible refine (S.known _ _ (by assumption) _).mono ?_); rintro e_ w2 ⟨rfl, hb⟩; (try clear hc hf); replace HO := Aside0.mk (HO.out.call hb); clear hb; obtain ⟨hc, hf⟩ := HO.out.cells)
      | (go_at_call 33; (with_reducible refine (S.serial _ _ (by assumption) _).mono ?_); rintro e_ w2 ⟨rfl, hb⟩; (try clear hc hf); replace HO := Aside0.mk (HO.out.call hb); clear hb; obtain ⟨hc, hf⟩ := HO.out.cells)
      | (go_at_call 34; (with_reducible refine (S.within _ _ _ (by assumption) _).mono ?_); rintro e_ w2 ⟨rfl, hb⟩; (try clear hc hf); replace HO := Aside0.mk (HO.out.call hb); clear hb; obtain ⟨hc, hf⟩ := HO.out.cells)
      | (go_at_call 35; (with_reducible refine (S.long _ _ (by assumption) _).mono ?_); rintro e_ w2 ⟨rfl, hb⟩; (try clear hc hf); replace HO := Aside0.mk (HO.out.call hb); clear hb; obtain ⟨hc, hf⟩ := HO.out.cells)
      | (go_at_call 31; (with_reducible refine (S.addr _ _ _ _ (by assumption) _).mono ?_); rintro e_ w2 ⟨rfl, hb⟩; (try clear hc hf); replace HO := Aside0.mk (HO.out.call hb); clear hb; obtain ⟨hc, hf⟩ := HO.out.cells)
      | (go_at_call 36; (with_reducible refine (S.name _ _ (by assumption) (by assumption) _).mono ?_); rintro e_ w2 ⟨rfl, hb⟩; (try clear hc hf); replace HO := Aside0.mk (HO.out.call hb); clear hb; obtain ⟨hc, hf⟩ := HO.out.cells)
      | (go_at_call 37; (with_reducible refine (S.all _ _ (by assumption) (by assumption) (by assumption) _).mono ?_); rintro e_ w2 ⟨rfl, hb⟩; (try clear hc hf); replace HO := Aside0.mk (HO.out.call hb); clear hb; obtain ⟨hc, hf⟩ := HO.out.cells))
    go_ret
    exact ⟨ret_bool (by first | (have h_ := HR.out; simp [fieldsOk, *] at h_; simp [h_]; done) | (have h_ := HR.out; simp [fieldsOk, *] at h_; simp [*]; done)), HO.out.below⟩
theorem rv12 (S : RSp) (x : D) (hs1 : x.host.size ≤ 100000) (hs2 : x.mail.size ≤ 100000) (hb0 : 0 ≤ x.bits) (hb1 : x.bits < 18446744073709551616) (w : World) :
    Calls Tryd.prog 15 #[.int .i64 12, x.v] w fun e w' => e = .returned (.bool (validS 12 x)) ∧ Below w.heap.size w w' := by
  have hu := Tryd.underlying26
  have hv := Tryd.underlying24
  obtain ⟨v6, hi, lo, host, mail, text, a, b, c, d, e, f, bits⟩ := x
  have HO : Aside0 (Own w (w.alloc (.cells #[.bool v6, .int .u64 hi, .int .u64 lo, .string host, .string mail, .string text, .int .i64 a, .int .i64 b, .int .i64 c, .int .i64 d, .int .i64 e, .int .i64 f, .int .u64 bits] 26)) #[.bool v6, .int .u64 hi, .int .u64 lo, .string host, .string mail, .string text, .int .i64 a, .int .i64 b, .int .i64 c, .int .i64 d, .int .i64 e, .int .i64 f, .int .u64 bits] 26) := ⟨Own.new _ _ _⟩
  have HUS : Aside0 (∀ w' : World, Calls Tryd.prog 30 #[.int .i64 12, .agg #[.bool v6, .int .u64 hi, .int .u64 lo, .string host, .string mail, .string text, .int .i64 a, .int .i64 b, .int .i64 c, .int .i64 d, .int .i64 e, .int .i64 f, .int .u64 bits]] w' fun e w1 => e = .returned (.agg #[.bool false, .int .u64 0, .int .u64 0, .string host, .string ⟨#[]⟩, .string ⟨#[]⟩, .int .i64 0, .int .i64 0, .int .i64 0, .int .i64 0, .int .i64 0, .int .i64 0, .int .u64 0]) ∧ Below w'.heap.size w' w1) := ⟨fun w' => used_sp 12 (by unfold KT; omega) ⟨v6, hi, lo, host, mail, text, a, b, c, d, e, f, bits⟩ w'⟩
  show Calls Tryd.prog 15 #[_, .agg #[.bool v6, .int .u64 hi, .int .u64 lo, .string host, .string mail, .string text, .int .i64 a, .int .i64 b, .int .i64 c, .int .i64 d, .int .i64 e, .int .i64 f, .int .u64 bits]] w _
  dsimp only at hs1 hs2 hb0 hb1
  obtain ⟨r, hr⟩ : ∃ r, validS 12 ⟨v6, hi, lo, host, mail, text, a, b, c, d, e, f, bits⟩ = r := ⟨_, rfl⟩
  rw [hr]
  have HR := Aside0.mk (show (D.eqb ⟨false, 0, 0, host, ⟨#[]⟩, ⟨#[]⟩, 0, 0, 0, 0, 0, 0, 0⟩ ⟨v6, hi, lo, host, mail, text, a, b, c, d, e, f, bits⟩ && fieldsOk 12 ⟨v6, hi, lo, host, mail, text, a, b, c, d, e, f, bits⟩) = r from hr)
  clear hr
  cases h0 : D.eqb ⟨false, 0, 0, host, ⟨#[]⟩, ⟨#[]⟩, 0, 0, 0, 0, 0, 0, 0⟩ ⟨v6, hi, lo, host, mail, text, a, b, c, d, e, f, bits⟩
  case' true =>
    cases h1 : hostB host
  all_goals
    go_enter Tryd.func15, Tryd.ntmps15
    go_wp2_with fail
    (first
      | (go_region_held3 (fun w' => (∀ o, w'.cell? ⟨w.heap.size, o, none⟩ = (#[.bool v6, .int .u64 hi, .int .u64 lo, .string host, .string mail, .string text, .int .i64 a, .int .i64 b, .int .i64 c, .int .i64 d, .int .i64 e, .int .i64 f, .int .u64 bits] : Array Value)[o]?) ∧ Own w w' #[.bool v6, .int .u64 hi, .int .u64 lo, .string host, .string mail, .string text, .int .i64 a, .int .i64 b, .int .i64 c, .int .i64 d, .int .i64 e, .int .i64 f, .int .u64 bits] 26) ((first | assumption | exact Own.s HO.out.drew | exact Own.s (Own.call HO.out.drew hb) | exact Own.s (Own.call (And.right (by assumption)) hb))) (first | (go_at_call 29; (with_reducible refine (rknown_yes 12 (by unfold KT; omega) _).mono ?_); rintro e_ w_ ⟨rfl, rfl⟩) | (go_at_call 30; (with_reducible refine (HUS.out _).mono ?_); rintro e_ w1 ⟨rfl, hb⟩)))
      | fail "held")
    replace HO := Aside0.mk (And.right ‹(∀ o, World.cell? w1 ⟨w.heap.size, o, none⟩ = _) ∧ Own w w1 _ _›)
    clear hb
    obtain ⟨hc, hf⟩ := HO.out.cells
    go_wp2_with (first
      | (go_at_call 32; (with_reducible refine (S.host _ _ (by assumption) (by assumption) _).mono ?_); rintro e_ w2 ⟨rfl, hb⟩; (try clear hc hf); replace HO := Aside0.mk (HO.out.call hb); clear hb; obtain ⟨hc, hf⟩ := HO.out.cells)
      | (go_at_call 29; (with_reducible refine (S.known _ _ (by assumption) _).mono ?_); rintro e_ w2 ⟨rfl, hb⟩; (try clear hc hf); replace HO := Aside0.mk (HO.out.call hb); clear hb; obtain ⟨hc, hf⟩ := HO.out.cells)
      | (go_at_call 33; (with_reducible refine (S.serial _ _ (by assumption) _).mono ?_); rintro e_ w2 ⟨rfl, hb⟩; (try clear hc hf); replace HO := Aside0.mk (HO.out.call hb); clear hb; obtain ⟨hc, hf⟩ := HO.out.cells)
      | (go_at_call 34; (with_reducible refine (S.within _ _ _ (by assumption) _).mono ?_); rintro e_ w2 ⟨rfl, hb⟩; (try clear hc hf); replace HO := Aside0.mk (HO.out.call hb); clear hb; obtain ⟨hc, hf⟩ := HO.out.cells)
      | (go_at_call 35; (with_reducible refine (S.long _ _ (by assumption) _).mono ?_); rintro e_ w2 ⟨rfl, hb⟩; (try clear hc hf); replace HO := Aside0.mk (HO.out.call hb); clear hb; obtain ⟨hc, hf⟩ := HO.out.cells)
      | (go_at_call 31; (with_reducible refine (S.addr _ _ _ _ (by assumption) _).mono ?_); rintro e_ w2 ⟨rfl, hb⟩; (try clear hc hf); replace HO := Aside0.mk (HO.out.call hb); clear hb; obtain ⟨hc, hf⟩ := HO.out.cells)
      | (go_at_call 36; (with_reducible refine (S.name _ _ (by assumption) (by assumption) _).mono ?_); rintro e_ w2 ⟨rfl, hb⟩; (try clear hc hf); replace HO := Aside0.mk (HO.out.call hb); clear hb; obtain ⟨hc, hf⟩ := HO.out.cells)
      | (go_at_call 37; (with_reducible refine (S.all _ _ (by assumption) (by assumption) (by assumption) _).mono ?_); rintro e_ w2 ⟨rfl, hb⟩; (try clear hc hf); replace HO := Aside0.mk (HO.out.call hb); clear hb; obtain ⟨hc, hf⟩ := HO.out.cells))
    go_ret
    exact ⟨ret_bool (by first | (have h_ := HR.out; simp [fieldsOk, *] at h_; simp [h_]; done) | (have h_ := HR.out; simp [fieldsOk, *] at h_; simp [*]; done)), HO.out.below⟩
theorem rv39 (S : RSp) (x : D) (hs1 : x.host.size ≤ 100000) (hs2 : x.mail.size ≤ 100000) (hb0 : 0 ≤ x.bits) (hb1 : x.bits < 18446744073709551616) (w : World) :
    Calls Tryd.prog 15 #[.int .i64 39, x.v] w fun e w' => e = .returned (.bool (validS 39 x)) ∧ Below w.heap.size w w' := by
  have hu := Tryd.underlying26
  have hv := Tryd.underlying24
  obtain ⟨v6, hi, lo, host, mail, text, a, b, c, d, e, f, bits⟩ := x
  have HO : Aside0 (Own w (w.alloc (.cells #[.bool v6, .int .u64 hi, .int .u64 lo, .string host, .string mail, .string text, .int .i64 a, .int .i64 b, .int .i64 c, .int .i64 d, .int .i64 e, .int .i64 f, .int .u64 bits] 26)) #[.bool v6, .int .u64 hi, .int .u64 lo, .string host, .string mail, .string text, .int .i64 a, .int .i64 b, .int .i64 c, .int .i64 d, .int .i64 e, .int .i64 f, .int .u64 bits] 26) := ⟨Own.new _ _ _⟩
  have HUS : Aside0 (∀ w' : World, Calls Tryd.prog 30 #[.int .i64 39, .agg #[.bool v6, .int .u64 hi, .int .u64 lo, .string host, .string mail, .string text, .int .i64 a, .int .i64 b, .int .i64 c, .int .i64 d, .int .i64 e, .int .i64 f, .int .u64 bits]] w' fun e w1 => e = .returned (.agg #[.bool false, .int .u64 0, .int .u64 0, .string host, .string ⟨#[]⟩, .string ⟨#[]⟩, .int .i64 0, .int .i64 0, .int .i64 0, .int .i64 0, .int .i64 0, .int .i64 0, .int .u64 0]) ∧ Below w'.heap.size w' w1) := ⟨fun w' => used_sp 39 (by unfold KT; omega) ⟨v6, hi, lo, host, mail, text, a, b, c, d, e, f, bits⟩ w'⟩
  show Calls Tryd.prog 15 #[_, .agg #[.bool v6, .int .u64 hi, .int .u64 lo, .string host, .string mail, .string text, .int .i64 a, .int .i64 b, .int .i64 c, .int .i64 d, .int .i64 e, .int .i64 f, .int .u64 bits]] w _
  dsimp only at hs1 hs2 hb0 hb1
  obtain ⟨r, hr⟩ : ∃ r, validS 39 ⟨v6, hi, lo, host, mail, text, a, b, c, d, e, f, bits⟩ = r := ⟨_, rfl⟩
  rw [hr]
  have HR := Aside0.mk (show (D.eqb ⟨false, 0, 0, host, ⟨#[]⟩, ⟨#[]⟩, 0, 0, 0, 0, 0, 0, 0⟩ ⟨v6, hi, lo, host, mail, text, a, b, c, d, e, f, bits⟩ && fieldsOk 39 ⟨v6, hi, lo, host, mail, text, a, b, c, d, e, f, bits⟩) = r from hr)
  clear hr
  cases h0 : D.eqb ⟨false, 0, 0, host, ⟨#[]⟩, ⟨#[]⟩, 0, 0, 0, 0, 0, 0, 0⟩ ⟨v6, hi, lo, host, mail, text, a, b, c, d, e, f, bits⟩
  case' true =>
    cases h1 : hostB host
  all_goals
    go_enter Tryd.func15, Tryd.ntmps15
    go_wp2_with fail
    (first
      | (go_region_held3 (fun w' => (∀ o, w'.cell? ⟨w.heap.size, o, none⟩ = (#[.bool v6, .int .u64 hi, .int .u64 lo, .string host, .string mail, .string text, .int .i64 a, .int .i64 b, .int .i64 c, .int .i64 d, .int .i64 e, .int .i64 f, .int .u64 bits] : Array Value)[o]?) ∧ Own w w' #[.bool v6, .int .u64 hi, .int .u64 lo, .string host, .string mail, .string text, .int .i64 a, .int .i64 b, .int .i64 c, .int .i64 d, .int .i64 e, .int .i64 f, .int .u64 bits] 26) ((first | assumption | exact Own.s HO.out.drew | exact Own.s (Own.call HO.out.drew hb) | exact Own.s (Own.call (And.right (by assumption)) hb))) (first | (go_at_call 29; (with_reducible refine (rknown_yes 39 (by unfold KT; omega) _).mono ?_); rintro e_ w_ ⟨rfl, rfl⟩) | (go_at_call 30; (with_reducible refine (HUS.out _).mono ?_); rintro e_ w1 ⟨rfl, hb⟩)))
      | fail "held")
    replace HO := Aside0.mk (And.right ‹(∀ o, World.cell? w1 ⟨w.heap.size, o, none⟩ = _) ∧ Own w w1 _ _›)
    clear hb
    obtain ⟨hc, hf⟩ := HO.out.cells
    go_wp2_with (first
      | (go_at_call 32; (with_reducible refine (S.host _ _ (by assumption) (by assumption) _).mono ?_); rintro e_ w2 ⟨rfl, hb⟩; (try clear hc hf); replace HO := Aside0.mk (HO.out.call hb); clear hb; obtain ⟨hc, hf⟩ := HO.out.cells)
      | (go_at_call 29; (with_reducible refine (S.known _ _ (by assumption) _).mono ?_); rintro e_ w2 ⟨rfl, hb⟩; (try clear hc hf); replace HO := Aside0.mk (HO.out.call hb); clear hb; obtain ⟨hc, hf⟩ := HO.out.cells)
      | (go_at_call 33; (with_reducible refine (S.serial _ _ (by assumption) _).mono ?_); rintro e_ w2 ⟨rfl, hb⟩; (try clear hc hf); replace HO := Aside0.mk (HO.out.call hb); clear hb; obtain ⟨hc, hf⟩ := HO.out.cells)
      | (go_at_call 34; (with_reducible refine (S.within _ _ _ (by assumption) _).mono ?_); rintro e_ w2 ⟨rfl, hb⟩; (try clear hc hf); replace HO := Aside0.mk (HO.out.call hb); clear hb; obtain ⟨hc, hf⟩ := HO.out.cells)
      | (go_at_call 35; (with_reducible refine (S.long _ _ (by assumption) _).mono ?_); rintro e_ w2 ⟨rfl, hb⟩; (try clear hc hf); replace HO := Aside0.mk (HO.out.call hb); clear hb; obtain ⟨hc, hf⟩ := HO.out.cells)
      | (go_at_call 31; (with_reducible refine (S.addr _ _ _ _ (by assumption) _).mono ?_); rintro e_ w2 ⟨rfl, hb⟩; (try clear hc hf); replace HO := Aside0.mk (HO.out.call hb); clear hb; obtain ⟨hc, hf⟩ := HO.out.cells)
      | (go_at_call 36; (with_reducible refine (S.name _ _ (by assumption) (by assumption) _).mono ?_); rintro e_ w2 ⟨rfl, hb⟩; (try clear hc hf); replace HO := Aside0.mk (HO.out.call hb); clear hb; obtain ⟨hc, hf⟩ := HO.out.cells)
      | (go_at_call 37; (with_reducible refine (S.all _ _ (by assumption) (by assumption) (by assumption) _).mono ?_); rintro e_ w2 ⟨rfl, hb⟩; (try clear hc hf); replace HO := Aside0.mk (HO.out.call hb); clear hb; obtain ⟨hc, hf⟩ := HO.out.cells))
    go_ret
    exact ⟨ret_bool (by first | (have h_ := HR.out; simp [fieldsOk, *] at h_; simp [h_]; done) | (have h_ := HR.out; simp [fieldsOk, *] at h_; simp [*]; done)), HO.out.below⟩
theorem rv15 (S : RSp) (x : D) (hs1 : x.host.size ≤ 100000) (hs2 : x.mail.size ≤ 100000) (hb0 : 0 ≤ x.bits) (hb1 : x.bits < 18446744073709551616) (w : World) :
    Calls Tryd.prog 15 #[.int .i64 15, x.v] w fun e w' => e = .returned (.bool (validS 15 x)) ∧ Below w.heap.size w w' := by
  have hu := Tryd.underlying26
  have hv := Tryd.underlying24
  obtain ⟨v6, hi, lo, host, mail, text, a, b, c, d, e, f, bits⟩ := x
  have HO : Aside0 (Own w (w.alloc (.cells #[.bool v6, .int .u64 hi, .int .u64 lo, .string host, .string mail, .string text, .int .i64 a, .int .i64 b, .int .i64 c, .int .i64 d, .int .i64 e, .int .i64 f, .int .u64 bits] 26)) #[.bool v6, .int .u64 hi, .int .u64 lo, .string host, .string mail, .string text, .int .i64 a, .int .i64 b, .int .i64 c, .int .i64 d, .int .i64 e, .int .i64 f, .int .u64 bits] 26) := ⟨Own.new _ _ _⟩
  have HUS : Aside0 (∀ w' : World, Calls Tryd.prog 30 #[.int .i64 15, .agg #[.bool v6, .int .u64 hi, .int .u64 lo, .string host, .string mail, .string text, .int .i64 a, .int .i64 b, .int .i64 c, .int .i64 d, .int .i64 e, .int .i64 f, .int .u64 bits]] w' fun e w1 => e = .returned (.agg #[.bool false, .int .u64 0, .int .u64 0, .string host, .string ⟨#[]⟩, .string ⟨#[]⟩, .int .i64 a, .int .i64 0, .int .i64 0, .int .i64 0, .int .i64 0, .int .i64 0, .int .u64 0]) ∧ Below w'.heap.size w' w1) := ⟨fun w' => used_sp 15 (by unfold KT; omega) ⟨v6, hi, lo, host, mail, text, a, b, c, d, e, f, bits⟩ w'⟩
  show Calls Tryd.prog 15 #[_, .agg #[.bool v6, .int .u64 hi, .int .u64 lo, .string host, .string mail, .string text, .int .i64 a, .int .i64 b, .int .i64 c, .int .i64 d, .int .i64 e, .int .i64 f, .int .u64 bits]] w _
  dsimp only at hs1 hs2 hb0 hb1
  obtain ⟨r, hr⟩ : ∃ r, validS 15 ⟨v6, hi, lo, host, mail, text, a, b, c, d, e, f, bits⟩ = r := ⟨_, rfl⟩
  rw [hr]
  have HR := Aside0.mk (show (D.eqb ⟨false, 0, 0, host, ⟨#[]⟩, ⟨#[]⟩, a, 0, 0, 0, 0, 0, 0⟩ ⟨v6, hi, lo, host, mail, text, a, b, c, d, e, f, bits⟩ && fieldsOk 15 ⟨v6, hi, lo, host, mail, text, a, b, c, d, e, f, bits⟩) = r from hr)
  clear hr
  cases h0 : D.eqb ⟨false, 0, 0, host, ⟨#[]⟩, ⟨#[]⟩, a, 0, 0, 0, 0, 0, 0⟩ ⟨v6, hi, lo, host, mail, text, a, b, c, d, e, f, bits⟩
  case' true =>
    cases h1 : hostB host
    case' true =>
      cases h2 : inB a 65535
  all_goals
    go_enter Tryd.func15, Tryd.ntmps15
    go_wp2_with fail
    (first
      | (go_region_held3 (fun w' => (∀ o, w'.cell? ⟨w.heap.size, o, none⟩ = (#[.bool v6, .int .u64 hi, .int .u64 lo, .string host, .string mail, .string text, .int .i64 a, .int .i64 b, .int .i64 c, .int .i64 d, .int .i64 e, .int .i64 f, .int .u64 bits] : Array Value)[o]?) ∧ Own w w' #[.bool v6, .int .u64 hi, .int .u64 lo, .string host, .string mail, .string text, .int .i64 a, .int .i64 b, .int .i64 c, .int .i64 d, .int .i64 e, .int .i64 f, .int .u64 bits] 26) ((first | assumption | exact Own.s HO.out.drew | exact Own.s (Own.call HO.out.drew hb) | exact Own.s (Own.call (And.right (by assumption)) hb))) (first | (go_at_call 29; (with_reducible refine (rknown_yes 15 (by unfold KT; omega) _).mono ?_); rintro e_ w_ ⟨rfl, rfl⟩) | (go_at_call 30; (with_reducible refine (HUS.out _).mono ?_); rintro e_ w1 ⟨rfl, hb⟩)))
      | fail "held")
    replace HO := Aside0.mk (And.right ‹(∀ o, World.cell? w1 ⟨w.heap.size, o, none⟩ = _) ∧ Own w w1 _ _›)
    clear hb
    obtain ⟨hc, hf⟩ := HO.out.cells
    go_wp2_with (first
      | (go_at_call 32; (with_reducible refine (S.host _ _ (by assumption) (by assumption) _).mono ?_); rintro e_ w2 ⟨rfl, hb⟩; (try clear hc hf); replace HO := Aside0.mk (HO.out.call hb); clear hb; obtain ⟨hc, hf⟩ := HO.out.cells)
      | (go_at_call 29; (with_reducible refine (S.known _ _ (by assumption) _).mono ?_); rintro e_ w2 ⟨rfl, hb⟩; (try clear hc hf); replace HO := Aside0.mk (HO.out.call hb); clear hb; obtain ⟨hc, hf⟩ := HO.out.cells)
      | (go_at_call 33; (with_reducible refine (S.serial _ _ (by assumption) _).mono ?_); rintro e_ w2 ⟨rfl, hb⟩; (try clear hc hf); replace HO := Aside0.mk (HO.out.call hb); clear hb; obtain ⟨hc, hf⟩ := HO.out.cells)
      | (go_at_call 34; (with_reducible refine (S.within _ _ _ (by assumption) _).mono ?_); rintro e_ w2 ⟨rfl, hb⟩; (try clear hc hf); replace HO := Aside0.mk (HO.out.call hb); clear hb; obtain ⟨hc, hf⟩ := HO.out.cells)
      | (go_at_call 35; (with_reducible refine (S.long _ _ (by assumption) _).mono ?_); rintro e_ w2 ⟨rfl, hb⟩; (try clear hc hf); replace HO := Aside0.mk (HO.out.call hb); clear hb; obtain ⟨hc, hf⟩ := HO.out.cells)
      | (go_at_call 31; (with_reducible refine (S.addr _ _ _ _ (by assumption) _).mono ?_); rintro e_ w2 ⟨rfl, hb⟩; (try clear hc hf); replace HO := Aside0.mk (HO.out.call hb); clear hb; obtain ⟨hc, hf⟩ := HO.out.cells)
      | (go_at_call 36; (with_reducible refine (S.name _ _ (by assumption) (by assumption) _).mono ?_); rintro e_ w2 ⟨rfl, hb⟩; (try clear hc hf); replace HO := Aside0.mk (HO.out.call hb); clear hb; obtain ⟨hc, hf⟩ := HO.out.cells)
      | (go_at_call 37; (with_reducible refine (S.all _ _ (by assumption) (by assumption) (by assumption) _).mono ?_); rintro e_ w2 ⟨rfl, hb⟩; (try clear hc hf); replace HO := Aside0.mk (HO.out.call hb); clear hb; obtain ⟨hc, hf⟩ := HO.out.cells))
    go_ret
    exact ⟨ret_bool (by first | (have h_ := HR.out; simp [fieldsOk, *] at h_; simp [h_]; done) | (have h_ := HR.out; simp [fieldsOk, *] at h_; simp [*]; done)), HO.out.below⟩
theorem rv16 (S : RSp) (x : D) (hs1 : x.host.size ≤ 100000) (hs2 : x.mail.size ≤ 100000) (hb0 : 0 ≤ x.bits) (hb1 : x.bits < 18446744073709551616) (w : World) :
    Calls Tryd.prog 15 #[.int .i64 16, x.v] w fun e w' => e = .returned (.bool (validS 16 x)) ∧ Below w.heap.size w w' := by
  have hu := Tryd.underlying26
  have hv := Tryd.underlying24
  obtain ⟨v6, hi, lo, host, mail, text, a, b, c, d, e, f, bits⟩ := x
  have HO : Aside0 (Own w (w.alloc (.cells #[.bool v6, .int .u64 hi, .int .u64 lo, .string host, .string mail, .string text, .int .i64 a, .int .i64 b, .int .i64 c, .int .i64 d, .int .i64 e, .int .i64 f, .int .u64 bits] 26)) #[.bool v6, .int .u64 hi, .int .u64 lo, .string host, .string mail, .string text, .int .i64 a, .int .i64 b, .int .i64 c, .int .i64 d, .int .i64 e, .int .i64 f, .int .u64 bits] 26) := ⟨Own.new _ _ _⟩
  have HUS : Aside0 (∀ w' : World, Calls Tryd.prog 30 #[.int .i64 16, .agg #[.bool v6, .int .u64 hi, .int .u64 lo, .string host, .string mail, .string text, .int .i64 a, .int .i64 b, .int .i64 c, .int .i64 d, .int .i64 e, .int .i64 f, .int .u64 bits]] w' fun e w1 => e = .returned (.agg #[.bool false, .int .u64 0, .int .u64 0, .string ⟨#[]⟩, .string ⟨#[]⟩, .string text, .int .i64 0, .int .i64 0, .int .i64 0, .int .i64 0, .int .i64 0, .int .i64 0, .int .u64 0]) ∧ Below w'.heap.size w' w1) := ⟨fun w' => used_sp 16 (by unfold KT; omega) ⟨v6, hi, lo, host, mail, text, a, b, c, d, e, f, bits⟩ w'⟩
  show Calls Tryd.prog 15 #[_, .agg #[.bool v6, .int .u64 hi, .int .u64 lo, .string host, .string mail, .string text, .int .i64 a, .int .i64 b, .int .i64 c, .int .i64 d, .int .i64 e, .int .i64 f, .int .u64 bits]] w _
  dsimp only at hs1 hs2 hb0 hb1
  obtain ⟨r, hr⟩ : ∃ r, validS 16 ⟨v6, hi, lo, host, mail, text, a, b, c, d, e, f, bits⟩ = r := ⟨_, rfl⟩
  rw [hr]
  have HR := Aside0.mk (show (D.eqb ⟨false, 0, 0, ⟨#[]⟩, ⟨#[]⟩, text, 0, 0, 0, 0, 0, 0, 0⟩ ⟨v6, hi, lo, host, mail, text, a, b, c, d, e, f, bits⟩ && fieldsOk 16 ⟨v6, hi, lo, host, mail, text, a, b, c, d, e, f, bits⟩) = r from hr)
  clear hr
  have hT : (text.size : Int) ≤ 255 ↔ text.size ≤ 255 := by omega
  cases h0 : D.eqb ⟨false, 0, 0, ⟨#[]⟩, ⟨#[]⟩, text, 0, 0, 0, 0, 0, 0, 0⟩ ⟨v6, hi, lo, host, mail, text, a, b, c, d, e, f, bits⟩
  case' true =>
    cases h1 : decide (text.size ≤ 255)
  all_goals
    go_enter Tryd.func15, Tryd.ntmps15
    go_wp2_with fail
    (first
      | (go_region_held3 (fun w' => (∀ o, w'.cell? ⟨w.heap.size, o, none⟩ = (#[.bool v6, .int .u64 hi, .int .u64 lo, .string host, .string mail, .string text, .int .i64 a, .int .i64 b, .int .i64 c, .int .i64 d, .int .i64 e, .int .i64 f, .int .u64 bits] : Array Value)[o]?) ∧ Own w w' #[.bool v6, .int .u64 hi, .int .u64 lo, .string host, .string mail, .string text, .int .i64 a, .int .i64 b, .int .i64 c, .int .i64 d, .int .i64 e, .int .i64 f, .int .u64 bits] 26) ((first | assumption | exact Own.s HO.out.drew | exact Own.s (Own.call HO.out.drew hb) | exact Own.s (Own.call (And.right (by assumption)) hb))) (first | (go_at_call 29; (with_reducible refine (rknown_yes 16 (by unfold KT; omega) _).mono ?_); rintro e_ w_ ⟨rfl, rfl⟩) | (go_at_call 30; (with_reducible refine (HUS.out _).mono ?_); rintro e_ w1 ⟨rfl, hb⟩)))
      | fail "held")
    replace HO := Aside0.mk (And.right ‹(∀ o, World.cell? w1 ⟨w.heap.size, o, none⟩ = _) ∧ Own w w1 _ _›)
    clear hb
    obtain ⟨hc, hf⟩ := HO.out.cells
    go_wp2_with (first
      | (go_at_call 32; (with_reducible refine (S.host _ _ (by assumption) (by assumption) _).mono ?_); rintro e_ w2 ⟨rfl, hb⟩; (try clear hc hf); replace HO := Aside0.mk (HO.out.call hb); clear hb; obtain ⟨hc, hf⟩ := HO.out.cells)
      | (go_at_call 29; (with_reducible refine (S.known _ _ (by assumption) _).mono ?_); rintro e_ w2 ⟨rfl, hb⟩; (try clear hc hf); replace HO := Aside0.mk (HO.out.call hb); clear hb; obtain ⟨hc, hf⟩ := HO.out.cells)
      | (go_at_call 33; (with_reducible refine (S.serial _ _ (by assumption) _).mono ?_); rintro e_ w2 ⟨rfl, hb⟩; (try clear hc hf); replace HO := Aside0.mk (HO.out.call hb); clear hb; obtain ⟨hc, hf⟩ := HO.out.cells)
      | (go_at_call 34; (with_reducible refine (S.within _ _ _ (by assumption) _).mono ?_); rintro e_ w2 ⟨rfl, hb⟩; (try clear hc hf); replace HO := Aside0.mk (HO.out.call hb); clear hb; obtain ⟨hc, hf⟩ := HO.out.cells)
      | (go_at_call 35; (with_reducible refine (S.long _ _ (by assumption) _).mono ?_); rintro e_ w2 ⟨rfl, hb⟩; (try clear hc hf); replace HO := Aside0.mk (HO.out.call hb); clear hb; obtain ⟨hc, hf⟩ := HO.out.cells)
      | (go_at_call 31; (with_reducible refine (S.addr _ _ _ _ (by assumption) _).mono ?_); rintro e_ w2 ⟨rfl, hb⟩; (try clear hc hf); replace HO := Aside0.mk (HO.out.call hb); clear hb; obtain ⟨hc, hf⟩ := HO.out.cells)
      | (go_at_call 36; (with_reducible refine (S.name _ _ (by assumption) (by assumption) _).mono ?_); rintro e_ w2 ⟨rfl, hb⟩; (try clear hc hf); replace HO := Aside0.mk (HO.out.call hb); clear hb; obtain ⟨hc, hf⟩ := HO.out.cells)
      | (go_at_call 37; (with_reducible refine (S.all _ _ (by assumption) (by assumption) (by assumption) _).mono ?_); rintro e_ w2 ⟨rfl, hb⟩; (try clear hc hf); replace HO := Aside0.mk (HO.out.call hb); clear hb; obtain ⟨hc, hf⟩ := HO.out.cells))
    go_ret
    exact ⟨ret_bool (by first | (have h_ := HR.out; simp [fieldsOk, *] at h_; simp [h_]; done) | (have h_ := HR.out; simp [fieldsOk, *] at h_; simp [*]; done)), HO.out.below⟩
end Go.Proofs.YtaehonmfoanloaaDoor.Hand
