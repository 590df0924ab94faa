/-
  The reference's Valid of data, walked: it returns validS. Conditions: what the functions that it calls return (RSp), strings of the reach.
  The reference's Valid of data, walked: it returns validS. Conditions: what the functions that it calls return (RSp), strings of the reach.
  The reference's Valid of data, walked: it returns validS. Conditions: what the functions that it calls return (RSp), strings of the reach.
  The reference's Valid of data, walked: it returns validS. Conditions: what the functions that it calls return (RSp), strings of the reach.
  The reference's Valid of data, walked: it returns validS. Conditions: what the functions that it calls return (RSp), strings of the reach.
  The reference's Valid, all types in one. Conditions: sizes of the names, range of the bits.
  The reference's Valid of data returns validS. Conditions: data of the reach.
-/
import Derived.Test.YtaehonmfoanloaaDoorPAx6
import Derived.Test.YtaehonmfoanloaaDoorPAx4
import Derived.Test.YtaehonmfoanloaaDoorRvSp
import Derived.Deep.RegionHeld3
import Derived.Test.YtaehonmfoanloaaDoorRvA
import Derived.Test.YtaehonmfoanloaaDoorRfEvA
import Derived.Test.YtaehonmfoanloaaDoorHandB
namespace Go.Proofs.YtaehonmfoanloaaDoor.Hand
open Go.RowKit Go.Proofs.YtaehonmfoanloaaDoorW.PrintWords Go.Proofs.YtaehonmfoanloaaDoor.RdW
set_option maxHeartbeats 8000000
set_option maxRecDepth 100000
set_option linter.all false
attribute [local go_sem high] eqD
theorem rv6 (S : RSp) (x : D) (hs1 : x.host.size ≤ 100000) (hs2 : x.mail.size ≤ 100000) (hb0 : 0 ≤ x.bits) (hb1 : x.bits < 18446744073709551616) (w : World) :
    Calls Tryd.prog 15 #[.int .i64 6, x.v] w fun e w' => e = .returned (.bool (validS 6 x)) ∧ Below w.heap.size w w' := by
  have hu := Tryd.underlying26
  have hv := Tryd.underlying24
  obtain ⟨v6, hi, lo, host, mail, text, a, b, c, d, e, f, bits⟩ := x
  have HO : Aside0 (Own w (w.alloc (.cells #[.bool v6, .int .u64 hi, .int .u64 lo, .string host, .string mail, .string text, .int .i64 a, .int .i64 b, .int .i64 c, .int .i64 d, .int .i64 e, .int .i64 f, .int .u64 bits] 26)) #[.bool v6, .int .u64 hi, .int .u64 lo, .string host, .string mail, .string text, .int .i64 a, .int .i64 b, .int .i64 c, .int .i64 d, .int .i64 e, .int .i64 f, .int .u64 bits] 26) := ⟨Own.new _ _ _⟩
  have HUS : Aside0 (∀ w' : World, Calls Tryd.prog 30 #[.int .i64 6, .agg #[.bool v6, .int .u64 hi, .int .u64 lo, .string host, .string mail, .string text, .int .i64 a, .int .i64 b, .int .i64 c, .int .i64 d, .int .i64 e, .int .i64 f, .int .u64 bits]] w' fun e_ w1 => e_ = .returned (.agg #[.bool false, .int .u64 0, .int .u64 0, .string host, .string mail, .string ⟨#[]⟩, .int .i64 a, .int .i64 b, .int .i64 c, .int .i64 d, .int .i64 e, .int .i64 0, .int .u64 0]) ∧ Below w'.heap.size w' w1) := ⟨fun w' => used_sp 6 (by unfold KT; omega) ⟨v6, hi, lo, host, mail, text, a, b, c, d, e, f, bits⟩ w'⟩
  show Calls Tryd.prog 15 #[_, .agg #[.bool v6, .int .u64 hi, .int .u64 lo, .string host, .string mail, .string text, .int .i64 a, .int .i64 b, .int .i64 c, .int .i64 d, .int .i64 e, .int .i64 f, .int .u64 bits]] w _
  dsimp only at hs1 hs2 hb0 hb1
  obtain ⟨r, hr⟩ : ∃ r, validS 6 ⟨v6, hi, lo, host, mail, text, a, b, c, d, e, f, bits⟩ = r := ⟨_, rfl⟩
  rw [hr]
  have HR := Aside0.mk (show (D.eqb ⟨false, 0, 0, host, mail, ⟨#[]⟩, a, b, c, d, e, 0, 0⟩ ⟨v6, hi, lo, host, mail, text, a, b, c, d, e, f, bits⟩ && fieldsOk 6 ⟨v6, hi, lo, host, mail, text, a, b, c, d, e, f, bits⟩) = r from hr)
  clear hr
  cases h0 : D.eqb ⟨false, 0, 0, host, mail, ⟨#[]⟩, a, b, c, d, e, 0, 0⟩ ⟨v6, hi, lo, host, mail, text, a, b, c, d, e, f, bits⟩
  case' true =>
    cases h1 : hostB host
    case' true =>
      cases h2 : hostB mail
      case' true =>
        cases h3 : inB a 4294967295
        case' true =>
          cases h4 : inB b 2147483647
          case' true =>
            cases h5 : inB c 2147483647
            case' true =>
              cases h6 : inB d 2147483647
              case' true =>
                cases h7 : inB e 2147483647
  all_goals
    go_enter Tryd.func15, Tryd.ntmps15
    go_wp2_with fail
    (first
      | (go_region_held3 (fun w' => (∀ o, w'.cell? ⟨w.heap.size, o, none⟩ = (#[.bool v6, .int .u64 hi, .int .u64 lo, .string host, .string mail, .string text, .int .i64 a, .int .i64 b, .int .i64 c, .int .i64 d, .int .i64 e, .int .i64 f, .int .u64 bits] : Array Value)[o]?) ∧ Own w w' #[.bool v6, .int .u64 hi, .int .u64 lo, .string host, .string mail, .string text, .int .i64 a, .int .i64 b, .int .i64 c, .int .i64 d, .int .i64 e, .int .i64 f, .int .u64 bits] 26) ((first | assumption | exact Own.s HO.out.drew | exact Own.s (Own.call HO.out.drew hb) | exact Own.s (Own.call (And.right (by assumption)) hb))) (first | (go_at_call 29; (with_reducible refine (rknown_yes 6 (by unfold KT; omega) _).mono ?_); rintro e_ w_ ⟨rfl, rfl⟩) | (go_at_call 30; (with_reducible refine (HUS.out _).mono ?_); rintro e_ w1 ⟨rfl, hb⟩)))
      | fail "held")
    replace HO := Aside0.mk (And.right ‹(∀ o, World.cell? w1 ⟨w.heap.size, o, none⟩ = _) ∧ Own w w1 _ _›)
    clear hb
    obtain ⟨hc, hf⟩ := HO.out.cells
    go_wp2_with (first
      | (go_at_call 32; (with_reducible refine (S.host _ _ (by assumption) (by assumption) _).mono ?_); rintro e_ w2 ⟨rfl, hb⟩; (try clear hc hf); replace HO := Aside0.mk (HO.out.call hb); clear hb; obtain ⟨hc, hf⟩ := HO.out.cells)
      | (go_at_call 29; (with_reducible refine (S.known _ _ (by assumption) _).mono ?_); rintro e_ w2 ⟨rfl, hb⟩; (try clear hc hf); replace HO := Aside0.mk (HO.out.call hb); clear hb; obtain ⟨hc, hf⟩ := HO.out.cells)
      | (go_at_call 33; (with_reducible refine (S.serial _ _ (by assumption) _).mono ?_); rintro e_ w2 ⟨rfl, hb⟩; (try clear hc hf); replace HO := Aside0.mk (HO.out.call hb); clear hb; obtain ⟨hc, hf⟩ := HO.out.cells)
      | (go_at_call 34; (with_reducible refine (S.within _ _ _ (by assumption) _).mono ?_); rintro e_ w2 ⟨rfl, hb⟩; (try clear hc hf); replace HO := Aside0.mk (HO.out.call hb); clear hb; obtain ⟨hc, hf⟩ := HO.out.cells)
      | (go_at_call 35; (with_reducible refine (S.long _ _ (by assumption) _).mono ?_); rintro e_ w2 ⟨rfl, hb⟩; (try clear hc hf); replace HO := Aside0.mk (HO.out.call hb); clear hb; obtain ⟨hc, hf⟩ := HO.out.cells)
      | (go_at_call 31; (with_reducible refine (S.addr _ _ _ _ (by assumption) _).mono ?_); rintro e_ w2 ⟨rfl, hb⟩; (try clear hc hf); replace HO := Aside0.mk (HO.out.call hb); clear hb; obtain ⟨hc, hf⟩ := HO.out.cells)
      | (go_at_call 36; (with_reducible refine (S.name _ _ (by assumption) (by assumption) _).mono ?_); rintro e_ w2 ⟨rfl, hb⟩; (try clear hc hf); replace HO := Aside0.mk (HO.out.call hb); clear hb; obtain ⟨hc, hf⟩ := HO.out.cells)
      | (go_at_call 37; (with_reducible refine (S.all _ _ (by assumption) (by assumption) (by assumption) _).mono ?_); rintro e_ w2 ⟨rfl, hb⟩; (try clear hc hf); replace HO := Aside0.mk (HO.out.call hb); clear hb; obtain ⟨hc, hf⟩ := HO.out.cells))
    go_ret
    exact ⟨ret_bool (by first | (have h_ := HR.out; simp [fieldsOk, *] at h_; simp [h_]; done) | (have h_ := HR.out; simp [fieldsOk, *] at h_; simp [*]; done)), HO.out.below⟩
end Go.Proofs.YtaehonmfoanloaaDoor.Hand
namespace Go.Proofs.YtaehonmfoanloaaDoor.Hand
open Go.RowKit Go.Proofs.YtaehonmfoanloaaDoorW.PrintWords Go.Proofs.YtaehonmfoanloaaDoor.RdW
set_option maxHeartbeats 8000000
set_option maxRecDepth 100000
set_option linter.all false
attribute [local go_sem high] eqD
theorem rv33 (S : RSp) (x : D) (hs1 : x.host.size ≤ 100000) (hs2 : x.mail.size ≤ 100000) (hb0 : 0 ≤ x.bits) (hb1 : x.bits < 18446744073709551616) (w : World) :
    Calls Tryd.prog 15 #[.int .i64 33, x.v] w fun e w' => e = .returned (.bool (validS 33 x)) ∧ Below w.heap.size w w' := by
  have hu := Tryd.underlying26
  have hv := Tryd.underlying24
  obtain ⟨v6, hi, lo, host, mail, text, a, b, c, d, e, f, bits⟩ := x
  have HO : Aside0 (Own w (w.alloc (.cells #[.bool v6, .int .u64 hi, .int .u64 lo, .string host, .string mail, .string text, .int .i64 a, .int .i64 b, .int .i64 c, .int .i64 d, .int .i64 e, .int .i64 f, .int .u64 bits] 26)) #[.bool v6, .int .u64 hi, .int .u64 lo, .string host, .string mail, .string text, .int .i64 a, .int .i64 b, .int .i64 c, .int .i64 d, .int .i64 e, .int .i64 f, .int .u64 bits] 26) := ⟨Own.new _ _ _⟩
  have HUS : Aside0 (∀ w' : World, Calls Tryd.prog 30 #[.int .i64 33, .agg #[.bool v6, .int .u64 hi, .int .u64 lo, .string host, .string mail, .string text, .int .i64 a, .int .i64 b, .int .i64 c, .int .i64 d, .int .i64 e, .int .i64 f, .int .u64 bits]] w' fun e w1 => e = .returned (.agg #[.bool false, .int .u64 0, .int .u64 0, .string host, .string ⟨#[]⟩, .string ⟨#[]⟩, .int .i64 a, .int .i64 b, .int .i64 c, .int .i64 0, .int .i64 0, .int .i64 0, .int .u64 0]) ∧ Below w'.heap.size w' w1) := ⟨fun w' => used_sp 33 (by unfold KT; omega) ⟨v6, hi, lo, host, mail, text, a, b, c, d, e, f, bits⟩ w'⟩
  show Calls Tryd.prog 15 #[_, .agg #[.bool v6, .int .u64 hi, .int .u64 lo, .string host, .string mail, .string text, .int .i64 a, .int .i64 b, .int .i64 c, .int .i64 d, .int .i64 e, .int .i64 f, .int .u64 bits]] w _
  dsimp only at hs1 hs2 hb0 hb1
  obtain ⟨r, hr⟩ : ∃ r, validS 33 ⟨v6, hi, lo, host, mail, text, a, b, c, d, e, f, bits⟩ = r := ⟨_, rfl⟩
  rw [hr]
  have HR := Aside0.mk (show (D.eqb ⟨false, 0, 0, host, ⟨#[]⟩, ⟨#[]⟩, a, b, c, 0, 0, 0, 0⟩ ⟨v6, hi, lo, host, mail, text, a, b, c, d, e, f, bits⟩ && fieldsOk 33 ⟨v6, hi, lo, host, mail, text, a, b, c, d, e, f, bits⟩) = r from hr)
  clear hr
  cases h0 : D.eqb ⟨false, 0, 0, host, ⟨#[]⟩, ⟨#[]⟩, a, b, c, 0, 0, 0, 0⟩ ⟨v6, hi, lo, host, mail, text, a, b, c, d, e, f, bits⟩
  case' true =>
    cases h1 : hostB host
    case' true =>
      cases h2 : inB a 65535
      case' true =>
        cases h3 : inB b 65535
        case' true =>
          cases h4 : inB c 65535
  all_goals
    go_enter Tryd.func15, Tryd.ntmps15
    go_wp2_with fail
    (first
      | (go_region_held3 (fun w' => (∀ o, w'.cell? ⟨w.heap.size, o, none⟩ = (#[.bool v6, .int .u64 hi, .int .u64 lo, .string host, .string mail, .string text, .int .i64 a, .int .i64 b, .int .i64 c, .int .i64 d, .int .i64 e, .int .i64 f, .int .u64 bits] : Array Value)[o]?) ∧ Own w w' #[.bool v6, .int .u64 hi, .int .u64 lo, .string host, .string mail, .string text, .int .i64 a, .int .i64 b, .int .i64 c, .int .i64 d, .int .i64 e, .int .i64 f, .int .u64 bits] 26) ((first | assumption | exact Own.s HO.out.drew | exact Own.s (Own.call HO.out.drew hb) | exact Own.s (Own.call (And.right (by assumption)) hb))) (first | (go_at_call 29; (with_reducible refine (rknown_yes 33 (by unfold KT; omega) _).mono ?_); rintro e_ w_ ⟨rfl, rfl⟩) | (go_at_call 30; (with_reducible refine (HUS.out _).mono ?_); rintro e_ w1 ⟨rfl, hb⟩)))
      | fail "held")
    replace HO := Aside0.mk (And.right ‹(∀ o, World.cell? w1 ⟨w.heap.size, o, none⟩ = _) ∧ Own w w1 _ _›)
    clear hb
    obtain ⟨hc, hf⟩ := HO.out.cells
    go_wp2_with (first
      | (go_at_call 32; (with_reducible refine (S.host _ _ (by assumption) (by assumption) _).mono ?_); rintro e_ w2 ⟨rfl, hb⟩; (try clear hc hf); replace HO := Aside0.mk (HO.out.call hb); clear hb; obtain ⟨hc, hf⟩ := HO.out.cells)
      | (go_at_call 29; (with_reducible refine (S.known _ _ (by assumption) _).mono ?_); rintro e_ w2 ⟨rfl, hb⟩; (try clear hc hf); replace HO := Aside0.mk (HO.out.call hb); clear hb; obtain ⟨hc, hf⟩ := HO.out.cells)
      | (go_at_call 33; (with_reducible refine (S.serial _ _ (by assumption) _).mono ?_); rintro e_ w2 ⟨rfl, hb⟩; (try clear hc hf); replace HO := Aside0.mk (HO.out.call hb); clear hb; obtain ⟨hc, hf⟩ := HO.out.cells)
      | (go_at_call 34; (with_reducible refine (S.within _ _ _ (by assumption) _).mono ?_); rintro e_ w2 ⟨rfl, hb⟩; (try clear hc hf); replace HO := Aside0.mk (HO.out.call hb); clear hb; obtain ⟨hc, hf⟩ := HO.out.cells)
      | (go_at_call 35; (with_reducible refine (S.long _ _ (by assumption) _).mono ?_); rintro e_ w2 ⟨rfl, hb⟩; (try clear hc hf); replace HO := Aside0.mk (HO.out.call hb); clear hb; obtain ⟨hc, hf⟩ := HO.out.cells)
      | (go_at_call 31; (with_reducible refine (S.addr _ _ _ _ (by assumption) _).mono ?_); rintro e_ w2 ⟨rfl, hb⟩; (try clear hc hf); replace HO := Aside0.mk (HO.out.call hb); clear hb; obtain ⟨hc, hf⟩ := HO.out.cells)
      | (go_at_call 36; (with_reducible refine (S.name _ _ (by assumption) (by assumption) _).mono ?_); rintro e_ w2 ⟨rfl, hb⟩; (try clear hc hf); replace HO := Aside0.mk (HO.out.call hb); clear hb; obtain ⟨hc, hf⟩ := HO.out.cells)
      | (go_at_call 37; (with_reducible refine (S.all _ _ (by assumption) (by assumption) (by assumption) _).mono ?_); rintro e_ w2 ⟨rfl, hb⟩; (try clear hc hf); replace HO := Aside0.mk (HO.out.call hb); clear hb; obtain ⟨hc, hf⟩ := HO.out.cells))
    go_ret
    exact ⟨ret_bool (by first | (have h_ := HR.out; simp [fieldsOk, *] at h_; simp [h_]; done) | (have h_ := HR.out; simp [fieldsOk, *] at h_; simp [*]; done)), HO.out.below⟩
theorem rv43 (S : RSp) (x : D) (hs1 : x.host.size ≤ 100000) (hs2 : x.mail.size ≤ 100000) (hb0 : 0 ≤ x.bits) (hb1 : x.bits < 18446744073709551616) (w : World) :
    Calls Tryd.prog 15 #[.int .i64 43, x.v] w fun e w' => e = .returned (.bool (validS 43 x)) ∧ Below w.heap.size w w' := by
  have hu := Tryd.underlying26
  have hv := Tryd.underlying24
  obtain ⟨v6, hi, lo, host, mail, text, a, b, c, d, e, f, bits⟩ := x
  have HO : Aside0 (Own w (w.alloc (.cells #[.bool v6, .int .u64 hi, .int .u64 lo, .string host, .string mail, .string text, .int .i64 a, .int .i64 b, .int .i64 c, .int .i64 d, .int .i64 e, .int .i64 f, .int .u64 bits] 26)) #[.bool v6, .int .u64 hi, .int .u64 lo, .string host, .string mail, .string text, .int .i64 a, .int .i64 b, .int .i64 c, .int .i64 d, .int .i64 e, .int .i64 f, .int .u64 bits] 26) := ⟨Own.new _ _ _⟩
  have HUS : Aside0 (∀ w' : World, Calls Tryd.prog 30 #[.int .i64 43, .agg #[.bool v6, .int .u64 hi, .int .u64 lo, .string host, .string mail, .string text, .int .i64 a, .int .i64 b, .int .i64 c, .int .i64 d, .int .i64 e, .int .i64 f, .int .u64 bits]] w' fun e w1 => e = .returned (.agg #[.bool false, .int .u64 0, .int .u64 0, .string ⟨#[]⟩, .string ⟨#[]⟩, .string text, .int .i64 a, .int .i64 b, .int .i64 c, .int .i64 0, .int .i64 0, .int .i64 0, .int .u64 0]) ∧ Below w'.heap.size w' w1) := ⟨fun w' => used_sp 43 (by unfold KT; omega) ⟨v6, hi, lo, host, mail, text, a, b, c, d, e, f, bits⟩ w'⟩
  show Calls Tryd.prog 15 #[_, .agg #[.bool v6, .int .u64 hi, .int .u64 lo, .string host, .string mail, .string text, .int .i64 a, .int .i64 b, .int .i64 c, .int .i64 d, .int .i64 e, .int .i64 f, .int .u64 bits]] w _
  dsimp only at hs1 hs2 hb0 hb1
  obtain ⟨r, hr⟩ : ∃ r, validS 43 ⟨v6, hi, lo, host, mail, text, a, b, c, d, e, f, bits⟩ = r := ⟨_, rfl⟩
  rw [hr]
  have HR := Aside0.mk (show (D.eqb ⟨false, 0, 0, ⟨#[]⟩, ⟨#[]⟩, text, a, b, c, 0, 0, 0, 0⟩ ⟨v6, hi, lo, host, mail, text, a, b, c, d, e, f, bits⟩ && fieldsOk 43 ⟨v6, hi, lo, host, mail, text, a, b, c, d, e, f, bits⟩) = r from hr)
  clear hr
  cases h0 : D.eqb ⟨false, 0, 0, ⟨#[]⟩, ⟨#[]⟩, text, a, b, c, 0, 0, 0, 0⟩ ⟨v6, hi, lo, host, mail, text, a, b, c, d, e, f, bits⟩
  case' true =>
    cases h1 : inB a 65535
    case' true =>
      cases h2 : inB b 255
      case' true =>
        cases h3 : inB c 255
        case' true =>
          cases h4 : longB text
  all_goals
    go_enter Tryd.func15, Tryd.ntmps15
    go_wp2_with fail
    (first
      | (go_region_held3 (fun w' => (∀ o, w'.cell? ⟨w.heap.size, o, none⟩ = (#[.bool v6, .int .u64 hi, .int .u64 lo, .string host, .string mail, .string text, .int .i64 a, .int .i64 b, .int .i64 c, .int .i64 d, .int .i64 e, .int .i64 f, .int .u64 bits] : Array Value)[o]?) ∧ Own w w' #[.bool v6, .int .u64 hi, .int .u64 lo, .string host, .string mail, .string text, .int .i64 a, .int .i64 b, .int .i64 c, .int .i64 d, .int .i64 e, .int .i64 f, .int .u64 bits] 26) ((first | assumption | exact Own.s HO.out.drew | exact Own.s (Own.call HO.out.drew hb) | exact Own.s (Own.call (And.right (by assumption)) hb))) (first | (go_at_call 29; (with_reducible refine (rknown_yes 43 (by unfold KT; omega) _).mono ?_); rintro e_ w_ ⟨rfl, rfl⟩) | (go_at_call 30; (with_reducible refine (HUS.out _).mono ?_); rintro e_ w1 ⟨rfl, hb⟩)))
      | fail "held")
    replace HO := Aside0.mk (And.right ‹(∀ o, World.cell? w1 ⟨w.heap.size, o, none⟩ = _) ∧ Own w w1 _ _›)
    clear hb
    obtain ⟨hc, hf⟩ := HO.out.cells
    go_wp2_with (first
      | (go_at_call 32; (with_reducible refine (S.host _ _ (by assumption) (by assumption) _).mono ?_); rintro e_ w2 ⟨rfl, hb⟩; (try clear hc hf); replace HO := Aside0.mk (HO.out.call hb); clear hb; obtain ⟨hc, hf⟩ := HO.out.cells)
      | (go_at_call 29; (with_reducible refine (S.known _ _ (by assumption) _).mono ?_); rintro e_ w2 ⟨rfl, hb⟩; (try clear hc hf); replace HO := Aside0.mk (HO.out.call hb); clear hb; obtain ⟨hc, hf⟩ := HO.out.cells)
      | (go_at_call 33; (with_reducible refine (S.serial _ _ (by assumption) _).mono ?_); rintro e_ w2 ⟨rfl, hb⟩; (try clear hc hf); replace HO := Aside0.mk (HO.out.call hb); clear hb; obtain ⟨hc, hf⟩ := HO.out.cells)
      | (go_at_call 34; (with_reducible refine (S.within _ _ _ (by assumption) _).mono ?_); rintro e_ w2 ⟨rfl, hb⟩; (try clear hc hf); replace HO := Aside0.mk (HO.out.call hb); clear hb; obtain ⟨hc, hf⟩ := HO.out.cells)
      | (go_at_call 35; (with_reducible refine (S.long _ _ (by assumption) _).mono ?_); rintro e_ w2 ⟨rfl, hb⟩; (try clear hc hf); replace HO := Aside0.mk (HO.out.call hb); clear hb; obtain ⟨hc, hf⟩ := HO.out.cells)
      | (go_at_call 31; (with_reducible refine (S.addr _ _ _ _ (by assumption) _).mono ?_); rintro e_ w2 ⟨rfl, hb⟩; (try clear hc hf); replace HO := Aside0.mk (HO.out.call hb); clear hb; obtain ⟨hc, hf⟩ := HO.out.cells)
      | (go_at_call 36; (with_reducible refine (S.name _ _ (by assumption) (by assumption) _).mono ?_); rintro e_ w2 ⟨rfl, hb⟩; (try clear hc hf); replace HO := Aside0.mk (HO.out.call hb); clear hb; obtain ⟨hc, hf⟩ := HO.out.cells)
      | (go_at_call 37; (with_reducible refine (S.all _ _ (by assumption) (by assumption) (by assumption) _).mono ?_); rintro e_ w2 ⟨rfl, hb⟩; (try clear hc hf); replace HO := Aside0.mk (HO.out.call hb); clear hb; obtain ⟨hc, hf⟩ := HO.out.cells))
    go_ret
    exact ⟨ret_bool (by first | (have h_ := HR.out; simp [fieldsOk, *] at h_; simp [h_]; done) | (have h_ := HR.out; simp [fieldsOk, *] at h_; simp [*]; done)), HO.out.below⟩
end Go.Proofs.YtaehonmfoanloaaDoor.Hand
namespace Go.Proofs.YtaehonmfoanloaaDoor.Hand
open Go.RowKit Go.Proofs.YtaehonmfoanloaaDoorW.PrintWords Go.Proofs.YtaehonmfoanloaaDoor.RdW
set_option maxHeartbeats 8000000
set_option maxRecDepth 100000
set_option linter.all false
attribute [local go_sem high] eqD
theorem rv46 (S : RSp) (x : D) (hs1 : x.host.size ≤ 100000) (hs2 : x.mail.size ≤ 100000) (hb0 : 0 ≤ x.bits) (hb1 : x.bits < 18446744073709551616) (w : World) :
    Calls Tryd.prog 15 #[.int .i64 46, x.v] w fun e w' => e = .returned (.bool (validS 46 x)) ∧ Below w.heap.size w w' := by
  have hu := Tryd.underlying26
  have hv := Tryd.underlying24
  obtain ⟨v6, hi, lo, host, mail, text, a, b, c, d, e, f, bits⟩ := x
  have HO : Aside0 (Own w (w.alloc (.cells #[.bool v6, .int .u64 hi, .int .u64 lo, .string host, .string mail, .string text, .int .i64 a, .int .i64 b, .int .i64 c, .int .i64 d, .int .i64 e, .int .i64 f, .int .u64 bits] 26)) #[.bool v6, .int .u64 hi, .int .u64 lo, .string host, .string mail, .string text, .int .i64 a, .int .i64 b, .int .i64 c, .int .i64 d, .int .i64 e, .int .i64 f, .int .u64 bits] 26) := ⟨Own.new _ _ _⟩
  have HUS : Aside0 (∀ w' : World, Calls Tryd.prog 30 #[.int .i64 46, .agg #[.bool v6, .int .u64 hi, .int .u64 lo, .string host, .string mail, .string text, .int .i64 a, .int .i64 b, .int .i64 c, .int .i64 d, .int .i64 e, .int .i64 f, .int .u64 bits]] w' fun e_ w1 => e_ = .returned (.agg #[.bool false, .int .u64 0, .int .u64 0, .string host, .string ⟨#[]⟩, .string text, .int .i64 a, .int .i64 b, .int .i64 c, .int .i64 d, .int .i64 e, .int .i64 f, .int .u64 0]) ∧ Below w'.heap.size w' w1) := ⟨fun w' => used_sp 46 (by unfold KT; omega) ⟨v6, hi, lo, host, mail, text, a, b, c, d, e, f, bits⟩ w'⟩
  show Calls Tryd.prog 15 #[_, .agg #[.bool v6, .int .u64 hi, .int .u64 lo, .string host, .string mail, .string text, .int .i64 a, .int .i64 b, .int .i64 c, .int .i64 d, .int .i64 e, .int .i64 f, .int .u64 bits]] w _
  dsimp only at hs1 hs2 hb0 hb1
  obtain ⟨r, hr⟩ : ∃ r, validS 46 ⟨v6, hi, lo, host, mail, text, a, b, c, d, e, f, bits⟩ = r := ⟨_, rfl⟩
  rw [hr]
  have HR := Aside0.mk (show (D.eqb ⟨false, 0, 0, host, ⟨#[]⟩, text, a, b, c, d, e, f, 0⟩ ⟨v6, hi, lo, host, mail, text, a, b, c, d, e, f, bits⟩ && fieldsOk 46 ⟨v6, hi, lo, host, mail, text, a, b, c, d, e, f, bits⟩) = r from hr)
  clear hr
  cases h0 : D.eqb ⟨false, 0, 0, host, ⟨#[]⟩, text, a, b, c, d, e, f, 0⟩ ⟨v6, hi, lo, host, mail, text, a, b, c, d, e, f, bits⟩
  case' true =>
    cases h1 : knownB a
    case' true =>
      cases h2 : (a != 46)
      case' true =>
        cases h3 : inB b 127
        case' true =>
          cases h4 : inB c 2147483647
          case' true =>
            cases h5 : inB d 4294967295
            case' true =>
              cases h6 : inB e 4294967295
              case' true =>
                cases h7 : inB f 65535
                case' true =>
                  cases h8 : hostB host
                  case' true =>
                    cases h9 : longB text
  all_goals
    go_enter Tryd.func15, Tryd.ntmps15
    go_wp2_with fail
    (first
      | (go_region_held3 (fun w' => (∀ o, w'.cell? ⟨w.heap.size, o, none⟩ = (#[.bool v6, .int .u64 hi, .int .u64 lo, .string host, .string mail, .string text, .int .i64 a, .int .i64 b, .int .i64 c, .int .i64 d, .int .i64 e, .int .i64 f, .int .u64 bits] : Array Value)[o]?) ∧ Own w w' #[.bool v6, .int .u64 hi, .int .u64 lo, .string host, .string mail, .string text, .int .i64 a, .int .i64 b, .int .i64 c, .int .i64 d, .int .i64 e, .int .i64 f, .int .u64 bits] 26) ((first | assumption | exact Own.s HO.out.drew | exact Own.s (Own.call HO.out.drew hb) | exact Own.s (Own.call (And.right (by assumption)) hb))) (first | (go_at_call 29; (with_reducible refine (rknown_yes 46 (by unfold KT; omega) _).mono ?_); rintro e_ w_ ⟨rfl, rfl⟩) | (go_at_call 30; (with_reducible refine (HUS.out _).mono ?_); rintro e_ w1 ⟨rfl, hb⟩)))
      | fail "held")
    replace HO := Aside0.mk (And.right ‹(∀ o, World.cell? w1 ⟨w.heap.size, o, none⟩ = _) ∧ Own w w1 _ _›)
    clear hb
    obtain ⟨hc, hf⟩ := HO.out.cells
    go_wp2_with (first
      | (go_at_call 32; (with_reducible refine (S.host _ _ (by assumption) (by assumption) _).mono ?_); rintro e_ w2 ⟨rfl, hb⟩; (try clear hc hf); replace HO := Aside0.mk (HO.out.call hb); clear hb; obtain ⟨hc, hf⟩ := HO.out.cells)
      | (go_at_call 29; (with_reducible refine (S.known _ _ (by assumption) _).mono ?_); rintro e_ w2 ⟨rfl, hb⟩; (try clear hc hf); replace HO := Aside0.mk (HO.out.call hb); clear hb; obtain ⟨hc, hf⟩ := HO.out.cells)
      | (go_at_call 33; (with_reducible refine (S.serial _ _ (by assumption) _).mono ?_); rintro e_ w2 ⟨rfl, hb⟩; (try clear hc hf); replace HO := Aside0.mk (HO.out.call hb); clear hb; obtain ⟨hc, hf⟩ := HO.out.cells)
      | (go_at_call 34; (with_reducible refine (S.within _ _ _ (by assumption) _).mono ?_); rintro e_ w2 ⟨rfl, hb⟩; (try clear hc hf); replace HO := Aside0.mk (HO.out.call hb); clear hb; obtain ⟨hc, hf⟩ := HO.out.cells)
      | (go_at_call 35; (with_reducible refine (S.long _ _ (by assumption) _).mono ?_); rintro e_ w2 ⟨rfl, hb⟩; (try clear hc hf); replace HO := Aside0.mk (HO.out.call hb); clear hb; obtain ⟨hc, hf⟩ := HO.out.cells)
      | (go_at_call 31; (with_reducible refine (S.addr _ _ _ _ (by assumption) _).mono ?_); rintro e_ w2 ⟨rfl, hb⟩; (try clear hc hf); replace HO := Aside0.mk (HO.out.call hb); clear hb; obtain ⟨hc, hf⟩ := HO.out.cells)
      | (go_at_call 36; (with_reducible refine (S.name _ _ (by assumption) (by assumption) _).mono ?_); rintro e_ w2 ⟨rfl, hb⟩; (try clear hc hf); replace HO := Aside0.mk (HO.out.call hb); clear hb; obtain ⟨hc, hf⟩ := HO.out.cells)
      | (go_at_call 37; (with_reducible refine (S.all _ _ (by assumption) (by assumption) (by assumption) _).mono ?_); rintro e_ w2 ⟨rfl, hb⟩; (try clear hc hf); replace HO := Aside0.mk (HO.out.call hb); clear hb; obtain ⟨hc, hf⟩ := HO.out.cells))
    go_ret
    exact ⟨ret_bool (by first | (have h_ := HR.out; simp [fieldsOk, *] at h_; simp [h_]; done) | (have h_ := HR.out; simp [fieldsOk, *] at h_; simp [*]; done)), HO.out.below⟩
end Go.Proofs.YtaehonmfoanloaaDoor.Hand
namespace Go.Proofs.YtaehonmfoanloaaDoor.Hand
open Go.RowKit Go.Proofs.YtaehonmfoanloaaDoorW.PrintWords Go.Proofs.YtaehonmfoanloaaDoor.RdW
set_option maxHeartbeats 8000000
set_option maxRecDepth 100000
set_option linter.all false
attribute [local go_sem high] eqD
theorem rv1 (S : RSp) (x : D) (hs1 : x.host.size ≤ 100000) (hs2 : x.mail.size ≤ 100000) (hb0 : 0 ≤ x.bits) (hb1 : x.bits < 18446744073709551616) (w : World) :
    Calls Tryd.prog 15 #[.int .i64 1, x.v] w fun e w' => e = .returned (.bool (validS 1 x)) ∧ Below w.heap.size w w' := by
  have hu := Tryd.underlying26
  have hv := Tryd.underlying24
  obtain ⟨v6, hi, lo, host, mail, text, a, b, c, d, e, f, bits⟩ := x
  have HO : Aside0 (Own w (w.alloc (.cells #[.bool v6, .int .u64 hi, .int .u64 lo, .string host, .string mail, .string text, .int .i64 a, .int .i64 b, .int .i64 c, .int .i64 d, .int .i64 e, .int .i64 f, .int .u64 bits] 26)) #[.bool v6, .int .u64 hi, .int .u64 lo, .string host, .string mail, .string text, .int .i64 a, .int .i64 b, .int .i64 c, .int .i64 d, .int .i64 e, .int .i64 f, .int .u64 bits] 26) := ⟨Own.new _ _ _⟩
  have HUS : Aside0 (∀ w' : World, Calls Tryd.prog 30 #[.int .i64 1, .agg #[.bool v6, .int .u64 hi, .int .u64 lo, .string host, .string mail, .string text, .int .i64 a, .int .i64 b, .int .i64 c, .int .i64 d, .int .i64 e, .int .i64 f, .int .u64 bits]] w' fun e w1 => e = .returned (.agg #[.bool v6, .int .u64 hi, .int .u64 lo, .string ⟨#[]⟩, .string ⟨#[]⟩, .string ⟨#[]⟩, .int .i64 0, .int .i64 0, .int .i64 0, .int .i64 0, .int .i64 0, .int .i64 0, .int .u64 0]) ∧ Below w'.heap.size w' w1) := ⟨fun w' => used_sp 1 (by unfold KT; omega) ⟨v6, hi, lo, host, mail, text, a, b, c, d, e, f, bits⟩ w'⟩
  show Calls Tryd.prog 15 #[_, .agg #[.bool v6, .int .u64 hi, .int .u64 lo, .string host, .string mail, .string text, .int .i64 a, .int .i64 b, .int .i64 c, .int .i64 d, .int .i64 e, .int .i64 f, .int .u64 bits]] w _
  dsimp only at hs1 hs2 hb0 hb1
  obtain ⟨r, hr⟩ : ∃ r, validS 1 ⟨v6, hi, lo, host, mail, text, a, b, c, d, e, f, bits⟩ = r := ⟨_, rfl⟩
  rw [hr]
  have HR := Aside0.mk (show (D.eqb ⟨v6, hi, lo, ⟨#[]⟩, ⟨#[]⟩, ⟨#[]⟩, 0, 0, 0, 0, 0, 0, 0⟩ ⟨v6, hi, lo, host, mail, text, a, b, c, d, e, f, bits⟩ && fieldsOk 1 ⟨v6, hi, lo, host, mail, text, a, b, c, d, e, f, bits⟩) = r from hr)
  clear hr
  cases h0 : D.eqb ⟨v6, hi, lo, ⟨#[]⟩, ⟨#[]⟩, ⟨#[]⟩, 0, 0, 0, 0, 0, 0, 0⟩ ⟨v6, hi, lo, host, mail, text, a, b, c, d, e, f, bits⟩
  case' true =>
    cases h1 : addrB v6 hi lo
  all_goals
    go_enter Tryd.func15, Tryd.ntmps15
    go_wp2_with fail
    (first
      | (go_region_held3 (fun w' => (∀ o, w'.cell? ⟨w.heap.size, o, none⟩ = (#[.bool v6, .int .u64 hi, .int .u64 lo, .string host, .string mail, .string text, .int .i64 a, .int .i64 b, .int .i64 c, .int .i64 d, .int .i64 e, .int .i64 f, .int .u64 bits] : Array Value)[o]?) ∧ Own w w' #[.bool v6, .int .u64 hi, .int .u64 lo, .string host, .string mail, .string text, .int .i64 a, .int .i64 b, .int .i64 c, .int .i64 d, .int .i64 e, .int .i64 f, .int .u64 bits] 26) ((first | assumption | exact Own.s HO.out.drew | exact Own.s (Own.call HO.out.drew hb) | exact Own.s (Own.call (And.right (by assumption)) hb))) (first | (go_at_call 29; (with_reducible refine (rknown_yes 1 (by unfold KT; omega) _).mono ?_); rintro e_ w_ ⟨rfl, rfl⟩) | (go_at_call 30; (with_reducible refine (HUS.out _).mono ?_); rintro e_ w1 ⟨rfl, hb⟩)))
      | fail "held")
    replace HO := Aside0.mk (And.right ‹(∀ o, World.cell? w1 ⟨w.heap.size, o, none⟩ = _) ∧ Own w w1 _ _›)
    clear hb
    obtain ⟨hc, hf⟩ := HO.out.cells
    go_wp2_with (first
      | (go_at_call 32; (with_reducible refine (S.host _ _ (by assumption) (by assumption) _).mono ?_); rintro e_ w2 ⟨rfl, hb⟩; (try clear hc hf); replace HO := Aside0.mk (HO.out.call hb); clear hb; obtain ⟨hc, hf⟩ := HO.out.cells)
      | (go_at_call 29; (with_reducible refine (S.known _ _ (by assumption) _).mono ?_); rintro e_ w2 ⟨rfl, hb⟩; (try clear hc hf); replace HO := Aside0.mk (HO.out.call hb); clear hb; obtain ⟨hc, hf⟩ := HO.out.cells)
      | (go_at_call 33; (with_reducible refine (S.serial _ _ (by assumption) _).mono ?_); rintro e_ w2 ⟨rfl, hb⟩; (try clear hc hf); replace HO := Aside0.mk (HO.out.call hb); clear hb; obtain ⟨hc, hf⟩ := HO.out.cells)
      | (go_at_call 34; (with_reducible refine (S.within _ _ _ (by assumption) _).mono ?_); rintro e_ w2 ⟨rfl, hb⟩; (try clear hc hf); replace HO := Aside0.mk (HO.out.call hb); clear hb; obtain ⟨hc, hf⟩ := HO.out.cells)
      | (go_at_call 35; (with_reducible refine (S.long _ _ (by assumption) _).mono ?_); rintro e_ w2 ⟨rfl, hb⟩; (try clear hc hf); replace HO := Aside0.mk (HO.out.call hb); clear hb; obtain ⟨hc, hf⟩ := HO.out.cells)
      | (go_at_call 31; (with_reducible refine (S.addr _ _ _ _ (by assumption) _).mono ?_); rintro e_ w2 ⟨rfl, hb⟩; (try clear hc hf); replace HO := Aside0.mk (HO.out.call hb); clear hb; obtain ⟨hc, hf⟩ := HO.out.cells)
      | (go_at_call 36; (with_reducible refine (S.name _ _ (by assumption) (by assumption) _).mono ?_); rintro e_ w2 ⟨rfl, hb⟩; (try clear hc hf); replace HO := Aside0.mk (HO.out.call hb); clear hb; obtain ⟨hc, hf⟩ := HO.out.cells)
      | (go_at_call 37; (with_reducible refine (S.all _ _ (by assumption) (by assumption) (by assumption) _).mono ?_); rintro e_ w2 ⟨rfl, hb⟩; (try clear hc hf); replace HO := Aside0.mk (HO.out.call hb); clear hb; obtain ⟨hc, hf⟩ := HO.out.cells))
    go_ret
    exact ⟨ret_bool (by first | (have h_ := HR.out; simp [fieldsOk, *] at h_; simp [h_]; done) | (have h_ := HR.out; simp [fieldsOk, *] at h_; simp [*]; done)), HO.out.below⟩
theorem rv28 (S : RSp) (x : D) (hs1 : x.host.size ≤ 100000) (hs2 : x.mail.size ≤ 100000) (hb0 : 0 ≤ x.bits) (hb1 : x.bits < 18446744073709551616) (w : World) :
    Calls Tryd.prog 15 #[.int .i64 28, x.v] w fun e w' => e = .returned (.bool (validS 28 x)) ∧ Below w.heap.size w w' := by
  have hu := Tryd.underlying26
  have hv := Tryd.underlying24
  obtain ⟨v6, hi, lo, host, mail, text, a, b, c, d, e, f, bits⟩ := x
  have HO : Aside0 (Own w (w.alloc (.cells #[.bool v6, .int .u64 hi, .int .u64 lo, .string host, .string mail, .string text, .int .i64 a, .int .i64 b, .int .i64 c, .int .i64 d, .int .i64 e, .int .i64 f, .int .u64 bits] 26)) #[.bool v6, .int .u64 hi, .int .u64 lo, .string host, .string mail, .string text, .int .i64 a, .int .i64 b, .int .i64 c, .int .i64 d, .int .i64 e, .int .i64 f, .int .u64 bits] 26) := ⟨Own.new _ _ _⟩
  have HUS : Aside0 (∀ w' : World, Calls Tryd.prog 30 #[.int .i64 28, .agg #[.bool v6, .int .u64 hi, .int .u64 lo, .string host, .string mail, .string text, .int .i64 a, .int .i64 b, .int .i64 c, .int .i64 d, .int .i64 e, .int .i64 f, .int .u64 bits]] w' fun e w1 => e = .returned (.agg #[.bool v6, .int .u64 hi, .int .u64 lo, .string ⟨#[]⟩, .string ⟨#[]⟩, .string ⟨#[]⟩, .int .i64 0, .int .i64 0, .int .i64 0, .int .i64 0, .int .i64 0, .int .i64 0, .int .u64 0]) ∧ Below w'.heap.size w' w1) := ⟨fun w' => used_sp 28 (by unfold KT; omega) ⟨v6, hi, lo, host, mail, text, a, b, c, d, e, f, bits⟩ w'⟩
  show Calls Tryd.prog 15 #[_, .agg #[.bool v6, .int .u64 hi, .int .u64 lo, .string host, .string mail, .string text, .int .i64 a, .int .i64 b, .int .i64 c, .int .i64 d, .int .i64 e, .int .i64 f, .int .u64 bits]] w _
  dsimp only at hs1 hs2 hb0 hb1
  obtain ⟨r, hr⟩ : ∃ r, validS 28 ⟨v6, hi, lo, host, mail, text, a, b, c, d, e, f, bits⟩ = r := ⟨_, rfl⟩
  rw [hr]
  have HR := Aside0.mk (show (D.eqb ⟨v6, hi, lo, ⟨#[]⟩, ⟨#[]⟩, ⟨#[]⟩, 0, 0, 0, 0, 0, 0, 0⟩ ⟨v6, hi, lo, host, mail, text, a, b, c, d, e, f, bits⟩ && fieldsOk 28 ⟨v6, hi, lo, host, mail, text, a, b, c, d, e, f, bits⟩) = r from hr)
  clear hr
  cases h0 : D.eqb ⟨v6, hi, lo, ⟨#[]⟩, ⟨#[]⟩, ⟨#[]⟩, 0, 0, 0, 0, 0, 0, 0⟩ ⟨v6, hi, lo, host, mail, text, a, b, c, d, e, f, bits⟩
  all_goals
    go_enter Tryd.func15, Tryd.ntmps15
    go_wp2_with fail
    (first
      | (go_region_held3 (fun w' => (∀ o, w'.cell? ⟨w.heap.size, o, none⟩ = (#[.bool v6, .int .u64 hi, .int .u64 lo, .string host, .string mail, .string text, .int .i64 a, .int .i64 b, .int .i64 c, .int .i64 d, .int .i64 e, .int .i64 f, .int .u64 bits] : Array Value)[o]?) ∧ Own w w' #[.bool v6, .int .u64 hi, .int .u64 lo, .string host, .string mail, .string text, .int .i64 a, .int .i64 b, .int .i64 c, .int .i64 d, .int .i64 e, .int .i64 f, .int .u64 bits] 26) ((first | assumption | exact Own.s HO.out.drew | exact Own.s (Own.call HO.out.drew hb) | exact Own.s (Own.call (And.right (by assumption)) hb))) (first | (go_at_call 29; (with_reducible refine (rknown_yes 28 (by unfold KT; omega) _).mono ?_); rintro e_ w_ ⟨rfl, rfl⟩) | (go_at_call 30; (with_reducible refine (HUS.out _).mono ?_); rintro e_ w1 ⟨rfl, hb⟩)))
      | fail "held")
    replace HO := Aside0.mk (And.right ‹(∀ o, World.cell? w1 ⟨w.heap.size, o, none⟩ = _) ∧ Own w w1 _ _›)
    clear hb
    obtain ⟨hc, hf⟩ := HO.out.cells
    go_wp2_with (first
      | (go_at_call 32; (with_reducible refine (S.host _ _ (by assumption) (by assumption) _).mono ?_); rintro e_ w2 ⟨rfl, hb⟩; (try clear hc hf); replace HO := Aside0.mk (HO.out.call hb); clear hb; obtain ⟨hc, hf⟩ := HO.out.cells)
      | (go_at_call 29; (with_reducible refine (S.known _ _ (by assumption) _).mono ?_); rintro e_ w2 ⟨rfl, hb⟩; (try clear hc hf); replace HO := Aside0.mk (HO.out.call hb); clear hb; obtain ⟨hc, hf⟩ := HO.out.cells)
      | (go_at_call 33; (with_reducible refine (S.serial _ _ (by assumption) _).mono ?_); rintro e_ w2 ⟨rfl, hb⟩; (try clear hc hf); replace HO := Aside0.mk (HO.out.call hb); clear hb; obtain ⟨hc, hf⟩ := HO.out.cells)
      | (go_at_call 34; (with_reducible refine (S.within _ _ _ (by assumption) _).mono ?_); rintro e_ w2 ⟨rfl, hb⟩; (try clear hc hf); replace HO := Aside0.mk (HO.out.call hb); clear hb; obtain ⟨hc, hf⟩ := HO.out.cells)
      | (go_at_call 35; (with_reducible refine (S.long _ _ (by assumption) _).mono ?_); rintro e_ w2 ⟨rfl, hb⟩; (try clear hc hf); replace HO := Aside0.mk (HO.out.call hb); clear hb; obtain ⟨hc, hf⟩ := HO.out.cells)
      | (go_at_call 31; (with_reducible refine (S.addr _ _ _ _ (by assumption) _).mono ?_); rintro e_ w2 ⟨rfl, hb⟩; (try clear hc hf); replace HO := Aside0.mk (HO.out.call hb); clear hb; obtain ⟨hc, hf⟩ := HO.out.cells)
      | (go_at_call 36; (with_reducible refine (S.name _ _ (by assumption) (by assumption) _).mono ?_); rintro e_ w2 ⟨rfl, hb⟩; (try clear hc hf); replace HO := Aside0.mk (HO.out.call hb); clear hb; obtain ⟨hc, hf⟩ := HO.out.cells)
      | (go_at_call 37; (with_reducible refine (S.all _ _ (by assumption) (by assumption) (by assumption) _).mono ?_); rintro e_ w2 ⟨rfl, hb⟩; (try clear hc hf); replace HO := Aside0.mk (HO.out.call hb); clear hb; obtain ⟨hc, hf⟩ := HO.out.cells))
    go_ret
    exact ⟨ret_bool (by first | (have h_ := HR.out; simp [fieldsOk, *] at h_; simp [h_]; done) | (have h_ := HR.out; simp [fieldsOk, *] at h_; simp [*]; done)), HO.out.below⟩
theorem rv47 (S : RSp) (x : D) (hs1 : x.host.size ≤ 100000) (hs2 : x.mail.size ≤ 100000) (hb0 : 0 ≤ x.bits) (hb1 : x.bits < 18446744073709551616) (w : World) :
    Calls Tryd.prog 15 #[.int .i64 47, x.v] w fun e w' => e = .returned (.bool (validS 47 x)) ∧ Below w.heap.size w w' := by
  have hu := Tryd.underlying26
  have hv := Tryd.underlying24
  obtain ⟨v6, hi, lo, host, mail, text, a, b, c, d, e, f, bits⟩ := x
  have HO : Aside0 (Own w (w.alloc (.cells #[.bool v6, .int .u64 hi, .int .u64 lo, .string host, .string mail, .string text, .int .i64 a, .int .i64 b, .int .i64 c, .int .i64 d, .int .i64 e, .int .i64 f, .int .u64 bits] 26)) #[.bool v6, .int .u64 hi, .int .u64 lo, .string host, .string mail, .string text, .int .i64 a, .int .i64 b, .int .i64 c, .int .i64 d, .int .i64 e, .int .i64 f, .int .u64 bits] 26) := ⟨Own.new _ _ _⟩
  have HUS : Aside0 (∀ w' : World, Calls Tryd.prog 30 #[.int .i64 47, .agg #[.bool v6, .int .u64 hi, .int .u64 lo, .string host, .string mail, .string text, .int .i64 a, .int .i64 b, .int .i64 c, .int .i64 d, .int .i64 e, .int .i64 f, .int .u64 bits]] w' fun e w1 => e = .returned (.agg #[.bool false, .int .u64 0, .int .u64 0, .string host, .string ⟨#[]⟩, .string ⟨#[]⟩, .int .i64 0, .int .i64 0, .int .i64 0, .int .i64 0, .int .i64 0, .int .i64 0, .int .u64 bits]) ∧ Below w'.heap.size w' w1) := ⟨fun w' => used_sp 47 (by unfold KT; omega) ⟨v6, hi, lo, host, mail, text, a, b, c, d, e, f, bits⟩ w'⟩
  show Calls Tryd.prog 15 #[_, .agg #[.bool v6, .int .u64 hi, .int .u64 lo, .string host, .string mail, .string text, .int .i64 a, .int .i64 b, .int .i64 c, .int .i64 d, .int .i64 e, .int .i64 f, .int .u64 bits]] w _
  dsimp only at hs1 hs2 hb0 hb1
  obtain ⟨r, hr⟩ : ∃ r, validS 47 ⟨v6, hi, lo, host, mail, text, a, b, c, d, e, f, bits⟩ = r := ⟨_, rfl⟩
  rw [hr]
  have HR := Aside0.mk (show (D.eqb ⟨false, 0, 0, host, ⟨#[]⟩, ⟨#[]⟩, 0, 0, 0, 0, 0, 0, bits⟩ ⟨v6, hi, lo, host, mail, text, a, b, c, d, e, f, bits⟩ && fieldsOk 47 ⟨v6, hi, lo, host, mail, text, a, b, c, d, e, f, bits⟩) = r from hr)
  clear hr
  cases h0 : D.eqb ⟨false, 0, 0, host, ⟨#[]⟩, ⟨#[]⟩, 0, 0, 0, 0, 0, 0, bits⟩ ⟨v6, hi, lo, host, mail, text, a, b, c, d, e, f, bits⟩
  case' true =>
    cases h1 : nameB host
    case' true =>
      cases h2 : (bits != 0)
      case' true =>
        cases h3 : setB bits
  all_goals
    go_enter Tryd.func15, Tryd.ntmps15
    go_wp2_with fail
    (first
      | (go_region_held3 (fun w' => (∀ o, w'.cell? ⟨w.heap.size, o, none⟩ = (#[.bool v6, .int .u64 hi, .int .u64 lo, .string host, .string mail, .string text, .int .i64 a, .int .i64 b, .int .i64 c, .int .i64 d, .int .i64 e, .int .i64 f, .int .u64 bits] : Array Value)[o]?) ∧ Own w w' #[.bool v6, .int .u64 hi, .int .u64 lo, .string host, .string mail, .string text, .int .i64 a, .int .i64 b, .int .i64 c, .int .i64 d, .int .i64 e, .int .i64 f, .int .u64 bits] 26) ((first | assumption | exact Own.s HO.out.drew | exact Own.s (Own.call HO.out.drew hb) | exact Own.s (Own.call (And.right (by assumption)) hb))) (first | (go_at_call 29; (with_reducible refine (rknown_yes 47 (by unfold KT; omega) _).mono ?_); rintro e_ w_ ⟨rfl, rfl⟩) | (go_at_call 30; (with_reducible refine (HUS.out _).mono ?_); rintro e_ w1 ⟨rfl, hb⟩)))
      | fail "held")
    replace HO := Aside0.mk (And.right ‹(∀ o, World.cell? w1 ⟨w.heap.size, o, none⟩ = _) ∧ Own w w1 _ _›)
    clear hb
    obtain ⟨hc, hf⟩ := HO.out.cells
    go_wp2_with (first
      | (go_at_call 32; (with_reducible refine (S.host _ _ (by assumption) (by assumption) _).mono ?_); rintro e_ w2 ⟨rfl, hb⟩; (try clear hc hf); replace HO := Aside0.mk (HO.out.call hb); clear hb; obtain ⟨hc, hf⟩ := HO.out.cells)
      | (go_at_call 29; (with_reducible refine (S.known _ _ (by assumption) _).mono ?_); rintro e_ w2 ⟨rfl, hb⟩; (try clear hc hf); replace HO := Aside0.mk (HO.out.call hb); clear hb; obtain ⟨hc, hf⟩ := HO.out.cells)
      | (go_at_call 33; (with_reducible refine (S.serial _ _ (by assumption) _).mono ?_); rintro e_ w2 ⟨rfl, hb⟩; (try clear hc hf); replace HO := Aside0.mk (HO.out.call hb); clear hb; obtain ⟨hc, hf⟩ := HO.out.cells)
      | (go_at_call 34; (with_reducible refine (S.within _ _ _ (by assumption) _).mono ?_); rintro e_ w2 ⟨rfl, hb⟩; (try clear hc hf); replace HO := Aside0.mk (HO.out.call hb); clear hb; obtain ⟨hc, hf⟩ := HO.out.cells)
      | (go_at_call 35; (with_reducible refine (S.long _ _ (by assumption) _).mono ?_); rintro e_ w2 ⟨rfl, hb⟩; (try clear hc hf); replace HO := Aside0.mk (HO.out.call hb); clear hb; obtain ⟨hc, hf⟩ := HO.out.cells)
      | (go_at_call 31; (with_reducible refine (S.addr _ _ _ _ (by assumption) _).mono ?_); rintro e_ w2 ⟨rfl, hb⟩; (try clear hc hf); replace HO := Aside0.mk (HO.out.call hb); clear hb; obtain ⟨hc, hf⟩ := HO.out.cells)
      | (go_at_call 36; (with_reducible refine (S.name _ _ (by assumption) (by assumption) _).mono ?_); rintro e_ w2 ⟨rfl, hb⟩; (try clear hc hf); replace HO := Aside0.mk (HO.out.call hb); clear hb; obtain ⟨hc, hf⟩ := HO.out.cells)
      | (go_at_call 37; (with_reducible refine (S.all _ _ (by assumption) (by assumption) (by assumption) _).mono ?_); rintro e_ w2 ⟨rfl, hb⟩; (try clear hc hf); replace HO := Aside0.mk (HO.out.call hb); clear hb; obtain ⟨hc, hf⟩ := HO.out.cells))
    go_ret
    exact ⟨ret_bool (by first | (have h_ := HR.out; simp [fieldsOk, *] at h_; simp [h_]; done) | (have h_ := HR.out; simp [fieldsOk, *] at h_; simp [*]; done)), HO.out.below⟩
end Go.Proofs.YtaehonmfoanloaaDoor.Hand
namespace Go.Proofs.YtaehonmfoanloaaDoor.Hand
open Go.RowKit Go.Proofs.YtaehonmfoanloaaDoorW.PrintWords Go.Proofs.YtaehonmfoanloaaDoor.RdW
set_option maxHeartbeats 8000000
set_option maxRecDepth 100000
set_option linter.all false
attribute [local go_sem high] eqD
theorem rv48 (S : RSp) (x : D) (hs1 : x.host.size ≤ 100000) (hs2 : x.mail.size ≤ 100000) (hb0 : 0 ≤ x.bits) (hb1 : x.bits < 18446744073709551616) (w : World) :
    Calls Tryd.prog 15 #[.int .i64 48, x.v] w fun e w' => e = .returned (.bool (validS 48 x)) ∧ Below w.heap.size w w' := by
  have hu := Tryd.underlying26
  have hv := Tryd.underlying24
  obtain ⟨v6, hi, lo, host, mail, text, a, b, c, d, e, f, bits⟩ := x
  have HO : Aside0 (Own w (w.alloc (.cells #[.bool v6, .int .u64 hi, .int .u64 lo, .string host, .string mail, .string text, .int .i64 a, .int .i64 b, .int .i64 c, .int .i64 d, .int .i64 e, .int .i64 f, .int .u64 bits] 26)) #[.bool v6, .int .u64 hi, .int .u64 lo, .string host, .string mail, .string text, .int .i64 a, .int .i64 b, .int .i64 c, .int .i64 d, .int .i64 e, .int .i64 f, .int .u64 bits] 26) := ⟨Own.new _ _ _⟩
  have HUS : Aside0 (∀ w' : World, Calls Tryd.prog 30 #[.int .i64 48, .agg #[.bool v6, .int .u64 hi, .int .u64 lo, .string host, .string mail, .string text, .int .i64 a, .int .i64 b, .int .i64 c, .int .i64 d, .int .i64 e, .int .i64 f, .int .u64 bits]] w' fun e w1 => e = .returned (.agg #[.bool false, .int .u64 0, .int .u64 0, .string ⟨#[]⟩, .string ⟨#[]⟩, .string text, .int .i64 a, .int .i64 b, .int .i64 c, .int .i64 0, .int .i64 0, .int .i64 0, .int .u64 0]) ∧ Below w'.heap.size w' w1) := ⟨fun w' => used_sp 48 (by unfold KT; omega) ⟨v6, hi, lo, host, mail, text, a, b, c, d, e, f, bits⟩ w'⟩
  show Calls Tryd.prog 15 #[_, .agg #[.bool v6, .int .u64 hi, .int .u64 lo, .string host, .string mail, .string text, .int .i64 a, .int .i64 b, .int .i64 c, .int .i64 d, .int .i64 e, .int .i64 f, .int .u64 bits]] w _
  dsimp only at hs1 hs2 hb0 hb1
  obtain ⟨r, hr⟩ : ∃ r, validS 48 ⟨v6, hi, lo, host, mail, text, a, b, c, d, e, f, bits⟩ = r := ⟨_, rfl⟩
  rw [hr]
  have HR := Aside0.mk (show (D.eqb ⟨false, 0, 0, ⟨#[]⟩, ⟨#[]⟩, text, a, b, c, 0, 0, 0, 0⟩ ⟨v6, hi, lo, host, mail, text, a, b, c, d, e, f, bits⟩ && fieldsOk 48 ⟨v6, hi, lo, host, mail, text, a, b, c, d, e, f, bits⟩) = r from hr)
  clear hr
  cases h0 : D.eqb ⟨false, 0, 0, ⟨#[]⟩, ⟨#[]⟩, text, a, b, c, 0, 0, 0, 0⟩ ⟨v6, hi, lo, host, mail, text, a, b, c, d, e, f, bits⟩
  case' true =>
    cases h1 : (a == 256)
    case' false => cases h2 : (a == 257)
    all_goals cases h3 : (b == 3)
    all_goals cases h4 : inB c 255
    all_goals cases h5 : longB text
  all_goals
    go_enter Tryd.func15, Tryd.ntmps15
    go_wp2_with fail
    (first
      | (go_region_held3 (fun w' => (∀ o, w'.cell? ⟨w.heap.size, o, none⟩ = (#[.bool v6, .int .u64 hi, .int .u64 lo, .string host, .string mail, .string text, .int .i64 a, .int .i64 b, .int .i64 c, .int .i64 d, .int .i64 e, .int .i64 f, .int .u64 bits] : Array Value)[o]?) ∧ Own w w' #[.bool v6, .int .u64 hi, .int .u64 lo, .string host, .string mail, .string text, .int .i64 a, .int .i64 b, .int .i64 c, .int .i64 d, .int .i64 e, .int .i64 f, .int .u64 bits] 26) ((first | assumption | exact Own.s HO.out.drew | exact Own.s (Own.call HO.out.drew hb) | exact Own.s (Own.call (And.right (by assumption)) hb))) (first | (go_at_call 29; (with_reducible refine (rknown_yes 48 (by unfold KT; omega) _).mono ?_); rintro e_ w_ ⟨rfl, rfl⟩) | (go_at_call 30; (with_reducible refine (HUS.out _).mono ?_); rintro e_ w1 ⟨rfl, hb⟩)))
      | fail "held")
    replace HO := Aside0.mk (And.right ‹(∀ o, World.cell? w1 ⟨w.heap.size, o, none⟩ = _) ∧ Own w w1 _ _›)
    clear hb
    obtain ⟨hc, hf⟩ := HO.out.cells
    go_wp2_with (first
      | (go_at_call 32; (with_reducible refine (S.host _ _ (by assumption) (by assumption) _).mono ?_); rintro e_ w2 ⟨rfl, hb⟩; (try clear hc hf); replace HO := Aside0.mk (HO.out.call hb); clear hb; obtain ⟨hc, hf⟩ := HO.out.cells)
      | (go_at_call 29; (with_reducible refine (S.known _ _ (by assumption) _).mono ?_); rintro e_ w2 ⟨rfl, hb⟩; (try clear hc hf); replace HO := Aside0.mk (HO.out.call hb); clear hb; obtain ⟨hc, hf⟩ := HO.out.cells)
      | (go_at_call 33; (with_reducible refine (S.serial _ _ (by assumption) _).mono ?_); rintro e_ w2 ⟨rfl, hb⟩; (try clear hc hf); replace HO := Aside0.mk (HO.out.call hb); clear hb; obtain ⟨hc, hf⟩ := HO.out.cells)
      | (go_at_call 34; (with_reducible refine (S.within _ _ _ (by assumption) _).mono ?_); rintro e_ w2 ⟨rfl, hb⟩; (try clear hc hf); replace HO := Aside0.mk (HO.out.call hb); clear hb; obtain ⟨hc, hf⟩ := HO.out.cells)
      | (go_at_call 35; (with_reducible refine (S.long _ _ (by assumption) _).mono ?_); rintro e_ w2 ⟨rfl, hb⟩; (try clear hc hf); replace HO := Aside0.mk (HO.out.call hb); clear hb; obtain ⟨hc, hf⟩ := HO.out.cells)
      | (go_at_call 31; (with_reducible refine (S.addr _ _ _ _ (by assumption) _).mono ?_); rintro e_ w2 ⟨rfl, hb⟩; (try clear hc hf); replace HO := Aside0.mk (HO.out.call hb); clear hb; obtain ⟨hc, hf⟩ := HO.out.cells)
      | (go_at_call 36; (with_reducible refine (S.name _ _ (by assumption) (by assumption) _).mono ?_); rintro e_ w2 ⟨rfl, hb⟩; (try clear hc hf); replace HO := Aside0.mk (HO.out.call hb); clear hb; obtain ⟨hc, hf⟩ := HO.out.cells)
      | (go_at_call 37; (with_reducible refine (S.all _ _ (by assumption) (by assumption) (by assumption) _).mono ?_); rintro e_ w2 ⟨rfl, hb⟩; (try clear hc hf); replace HO := Aside0.mk (HO.out.call hb); clear hb; obtain ⟨hc, hf⟩ := HO.out.cells))
    go_ret
    exact ⟨ret_bool (by first | (have h_ := HR.out; simp [fieldsOk, *] at h_; simp [h_]; done) | (have h_ := HR.out; simp [fieldsOk, *] at h_; simp [*]; done)), HO.out.below⟩
end Go.Proofs.YtaehonmfoanloaaDoor.Hand
namespace Go.Proofs.YtaehonmfoanloaaDoor.Hand
open Go.RowKit Go.Proofs.YtaehonmfoanloaaDoorW.PrintWords Go.Proofs.YtaehonmfoanloaaDoor.RdW
set_option linter.all false
theorem rvalid_known (S : RSp) (t : Int) (x : D) (hs1 : x.host.size ≤ 100000) (hs2 : x.mail.size ≤ 100000) (hb0 : 0 ≤ x.bits) (hb1 : x.bits < 18446744073709551616) (w : World) (hk : knownB t = true) :
    Calls Tryd.prog 15 #[.int .i64 t, x.v] w fun e w' => e = .returned (.bool (validS t x)) ∧ Below w.heap.size w w' := by
  rw [knownB_iff] at hk
  rcases hk with rfl | rfl | rfl | rfl | rfl | rfl | rfl | rfl | rfl | rfl | rfl | rfl | rfl | rfl
  · exact rv1 S x hs1 hs2 hb0 hb1 w
  · exact rv2 S x hs1 hs2 hb0 hb1 w
  · exact rv5 S x hs1 hs2 hb0 hb1 w
  · exact rv6 S x hs1 hs2 hb0 hb1 w
  · exact rv12 S x hs1 hs2 hb0 hb1 w
  · exact rv15 S x hs1 hs2 hb0 hb1 w
  · exact rv16 S x hs1 hs2 hb0 hb1 w
  · exact rv28 S x hs1 hs2 hb0 hb1 w
  · exact rv33 S x hs1 hs2 hb0 hb1 w
  · exact rv39 S x hs1 hs2 hb0 hb1 w
  · exact rv43 S x hs1 hs2 hb0 hb1 w
  · exact rv46 S x hs1 hs2 hb0 hb1 w
  · exact rv47 S x hs1 hs2 hb0 hb1 w
  · exact rv48 S x hs1 hs2 hb0 hb1 w
end Go.Proofs.YtaehonmfoanloaaDoor.Hand
namespace Go.Proofs.YtaehonmfoanloaaDoor.Hand
open Go.RowKit Go.Proofs.YtaehonmfoanloaaDoorW.PrintWords Go.Proofs.YtaehonmfoanloaaDoor.RdW Go.Proofs.YtaehonmfoanloaaDoor.PA
set_option maxHeartbeats 4000000
set_option maxRecDepth 100000
set_option linter.all false
theorem rknown_sp (t : Int) (w : World) : Calls Tryd.prog 29 #[.int .i64 t] w fun e w' => e = .returned (.bool (knownB t)) ∧ Below w.heap.size w w' :=
  (ddiref05_Known.calls t _ w (rKnown_eq t)).mono fun _ _ h => ⟨h.1, h.2.below⟩
theorem rvalid_unknown (t : Int) (x : D) (hk : knownB t = false) (HKN : ∀ w' : World, Calls Tryd.prog 29 #[.int .i64 t] w' fun e_ w1 => e_ = .returned (.bool (knownB t)) ∧ Below w'.heap.size w' w1) (w : World) :
    Calls Tryd.prog 15 #[.int .i64 t, x.v] w fun e w' => e = .returned (.bool (validS t x)) ∧ Below w.heap.size w w' := by
  have hu := Tryd.underlying26
  rw [show validS t x = false by unfold validS; rw [hk]; rfl]
  rw [hk] at HKN
  have HK := Aside0.mk HKN
  clear HKN hk
  obtain ⟨v6, hi, lo, host, mail, text, a, b, c, d, e, f, bits⟩ := x
  have HO : Aside0 (Own w (w.alloc (.cells #[.bool v6, .int .u64 hi, .int .u64 lo, .string host, .string mail, .string text, .int .i64 a, .int .i64 b, .int .i64 c, .int .i64 d, .int .i64 e, .int .i64 f, .int .u64 bits] 26)) #[.bool v6, .int .u64 hi, .int .u64 lo, .string host, .string mail, .string text, .int .i64 a, .int .i64 b, .int .i64 c, .int .i64 d, .int .i64 e, .int .i64 f, .int .u64 bits] 26) := ⟨Own.new _ _ _⟩
  show Calls Tryd.prog 15 #[_, .agg #[.bool v6, .int .u64 hi, .int .u64 lo, .string host, .string mail, .string text, .int .i64 a, .int .i64 b, .int .i64 c, .int .i64 d, .int .i64 e, .int .i64 f, .int .u64 bits]] w _
  go_enter Tryd.func15, Tryd.ntmps15
  go_wp2_with fail
  (first
    | (go_region_with (go_at_call 29; (with_reducible refine (HK.out _).mono ?_); rintro e_ w1 ⟨rfl, hb⟩))
    | fail "with")
  all_goals
    replace HO := Aside0.mk (HO.out.drew.call hb)
    clear hb
    go_wp2
    go_ret
    exact ⟨rfl, HO.out.below⟩
theorem rsp : RSp where
  host := fun n r hr hs w => by
    obtain ⟨k, hk⟩ := (rhost_ev n hs).rounds
    rw [hr] at hk
    exact ddiref05_host.calls k n r w hk
  name := fun n r hr hs w => by
    obtain ⟨k, hk⟩ := (rValid_ev n hs).rounds
    rw [hr] at hk
    exact ddiref01_Valid.calls k n r w hk
  known := fun t r hr w => by rw [← hr]; exact rknown_sp t w
  all := fun b r hr h0 h1 w => by
    obtain ⟨k, hk⟩ := (all_ref_ev b h0 h1).rounds
    rw [hr] at hk
    exact (ddiref05_all.calls k b r w hk).mono fun _ _ h => ⟨h.1, h.2.below⟩
  serial := fun x r hr w => (ddiref04_Valid.calls x r w (by
    rw [← hr]; unfold ddiref04_Valid.f inB
    by_cases h0 : 0 ≤ x
    · rw [if_pos h0]
      have : (x < 4294967296) = (x ≤ 4294967295) := by apply propext; omega
      simp [h0, this]
    · rw [if_neg h0]; simp [h0])).mono fun _ _ h => ⟨h.1, h.2.below⟩
  within := fun x m r hr w => (ddiref05_in.calls x m r w (by
    rw [← hr]; unfold ddiref05_in.f inB
    by_cases h0 : 0 ≤ x
    · rw [if_pos h0]; simp [h0]
    · rw [if_neg h0]; simp [h0])).mono fun _ _ h => ⟨h.1, h.2.below⟩
  long := fun s r hr w => (ddiref05_text.calls s r w (by
    rw [← hr]; unfold ddiref05_text.f longB
    by_cases h0 : (s.size : Int) ≥ 1
    · rw [if_pos h0]
      have h1 : 1 ≤ s.size := by omega
      have : ((s.size : Int) ≤ 255) = (s.size ≤ 255) := by apply propext; omega
      simp [h1, this]
    · rw [if_neg h0]
      have h1 : ¬ 1 ≤ s.size := by omega
      simp [h1])).mono fun _ _ h => ⟨h.1, h.2.below⟩
  addr := fun v6 hi lo r hr w => ddiref02_Valid.calls v6 hi lo r w (by rw [← hr]; exact ref_addr_Valid_eq v6 hi lo)
theorem rvalid_sp (t : Int) (x : D) (w : World) (hx : x.ok) :
    Calls Tryd.prog 15 #[.int .i64 t, x.v] w fun e w' => e = .returned (.bool (validS t x)) ∧ Below w.heap.size w w' := by
  cases hk : knownB t with
  | false => exact rvalid_unknown t x hk (fun w' => rknown_sp t w') w
  | true => exact rvalid_known rsp t x hx.host hx.mail hx.bits0 hx.bits1 w hk
end Go.Proofs.YtaehonmfoanloaaDoor.Hand
