/-
  The program's Valid of data, walked: it returns validS. Conditions: what the functions that it calls return (PSp), strings of the reach.
  The program's Valid of data, walked: it returns validS. Conditions: what the functions that it calls return (PSp), strings of the reach.
  The program's Valid of data, walked: it returns validS. Conditions: what the functions that it calls return (PSp), strings of the reach.
  The program's Valid of data, walked: it returns validS. Conditions: what the functions that it calls return (PSp), strings of the reach.
-/
import Derived.Test.YtaehonmfoanloaaDoorPvSp
namespace Go.Proofs.YtaehonmfoanloaaDoor.Hand
open Go.RowKit Go.Proofs.YtaehonmfoanloaaDoorW.PrintWords Go.Proofs.YtaehonmfoanloaaDoor.RdW
set_option maxHeartbeats 8000000
set_option maxRecDepth 100000
set_option linter.all false
attribute [local go_sem high] eqD
theorem pv6 (S : PSp) (x : D) (hs1 : x.host.size ≤ 100000) (hs2 : x.mail.size ≤ 100000) (w : World) (sh : w.ShapedOpen Tryd.prog) :
    Calls Tryd.prog 13 #[.int .i64 6, x.v] w fun e w' => e = .returned (.bool (validS 6 x)) ∧ Below w.heap.size w w' := by
  have hu := Tryd.underlying26
  have hv := Tryd.underlying24
  obtain ⟨v6, hi, lo, host, mail, text, a, b, c, d, e, f, bits⟩ := x
  have HO : Aside0 (Own w (w.alloc (.cells #[.bool v6, .int .u64 hi, .int .u64 lo, .string host, .string mail, .string text, .int .i64 a, .int .i64 b, .int .i64 c, .int .i64 d, .int .i64 e, .int .i64 f, .int .u64 bits] 26)) #[.bool v6, .int .u64 hi, .int .u64 lo, .string host, .string mail, .string text, .int .i64 a, .int .i64 b, .int .i64 c, .int .i64 d, .int .i64 e, .int .i64 f, .int .u64 bits] 26) := ⟨Own.new _ _ _⟩
  show Calls Tryd.prog 13 #[_, .agg #[.bool v6, .int .u64 hi, .int .u64 lo, .string host, .string mail, .string text, .int .i64 a, .int .i64 b, .int .i64 c, .int .i64 d, .int .i64 e, .int .i64 f, .int .u64 bits]] w _
  dsimp only at hs1 hs2
  obtain ⟨r, hr⟩ : ∃ r, validS 6 ⟨v6, hi, lo, host, mail, text, a, b, c, d, e, f, bits⟩ = r := ⟨_, rfl⟩
  rw [hr]
  have HR := Aside0.mk (show (D.eqb ⟨v6, hi, lo, host, mail, text, a, b, c, d, e, f, bits⟩ ⟨false, 0, 0, host, mail, ⟨#[]⟩, a, b, c, d, e, 0, 0⟩ && fieldsOk 6 ⟨v6, hi, lo, host, mail, text, a, b, c, d, e, f, bits⟩) = r by rw [D.eqb_comm]; exact hr)
  clear hr
  cases h0 : D.eqb ⟨v6, hi, lo, host, mail, text, a, b, c, d, e, f, bits⟩ ⟨false, 0, 0, host, mail, ⟨#[]⟩, a, b, c, d, e, 0, 0⟩
  case' true =>
    cases h1 : hostB host
    case' true =>
      cases h2 : hostB mail
      case' true =>
        cases h3 : inB a 4294967295
        case' true =>
          cases h4 : inB b 2147483647
          case' true =>
            cases h5 : inB c 2147483647
            case' true =>
              cases h6 : inB d 2147483647
              case' true =>
                cases h7 : inB e 2147483647
  all_goals
    go_enter Tryd.func13, Tryd.ntmps13
    go_wp2_with (first
      | (go_at_call 23; (with_reducible refine (S.host _ _ (by assumption) (by assumption) sh HO.out.below).mono ?_); rintro e_ w1 ⟨rfl, hb⟩; (try clear hc hf); replace HO := Aside0.mk (HO.out.call hb); clear hb; obtain ⟨hc, hf⟩ := HO.out.cells)
      | (go_at_call 20; (with_reducible refine (S.known _ _ (by assumption) _).mono ?_); rintro e_ w1 ⟨rfl, hb⟩; (try clear hc hf); replace HO := Aside0.mk (HO.out.call hb); clear hb; obtain ⟨hc, hf⟩ := HO.out.cells)
      | (go_at_call 24; (with_reducible refine (S.serial _ _ (by assumption) _).mono ?_); rintro e_ w1 ⟨rfl, rfl⟩)
      | (go_at_call 25; (with_reducible refine (S.within _ _ _ (by assumption) _).mono ?_); rintro e_ w1 ⟨rfl, rfl⟩)
      | (go_at_call 26; (with_reducible refine (S.long _ _ (by assumption) _).mono ?_); rintro e_ w1 ⟨rfl, rfl⟩)
      | (go_at_call 22; (with_reducible refine (S.addr _ _ _ _ (by assumption) _).mono ?_); rintro e_ w1 ⟨rfl, hb⟩; (try clear hc hf); replace HO := Aside0.mk (HO.out.call hb); clear hb; obtain ⟨hc, hf⟩ := HO.out.cells))
    go_ret
    exact ⟨ret_bool (by first | (have h_ := HR.out; simp [fieldsOk, *] at h_; simp [h_]; done) | (exfalso; simp [addrB] at h1; done)), HO.out.below⟩
end Go.Proofs.YtaehonmfoanloaaDoor.Hand
namespace Go.Proofs.YtaehonmfoanloaaDoor.Hand
open Go.RowKit Go.Proofs.YtaehonmfoanloaaDoorW.PrintWords Go.Proofs.YtaehonmfoanloaaDoor.RdW
set_option maxHeartbeats 8000000
set_option maxRecDepth 100000
set_option linter.all false
attribute [local go_sem high] eqD
theorem pv33 (S : PSp) (x : D) (hs1 : x.host.size ≤ 100000) (hs2 : x.mail.size ≤ 100000) (w : World) (sh : w.ShapedOpen Tryd.prog) :
    Calls Tryd.prog 13 #[.int .i64 33, x.v] w fun e w' => e = .returned (.bool (validS 33 x)) ∧ Below w.heap.size w w' := by
  have hu := Tryd.underlying26
  have hv := Tryd.underlying24
  obtain ⟨v6, hi, lo, host, mail, text, a, b, c, d, e, f, bits⟩ := x
  have HO : Aside0 (Own w (w.alloc (.cells #[.bool v6, .int .u64 hi, .int .u64 lo, .string host, .string mail, .string text, .int .i64 a, .int .i64 b, .int .i64 c, .int .i64 d, .int .i64 e, .int .i64 f, .int .u64 bits] 26)) #[.bool v6, .int .u64 hi, .int .u64 lo, .string host, .string mail, .string text, .int .i64 a, .int .i64 b, .int .i64 c, .int .i64 d, .int .i64 e, .int .i64 f, .int .u64 bits] 26) := ⟨Own.new _ _ _⟩
  show Calls Tryd.prog 13 #[_, .agg #[.bool v6, .int .u64 hi, .int .u64 lo, .string host, .string mail, .string text, .int .i64 a, .int .i64 b, .int .i64 c, .int .i64 d, .int .i64 e, .int .i64 f, .int .u64 bits]] w _
  dsimp only at hs1 hs2
  obtain ⟨r, hr⟩ : ∃ r, validS 33 ⟨v6, hi, lo, host, mail, text, a, b, c, d, e, f, bits⟩ = r := ⟨_, rfl⟩
  rw [hr]
  have HR := Aside0.mk (show (D.eqb ⟨v6, hi, lo, host, mail, text, a, b, c, d, e, f, bits⟩ ⟨false, 0, 0, host, ⟨#[]⟩, ⟨#[]⟩, a, b, c, 0, 0, 0, 0⟩ && fieldsOk 33 ⟨v6, hi, lo, host, mail, text, a, b, c, d, e, f, bits⟩) = r by rw [D.eqb_comm]; exact hr)
  clear hr
  cases h0 : D.eqb ⟨v6, hi, lo, host, mail, text, a, b, c, d, e, f, bits⟩ ⟨false, 0, 0, host, ⟨#[]⟩, ⟨#[]⟩, a, b, c, 0, 0, 0, 0⟩
  case' true =>
    cases h1 : hostB host
    case' true =>
      cases h2 : inB a 65535
      case' true =>
        cases h3 : inB b 65535
        case' true =>
          cases h4 : inB c 65535
  all_goals
    go_enter Tryd.func13, Tryd.ntmps13
    go_wp2_with (first
      | (go_at_call 23; (with_reducible refine (S.host _ _ (by assumption) (by assumption) sh HO.out.below).mono ?_); rintro e_ w1 ⟨rfl, hb⟩; (try clear hc hf); replace HO := Aside0.mk (HO.out.call hb); clear hb; obtain ⟨hc, hf⟩ := HO.out.cells)
      | (go_at_call 20; (with_reducible refine (S.known _ _ (by assumption) _).mono ?_); rintro e_ w1 ⟨rfl, hb⟩; (try clear hc hf); replace HO := Aside0.mk (HO.out.call hb); clear hb; obtain ⟨hc, hf⟩ := HO.out.cells)
      | (go_at_call 24; (with_reducible refine (S.serial _ _ (by assumption) _).mono ?_); rintro e_ w1 ⟨rfl, rfl⟩)
      | (go_at_call 25; (with_reducible refine (S.within _ _ _ (by assumption) _).mono ?_); rintro e_ w1 ⟨rfl, rfl⟩)
      | (go_at_call 26; (with_reducible refine (S.long _ _ (by assumption) _).mono ?_); rintro e_ w1 ⟨rfl, rfl⟩)
      | (go_at_call 22; (with_reducible refine (S.addr _ _ _ _ (by assumption) _).mono ?_); rintro e_ w1 ⟨rfl, hb⟩; (try clear hc hf); replace HO := Aside0.mk (HO.out.call hb); clear hb; obtain ⟨hc, hf⟩ := HO.out.cells))
    go_ret
    exact ⟨ret_bool (by first | (have h_ := HR.out; simp [fieldsOk, *] at h_; simp [h_]; done) | (exfalso; simp [addrB] at h1; done)), HO.out.below⟩
theorem pv43 (S : PSp) (x : D) (hs1 : x.host.size ≤ 100000) (hs2 : x.mail.size ≤ 100000) (w : World) (sh : w.ShapedOpen Tryd.prog) :
    Calls Tryd.prog 13 #[.int .i64 43, x.v] w fun e w' => e = .returned (.bool (validS 43 x)) ∧ Below w.heap.size w w' := by
  have hu := Tryd.underlying26
  have hv := Tryd.underlying24
  obtain ⟨v6, hi, lo, host, mail, text, a, b, c, d, e, f, bits⟩ := x
  have HO : Aside0 (Own w (w.alloc (.cells #[.bool v6, .int .u64 hi, .int .u64 lo, .string host, .string mail, .string text, .int .i64 a, .int .i64 b, .int .i64 c, .int .i64 d, .int .i64 e, .int .i64 f, .int .u64 bits] 26)) #[.bool v6, .int .u64 hi, .int .u64 lo, .string host, .string mail, .string text, .int .i64 a, .int .i64 b, .int .i64 c, .int .i64 d, .int .i64 e, .int .i64 f, .int .u64 bits] 26) := ⟨Own.new _ _ _⟩
  show Calls Tryd.prog 13 #[_, .agg #[.bool v6, .int .u64 hi, .int .u64 lo, .string host, .string mail, .string text, .int .i64 a, .int .i64 b, .int .i64 c, .int .i64 d, .int .i64 e, .int .i64 f, .int .u64 bits]] w _
  dsimp only at hs1 hs2
  obtain ⟨r, hr⟩ : ∃ r, validS 43 ⟨v6, hi, lo, host, mail, text, a, b, c, d, e, f, bits⟩ = r := ⟨_, rfl⟩
  rw [hr]
  have HR := Aside0.mk (show (D.eqb ⟨v6, hi, lo, host, mail, text, a, b, c, d, e, f, bits⟩ ⟨false, 0, 0, ⟨#[]⟩, ⟨#[]⟩, text, a, b, c, 0, 0, 0, 0⟩ && fieldsOk 43 ⟨v6, hi, lo, host, mail, text, a, b, c, d, e, f, bits⟩) = r by rw [D.eqb_comm]; exact hr)
  clear hr
  cases h0 : D.eqb ⟨v6, hi, lo, host, mail, text, a, b, c, d, e, f, bits⟩ ⟨false, 0, 0, ⟨#[]⟩, ⟨#[]⟩, text, a, b, c, 0, 0, 0, 0⟩
  case' true =>
    cases h1 : longB text
    case' true =>
      cases h2 : inB a 65535
      case' true =>
        cases h3 : inB b 255
        case' true =>
          cases h4 : inB c 255
  all_goals
    go_enter Tryd.func13, Tryd.ntmps13
    go_wp2_with (first
      | (go_at_call 23; (with_reducible refine (S.host _ _ (by assumption) (by assumption) sh HO.out.below).mono ?_); rintro e_ w1 ⟨rfl, hb⟩; (try clear hc hf); replace HO := Aside0.mk (HO.out.call hb); clear hb; obtain ⟨hc, hf⟩ := HO.out.cells)
      | (go_at_call 20; (with_reducible refine (S.known _ _ (by assumption) _).mono ?_); rintro e_ w1 ⟨rfl, hb⟩; (try clear hc hf); replace HO := Aside0.mk (HO.out.call hb); clear hb; obtain ⟨hc, hf⟩ := HO.out.cells)
      | (go_at_call 24; (with_reducible refine (S.serial _ _ (by assumption) _).mono ?_); rintro e_ w1 ⟨rfl, rfl⟩)
      | (go_at_call 25; (with_reducible refine (S.within _ _ _ (by assumption) _).mono ?_); rintro e_ w1 ⟨rfl, rfl⟩)
      | (go_at_call 26; (with_reducible refine (S.long _ _ (by assumption) _).mono ?_); rintro e_ w1 ⟨rfl, rfl⟩)
      | (go_at_call 22; (with_reducible refine (S.addr _ _ _ _ (by assumption) _).mono ?_); rintro e_ w1 ⟨rfl, hb⟩; (try clear hc hf); replace HO := Aside0.mk (HO.out.call hb); clear hb; obtain ⟨hc, hf⟩ := HO.out.cells))
    go_ret
    exact ⟨ret_bool (by first | (have h_ := HR.out; simp [fieldsOk, *] at h_; simp [h_]; done) | (exfalso; simp [addrB] at h1; done)), HO.out.below⟩
end Go.Proofs.YtaehonmfoanloaaDoor.Hand
namespace Go.Proofs.YtaehonmfoanloaaDoor.Hand
open Go.RowKit Go.Proofs.YtaehonmfoanloaaDoorW.PrintWords Go.Proofs.YtaehonmfoanloaaDoor.RdW
set_option maxHeartbeats 8000000
set_option maxRecDepth 100000
set_option linter.all false
attribute [local go_sem high] eqD
theorem pv1 (S : PSp) (x : D) (hs1 : x.host.size ≤ 100000) (hs2 : x.mail.size ≤ 100000) (w : World) (sh : w.ShapedOpen Tryd.prog) :
    Calls Tryd.prog 13 #[.int .i64 1, x.v] w fun e w' => e = .returned (.bool (validS 1 x)) ∧ Below w.heap.size w w' := by
  have hu := Tryd.underlying26
  have hv := Tryd.underlying24
  obtain ⟨v6, hi, lo, host, mail, text, a, b, c, d, e, f, bits⟩ := x
  have HO : Aside0 (Own w (w.alloc (.cells #[.bool v6, .int .u64 hi, .int .u64 lo, .string host, .string mail, .string text, .int .i64 a, .int .i64 b, .int .i64 c, .int .i64 d, .int .i64 e, .int .i64 f, .int .u64 bits] 26)) #[.bool v6, .int .u64 hi, .int .u64 lo, .string host, .string mail, .string text, .int .i64 a, .int .i64 b, .int .i64 c, .int .i64 d, .int .i64 e, .int .i64 f, .int .u64 bits] 26) := ⟨Own.new _ _ _⟩
  show Calls Tryd.prog 13 #[_, .agg #[.bool v6, .int .u64 hi, .int .u64 lo, .string host, .string mail, .string text, .int .i64 a, .int .i64 b, .int .i64 c, .int .i64 d, .int .i64 e, .int .i64 f, .int .u64 bits]] w _
  dsimp only at hs1 hs2
  obtain ⟨r, hr⟩ : ∃ r, validS 1 ⟨v6, hi, lo, host, mail, text, a, b, c, d, e, f, bits⟩ = r := ⟨_, rfl⟩
  rw [hr]
  have HR := Aside0.mk (show (D.eqb ⟨v6, hi, lo, host, mail, text, a, b, c, d, e, f, bits⟩ ⟨v6, hi, lo, ⟨#[]⟩, ⟨#[]⟩, ⟨#[]⟩, 0, 0, 0, 0, 0, 0, 0⟩ && fieldsOk 1 ⟨v6, hi, lo, host, mail, text, a, b, c, d, e, f, bits⟩) = r by rw [D.eqb_comm]; exact hr)
  clear hr
  cases h0 : D.eqb ⟨v6, hi, lo, host, mail, text, a, b, c, d, e, f, bits⟩ ⟨v6, hi, lo, ⟨#[]⟩, ⟨#[]⟩, ⟨#[]⟩, 0, 0, 0, 0, 0, 0, 0⟩
  case' true =>
    cases h1 : addrB v6 hi lo
  all_goals cases v6
  all_goals
    go_enter Tryd.func13, Tryd.ntmps13
    go_wp2_with (first
      | (go_at_call 23; (with_reducible refine (S.host _ _ (by assumption) (by assumption) sh HO.out.below).mono ?_); rintro e_ w1 ⟨rfl, hb⟩; (try clear hc hf); replace HO := Aside0.mk (HO.out.call hb); clear hb; obtain ⟨hc, hf⟩ := HO.out.cells)
      | (go_at_call 20; (with_reducible refine (S.known _ _ (by assumption) _).mono ?_); rintro e_ w1 ⟨rfl, hb⟩; (try clear hc hf); replace HO := Aside0.mk (HO.out.call hb); clear hb; obtain ⟨hc, hf⟩ := HO.out.cells)
      | (go_at_call 24; (with_reducible refine (S.serial _ _ (by assumption) _).mono ?_); rintro e_ w1 ⟨rfl, rfl⟩)
      | (go_at_call 25; (with_reducible refine (S.within _ _ _ (by assumption) _).mono ?_); rintro e_ w1 ⟨rfl, rfl⟩)
      | (go_at_call 26; (with_reducible refine (S.long _ _ (by assumption) _).mono ?_); rintro e_ w1 ⟨rfl, rfl⟩)
      | (go_at_call 22; (with_reducible refine (S.addr _ _ _ _ (by assumption) _).mono ?_); rintro e_ w1 ⟨rfl, hb⟩; (try clear hc hf); replace HO := Aside0.mk (HO.out.call hb); clear hb; obtain ⟨hc, hf⟩ := HO.out.cells))
    go_ret
    exact ⟨ret_bool (by first | (have h_ := HR.out; simp [fieldsOk, *] at h_; simp [h_]; done) | (exfalso; simp [addrB] at h1; done)), HO.out.below⟩
theorem pv28 (S : PSp) (x : D) (hs1 : x.host.size ≤ 100000) (hs2 : x.mail.size ≤ 100000) (w : World) (sh : w.ShapedOpen Tryd.prog) :
    Calls Tryd.prog 13 #[.int .i64 28, x.v] w fun e w' => e = .returned (.bool (validS 28 x)) ∧ Below w.heap.size w w' := by
  have hu := Tryd.underlying26
  have hv := Tryd.underlying24
  obtain ⟨v6, hi, lo, host, mail, text, a, b, c, d, e, f, bits⟩ := x
  have HO : Aside0 (Own w (w.alloc (.cells #[.bool v6, .int .u64 hi, .int .u64 lo, .string host, .string mail, .string text, .int .i64 a, .int .i64 b, .int .i64 c, .int .i64 d, .int .i64 e, .int .i64 f, .int .u64 bits] 26)) #[.bool v6, .int .u64 hi, .int .u64 lo, .string host, .string mail, .string text, .int .i64 a, .int .i64 b, .int .i64 c, .int .i64 d, .int .i64 e, .int .i64 f, .int .u64 bits] 26) := ⟨Own.new _ _ _⟩
  show Calls Tryd.prog 13 #[_, .agg #[.bool v6, .int .u64 hi, .int .u64 lo, .string host, .string mail, .string text, .int .i64 a, .int .i64 b, .int .i64 c, .int .i64 d, .int .i64 e, .int .i64 f, .int .u64 bits]] w _
  dsimp only at hs1 hs2
  obtain ⟨r, hr⟩ : ∃ r, validS 28 ⟨v6, hi, lo, host, mail, text, a, b, c, d, e, f, bits⟩ = r := ⟨_, rfl⟩
  rw [hr]
  have HR := Aside0.mk (show (D.eqb ⟨v6, hi, lo, host, mail, text, a, b, c, d, e, f, bits⟩ ⟨v6, hi, lo, ⟨#[]⟩, ⟨#[]⟩, ⟨#[]⟩, 0, 0, 0, 0, 0, 0, 0⟩ && fieldsOk 28 ⟨v6, hi, lo, host, mail, text, a, b, c, d, e, f, bits⟩) = r by rw [D.eqb_comm]; exact hr)
  clear hr
  cases h0 : D.eqb ⟨v6, hi, lo, host, mail, text, a, b, c, d, e, f, bits⟩ ⟨v6, hi, lo, ⟨#[]⟩, ⟨#[]⟩, ⟨#[]⟩, 0, 0, 0, 0, 0, 0, 0⟩
  case' true =>
    cases h1 : addrB v6 hi lo
  all_goals cases v6
  all_goals
    go_enter Tryd.func13, Tryd.ntmps13
    go_wp2_with (first
      | (go_at_call 23; (with_reducible refine (S.host _ _ (by assumption) (by assumption) sh HO.out.below).mono ?_); rintro e_ w1 ⟨rfl, hb⟩; (try clear hc hf); replace HO := Aside0.mk (HO.out.call hb); clear hb; obtain ⟨hc, hf⟩ := HO.out.cells)
      | (go_at_call 20; (with_reducible refine (S.known _ _ (by assumption) _).mono ?_); rintro e_ w1 ⟨rfl, hb⟩; (try clear hc hf); replace HO := Aside0.mk (HO.out.call hb); clear hb; obtain ⟨hc, hf⟩ := HO.out.cells)
      | (go_at_call 24; (with_reducible refine (S.serial _ _ (by assumption) _).mono ?_); rintro e_ w1 ⟨rfl, rfl⟩)
      | (go_at_call 25; (with_reducible refine (S.within _ _ _ (by assumption) _).mono ?_); rintro e_ w1 ⟨rfl, rfl⟩)
      | (go_at_call 26; (with_reducible refine (S.long _ _ (by assumption) _).mono ?_); rintro e_ w1 ⟨rfl, rfl⟩)
      | (go_at_call 22; (with_reducible refine (S.addr _ _ _ _ (by assumption) _).mono ?_); rintro e_ w1 ⟨rfl, hb⟩; (try clear hc hf); replace HO := Aside0.mk (HO.out.call hb); clear hb; obtain ⟨hc, hf⟩ := HO.out.cells))
    go_ret
    exact ⟨ret_bool (by first | (have h_ := HR.out; simp [fieldsOk, *] at h_; simp [h_]; done) | (exfalso; simp [addrB] at h1; done)), HO.out.below⟩
end Go.Proofs.YtaehonmfoanloaaDoor.Hand
namespace Go.Proofs.YtaehonmfoanloaaDoor.Hand
open Go.RowKit Go.Proofs.YtaehonmfoanloaaDoorW.PrintWords Go.Proofs.YtaehonmfoanloaaDoor.RdW
set_option maxHeartbeats 8000000
set_option maxRecDepth 100000
set_option linter.all false
attribute [local go_sem high] eqD
theorem pv48 (S : PSp) (x : D) (hs1 : x.host.size ≤ 100000) (hs2 : x.mail.size ≤ 100000) (w : World) (sh : w.ShapedOpen Tryd.prog) :
    Calls Tryd.prog 13 #[.int .i64 48, x.v] w fun e w' => e = .returned (.bool (validS 48 x)) ∧ Below w.heap.size w w' := by
  have hu := Tryd.underlying26
  have hv := Tryd.underlying24
  obtain ⟨v6, hi, lo, host, mail, text, a, b, c, d, e, f, bits⟩ := x
  have HO : Aside0 (Own w (w.alloc (.cells #[.bool v6, .int .u64 hi, .int .u64 lo, .string host, .string mail, .string text, .int .i64 a, .int .i64 b, .int .i64 c, .int .i64 d, .int .i64 e, .int .i64 f, .int .u64 bits] 26)) #[.bool v6, .int .u64 hi, .int .u64 lo, .string host, .string mail, .string text, .int .i64 a, .int .i64 b, .int .i64 c, .int .i64 d, .int .i64 e, .int .i64 f, .int .u64 bits] 26) := ⟨Own.new _ _ _⟩
  show Calls Tryd.prog 13 #[_, .agg #[.bool v6, .int .u64 hi, .int .u64 lo, .string host, .string mail, .string text, .int .i64 a, .int .i64 b, .int .i64 c, .int .i64 d, .int .i64 e, .int .i64 f, .int .u64 bits]] w _
  dsimp only at hs1 hs2
  obtain ⟨r, hr⟩ : ∃ r, validS 48 ⟨v6, hi, lo, host, mail, text, a, b, c, d, e, f, bits⟩ = r := ⟨_, rfl⟩
  rw [hr]
  have HR := Aside0.mk (show (D.eqb ⟨v6, hi, lo, host, mail, text, a, b, c, d, e, f, bits⟩ ⟨false, 0, 0, ⟨#[]⟩, ⟨#[]⟩, text, a, b, c, 0, 0, 0, 0⟩ && fieldsOk 48 ⟨v6, hi, lo, host, mail, text, a, b, c, d, e, f, bits⟩) = r by rw [D.eqb_comm]; exact hr)
  clear hr
  cases h0 : D.eqb ⟨v6, hi, lo, host, mail, text, a, b, c, d, e, f, bits⟩ ⟨false, 0, 0, ⟨#[]⟩, ⟨#[]⟩, text, a, b, c, 0, 0, 0, 0⟩
  case' true =>
    cases h1 : longB text
    case' true =>
      cases h2 : (a == 256)
      case' false => cases h3 : (a == 257)
      all_goals try cases h4 : (b == 3)
      all_goals cases h5 : inB c 255
  all_goals
    go_enter Tryd.func13, Tryd.ntmps13
    go_wp2_with (first
      | (go_at_call 23; (with_reducible refine (S.host _ _ (by assumption) (by assumption) sh HO.out.below).mono ?_); rintro e_ w1 ⟨rfl, hb⟩; (try clear hc hf); replace HO := Aside0.mk (HO.out.call hb); clear hb; obtain ⟨hc, hf⟩ := HO.out.cells)
      | (go_at_call 20; (with_reducible refine (S.known _ _ (by assumption) _).mono ?_); rintro e_ w1 ⟨rfl, hb⟩; (try clear hc hf); replace HO := Aside0.mk (HO.out.call hb); clear hb; obtain ⟨hc, hf⟩ := HO.out.cells)
      | (go_at_call 24; (with_reducible refine (S.serial _ _ (by assumption) _).mono ?_); rintro e_ w1 ⟨rfl, rfl⟩)
      | (go_at_call 25; (with_reducible refine (S.within _ _ _ (by assumption) _).mono ?_); rintro e_ w1 ⟨rfl, rfl⟩)
      | (go_at_call 26; (with_reducible refine (S.long _ _ (by assumption) _).mono ?_); rintro e_ w1 ⟨rfl, rfl⟩)
      | (go_at_call 22; (with_reducible refine (S.addr _ _ _ _ (by assumption) _).mono ?_); rintro e_ w1 ⟨rfl, hb⟩; (try clear hc hf); replace HO := Aside0.mk (HO.out.call hb); clear hb; obtain ⟨hc, hf⟩ := HO.out.cells))
    go_ret
    exact ⟨ret_bool (by first | (have h_ := HR.out; simp [fieldsOk, *] at h_; simp [h_]; done) | (exfalso; simp [addrB] at h1; done)), HO.out.below⟩
end Go.Proofs.YtaehonmfoanloaaDoor.Hand
