/-
  The program's Valid of data, walked: it returns validS. Conditions: what the functions that it calls return (PSp), strings of the reach.
-/
import Derived.Test.YtaehonmfoanloaaDoorPvSp
namespace Go.Proofs.YtaehonmfoanloaaDoor.Hand
open Go.RowKit Go.Proofs.YtaehonmfoanloaaDoorW.PrintWords Go.Proofs.YtaehonmfoanloaaDoor.RdW
set_option maxHeartbeats 8000000
set_option maxRecDepth 100000
set_option linter.all false
attribute [local go_sem high] eqD
theorem pv2 (S : PSp) (x : D) (hs1 : x.host.size ≤ 100000) (hs2 : x.mail.size ≤ 100000) (w : World) (sh : w.ShapedOpen Tryd.prog) :
    Calls Tryd.prog 13 #[.int .i64 2, x.v] w fun e w' => e = .returned (.bool (validS 2 x)) ∧ Below w.heap.size w w' := by
  have hu := Tryd.underlying26
  have hv := Tryd.underlying24
  obtain ⟨v6, hi, lo, host, mail, text, a, b, c, d, e, f, bits⟩ := x
  have HO : Aside0 (Own w (w.alloc (.cells #[.bool v6, .int .u64 hi, .int .u64 lo, .string host, .string mail, .string text, .int .i64 a, .int .i64 b, .int .i64 c, .int .i64 d, .int .i64 e, .int .i64 f, .int .u64 bits] 26)) #[.bool v6, .int .u64 hi, .int .u64 lo, .string host, .string mail, .string text, .int .i64 a, .int .i64 b, .int .i64 c, .int .i64 d, .int .i64 e, .int .i64 f, .int .u64 bits] 26) := ⟨Own.new _ _ _⟩
  show Calls Tryd.prog 13 #[_, .agg #[.bool v6, .int .u64 hi, .int .u64 lo, .string host, .string mail, .string text, .int .i64 a, .int .i64 b, .int .i64 c, .int .i64 d, .int .i64 e, .int .i64 f, .int .u64 bits]] w _
  dsimp only at hs1 hs2
  obtain ⟨r, hr⟩ : ∃ r, validS 2 ⟨v6, hi, lo, host, mail, text, a, b, c, d, e, f, bits⟩ = r := ⟨_, rfl⟩
  rw [hr]
  have HR := Aside0.mk (show (D.eqb ⟨v6, hi, lo, host, mail, text, a, b, c, d, e, f, bits⟩ ⟨false, 0, 0, host, ⟨#[]⟩, ⟨#[]⟩, 0, 0, 0, 0, 0, 0, 0⟩ && fieldsOk 2 ⟨v6, hi, lo, host, mail, text, a, b, c, d, e, f, bits⟩) = r by rw [D.eqb_comm]; exact hr)
  clear hr
  cases h0 : D.eqb ⟨v6, hi, lo, host, mail, text, a, b, c, d, e, f, bits⟩ ⟨false, 0, 0, host, ⟨#[]⟩, ⟨#[]⟩, 0, 0, 0, 0, 0, 0, 0⟩
  case' true =>
    cases h1 : hostB host
  all_goals
    go_enter Tryd.func13, Tryd.ntmps13
    go_wp2_with (first
      | (go_at_call 23; (with_reducible refine (S.host _ _ (by assumption) (by assumption) sh HO.out.below).mono ?_); rintro e_ w1 ⟨rfl, hb⟩; (try clear hc hf); replace HO := Aside0.mk (HO.out.call hb); clear hb; obtain ⟨hc, hf⟩ := HO.out.cells)
      | (go_at_call 20; (with_reducible refine (S.known _ _ (by assumption) _).mono ?_); rintro e_ w1 ⟨rfl, hb⟩; (try clear hc hf); replace HO := Aside0.mk (HO.out.call hb); clear hb; obtain ⟨hc, hf⟩ := HO.out.cells)
      | (go_at_call 24; (with_reducible refine (S.serial _ _ (by assumption) _).mono ?_); rintro e_ w1 ⟨rfl, rfl⟩)
      | (go_at_call 25; (with_reducible refine (S.within _ _ _ (by assumption) _).mono ?_); rintro e_ w1 ⟨rfl, rfl⟩)
      | (go_at_call 26; (with_reducible refine (S.long _ _ (by assumption) _).mono ?_); rintro e_ w1 ⟨rfl, rfl⟩)
      | (go_at_call 22; (with_reducible refine (S.addr _ _ _ _ (by assumption) _).mono ?_); rintro e_ w1 ⟨rfl, hb⟩; (try clear hc hf); replace HO := Aside0.mk (HO.out.call hb); clear hb; obtain ⟨hc, hf⟩ := HO.out.cells))
    go_ret
    exact ⟨ret_bool (by first | (have h_ := HR.out; simp [fieldsOk, *] at h_; simp [h_]; done) | (exfalso; simp [addrB] at h1; done)), HO.out.below⟩
theorem pv5 (S : PSp) (x : D) (hs1 : x.host.size ≤ 100000) (hs2 : x.mail.size ≤ 100000) (w : World) (sh : w.ShapedOpen Tryd.prog) :
    Calls Tryd.prog 13 #[.int .i64 5, x.v] w fun e w' => e = .returned (.bool (validS 5 x)) ∧ Below w.heap.size w w' := by
  have hu := Tryd.underlying26
  have hv := Tryd.underlying24
  obtain ⟨v6, hi, lo, host, mail, text, a, b, c, d, e, f, bits⟩ := x
  have HO : Aside0 (Own w (w.alloc (.cells #[.bool v6, .int .u64 hi, .int .u64 lo, .string host, .string mail, .string text, .int .i64 a, .int .i64 b, .int .i64 c, .int .i64 d, .int .i64 e, .int .i64 f, .int .u64 bits] 26)) #[.bool v6, .int .u64 hi, .int .u64 lo, .string host, .string mail, .string text, .int .i64 a, .int .i64 b, .int .i64 c, .int .i64 d, .int .i64 e, .int .i64 f, .int .u64 bits] 26) := ⟨Own.new _ _ _⟩
  show Calls Tryd.prog 13 #[_, .agg #[.bool v6, .int .u64 hi, .int .u64 lo, .string host, .string mail, .string text, .int .i64 a, .int .i64 b, .int .i64 c, .int .i64 d, .int .i64 e, .int .i64 f, .int .u64 bits]] w _
  dsimp only at hs1 hs2
  obtain ⟨r, hr⟩ : ∃ r, validS 5 ⟨v6, hi, lo, host, mail, text, a, b, c, d, e, f, bits⟩ = r := ⟨_, rfl⟩
  rw [hr]
  have HR := Aside0.mk (show (D.eqb ⟨v6, hi, lo, host, mail, text, a, b, c, d, e, f, bits⟩ ⟨false, 0, 0, host, ⟨#[]⟩, ⟨#[]⟩, 0, 0, 0, 0, 0, 0, 0⟩ && fieldsOk 5 ⟨v6, hi, lo, host, mail, text, a, b, c, d, e, f, bits⟩) = r by rw [D.eqb_comm]; exact hr)
  clear hr
  cases h0 : D.eqb ⟨v6, hi, lo, host, mail, text, a, b, c, d, e, f, bits⟩ ⟨false, 0, 0, host, ⟨#[]⟩, ⟨#[]⟩, 0, 0, 0, 0, 0, 0, 0⟩
  case' true =>
    cases h1 : hostB host
  all_goals
    go_enter Tryd.func13, Tryd.ntmps13
    go_wp2_with (first
      | (go_at_call 23; (with_reducible refine (S.host _ _ (by assumption) (by assumption) sh HO.out.below).mono ?_); rintro e_ w1 ⟨rfl, hb⟩; (try clear hc hf); replace HO := Aside0.mk (HO.out.call hb); clear hb; obtain ⟨hc, hf⟩ := HO.out.cells)
      | (go_at_call 20; (with_reducible refine (S.known _ _ (by assumption) _).mono ?_); rintro e_ w1 ⟨rfl, hb⟩; (try clear hc hf); replace HO := Aside0.mk (HO.out.call hb); clear hb; obtain ⟨hc, hf⟩ := HO.out.cells)
      | (go_at_call 24; (with_reducible refine (S.serial _ _ (by assumption) _).mono ?_); rintro e_ w1 ⟨rfl, rfl⟩)
      | (go_at_call 25; (with_reducible refine (S.within _ _ _ (by assumption) _).mono ?_); rintro e_ w1 ⟨rfl, rfl⟩)
      | (go_at_call 26; (with_reducible refine (S.long _ _ (by assumption) _).mono ?_); rintro e_ w1 ⟨rfl, rfl⟩)
      | (go_at_call 22; (with_reducible refine (S.addr _ _ _ _ (by assumption) _).mono ?_); rintro e_ w1 ⟨rfl, hb⟩; (try clear hc hf); replace HO := Aside0.mk (HO.out.call hb); clear hb; obtain ⟨hc, hf⟩ := HO.out.cells))
    go_ret
    exact ⟨ret_bool (by first | (have h_ := HR.out; simp [fieldsOk, *] at h_; simp [h_]; done) | (exfalso; simp [addrB] at h1; done)), HO.out.below⟩
theorem pv12 (S : PSp) (x : D) (hs1 : x.host.size ≤ 100000) (hs2 : x.mail.size ≤ 100000) (w : World) (sh : w.ShapedOpen Tryd.prog) :
    Calls Tryd.prog 13 #[.int .i64 12, x.v] w fun e w' => e = .returned (.bool (validS 12 x)) ∧ Below w.heap.size w w' := by
  have hu := Tryd.underlying26
  have hv := Tryd.underlying24
  obtain ⟨v6, hi, lo, host, mail, text, a, b, c, d, e, f, bits⟩ := x
  have HO : Aside0 (Own w (w.alloc (.cells #[.bool v6, .int .u64 hi, .int .u64 lo, .string host, .string mail, .string text, .int .i64 a, .int .i64 b, .int .i64 c, .int .i64 d, .int .i64 e, .int .i64 f, .int .u64 bits] 26)) #[.bool v6, .int .u64 hi, .int .u64 lo, .string host, .string mail, .string text, .int .i64 a, .int .i64 b, .int .i64 c, .int .i64 d, .int .i64 e, .int .i64 f, .int .u64 bits] 26) := ⟨Own.new _ _ _⟩
  show Calls Tryd.prog 13 #[_, .agg #[.bool v6, .int .u64 hi, .int .u64 lo, .string host, .string mail, .string text, .int .i64 a, .int .i64 b, .int .i64 c, .int .i64 d, .int .i64 e, .int .i64 f, .int .u64 bits]] w _
  dsimp only at hs1 hs2
  obtain ⟨r, hr⟩ : ∃ r, validS 12 ⟨v6, hi, lo, host, mail, text, a, b, c, d, e, f, bits⟩ = r := ⟨_, rfl⟩
  rw [hr]
  have HR := Aside0.mk (show (D.eqb ⟨v6, hi, lo, host, mail, text, a, b, c, d, e, f, bits⟩ ⟨false, 0, 0, host, ⟨#[]⟩, ⟨#[]⟩, 0, 0, 0, 0, 0, 0, 0⟩ && fieldsOk 12 ⟨v6, hi, lo, host, mail, text, a, b, c, d, e, f, bits⟩) = r by rw [D.eqb_comm]; exact hr)
  clear hr
  cases h0 : D.eqb ⟨v6, hi, lo, host, mail, text, a, b, c, d, e, f, bits⟩ ⟨false, 0, 0, host, ⟨#[]⟩, ⟨#[]⟩, 0, 0, 0, 0, 0, 0, 0⟩
  case' true =>
    cases h1 : hostB host
  all_goals
    go_enter Tryd.func13, Tryd.ntmps13
    go_wp2_with (first
      | (go_at_call 23; (with_reducible refine (S.host _ _ (by assumption) (by assumption) sh HO.out.below).mono ?_); rintro e_ w1 ⟨rfl, hb⟩; (try clear hc hf); replace HO := Aside0.mk (HO.out.call hb); clear hb; obtain ⟨hc, hf⟩ := HO.out.cells)
      | (go_at_call 20; (with_reducible refine (S.known _ _ (by assumption) _).mono ?_); rintro e_ w1 ⟨rfl, hb⟩; (try clear hc hf); replace HO := Aside0.mk (HO.out.call hb); clear hb; obtain ⟨hc, hf⟩ := HO.out.cells)
      | (go_at_call 24; (with_reducible refine (S.serial _ _ (by assumption) _).mono ?_); rintro e_ w1 ⟨rfl, rfl⟩)
      | (go_at_call 25; (with_reducible refine (S.within _ _ _ (by assumption) _).mono ?_); rintro e_ w1 ⟨rfl, rfl⟩)
      | (go_at_call 26; (with_reducible refine (S.long _ _ (by assumption) _).mono ?_); rintro e_ w1 ⟨rfl, rfl⟩)
      | (go_at_call 22; (with_reducible refine (S.addr _ _ _ _ (by assumption) _).mono ?_); rintro e_ w1 ⟨rfl, hb⟩; (try clear hc hf); replace HO := Aside0.mk (HO.out.call hb); clear hb; obtain ⟨hc, hf⟩ := HO.out.cells))
    go_ret
    exact ⟨ret_bool (by first | (have h_ := HR.out; simp [fieldsOk, *] at h_; simp [h_]; done) | (exfalso; simp [addrB] at h1; done)), HO.out.below⟩
theorem pv39 (S : PSp) (x : D) (hs1 : x.host.size ≤ 100000) (hs2 : x.mail.size ≤ 100000) (w : World) (sh : w.ShapedOpen Tryd.prog) :
    Calls Tryd.prog 13 #[.int .i64 39, x.v] w fun e w' => e = .returned (.bool (validS 39 x)) ∧ Below w.heap.size w w' := by
  have hu := Tryd.underlying26
  have hv := Tryd.underlying24
  obtain ⟨v6, hi, lo, host, mail, text, a, b, c, d, e, f, bits⟩ := x
  have HO : Aside0 (Own w (w.alloc (.cells #[.bool v6, .int .u64 hi, .int .u64 lo, .string host, .string mail, .string text, .int .i64 a, .int .i64 b, .int .i64 c, .int .i64 d, .int .i64 e, .int .i64 f, .int .u64 bits] 26)) #[.bool v6, .int .u64 hi, .int .u64 lo, .string host, .string mail, .string text, .int .i64 a, .int .i64 b, .int .i64 c, .int .i64 d, .int .i64 e, .int .i64 f, .int .u64 bits] 26) := ⟨Own.new _ _ _⟩
  show Calls Tryd.prog 13 #[_, .agg #[.bool v6, .int .u64 hi, .int .u64 lo, .string host, .string mail, .string text, .int .i64 a, .int .i64 b, .int .i64 c, .int .i64 d, .int .i64 e, .int .i64 f, .int .u64 bits]] w _
  dsimp only at hs1 hs2
  obtain ⟨r, hr⟩ : ∃ r, validS 39 ⟨v6, hi, lo, host, mail, text, a, b, c, d, e, f, bits⟩ = r := ⟨_, rfl⟩
  rw [hr]
  have HR := Aside0.mk (show (D.eqb ⟨v6, hi, lo, host, mail, text, a, b, c, d, e, f, bits⟩ ⟨false, 0, 0, host, ⟨#[]⟩, ⟨#[]⟩, 0, 0, 0, 0, 0, 0, 0⟩ && fieldsOk 39 ⟨v6, hi, lo, host, mail, text, a, b, c, d, e, f, bits⟩) = r by rw [D.eqb_comm]; exact hr)
  clear hr
  cases h0 : D.eqb ⟨v6, hi, lo, host, mail, text, a, b, c, d, e, f, bits⟩ ⟨false, 0, 0, host, ⟨#[]⟩, ⟨#[]⟩, 0, 0, 0, 0, 0, 0, 0⟩
  case' true =>
    cases h1 : hostB host
  all_goals
    go_enter Tryd.func13, Tryd.ntmps13
    go_wp2_with (first
      | (go_at_call 23; (with_reducible refine (S.host _ _ (by assumption) (by assumption) sh HO.out.below).mono ?_); rintro e_ w1 ⟨rfl, hb⟩; (try clear hc hf); replace HO := Aside0.mk (HO.out.call hb); clear hb; obtain ⟨hc, hf⟩ := HO.out.cells)
      | (go_at_call 20; (with_reducible refine (S.known _ _ (by assumption) _).mono ?_); rintro e_ w1 ⟨rfl, hb⟩; (try clear hc hf); replace HO := Aside0.mk (HO.out.call hb); clear hb; obtain ⟨hc, hf⟩ := HO.out.cells)
      | (go_at_call 24; (with_reducible refine (S.serial _ _ (by assumption) _).mono ?_); rintro e_ w1 ⟨rfl, rfl⟩)
      | (go_at_call 25; (with_reducible refine (S.within _ _ _ (by assumption) _).mono ?_); rintro e_ w1 ⟨rfl, rfl⟩)
      | (go_at_call 26; (with_reducible refine (S.long _ _ (by assumption) _).mono ?_); rintro e_ w1 ⟨rfl, rfl⟩)
      | (go_at_call 22; (with_reducible refine (S.addr _ _ _ _ (by assumption) _).mono ?_); rintro e_ w1 ⟨rfl, hb⟩; (try clear hc hf); replace HO := Aside0.mk (HO.out.call hb); clear hb; obtain ⟨hc, hf⟩ := HO.out.cells))
    go_ret
    exact ⟨ret_bool (by first | (have h_ := HR.out; simp [fieldsOk, *] at h_; simp [h_]; done) | (exfalso; simp [addrB] at h1; done)), HO.out.below⟩
theorem pv15 (S : PSp) (x : D) (hs1 : x.host.size ≤ 100000) (hs2 : x.mail.size ≤ 100000) (w : World) (sh : w.ShapedOpen Tryd.prog) :
    Calls Tryd.prog 13 #[.int .i64 15, x.v] w fun e w' => e = .returned (.bool (validS 15 x)) ∧ Below w.heap.size w w' := by
  have hu := Tryd.underlying26
  have hv := Tryd.underlying24
  obtain ⟨v6, hi, lo, host, mail, text, a, b, c, d, e, f, bits⟩ := x
  have HO : Aside0 (Own w (w.alloc (.cells #[.bool v6, .int .u64 hi, .int .u64 lo, .string host, .string mail, .string text, .int .i64 a, .int .i64 b, .int .i64 c, .int .i64 d, .int .i64 e, .int .i64 f, .int .u64 bits] 26)) #[.bool v6, .int .u64 hi, .int .u64 lo, .string host, .string mail, .string text, .int .i64 a, .int .i64 b, .int .i64 c, .int .i64 d, .int .i64 e, .int .i64 f, .int .u64 bits] 26) := ⟨Own.new _ _ _⟩
  show Calls Tryd.prog 13 #[_, .agg #[.bool v6, .int .u64 hi, .int .u64 lo, .string host, .string mail, .string text, .int .i64 a, .int .i64 b, .int .i64 c, .int .i64 d, .int .i64 e, .int .i64 f, .int .u64 bits]] w _
  dsimp only at hs1 hs2
  obtain ⟨r, hr⟩ : ∃ r, validS 15 ⟨v6, hi, lo, host, mail, text, a, b, c, d, e, f, bits⟩ = r := ⟨_, rfl⟩
  rw [hr]
  have HR := Aside0.mk (show (D.eqb ⟨v6, hi, lo, host, mail, text, a, b, c, d, e, f, bits⟩ ⟨false, 0, 0, host, ⟨#[]⟩, ⟨#[]⟩, a, 0, 0, 0, 0, 0, 0⟩ && fieldsOk 15 ⟨v6, hi, lo, host, mail, text, a, b, c, d, e, f, bits⟩) = r by rw [D.eqb_comm]; exact hr)
  clear hr
  cases h0 : D.eqb ⟨v6, hi, lo, host, mail, text, a, b, c, d, e, f, bits⟩ ⟨false, 0, 0, host, ⟨#[]⟩, ⟨#[]⟩, a, 0, 0, 0, 0, 0, 0⟩
  case' true =>
    cases h1 : hostB host
    case' true =>
      cases h2 : inB a 65535
  all_goals
    go_enter Tryd.func13, Tryd.ntmps13
    go_wp2_with (first
      | (go_at_call 23; (with_reducible refine (S.host _ _ (by assumption) (by assumption) sh HO.out.below).mono ?_); rintro e_ w1 ⟨rfl, hb⟩; (try clear hc hf); replace HO := Aside0.mk (HO.out.call hb); clear hb; obtain ⟨hc, hf⟩ := HO.out.cells)
      | (go_at_call 20; (with_reducible refine (S.known _ _ (by assumption) _).mono ?_); rintro e_ w1 ⟨rfl, hb⟩; (try clear hc hf); replace HO := Aside0.mk (HO.out.call hb); clear hb; obtain ⟨hc, hf⟩ := HO.out.cells)
      | (go_at_call 24; (with_reducible refine (S.serial _ _ (by assumption) _).mono ?_); rintro e_ w1 ⟨rfl, rfl⟩)
      | (go_at_call 25; (with_reducible refine (S.within _ _ _ (by assumption) _).mono ?_); rintro e_ w1 ⟨rfl, rfl⟩)
      | (go_at_call 26; (with_reducible refine (S.long _ _ (by assumption) _).mono ?_); rintro e_ w1 ⟨rfl, rfl⟩)
      | (go_at_call 22; (with_reducible refine (S.addr _ _ _ _ (by assumption) _).mono ?_); rintro e_ w1 ⟨rfl, hb⟩; (try clear hc hf); replace HO := Aside0.mk (HO.out.call hb); clear hb; obtain ⟨hc, hf⟩ := HO.out.cells))
    go_ret
    exact ⟨ret_bool (by first | (have h_ := HR.out; simp [fieldsOk, *] at h_; simp [h_]; done) | (exfalso; simp [addrB] at h1; done)), HO.out.below⟩
theorem pv16 (S : PSp) (x : D) (hs1 : x.host.size ≤ 100000) (hs2 : x.mail.size ≤ 100000) (w : World) (sh : w.ShapedOpen Tryd.prog) :
    Calls Tryd.prog 13 #[.int .i64 16, x.v] w fun e w' => e = .returned (.bool (validS 16 x)) ∧ Below w.heap.size w w' := by
  have hu := Tryd.underlying26
  have hv := Tryd.underlying24
  obtain ⟨v6, hi, lo, host, mail, text, a, b, c, d, e, f, bits⟩ := x
  have HO : Aside0 (Own w (w.alloc (.cells #[.bool v6, .int .u64 hi, .int .u64 lo, .string host, .string mail, .string text, .int .i64 a, .int .i64 b, .int .i64 c, .int .i64 d, .int .i64 e, .int .i64 f, .int .u64 bits] 26)) #[.bool v6, .int .u64 hi, .int .u64 lo, .string host, .string mail, .string text, .int .i64 a, .int .i64 b, .int .i64 c, .int .i64 d, .int .i64 e, .int .i64 f, .int .u64 bits] 26) := ⟨Own.new _ _ _⟩
  show Calls Tryd.prog 13 #[_, .agg #[.bool v6, .int .u64 hi, .int .u64 lo, .string host, .string mail, .string text, .int .i64 a, .int .i64 b, .int .i64 c, .int .i64 d, .int .i64 e, .int .i64 f, .int .u64 bits]] w _
  dsimp only at hs1 hs2
  obtain ⟨r, hr⟩ : ∃ r, validS 16 ⟨v6, hi, lo, host, mail, text, a, b, c, d, e, f, bits⟩ = r := ⟨_, rfl⟩
  rw [hr]
  have HR := Aside0.mk (show (D.eqb ⟨v6, hi, lo, host, mail, text, a, b, c, d, e, f, bits⟩ ⟨false, 0, 0, ⟨#[]⟩, ⟨#[]⟩, text, 0, 0, 0, 0, 0, 0, 0⟩ && fieldsOk 16 ⟨v6, hi, lo, host, mail, text, a, b, c, d, e, f, bits⟩) = r by rw [D.eqb_comm]; exact hr)
  clear hr
  have hT : (text.size : Int) ≤ 255 ↔ text.size ≤ 255 := by omega
  cases h0 : D.eqb ⟨v6, hi, lo, host, mail, text, a, b, c, d, e, f, bits⟩ ⟨false, 0, 0, ⟨#[]⟩, ⟨#[]⟩, text, 0, 0, 0, 0, 0, 0, 0⟩
  case' true =>
    cases h1 : decide (text.size ≤ 255)
  all_goals
    go_enter Tryd.func13, Tryd.ntmps13
    go_wp2_with (first
      | (go_at_call 23; (with_reducible refine (S.host _ _ (by assumption) (by assumption) sh HO.out.below).mono ?_); rintro e_ w1 ⟨rfl, hb⟩; (try clear hc hf); replace HO := Aside0.mk (HO.out.call hb); clear hb; obtain ⟨hc, hf⟩ := HO.out.cells)
      | (go_at_call 20; (with_reducible refine (S.known _ _ (by assumption) _).mono ?_); rintro e_ w1 ⟨rfl, hb⟩; (try clear hc hf); replace HO := Aside0.mk (HO.out.call hb); clear hb; obtain ⟨hc, hf⟩ := HO.out.cells)
      | (go_at_call 24; (with_reducible refine (S.serial _ _ (by assumption) _).mono ?_); rintro e_ w1 ⟨rfl, rfl⟩)
      | (go_at_call 25; (with_reducible refine (S.within _ _ _ (by assumption) _).mono ?_); rintro e_ w1 ⟨rfl, rfl⟩)
      | (go_at_call 26; (with_reducible refine (S.long _ _ (by assumption) _).mono ?_); rintro e_ w1 ⟨rfl, rfl⟩)
      | (go_at_call 22; (with_reducible refine (S.addr _ _ _ _ (by assumption) _).mono ?_); rintro e_ w1 ⟨rfl, hb⟩; (try clear hc hf); replace HO := Aside0.mk (HO.out.call hb); clear hb; obtain ⟨hc, hf⟩ := HO.out.cells))
    go_ret
    exact ⟨ret_bool (by first | (have h_ := HR.out; simp [fieldsOk, *] at h_; simp [h_]; done) | (exfalso; simp [addrB] at h1; done)), HO.out.below⟩
end Go.Proofs.YtaehonmfoanloaaDoor.Hand
