/- The Go functions in Lean, with the proofs that the code comes to these answers: printed by this session's program (wip/px) out of the seat's translation. Conditions: each theorem's own. -/
import Derived.Test.YtaehonmfoanloaaPx0
namespace Go.Proofs.Ytaehonmfoanloaa.P
open Go.RowKit Go.Proofs.YtaehonmfoanloaaW.PrintWords Go.Proofs.YtaehonmfoanloaaW.PrintLast Go.Proofs.YtaehonmfoanloaaW.PrintMore
attribute [local go_sem] max2_int min2_int max_two min_two max_three min_three max_four min_four   -- for this text's walks alone
attribute [local go_sem ↓] Ext.isSome_setCell
set_option linter.unusedVariables false
set_option linter.unusedSimpArgs false

/-! ### rdata_kinds: function 21 -/
def rdata_kinds.f  : Option ((List (S36))) := some (([(⟨1, (⟨#[65]⟩ : ByteArray), (⟨#[52]⟩ : ByteArray)⟩ : S36), (⟨2, (⟨#[78, 83]⟩ : ByteArray), (⟨#[104]⟩ : ByteArray)⟩ : S36), (⟨5, (⟨#[67, 78, 65, 77, 69]⟩ : ByteArray), (⟨#[104]⟩ : ByteArray)⟩ : S36), (⟨6, (⟨#[83, 79, 65]⟩ : ByteArray), (⟨#[104, 109, 118, 119, 120, 121, 122]⟩ : ByteArray)⟩ : S36), (⟨12, (⟨#[80, 84, 82]⟩ : ByteArray), (⟨#[104]⟩ : ByteArray)⟩ : S36), (⟨15, (⟨#[77, 88]⟩ : ByteArray), (⟨#[65, 104]⟩ : ByteArray)⟩ : S36), (⟨16, (⟨#[84, 88, 84]⟩ : ByteArray), (⟨#[116]⟩ : ByteArray)⟩ : S36), (⟨28, (⟨#[65, 65, 65, 65]⟩ : ByteArray), (⟨#[54]⟩ : ByteArray)⟩ : S36), (⟨33, (⟨#[83, 82, 86]⟩ : ByteArray), (⟨#[65, 66, 67, 104]⟩ : ByteArray)⟩ : S36), (⟨39, (⟨#[68, 78, 65, 77, 69]⟩ : ByteArray), (⟨#[104]⟩ : ByteArray)⟩ : S36), (⟨43, (⟨#[68, 83]⟩ : ByteArray), (⟨#[65, 98, 99, 114]⟩ : ByteArray)⟩ : S36), (⟨46, (⟨#[82, 82, 83, 73, 71]⟩ : ByteArray), (⟨#[65, 115, 98, 120, 121, 122, 70, 104, 114]⟩ : ByteArray)⟩ : S36), (⟨47, (⟨#[78, 83, 69, 67]⟩ : ByteArray), (⟨#[104, 110]⟩ : ByteArray)⟩ : S36), (⟨48, (⟨#[68, 78, 83, 75, 69, 89]⟩ : ByteArray), (⟨#[65, 98, 99, 114]⟩ : ByteArray)⟩ : S36)] : List (S36)))
set_option maxHeartbeats 8000000 in
set_option maxRecDepth 100000 in
theorem rdata_kinds.calls  (r : List (S36)) (w : World) (h : rdata_kinds.f  = some r) :
    Calls Try.prog 21 #[] w fun e w' => ∃ v0_ : Value, e = .returned (v0_) ∧ Kd.R k36 36 w' w.heap.size (fun _ => True) v0_ r ∧ Below w.heap.size w w' := by
  have hu36 := Try.underlying36
  have HB := Aside0.mk (Below.refl w.heap.size w)
  have H : (some (([(⟨1, (⟨#[65]⟩ : ByteArray), (⟨#[52]⟩ : ByteArray)⟩ : S36), (⟨2, (⟨#[78, 83]⟩ : ByteArray), (⟨#[104]⟩ : ByteArray)⟩ : S36), (⟨5, (⟨#[67, 78, 65, 77, 69]⟩ : ByteArray), (⟨#[104]⟩ : ByteArray)⟩ : S36), (⟨6, (⟨#[83, 79, 65]⟩ : ByteArray), (⟨#[104, 109, 118, 119, 120, 121, 122]⟩ : ByteArray)⟩ : S36), (⟨12, (⟨#[80, 84, 82]⟩ : ByteArray), (⟨#[104]⟩ : ByteArray)⟩ : S36), (⟨15, (⟨#[77, 88]⟩ : ByteArray), (⟨#[65, 104]⟩ : ByteArray)⟩ : S36), (⟨16, (⟨#[84, 88, 84]⟩ : ByteArray), (⟨#[116]⟩ : ByteArray)⟩ : S36), (⟨28, (⟨#[65, 65, 65, 65]⟩ : ByteArray), (⟨#[54]⟩ : ByteArray)⟩ : S36), (⟨33, (⟨#[83, 82, 86]⟩ : ByteArray), (⟨#[65, 66, 67, 104]⟩ : ByteArray)⟩ : S36), (⟨39, (⟨#[68, 78, 65, 77, 69]⟩ : ByteArray), (⟨#[104]⟩ : ByteArray)⟩ : S36), (⟨43, (⟨#[68, 83]⟩ : ByteArray), (⟨#[65, 98, 99, 114]⟩ : ByteArray)⟩ : S36), (⟨46, (⟨#[82, 82, 83, 73, 71]⟩ : ByteArray), (⟨#[65, 115, 98, 120, 121, 122, 70, 104, 114]⟩ : ByteArray)⟩ : S36), (⟨47, (⟨#[78, 83, 69, 67]⟩ : ByteArray), (⟨#[104, 110]⟩ : ByteArray)⟩ : S36), (⟨48, (⟨#[68, 78, 83, 75, 69, 89]⟩ : ByteArray), (⟨#[65, 98, 99, 114]⟩ : ByteArray)⟩ : S36)] : List (S36)))) = some r := h
  clear h
  obtain ⟨y101, hy101⟩ : ∃ y_ : List (S36), y_ = (([(⟨1, (⟨#[65]⟩ : ByteArray), (⟨#[52]⟩ : ByteArray)⟩ : S36), (⟨2, (⟨#[78, 83]⟩ : ByteArray), (⟨#[104]⟩ : ByteArray)⟩ : S36), (⟨5, (⟨#[67, 78, 65, 77, 69]⟩ : ByteArray), (⟨#[104]⟩ : ByteArray)⟩ : S36), (⟨6, (⟨#[83, 79, 65]⟩ : ByteArray), (⟨#[104, 109, 118, 119, 120, 121, 122]⟩ : ByteArray)⟩ : S36), (⟨12, (⟨#[80, 84, 82]⟩ : ByteArray), (⟨#[104]⟩ : ByteArray)⟩ : S36), (⟨15, (⟨#[77, 88]⟩ : ByteArray), (⟨#[65, 104]⟩ : ByteArray)⟩ : S36), (⟨16, (⟨#[84, 88, 84]⟩ : ByteArray), (⟨#[116]⟩ : ByteArray)⟩ : S36), (⟨28, (⟨#[65, 65, 65, 65]⟩ : ByteArray), (⟨#[54]⟩ : ByteArray)⟩ : S36), (⟨33, (⟨#[83, 82, 86]⟩ : ByteArray), (⟨#[65, 66, 67, 104]⟩ : ByteArray)⟩ : S36), (⟨39, (⟨#[68, 78, 65, 77, 69]⟩ : ByteArray), (⟨#[104]⟩ : ByteArray)⟩ : S36), (⟨43, (⟨#[68, 83]⟩ : ByteArray), (⟨#[65, 98, 99, 114]⟩ : ByteArray)⟩ : S36), (⟨46, (⟨#[82, 82, 83, 73, 71]⟩ : ByteArray), (⟨#[65, 115, 98, 120, 121, 122, 70, 104, 114]⟩ : ByteArray)⟩ : S36), (⟨47, (⟨#[78, 83, 69, 67]⟩ : ByteArray), (⟨#[104, 110]⟩ : ByteArray)⟩ : S36), (⟨48, (⟨#[68, 78, 83, 75, 69, 89]⟩ : ByteArray), (⟨#[65, 98, 99, 114]⟩ : ByteArray)⟩ : S36)] : List (S36))) := ⟨_, rfl⟩
  replace H : (some y101) = some r := by first | (rw [hy101]; with_reducible exact H) | (have H2_ := (Option.bind_some _ _).symm.trans H; rw [hy101]; with_reducible exact H2_) | (have H2_ := (Option.bind_some _ _).symm.trans H; with_reducible exact H2_) | with_reducible exact H | (rw [hy101]; exact H) | exact H
  have Ny101 := Aside0.mk hy101
  clear hy101
  obtain rfl := Option.some.inj H
  go_enter Try.func21, Try.ntmps21
  go_wp2_with (first | ((with_reducible refine gate_dst (N := 15) rfl ?_); refine Kd.R_lit k36 _ 36 ?hg (N := 15) ?hd (xs := ([(⟨1, (⟨#[65]⟩ : ByteArray), (⟨#[52]⟩ : ByteArray)⟩ : S36), (⟨2, (⟨#[78, 83]⟩ : ByteArray), (⟨#[104]⟩ : ByteArray)⟩ : S36), (⟨5, (⟨#[67, 78, 65, 77, 69]⟩ : ByteArray), (⟨#[104]⟩ : ByteArray)⟩ : S36), (⟨6, (⟨#[83, 79, 65]⟩ : ByteArray), (⟨#[104, 109, 118, 119, 120, 121, 122]⟩ : ByteArray)⟩ : S36), (⟨12, (⟨#[80, 84, 82]⟩ : ByteArray), (⟨#[104]⟩ : ByteArray)⟩ : S36), (⟨15, (⟨#[77, 88]⟩ : ByteArray), (⟨#[65, 104]⟩ : ByteArray)⟩ : S36), (⟨16, (⟨#[84, 88, 84]⟩ : ByteArray), (⟨#[116]⟩ : ByteArray)⟩ : S36), (⟨28, (⟨#[65, 65, 65, 65]⟩ : ByteArray), (⟨#[54]⟩ : ByteArray)⟩ : S36), (⟨33, (⟨#[83, 82, 86]⟩ : ByteArray), (⟨#[65, 66, 67, 104]⟩ : ByteArray)⟩ : S36), (⟨39, (⟨#[68, 78, 65, 77, 69]⟩ : ByteArray), (⟨#[104]⟩ : ByteArray)⟩ : S36), (⟨43, (⟨#[68, 83]⟩ : ByteArray), (⟨#[65, 98, 99, 114]⟩ : ByteArray)⟩ : S36), (⟨46, (⟨#[82, 82, 83, 73, 71]⟩ : ByteArray), (⟨#[65, 115, 98, 120, 121, 122, 70, 104, 114]⟩ : ByteArray)⟩ : S36), (⟨47, (⟨#[78, 83, 69, 67]⟩ : ByteArray), (⟨#[104, 110]⟩ : ByteArray)⟩ : S36), (⟨48, (⟨#[68, 78, 83, 75, 69, 89]⟩ : ByteArray), (⟨#[65, 98, 99, 114]⟩ : ByteArray)⟩ : S36)] : List (S36))) (inner := [.int .i64 1, .string (⟨#[65]⟩ : ByteArray), .string (⟨#[52]⟩ : ByteArray), .int .i64 2, .string (⟨#[78, 83]⟩ : ByteArray), .string (⟨#[104]⟩ : ByteArray), .int .i64 5, .string (⟨#[67, 78, 65, 77, 69]⟩ : ByteArray), .string (⟨#[104]⟩ : ByteArray), .int .i64 6, .string (⟨#[83, 79, 65]⟩ : ByteArray), .string (⟨#[104, 109, 118, 119, 120, 121, 122]⟩ : ByteArray), .int .i64 12, .string (⟨#[80, 84, 82]⟩ : ByteArray), .string (⟨#[104]⟩ : ByteArray), .int .i64 15, .string (⟨#[77, 88]⟩ : ByteArray), .string (⟨#[65, 104]⟩ : ByteArray), .int .i64 16, .string (⟨#[84, 88, 84]⟩ : ByteArray), .string (⟨#[116]⟩ : ByteArray), .int .i64 28, .string (⟨#[65, 65, 65, 65]⟩ : ByteArray), .string (⟨#[54]⟩ : ByteArray), .int .i64 33, .string (⟨#[83, 82, 86]⟩ : ByteArray), .string (⟨#[65, 66, 67, 104]⟩ : ByteArray), .int .i64 39, .string (⟨#[68, 78, 65, 77, 69]⟩ : ByteArray), .string (⟨#[104]⟩ : ByteArray), .int .i64 43, .string (⟨#[68, 83]⟩ : ByteArray), .string (⟨#[65, 98, 99, 114]⟩ : ByteArray), .int .i64 46, .string (⟨#[82, 82, 83, 73, 71]⟩ : ByteArray), .string (⟨#[65, 115, 98, 120, 121, 122, 70, 104, 114]⟩ : ByteArray), .int .i64 47, .string (⟨#[78, 83, 69, 67]⟩ : ByteArray), .string (⟨#[104, 110]⟩ : ByteArray), .int .i64 48, .string (⟨#[68, 78, 83, 75, 69, 89]⟩ : ByteArray), .string (⟨#[65, 98, 99, 114]⟩ : ByteArray)]) (ok := fun _ => True) (okp := fun _ => True) ?hr ?hp (fun _ hk => hk) trivial (Below.refl _ _) (Nat.le_refl _) (by simp) ?_; (case hd => rfl); (case hg => rfl); (case hr => first | (go_simp; done) | (go_simp; rfl)); (case hp => exact (Reps.c3 (show Kd.M k36 _ _ _ (⟨1, (⟨#[65]⟩ : ByteArray), (⟨#[52]⟩ : ByteArray)⟩ : S36) [.int .i64 1, .string (⟨#[65]⟩ : ByteArray), .string (⟨#[52]⟩ : ByteArray)] from (k36_mkM _ _ _ (⟨1, (⟨#[65]⟩ : ByteArray), (⟨#[52]⟩ : ByteArray)⟩ : S36) )) (Reps.c3 (show Kd.M k36 _ _ _ (⟨2, (⟨#[78, 83]⟩ : ByteArray), (⟨#[104]⟩ : ByteArray)⟩ : S36) [.int .i64 2, .string (⟨#[78, 83]⟩ : ByteArray), .string (⟨#[104]⟩ : ByteArray)] from (k36_mkM _ _ _ (⟨2, (⟨#[78, 83]⟩ : ByteArray), (⟨#[104]⟩ : ByteArray)⟩ : S36) )) (Reps.c3 (show Kd.M k36 _ _ _ (⟨5, (⟨#[67, 78, 65, 77, 69]⟩ : ByteArray), (⟨#[104]⟩ : ByteArray)⟩ : S36) [.int .i64 5, .string (⟨#[67, 78, 65, 77, 69]⟩ : ByteArray), .string (⟨#[104]⟩ : ByteArray)] from (k36_mkM _ _ _ (⟨5, (⟨#[67, 78, 65, 77, 69]⟩ : ByteArray), (⟨#[104]⟩ : ByteArray)⟩ : S36) )) (Reps.c3 (show Kd.M k36 _ _ _ (⟨6, (⟨#[83, 79, 65]⟩ : ByteArray), (⟨#[104, 109, 118, 119, 120, 121, 122]⟩ : ByteArray)⟩ : S36) [.int .i64 6, .string (⟨#[83, 79, 65]⟩ : ByteArray), .string (⟨#[104, 109, 118, 119, 120, 121, 122]⟩ : ByteArray)] from (k36_mkM _ _ _ (⟨6, (⟨#[83, 79, 65]⟩ : ByteArray), (⟨#[104, 109, 118, 119, 120, 121, 122]⟩ : ByteArray)⟩ : S36) )) (Reps.c3 (show Kd.M k36 _ _ _ (⟨12, (⟨#[80, 84, 82]⟩ : ByteArray), (⟨#[104]⟩ : ByteArray)⟩ : S36) [.int .i64 12, .string (⟨#[80, 84, 82]⟩ : ByteArray), .string (⟨#[104]⟩ : ByteArray)] from (k36_mkM _ _ _ (⟨12, (⟨#[80, 84, 82]⟩ : ByteArray), (⟨#[104]⟩ : ByteArray)⟩ : S36) )) (Reps.c3 (show Kd.M k36 _ _ _ (⟨15, (⟨#[77, 88]⟩ : ByteArray), (⟨#[65, 104]⟩ : ByteArray)⟩ : S36) [.int .i64 15, .string (⟨#[77, 88]⟩ : ByteArray), .string (⟨#[65, 104]⟩ : ByteArray)] from (k36_mkM _ _ _ (⟨15, (⟨#[77, 88]⟩ : ByteArray), (⟨#[65, 104]⟩ : ByteArray)⟩ : S36) )) (Reps.c3 (show Kd.M k36 _ _ _ (⟨16, (⟨#[84, 88, 84]⟩ : ByteArray), (⟨#[116]⟩ : ByteArray)⟩ : S36) [.int .i64 16, .string (⟨#[84, 88, 84]⟩ : ByteArray), .string (⟨#[116]⟩ : ByteArray)] from (k36_mkM _ _ _ (⟨16, (⟨#[84, 88, 84]⟩ : ByteArray), (⟨#[116]⟩ : ByteArray)⟩ : S36) )) (Reps.c3 (show Kd.M k36 _ _ _ (⟨28, (⟨#[65, 65, 65, 65]⟩ : ByteArray), (⟨#[54]⟩ : ByteArray)⟩ : S36) [.int .i64 28, .string (⟨#[65, 65, 65, 65]⟩ : ByteArray), .string (⟨#[54]⟩ : ByteArray)] from (k36_mkM _ _ _ (⟨28, (⟨#[65, 65, 65, 65]⟩ : ByteArray), (⟨#[54]⟩ : ByteArray)⟩ : S36) )) (Reps.c3 (show Kd.M k36 _ _ _ (⟨33, (⟨#[83, 82, 86]⟩ : ByteArray), (⟨#[65, 66, 67, 104]⟩ : ByteArray)⟩ : S36) [.int .i64 33, .string (⟨#[83, 82, 86]⟩ : ByteArray), .string (⟨#[65, 66, 67, 104]⟩ : ByteArray)] from (k36_mkM _ _ _ (⟨33, (⟨#[83, 82, 86]⟩ : ByteArray), (⟨#[65, 66, 67, 104]⟩ : ByteArray)⟩ : S36) )) (Reps.c3 (show Kd.M k36 _ _ _ (⟨39, (⟨#[68, 78, 65, 77, 69]⟩ : ByteArray), (⟨#[104]⟩ : ByteArray)⟩ : S36) [.int .i64 39, .string (⟨#[68, 78, 65, 77, 69]⟩ : ByteArray), .string (⟨#[104]⟩ : ByteArray)] from (k36_mkM _ _ _ (⟨39, (⟨#[68, 78, 65, 77, 69]⟩ : ByteArray), (⟨#[104]⟩ : ByteArray)⟩ : S36) )) (Reps.c3 (show Kd.M k36 _ _ _ (⟨43, (⟨#[68, 83]⟩ : ByteArray), (⟨#[65, 98, 99, 114]⟩ : ByteArray)⟩ : S36) [.int .i64 43, .string (⟨#[68, 83]⟩ : ByteArray), .string (⟨#[65, 98, 99, 114]⟩ : ByteArray)] from (k36_mkM _ _ _ (⟨43, (⟨#[68, 83]⟩ : ByteArray), (⟨#[65, 98, 99, 114]⟩ : ByteArray)⟩ : S36) )) (Reps.c3 (show Kd.M k36 _ _ _ (⟨46, (⟨#[82, 82, 83, 73, 71]⟩ : ByteArray), (⟨#[65, 115, 98, 120, 121, 122, 70, 104, 114]⟩ : ByteArray)⟩ : S36) [.int .i64 46, .string (⟨#[82, 82, 83, 73, 71]⟩ : ByteArray), .string (⟨#[65, 115, 98, 120, 121, 122, 70, 104, 114]⟩ : ByteArray)] from (k36_mkM _ _ _ (⟨46, (⟨#[82, 82, 83, 73, 71]⟩ : ByteArray), (⟨#[65, 115, 98, 120, 121, 122, 70, 104, 114]⟩ : ByteArray)⟩ : S36) )) (Reps.c3 (show Kd.M k36 _ _ _ (⟨47, (⟨#[78, 83, 69, 67]⟩ : ByteArray), (⟨#[104, 110]⟩ : ByteArray)⟩ : S36) [.int .i64 47, .string (⟨#[78, 83, 69, 67]⟩ : ByteArray), .string (⟨#[104, 110]⟩ : ByteArray)] from (k36_mkM _ _ _ (⟨47, (⟨#[78, 83, 69, 67]⟩ : ByteArray), (⟨#[104, 110]⟩ : ByteArray)⟩ : S36) )) (Reps.c3 (show Kd.M k36 _ _ _ (⟨48, (⟨#[68, 78, 83, 75, 69, 89]⟩ : ByteArray), (⟨#[65, 98, 99, 114]⟩ : ByteArray)⟩ : S36) [.int .i64 48, .string (⟨#[68, 78, 83, 75, 69, 89]⟩ : ByteArray), .string (⟨#[65, 98, 99, 114]⟩ : ByteArray)] from (k36_mkM _ _ _ (⟨48, (⟨#[68, 78, 83, 75, 69, 89]⟩ : ByteArray), (⟨#[65, 98, 99, 114]⟩ : ByteArray)⟩ : S36) )) (Reps.none _ _)))))))))))))))); intro v102 w1 ho2 hb hg_ hnew_; clear hg_ hnew_; (first | rw [← Ny101.out] at ho2 | (simp only [Int.reduceToNat] at ho2; rw [← Ny101.out] at ho2)); have n0_ := Aside0.mk (Kd.R_lower ho2 (below_size (by repeat (first | (with_reducible first | exact HB.out | apply below_alloc | apply pw_below_drewN | apply below_drew1) | exact HB.out)))); have n1_ := Aside0.mk (below_step (by repeat (first | (with_reducible first | exact HB.out | apply below_alloc | apply pw_below_drewN | apply below_drew1) | exact HB.out)) hb); clear HB; have HO103 := n0_; have HB := n1_; clear n0_ n1_; clear hb ho2))
  go_ret
  exact ⟨_, by first | rfl | (simp [errW_none, errW_some] <;> rfl) | (simp [*, errW_none, errW_some] <;> rfl), by (with_reducible repeat (first | apply Kd.R_alloc | apply Kd.R_drewN | apply Kd.R_drew)); exact HO103.out, by repeat (first | (with_reducible first | exact HB.out | apply below_alloc | apply pw_below_drewN | apply below_drew1) | exact HB.out)⟩

/-! ### rdata_find: function 20 -/
def rdata_find.l0 : Nat → Int → List (S36) → Int → Int → Option (Int × ByteArray × ByteArray × Bool)
  | 0, _, _, _, _ => none
  | k + 1, x0, x6, x7, x8 => if x8 < x7 then (if 0 ≤ x8 then (if x8 < (x6.length : Int) then (if ((rd_T36 x6 x8).f0) = x0 then (some ((rd_T36 x6 x8).f0, (rd_T36 x6 x8).f1, (rd_T36 x6 x8).f2, true)) else (rdata_find.l0 k x0 x6 x7 (wrap64 (x8 + 1)))) else (none)) else (none)) else (some (0, (⟨#[]⟩ : ByteArray), (⟨#[]⟩ : ByteArray), false))
def rdata_find.f (k : Nat) (a0 : Int) : Option (Int × ByteArray × ByteArray × Bool) := (rdata_kinds.f).bind fun t105 => (rdata_find.l0 k a0 t105 (t105.length : Int) 0)
theorem rdata_find.mono_l : ∀ k, (∀ y0 y1 y2 y3, LeO (rdata_find.l0 k y0 y1 y2 y3) (rdata_find.l0 (k + 1) y0 y1 y2 y3))
  | 0 => fun _ _ _ _ r h => by simp [rdata_find.l0] at h
  | k + 1 => by
    have ih0 := rdata_find.mono_l k
    · intro y0 y1 y2 y3
      unfold rdata_find.l0
      repeat' first
      | (with_reducible exact ih0 _ _ _ _)
      | (with_reducible exact LeO.refl _)
      | (with_reducible exact LeO.none _)
      | (with_reducible refine LeO.ite ?_ ?_)
      | (with_reducible refine LeO.bind ?_ (fun _ => ?_))
      | exact ih0 _ _ _ _
      | exact LeO.none _
      | refine LeO.ite ?_ ?_
      | refine LeO.bind ?_ (fun _ => ?_)
theorem rdata_find.mono : ∀ a0 k, LeO (rdata_find.f k a0) (rdata_find.f (k + 1) a0) := by
  intro a0 k
  have ih0 := rdata_find.mono_l k
  unfold rdata_find.f
  repeat' first
      | (with_reducible exact ih0 _ _ _ _)
      | (with_reducible exact LeO.refl _)
      | (with_reducible exact LeO.none _)
      | (with_reducible refine LeO.ite ?_ ?_)
      | (with_reducible refine LeO.bind ?_ (fun _ => ?_))
      | exact ih0 _ _ _ _
      | exact LeO.none _
      | refine LeO.ite ?_ ?_
      | refine LeO.bind ?_ (fun _ => ?_)
set_option maxHeartbeats 8000000 in
set_option maxRecDepth 100000 in
theorem rdata_find.calls (k : Nat) (a0 : Int) (r1 : Int) (r2 : ByteArray) (r3 : ByteArray) (r4 : Bool) (w : World) (h : rdata_find.f k a0 = some (r1, r2, r3, r4)) :
    Calls Try.prog 20 #[.int .i64 a0] w fun e w' => e = .returned (.tuple #[.agg #[.int .i64 r1, .string r2, .string r3], .bool r4]) ∧ Below w.heap.size w w' := by
  have hu36 := Try.underlying36
  have HB := Aside0.mk (Below.refl w.heap.size w)
  have H : ((rdata_kinds.f).bind fun t105 => (rdata_find.l0 k a0 t105 (t105.length : Int) 0)) = some (r1, r2, r3, r4) := h
  clear h
  replace H := Option.bind_eq_some_iff.mp H
  obtain ⟨t105, A20, H⟩ := H
  replace H : (rdata_find.l0 k a0 t105 (t105.length : Int) 0) = some (r1, r2, r3, r4) := H
  have A2 := Aside0.mk A20
  clear A20
  have H' := Aside0.mk H
  clear H
  go_enter Try.func20, Try.ntmps20
  go_wp2_with (first | ((with_reducible refine gate_dst (N := 2) rfl ?_); refine box_event ?hg (N := 2) ?hd (cs := #[.int .i64 0, .string (⟨#[]⟩ : ByteArray), .string (⟨#[]⟩ : ByteArray)]) (t := 36) ?hr ?_; (case hd => rfl); (case hg => rfl); (case hr => first | (go_simp; done) | (go_simp; rfl)); intro gb104 hg w3 hbox hb; have n0_ := Aside0.mk (below_step (by repeat (first | (with_reducible first | exact HB.out | apply below_alloc | apply pw_below_drewN | apply below_drew1) | exact HB.out)) hb); have n1_ := Aside0.mk (hbox); have n2_ := Aside0.mk ((by rw [hg]; exact (below_size (by repeat (first | (with_reducible first | exact HB.out | apply below_alloc | apply pw_below_drewN | apply below_drew1) | exact HB.out))) : w.heap.size ≤ gb104)); have n3_ := Aside0.mk ((by rw [hg]; exact (below_size (by repeat (first | (with_reducible first | exact HB.out | apply below_alloc | apply pw_below_drewN | apply below_drew1) | exact HB.out))) : w.heap.size ≤ gb104)); clear HB; have HB := n0_; have BK104 := n1_; have GW104 := n2_; have GE104 := n3_; clear n0_ n1_ n2_ n3_; clear hb hbox hg) | ((with_reducible refine gate_callee (f := 21) rfl ?_); refine goesL_ (some 6) rfl rfl Try.func21 (by kernel_rfl) rfl #[] rfl (by (try simp only [List.map_toArray, List.map_cons, List.map_nil]); first | done | rfl | (simp only [List.length_drop, List.length_take]; rfl)) ?_; (with_reducible refine (rdata_kinds.calls  t105 _ A2.out).mono ?_); rintro e w4 ⟨v106, rfl, ho0, hb⟩; refine ⟨_, rfl, ?_⟩; have n0_ := Aside0.mk (Kd.R_lower (Kd.R_newB ho0 (g := gb104) (o := .cells #[.int .i64 0, .string (⟨#[]⟩ : ByteArray), .string (⟨#[]⟩ : ByteArray)] 36 (0, 0)) (by (with_reducible repeat (first | refine blk_drewN ?_ _ | refine blk_drew ?_ | refine blk_alloc ?_ _)); exact BK104.out)) (below_size (by repeat (first | (with_reducible first | exact HB.out | apply below_alloc | apply pw_below_drewN | apply below_drew1 | refine below_set ?_ GE104.out) | exact HB.out)))); have n1_ := Aside0.mk (blk_below (g := gb104) (o := .cells #[.int .i64 0, .string (⟨#[]⟩ : ByteArray), .string (⟨#[]⟩ : ByteArray)] 36 (0, 0)) (by (with_reducible repeat (first | refine blk_drewN ?_ _ | refine blk_drew ?_ | refine blk_alloc ?_ _)); exact BK104.out) hb); have n2_ := Aside0.mk (below_step (by repeat (first | (with_reducible first | exact HB.out | apply below_alloc | apply pw_below_drewN | apply below_drew1 | refine below_set ?_ GE104.out) | exact HB.out)) hb); clear BK104; clear HB; have HO107 := n0_; have BK104 := n1_; have HB := n2_; clear n0_ n1_ n2_; (try clear hb); (try clear hb2); (try clear hk); (try clear hi); (try clear ho0); obtain ⟨Ao5, co5, eo5⟩ := Kd.R_slice HO107.out; subst eo5))
  go_loopg [8] k (fun kq v8 w' => ∃ (x8_1 : Int) (x105000_1 : Int) (x105001_1 : ByteArray) (x105002_1 : ByteArray), v8 = .int .i64 x8_1 ∧ Aside0 (rdata_find.l0 kq a0 t105 (t105.length : Int) x8_1 = some (r1, r2, r3, r4)) ∧ Aside0 (kq ≤ k) ∧ Aside0 (Kd.R k36 36 w' w.heap.size (fun k_ => k_ ≠ gb104) (.slice Ao5 t105.length co5) t105) ∧ Aside0 (w'.heap[gb104]? = some (.cells #[.int .i64 x105000_1, .string x105001_1, .string x105002_1] 36 (0, 0))) ∧ Aside0 (Below w.heap.size w w'))
  case atStart => exact ⟨(0), (0), ((⟨#[]⟩ : ByteArray)), ((⟨#[]⟩ : ByteArray)), (by first | rfl | (simp; done) | (simp [*]; done) | ((try simp only [Bool.not_not]); (generalize ByteArray.toList _ = l_); cases l_ <;> rfl) | (simp; (generalize ByteArray.toList _ = l_); cases l_ <;> rfl)), H', ⟨Nat.le_refl _⟩, ⟨by (with_reducible repeat (first | apply Kd.R_alloc | apply Kd.R_drewN | apply Kd.R_drew)); exact Kd.R_mono HO107.out (fun _ hk => hk.2)⟩, ⟨by (with_reducible repeat (first | refine blk_drewN ?_ _ | refine blk_drew ?_ | refine blk_alloc ?_ _)); exact BK104.out⟩, ⟨by repeat (first | (with_reducible first | exact HB.out | apply below_alloc | apply pw_below_drewN | apply below_drew1 | refine below_set ?_ GE104.out) | exact HB.out)⟩⟩
  case round =>
    clear H'
    try clear c2
    try clear p2
    obtain ⟨x8_1, x105000_1, x105001_1, x105002_1, rfl, HA, HK1, HO_6, BK104, HB⟩ := hrel
    cases gk with
    | zero => exact absurd HA.out (by simp [rdata_find.l0])
    | succ k1 =>
      have H := HA.out
      clear HA
      simp only [rdata_find.l0] at H
      by_cases c6 : x8_1 < (t105.length : Int)
      · rw [if_pos c6] at H
        have c6b0 : decide (x8_1 < (t105.length : Int)) = true := decide_eq_true c6
        clear c6
        by_cases c7 : 0 ≤ x8_1
        · rw [if_pos c7] at H
          have c7b0 : decide (0 ≤ x8_1) = true := decide_eq_true c7
          clear c7
          by_cases c8 : x8_1 < (t105.length : Int)
          · rw [if_pos c8] at H
            have c8b0 : decide (x8_1 < (t105.length : Int)) = true := decide_eq_true c8
            clear c8
            by_cases c9 : ((rd_T36 t105 x8_1).f0) = a0
            · rw [if_pos c9] at H
              have c9b0 : (((rd_T36 t105 x8_1).f0) == a0) = true := beq_iff_eq.mpr c9
              have c9b1 : (((rd_T36 t105 x8_1).f0) != a0) = false := bne_eq_false_iff_eq.mpr c9
              clear c9
              simp only [Option.some.injEq, Prod.mk.injEq] at H
              obtain ⟨rfl, rfl, rfl, rfl⟩ := H
              have p108 : 0 ≤ (x8_1 : Int) := of_decide_eq_true (by first | (with_reducible assumption) | assumption)
              have q108 : x8_1 < (t105.length : Int) := of_decide_eq_true (by first | (with_reducible assumption) | assumption)
              obtain ⟨ad108, e108, hx108_0, hx108_1, hx108_2⟩ := at_T36 (Kd.R_reads' HO_6.out).2.2 x8_1 p108 q108
              cases e108
              replace p108 := eq_true p108
              replace q108 := eq_true q108
              go_wp2_with (first | ((with_reducible refine gate_dst (N := 5) rfl ?_); refine box_event ?hg (N := 5) ?hd (cs := #[.int .i64 0, .string (⟨#[]⟩ : ByteArray), .string (⟨#[]⟩ : ByteArray)]) (t := 36) ?hr ?_; (case hd => rfl); (case hg => rfl); (case hr => first | (go_simp; done) | (go_simp; rfl)); intro gb109 hg w10 hbox hb; have n0_ := Aside0.mk (Kd.R_below (Kd.R_elderB (by (with_reducible repeat (first | apply Kd.R_alloc | apply Kd.R_drewN | apply Kd.R_drew)); exact HO_6.out) gb109 (Nat.le_of_eq hg.symm)) hb); have n1_ := Aside0.mk (blk_below (g := gb104) (o := .cells #[.int .i64 x105000_1, .string x105001_1, .string x105002_1] 36 (0, 0)) (by (with_reducible repeat (first | refine blk_drewN ?_ _ | refine blk_drew ?_ | refine blk_alloc ?_ _)); exact BK104.out) hb); have n2_ := Aside0.mk (below_step (by repeat (first | (with_reducible first | exact HB.out | apply below_alloc | apply pw_below_drewN | apply below_drew1 | refine below_set ?_ GE104.out) | exact HB.out)) hb); have n3_ := Aside0.mk (hbox); have n4_ := Aside0.mk ((by rw [hg]; exact (below_size (by repeat (first | (with_reducible first | exact HB.out | apply below_alloc | apply pw_below_drewN | apply below_drew1 | refine below_set ?_ GE104.out) | exact HB.out))) : w.heap.size ≤ gb109)); have n5_ := Aside0.mk ((by rw [hg]; exact (below_size (by repeat (first | (with_reducible first | exact HB.out | apply below_alloc | apply pw_below_drewN | apply below_drew1 | refine below_set ?_ GE104.out) | exact HB.out))) : w.heap.size ≤ gb109)); have n6_ := Aside0.mk ((by rw [hg]; exact Nat.ne_of_lt (blk_lt (g := gb104) (o := .cells #[.int .i64 x105000_1, .string x105001_1, .string x105002_1] 36 (0, 0)) (by (with_reducible repeat (first | refine blk_drewN ?_ _ | refine blk_drew ?_ | refine blk_alloc ?_ _)); exact BK104.out)) : gb104 ≠ gb109)); have n7_ := Aside0.mk ((by rw [hg]; exact Nat.ne_of_gt (blk_lt (g := gb104) (o := .cells #[.int .i64 x105000_1, .string x105001_1, .string x105002_1] 36 (0, 0)) (by (with_reducible repeat (first | refine blk_drewN ?_ _ | refine blk_drew ?_ | refine blk_alloc ?_ _)); exact BK104.out)) : gb109 ≠ gb104)); clear HO_6; clear BK104; clear HB; have HO_6 := n0_; have BK104 := n1_; have HB := n2_; have BK109 := n3_; have GW109 := n4_; have GE109 := n5_; have NB104_109 := n6_; have NB109_104 := n7_; clear n0_ n1_ n2_ n3_ n4_ n5_ n6_ n7_; clear hb hbox hg; have hnb11 := NB109_104.out; have hnc11 := NB104_109.out; have hcz12_0 : w10.cell? ⟨gb109, 0, none⟩ = some (.int .i64 0) := (blk_cell BK109.out 0).trans rfl; have hcz12_1 : w10.cell? ⟨gb109, 1, none⟩ = some (.string (⟨#[]⟩ : ByteArray)) := (blk_cell BK109.out 1).trans rfl; have hcz12_2 : w10.cell? ⟨gb109, 2, none⟩ = some (.string (⟨#[]⟩ : ByteArray)) := (blk_cell BK109.out 2).trans rfl; have hfz12_0 := blk_frozen BK109.out 0; have hfz12_1 := blk_frozen BK109.out 1; have hfz12_2 := blk_frozen BK109.out 2; have hcz13_0 : w10.cell? ⟨gb104, 0, none⟩ = some (.int .i64 x105000_1) := (blk_cell BK104.out 0).trans rfl; have hcz13_1 : w10.cell? ⟨gb104, 1, none⟩ = some (.string x105001_1) := (blk_cell BK104.out 1).trans rfl; have hcz13_2 : w10.cell? ⟨gb104, 2, none⟩ = some (.string x105002_1) := (blk_cell BK104.out 2).trans rfl; have hfz13_0 := blk_frozen BK104.out 0; have hfz13_1 := blk_frozen BK104.out 1; have hfz13_2 := blk_frozen BK104.out 2))
              refine bodyPost_ret (results_ct rfl _ _ gb104 36 #[.int .i64 ((rd_T36 t105 x8_1).f0), .string ((rd_T36 t105 x8_1).f1), .string ((rd_T36 t105 x8_1).f2)] (0, 0) _ rfl (by (with_reducible repeat (first | refine blk_drewN ?_ _ | refine blk_drew ?_ | refine blk_alloc ?_ _)); refine blk_put (cs := #[.int .i64 ((rd_T36 t105 x8_1).f0), .string ((rd_T36 t105 x8_1).f1), .string x105002_1]) ?_ 2 _ rfl; (with_reducible repeat (first | refine blk_drewN ?_ _ | refine blk_drew ?_ | refine blk_alloc ?_ _)); refine blk_put (cs := #[.int .i64 ((rd_T36 t105 x8_1).f0), .string x105001_1, .string x105002_1]) ?_ 1 _ rfl; (with_reducible repeat (first | refine blk_drewN ?_ _ | refine blk_drew ?_ | refine blk_alloc ?_ _)); refine blk_put (cs := #[.int .i64 x105000_1, .string x105001_1, .string x105002_1]) ?_ 0 _ rfl; (with_reducible repeat (first | refine blk_drewN ?_ _ | refine blk_drew ?_ | refine blk_alloc ?_ _)); refine blk_far ?_ NB104_109.out _; (with_reducible repeat (first | refine blk_drewN ?_ _ | refine blk_drew ?_ | refine blk_alloc ?_ _)); refine blk_far ?_ NB104_109.out _; (with_reducible repeat (first | refine blk_drewN ?_ _ | refine blk_drew ?_ | refine blk_alloc ?_ _)); refine blk_far ?_ NB104_109.out _; (with_reducible repeat (first | refine blk_drewN ?_ _ | refine blk_drew ?_ | refine blk_alloc ?_ _)); exact BK104.out) Try.underlying36 rfl (by kernel_rfl)) rfl ?_
              exact ⟨by first | rfl | (simp [errW_none, errW_some] <;> rfl) | (simp [*, errW_none, errW_some] <;> rfl), by repeat (first | (with_reducible first | exact HB.out | apply below_alloc | apply pw_below_drewN | apply below_drew1 | refine below_set ?_ GE104.out | refine below_set ?_ GE109.out) | exact HB.out)⟩
            · rw [if_neg c9] at H
              have c9b0 : (((rd_T36 t105 x8_1).f0) == a0) = false := beq_eq_false_iff_ne.mpr c9
              have c9b1 : (((rd_T36 t105 x8_1).f0) != a0) = true := bne_iff_ne.mpr c9
              have H' := Aside0.mk H
              clear H
              have p108 : 0 ≤ (x8_1 : Int) := of_decide_eq_true (by first | (with_reducible assumption) | assumption)
              have q108 : x8_1 < (t105.length : Int) := of_decide_eq_true (by first | (with_reducible assumption) | assumption)
              obtain ⟨ad108, e108, hx108_0, hx108_1, hx108_2⟩ := at_T36 (Kd.R_reads' HO_6.out).2.2 x8_1 p108 q108
              cases e108
              replace p108 := eq_true p108
              replace q108 := eq_true q108
              go_wp2_with (first | ((with_reducible refine gate_dst (N := 5) rfl ?_); refine box_event ?hg (N := 5) ?hd (cs := #[.int .i64 0, .string (⟨#[]⟩ : ByteArray), .string (⟨#[]⟩ : ByteArray)]) (t := 36) ?hr ?_; (case hd => rfl); (case hg => rfl); (case hr => first | (go_simp; done) | (go_simp; rfl)); intro gb109 hg w14 hbox hb; have n0_ := Aside0.mk (Kd.R_below (Kd.R_elderB (by (with_reducible repeat (first | apply Kd.R_alloc | apply Kd.R_drewN | apply Kd.R_drew)); exact HO_6.out) gb109 (Nat.le_of_eq hg.symm)) hb); have n1_ := Aside0.mk (blk_below (g := gb104) (o := .cells #[.int .i64 x105000_1, .string x105001_1, .string x105002_1] 36 (0, 0)) (by (with_reducible repeat (first | refine blk_drewN ?_ _ | refine blk_drew ?_ | refine blk_alloc ?_ _)); exact BK104.out) hb); have n2_ := Aside0.mk (below_step (by repeat (first | (with_reducible first | exact HB.out | apply below_alloc | apply pw_below_drewN | apply below_drew1 | refine below_set ?_ GE104.out) | exact HB.out)) hb); have n3_ := Aside0.mk (hbox); have n4_ := Aside0.mk ((by rw [hg]; exact (below_size (by repeat (first | (with_reducible first | exact HB.out | apply below_alloc | apply pw_below_drewN | apply below_drew1 | refine below_set ?_ GE104.out) | exact HB.out))) : w.heap.size ≤ gb109)); have n5_ := Aside0.mk ((by rw [hg]; exact (below_size (by repeat (first | (with_reducible first | exact HB.out | apply below_alloc | apply pw_below_drewN | apply below_drew1 | refine below_set ?_ GE104.out) | exact HB.out))) : w.heap.size ≤ gb109)); have n6_ := Aside0.mk ((by rw [hg]; exact Nat.ne_of_lt (blk_lt (g := gb104) (o := .cells #[.int .i64 x105000_1, .string x105001_1, .string x105002_1] 36 (0, 0)) (by (with_reducible repeat (first | refine blk_drewN ?_ _ | refine blk_drew ?_ | refine blk_alloc ?_ _)); exact BK104.out)) : gb104 ≠ gb109)); have n7_ := Aside0.mk ((by rw [hg]; exact Nat.ne_of_gt (blk_lt (g := gb104) (o := .cells #[.int .i64 x105000_1, .string x105001_1, .string x105002_1] 36 (0, 0)) (by (with_reducible repeat (first | refine blk_drewN ?_ _ | refine blk_drew ?_ | refine blk_alloc ?_ _)); exact BK104.out)) : gb109 ≠ gb104)); clear HO_6; clear BK104; clear HB; have HO_6 := n0_; have BK104 := n1_; have HB := n2_; have BK109 := n3_; have GW109 := n4_; have GE109 := n5_; have NB104_109 := n6_; have NB109_104 := n7_; clear n0_ n1_ n2_ n3_ n4_ n5_ n6_ n7_; clear hb hbox hg; have hnb15 := NB109_104.out; have hnc15 := NB104_109.out; have hcz16_0 : w14.cell? ⟨gb109, 0, none⟩ = some (.int .i64 0) := (blk_cell BK109.out 0).trans rfl; have hcz16_1 : w14.cell? ⟨gb109, 1, none⟩ = some (.string (⟨#[]⟩ : ByteArray)) := (blk_cell BK109.out 1).trans rfl; have hcz16_2 : w14.cell? ⟨gb109, 2, none⟩ = some (.string (⟨#[]⟩ : ByteArray)) := (blk_cell BK109.out 2).trans rfl; have hfz16_0 := blk_frozen BK109.out 0; have hfz16_1 := blk_frozen BK109.out 1; have hfz16_2 := blk_frozen BK109.out 2))
              go_roundg k1
              case measure => have := HK1.out; omega
              case rel => exact ⟨(wrap64 (x8_1 + 1)), (x105000_1), (x105001_1), (x105002_1), (by first | rfl | (simp; done) | (simp [*]; done) | ((try simp only [Bool.not_not]); (generalize ByteArray.toList _ = l_); cases l_ <;> rfl) | (simp; (generalize ByteArray.toList _ = l_); cases l_ <;> rfl)), H', ⟨by have := HK1.out; omega⟩, ⟨by (with_reducible repeat (first | apply Kd.R_alloc | apply Kd.R_drewN | apply Kd.R_drew)); exact Kd.R_mono (Kd.R_far (p := ⟨gb109, 2, none⟩) (Kd.R_far (p := ⟨gb109, 1, none⟩) (Kd.R_far (p := ⟨gb109, 0, none⟩) (Kd.R_mono HO_6.out (fun k_ hk => (⟨hk, hk.2⟩ : _ ∧ k_ ≠ gb109))) (fun _ hk => hk.2) (.int .i64 ((rd_T36 t105 x8_1).f0))) (fun _ hk => hk.2) (.string ((rd_T36 t105 x8_1).f1))) (fun _ hk => hk.2) (.string ((rd_T36 t105 x8_1).f2))) (fun _ hk => hk.1.1)⟩, ⟨by (with_reducible repeat (first | refine blk_drewN ?_ _ | refine blk_drew ?_ | refine blk_alloc ?_ _)); refine blk_far ?_ NB104_109.out _; (with_reducible repeat (first | refine blk_drewN ?_ _ | refine blk_drew ?_ | refine blk_alloc ?_ _)); refine blk_far ?_ NB104_109.out _; (with_reducible repeat (first | refine blk_drewN ?_ _ | refine blk_drew ?_ | refine blk_alloc ?_ _)); refine blk_far ?_ NB104_109.out _; (with_reducible repeat (first | refine blk_drewN ?_ _ | refine blk_drew ?_ | refine blk_alloc ?_ _)); exact BK104.out⟩, ⟨by repeat (first | (with_reducible first | exact HB.out | apply below_alloc | apply pw_below_drewN | apply below_drew1 | refine below_set ?_ GE104.out | refine below_set ?_ GE109.out) | exact HB.out)⟩⟩
          · rw [if_neg c8] at H
            exact absurd H (by simp)
        · rw [if_neg c7] at H
          exact absurd H (by simp)
      · rw [if_neg c6] at H
        have c6b0 : decide (x8_1 < (t105.length : Int)) = false := decide_eq_false c6
        clear c6
        simp only [Option.some.injEq, Prod.mk.injEq] at H
        obtain ⟨rfl, rfl, rfl, rfl⟩ := H
        have hcz17_0 : wr.cell? ⟨gb104, 0, none⟩ = some (.int .i64 x105000_1) := (blk_cell BK104.out 0).trans rfl
        have hcz17_1 : wr.cell? ⟨gb104, 1, none⟩ = some (.string x105001_1) := (blk_cell BK104.out 1).trans rfl
        have hcz17_2 : wr.cell? ⟨gb104, 2, none⟩ = some (.string x105002_1) := (blk_cell BK104.out 2).trans rfl
        have hfz17_0 := blk_frozen BK104.out 0
        have hfz17_1 := blk_frozen BK104.out 1
        have hfz17_2 := blk_frozen BK104.out 2
        go_wp2
        refine bodyPost_ret (results_ct rfl _ _ gb104 36 #[.int .i64 0, .string (⟨#[]⟩ : ByteArray), .string (⟨#[]⟩ : ByteArray)] (0, 0) _ rfl (by (with_reducible repeat (first | refine blk_drewN ?_ _ | refine blk_drew ?_ | refine blk_alloc ?_ _)); refine blk_put (cs := #[.int .i64 0, .string (⟨#[]⟩ : ByteArray), .string x105002_1]) ?_ 2 _ rfl; (with_reducible repeat (first | refine blk_drewN ?_ _ | refine blk_drew ?_ | refine blk_alloc ?_ _)); refine blk_put (cs := #[.int .i64 0, .string x105001_1, .string x105002_1]) ?_ 1 _ rfl; (with_reducible repeat (first | refine blk_drewN ?_ _ | refine blk_drew ?_ | refine blk_alloc ?_ _)); refine blk_put (cs := #[.int .i64 x105000_1, .string x105001_1, .string x105002_1]) ?_ 0 _ rfl; (with_reducible repeat (first | refine blk_drewN ?_ _ | refine blk_drew ?_ | refine blk_alloc ?_ _)); exact BK104.out) Try.underlying36 rfl (by kernel_rfl)) rfl ?_
        exact ⟨by first | rfl | (simp [errW_none, errW_some] <;> rfl) | (simp [*, errW_none, errW_some] <;> rfl), by repeat (first | (with_reducible first | exact HB.out | apply below_alloc | apply pw_below_drewN | apply below_drew1 | refine below_set ?_ GE104.out) | exact HB.out)⟩

/-! ### rdata_Mnemonic: function 6 -/
def rdata_Mnemonic.f (k : Nat) (a0 : Int) : Option (ByteArray) := (rdata_find.f k a0).bind fun bt110 => (some bt110.2.1)
theorem rdata_Mnemonic.mono : ∀ a0 k, LeO (rdata_Mnemonic.f k a0) (rdata_Mnemonic.f (k + 1) a0) := by
  intro a0 k
  unfold rdata_Mnemonic.f
  repeat' first
      | (with_reducible exact rdata_find.mono _ _)
      | (with_reducible exact LeO.refl _)
      | (with_reducible exact LeO.none _)
      | (with_reducible refine LeO.ite ?_ ?_)
      | (with_reducible refine LeO.bind ?_ (fun _ => ?_))
      | exact rdata_find.mono _ _
      | exact LeO.none _
      | refine LeO.ite ?_ ?_
      | refine LeO.bind ?_ (fun _ => ?_)
set_option maxHeartbeats 8000000 in
set_option maxRecDepth 100000 in
theorem rdata_Mnemonic.calls (k : Nat) (a0 : Int) (r : ByteArray) (w : World) (h : rdata_Mnemonic.f k a0 = some r) :
    Calls Try.prog 6 #[.int .i64 a0] w fun e w' => e = .returned (.string r) ∧ Below w.heap.size w w' := by
  have hu36 := Try.underlying36
  have HB := Aside0.mk (Below.refl w.heap.size w)
  have H : ((rdata_find.f k a0).bind fun bt110 => (some bt110.2.1)) = some r := h
  clear h
  replace H := Option.bind_eq_some_iff.mp H
  obtain ⟨⟨t110, t111, t112, t113⟩, A20, H⟩ := H
  replace H : (some t111) = some r := H
  have A2 := Aside0.mk A20
  clear A20
  obtain rfl := Option.some.inj H
  go_enter Try.func6, Try.ntmps6
  go_wp2_with (first | ((with_reducible refine gate_callee (f := 20) rfl ?_); refine goesL_ (some 7) rfl rfl Try.func20 (by kernel_rfl) rfl #[.int .i64 a0] rfl (by (try simp only [List.map_toArray, List.map_cons, List.map_nil]); first | done | rfl | (simp only [List.length_drop, List.length_take]; rfl)) ?_; (with_reducible refine (rdata_find.calls k a0 t110 t111 t112 t113 _ A2.out).mono ?_); rintro e w3 ⟨rfl, hb⟩; refine ⟨_, rfl, ?_⟩; have n0_ := Aside0.mk (below_step (by repeat (first | (with_reducible first | exact HB.out | apply below_alloc | apply pw_below_drewN | apply below_drew1) | exact HB.out)) hb); clear HB; have HB := n0_; clear n0_; (try clear hb); (try clear hb2); (try clear hk); (try clear hi)) | ((with_reducible refine gate_dst (N := 3) rfl ?_); refine box_event ?hg (N := 3) ?hd (cs := #[.int .i64 0, .string (⟨#[]⟩ : ByteArray), .string (⟨#[]⟩ : ByteArray)]) (t := 36) ?hr ?_; (case hd => rfl); (case hg => rfl); (case hr => first | (go_simp; done) | (go_simp; rfl)); intro gb114 hg w4 hbox hb; have n0_ := Aside0.mk (below_step (by repeat (first | (with_reducible first | exact HB.out | apply below_alloc | apply pw_below_drewN | apply below_drew1) | exact HB.out)) hb); have n1_ := Aside0.mk (hbox); have n2_ := Aside0.mk ((by rw [hg]; exact (below_size (by repeat (first | (with_reducible first | exact HB.out | apply below_alloc | apply pw_below_drewN | apply below_drew1) | exact HB.out))) : w.heap.size ≤ gb114)); have n3_ := Aside0.mk ((by rw [hg]; exact (below_size (by repeat (first | (with_reducible first | exact HB.out | apply below_alloc | apply pw_below_drewN | apply below_drew1) | exact HB.out))) : w.heap.size ≤ gb114)); clear HB; have HB := n0_; have BK114 := n1_; have GW114 := n2_; have GE114 := n3_; clear n0_ n1_ n2_ n3_; clear hb hbox hg; have hcz5_0 : w4.cell? ⟨gb114, 0, none⟩ = some (.int .i64 0) := (blk_cell BK114.out 0).trans rfl; have hcz5_1 : w4.cell? ⟨gb114, 1, none⟩ = some (.string (⟨#[]⟩ : ByteArray)) := (blk_cell BK114.out 1).trans rfl; have hcz5_2 : w4.cell? ⟨gb114, 2, none⟩ = some (.string (⟨#[]⟩ : ByteArray)) := (blk_cell BK114.out 2).trans rfl; have hfz5_0 := blk_frozen BK114.out 0; have hfz5_1 := blk_frozen BK114.out 1; have hfz5_2 := blk_frozen BK114.out 2))
  go_ret
  exact ⟨by first | rfl | (simp [errW_none, errW_some] <;> rfl) | (simp [*, errW_none, errW_some] <;> rfl), by repeat (first | (with_reducible first | exact HB.out | apply below_alloc | apply pw_below_drewN | apply below_drew1 | refine below_set ?_ GE114.out) | exact HB.out)⟩

/-! ### rdata_Known: function 7 -/
def rdata_Known.f (k : Nat) (a0 : Int) : Option (Bool) := (rdata_find.f k a0).bind fun bt115 => (some bt115.2.2.2)
theorem rdata_Known.mono : ∀ a0 k, LeO (rdata_Known.f k a0) (rdata_Known.f (k + 1) a0) := by
  intro a0 k
  unfold rdata_Known.f
  repeat' first
      | (with_reducible exact rdata_find.mono _ _)
      | (with_reducible exact LeO.refl _)
      | (with_reducible exact LeO.none _)
      | (with_reducible refine LeO.ite ?_ ?_)
      | (with_reducible refine LeO.bind ?_ (fun _ => ?_))
      | exact rdata_find.mono _ _
      | exact LeO.none _
      | refine LeO.ite ?_ ?_
      | refine LeO.bind ?_ (fun _ => ?_)
set_option maxHeartbeats 8000000 in
set_option maxRecDepth 100000 in
theorem rdata_Known.calls (k : Nat) (a0 : Int) (r : Bool) (w : World) (h : rdata_Known.f k a0 = some r) :
    Calls Try.prog 7 #[.int .i64 a0] w fun e w' => e = .returned (.bool r) ∧ Below w.heap.size w w' := by
  have hu36 := Try.underlying36
  have HB := Aside0.mk (Below.refl w.heap.size w)
  have H : ((rdata_find.f k a0).bind fun bt115 => (some bt115.2.2.2)) = some r := h
  clear h
  replace H := Option.bind_eq_some_iff.mp H
  obtain ⟨⟨t115, t116, t117, t118⟩, A20, H⟩ := H
  replace H : (some t118) = some r := H
  have A2 := Aside0.mk A20
  clear A20
  obtain rfl := Option.some.inj H
  go_enter Try.func7, Try.ntmps7
  go_wp2_with (first | ((with_reducible refine gate_callee (f := 20) rfl ?_); refine goesL_ (some 7) rfl rfl Try.func20 (by kernel_rfl) rfl #[.int .i64 a0] rfl (by (try simp only [List.map_toArray, List.map_cons, List.map_nil]); first | done | rfl | (simp only [List.length_drop, List.length_take]; rfl)) ?_; (with_reducible refine (rdata_find.calls k a0 t115 t116 t117 t118 _ A2.out).mono ?_); rintro e w3 ⟨rfl, hb⟩; refine ⟨_, rfl, ?_⟩; have n0_ := Aside0.mk (below_step (by repeat (first | (with_reducible first | exact HB.out | apply below_alloc | apply pw_below_drewN | apply below_drew1) | exact HB.out)) hb); clear HB; have HB := n0_; clear n0_; (try clear hb); (try clear hb2); (try clear hk); (try clear hi)) | ((with_reducible refine gate_dst (N := 3) rfl ?_); refine box_event ?hg (N := 3) ?hd (cs := #[.int .i64 0, .string (⟨#[]⟩ : ByteArray), .string (⟨#[]⟩ : ByteArray)]) (t := 36) ?hr ?_; (case hd => rfl); (case hg => rfl); (case hr => first | (go_simp; done) | (go_simp; rfl)); intro gb119 hg w4 hbox hb; have n0_ := Aside0.mk (below_step (by repeat (first | (with_reducible first | exact HB.out | apply below_alloc | apply pw_below_drewN | apply below_drew1) | exact HB.out)) hb); have n1_ := Aside0.mk (hbox); have n2_ := Aside0.mk ((by rw [hg]; exact (below_size (by repeat (first | (with_reducible first | exact HB.out | apply below_alloc | apply pw_below_drewN | apply below_drew1) | exact HB.out))) : w.heap.size ≤ gb119)); have n3_ := Aside0.mk ((by rw [hg]; exact (below_size (by repeat (first | (with_reducible first | exact HB.out | apply below_alloc | apply pw_below_drewN | apply below_drew1) | exact HB.out))) : w.heap.size ≤ gb119)); clear HB; have HB := n0_; have BK119 := n1_; have GW119 := n2_; have GE119 := n3_; clear n0_ n1_ n2_ n3_; clear hb hbox hg; have hcz5_0 : w4.cell? ⟨gb119, 0, none⟩ = some (.int .i64 0) := (blk_cell BK119.out 0).trans rfl; have hcz5_1 : w4.cell? ⟨gb119, 1, none⟩ = some (.string (⟨#[]⟩ : ByteArray)) := (blk_cell BK119.out 1).trans rfl; have hcz5_2 : w4.cell? ⟨gb119, 2, none⟩ = some (.string (⟨#[]⟩ : ByteArray)) := (blk_cell BK119.out 2).trans rfl; have hfz5_0 := blk_frozen BK119.out 0; have hfz5_1 := blk_frozen BK119.out 1; have hfz5_2 := blk_frozen BK119.out 2))
  go_ret
  exact ⟨by first | rfl | (simp [errW_none, errW_some] <;> rfl) | (simp [*, errW_none, errW_some] <;> rfl), by repeat (first | (with_reducible first | exact HB.out | apply below_alloc | apply pw_below_drewN | apply below_drew1 | refine below_set ?_ GE119.out) | exact HB.out)⟩

/-! ### rdata_Single: function 8 -/
def rdata_Single.f (a0 : Int) : Option (Bool) := if a0 = 6 then (some true) else (if a0 = 5 then (some true) else (some (a0 == 39)))
set_option maxHeartbeats 8000000 in
set_option maxRecDepth 100000 in
theorem rdata_Single.calls (a0 : Int) (r : Bool) (w : World) (h : rdata_Single.f a0 = some r) :
    Calls Try.prog 8 #[.int .i64 a0] w fun e w' => e = .returned (.bool r) ∧ Drawn0 w w' := by
  have H : (if a0 = 6 then (some true) else (if a0 = 5 then (some true) else (some (a0 == 39)))) = some r := h
  clear h
  by_cases c2 : a0 = 6
  · rw [if_pos c2] at H
    have c2b0 : (a0 == 6) = true := beq_iff_eq.mpr c2
    have c2b1 : (a0 != 6) = false := bne_eq_false_iff_eq.mpr c2
    clear c2
    obtain rfl := Option.some.inj H
    go_enter Try.func8, Try.ntmps8
    go_wp2
    go_ret
    exact ⟨by first | rfl | (simp; done) | (simp [*]; done) | ((try simp only [Bool.not_not]); (generalize ByteArray.toList _ = l_); cases l_ <;> rfl) | (simp; (generalize ByteArray.toList _ = l_); cases l_ <;> rfl), by repeat (first | exact Drawn0.refl _ | apply Drawn0.step)⟩
  · rw [if_neg c2] at H
    have c2b0 : (a0 == 6) = false := beq_eq_false_iff_ne.mpr c2
    have c2b1 : (a0 != 6) = true := bne_iff_ne.mpr c2
    by_cases c3 : a0 = 5
    · rw [if_pos c3] at H
      have c3b0 : (a0 == 5) = true := beq_iff_eq.mpr c3
      have c3b1 : (a0 != 5) = false := bne_eq_false_iff_eq.mpr c3
      clear c3
      obtain rfl := Option.some.inj H
      go_enter Try.func8, Try.ntmps8
      go_wp2
      go_ret
      exact ⟨by first | rfl | (simp; done) | (simp [*]; done) | ((try simp only [Bool.not_not]); (generalize ByteArray.toList _ = l_); cases l_ <;> rfl) | (simp; (generalize ByteArray.toList _ = l_); cases l_ <;> rfl), by repeat (first | exact Drawn0.refl _ | apply Drawn0.step)⟩
    · rw [if_neg c3] at H
      have c3b0 : (a0 == 5) = false := beq_eq_false_iff_ne.mpr c3
      have c3b1 : (a0 != 5) = true := bne_iff_ne.mpr c3
      obtain rfl := Option.some.inj H
      go_enter Try.func8, Try.ntmps8
      go_wp2
      go_ret
      exact ⟨by first | rfl | (simp; done) | (simp [*]; done) | ((try simp only [Bool.not_not]); (generalize ByteArray.toList _ = l_); cases l_ <;> rfl) | (simp; (generalize ByteArray.toList _ = l_); cases l_ <;> rfl), by repeat (first | exact Drawn0.refl _ | apply Drawn0.step)⟩

/-! ### ddiref05_Mnemonic: function 10 -/
def ddiref05_Mnemonic.f (a0 : Int) : Option (ByteArray) := if a0 = 1 then (some (⟨#[65]⟩ : ByteArray)) else (if a0 = 2 then (some (⟨#[78, 83]⟩ : ByteArray)) else (if a0 = 5 then (some (⟨#[67, 78, 65, 77, 69]⟩ : ByteArray)) else (if a0 = 6 then (some (⟨#[83, 79, 65]⟩ : ByteArray)) else (if a0 = 12 then (some (⟨#[80, 84, 82]⟩ : ByteArray)) else (if a0 = 15 then (some (⟨#[77, 88]⟩ : ByteArray)) else (if a0 = 16 then (some (⟨#[84, 88, 84]⟩ : ByteArray)) else (if a0 = 28 then (some (⟨#[65, 65, 65, 65]⟩ : ByteArray)) else (if a0 = 33 then (some (⟨#[83, 82, 86]⟩ : ByteArray)) else (if a0 = 39 then (some (⟨#[68, 78, 65, 77, 69]⟩ : ByteArray)) else (if a0 = 43 then (some (⟨#[68, 83]⟩ : ByteArray)) else (if a0 = 46 then (some (⟨#[82, 82, 83, 73, 71]⟩ : ByteArray)) else (if a0 = 47 then (some (⟨#[78, 83, 69, 67]⟩ : ByteArray)) else (if a0 = 48 then (some (⟨#[68, 78, 83, 75, 69, 89]⟩ : ByteArray)) else (some (⟨#[]⟩ : ByteArray)))))))))))))))
set_option maxHeartbeats 8000000 in
set_option maxRecDepth 100000 in
theorem ddiref05_Mnemonic.calls (a0 : Int) (r : ByteArray) (w : World) (h : ddiref05_Mnemonic.f a0 = some r) :
    Calls Try.prog 10 #[.int .i64 a0] w fun e w' => e = .returned (.string r) ∧ Drawn0 w w' := by
  have H : (if a0 = 1 then (some (⟨#[65]⟩ : ByteArray)) else (if a0 = 2 then (some (⟨#[78, 83]⟩ : ByteArray)) else (if a0 = 5 then (some (⟨#[67, 78, 65, 77, 69]⟩ : ByteArray)) else (if a0 = 6 then (some (⟨#[83, 79, 65]⟩ : ByteArray)) else (if a0 = 12 then (some (⟨#[80, 84, 82]⟩ : ByteArray)) else (if a0 = 15 then (some (⟨#[77, 88]⟩ : ByteArray)) else (if a0 = 16 then (some (⟨#[84, 88, 84]⟩ : ByteArray)) else (if a0 = 28 then (some (⟨#[65, 65, 65, 65]⟩ : ByteArray)) else (if a0 = 33 then (some (⟨#[83, 82, 86]⟩ : ByteArray)) else (if a0 = 39 then (some (⟨#[68, 78, 65, 77, 69]⟩ : ByteArray)) else (if a0 = 43 then (some (⟨#[68, 83]⟩ : ByteArray)) else (if a0 = 46 then (some (⟨#[82, 82, 83, 73, 71]⟩ : ByteArray)) else (if a0 = 47 then (some (⟨#[78, 83, 69, 67]⟩ : ByteArray)) else (if a0 = 48 then (some (⟨#[68, 78, 83, 75, 69, 89]⟩ : ByteArray)) else (some (⟨#[]⟩ : ByteArray)))))))))))))))) = some r := h
  clear h
  by_cases c2 : a0 = 1
  · rw [if_pos c2] at H
    have c2b0 : (a0 == 1) = true := beq_iff_eq.mpr c2
    have c2b1 : (a0 != 1) = false := bne_eq_false_iff_eq.mpr c2
    clear c2
    obtain rfl := Option.some.inj H
    go_enter Try.func10, Try.ntmps10
    go_wp2
    go_ret
    exact ⟨by first | rfl | (simp; done) | (simp [*]; done) | ((try simp only [Bool.not_not]); (generalize ByteArray.toList _ = l_); cases l_ <;> rfl) | (simp; (generalize ByteArray.toList _ = l_); cases l_ <;> rfl), by repeat (first | exact Drawn0.refl _ | apply Drawn0.step)⟩
  · rw [if_neg c2] at H
    have c2b0 : (a0 == 1) = false := beq_eq_false_iff_ne.mpr c2
    have c2b1 : (a0 != 1) = true := bne_iff_ne.mpr c2
    by_cases c3 : a0 = 2
    · rw [if_pos c3] at H
      have c3b0 : (a0 == 2) = true := beq_iff_eq.mpr c3
      have c3b1 : (a0 != 2) = false := bne_eq_false_iff_eq.mpr c3
      clear c3
      obtain rfl := Option.some.inj H
      go_enter Try.func10, Try.ntmps10
      go_wp2
      go_ret
      exact ⟨by first | rfl | (simp; done) | (simp [*]; done) | ((try simp only [Bool.not_not]); (generalize ByteArray.toList _ = l_); cases l_ <;> rfl) | (simp; (generalize ByteArray.toList _ = l_); cases l_ <;> rfl), by repeat (first | exact Drawn0.refl _ | apply Drawn0.step)⟩
    · rw [if_neg c3] at H
      have c3b0 : (a0 == 2) = false := beq_eq_false_iff_ne.mpr c3
      have c3b1 : (a0 != 2) = true := bne_iff_ne.mpr c3
      by_cases c4 : a0 = 5
      · rw [if_pos c4] at H
        have c4b0 : (a0 == 5) = true := beq_iff_eq.mpr c4
        have c4b1 : (a0 != 5) = false := bne_eq_false_iff_eq.mpr c4
        clear c4
        obtain rfl := Option.some.inj H
        go_enter Try.func10, Try.ntmps10
        go_wp2
        go_ret
        exact ⟨by first | rfl | (simp; done) | (simp [*]; done) | ((try simp only [Bool.not_not]); (generalize ByteArray.toList _ = l_); cases l_ <;> rfl) | (simp; (generalize ByteArray.toList _ = l_); cases l_ <;> rfl), by repeat (first | exact Drawn0.refl _ | apply Drawn0.step)⟩
      · rw [if_neg c4] at H
        have c4b0 : (a0 == 5) = false := beq_eq_false_iff_ne.mpr c4
        have c4b1 : (a0 != 5) = true := bne_iff_ne.mpr c4
        by_cases c5 : a0 = 6
        · rw [if_pos c5] at H
          have c5b0 : (a0 == 6) = true := beq_iff_eq.mpr c5
          have c5b1 : (a0 != 6) = false := bne_eq_false_iff_eq.mpr c5
          clear c5
          obtain rfl := Option.some.inj H
          go_enter Try.func10, Try.ntmps10
          go_wp2
          go_ret
          exact ⟨by first | rfl | (simp; done) | (simp [*]; done) | ((try simp only [Bool.not_not]); (generalize ByteArray.toList _ = l_); cases l_ <;> rfl) | (simp; (generalize ByteArray.toList _ = l_); cases l_ <;> rfl), by repeat (first | exact Drawn0.refl _ | apply Drawn0.step)⟩
        · rw [if_neg c5] at H
          have c5b0 : (a0 == 6) = false := beq_eq_false_iff_ne.mpr c5
          have c5b1 : (a0 != 6) = true := bne_iff_ne.mpr c5
          by_cases c6 : a0 = 12
          · rw [if_pos c6] at H
            have c6b0 : (a0 == 12) = true := beq_iff_eq.mpr c6
            have c6b1 : (a0 != 12) = false := bne_eq_false_iff_eq.mpr c6
            clear c6
            obtain rfl := Option.some.inj H
            go_enter Try.func10, Try.ntmps10
            go_wp2
            go_ret
            exact ⟨by first | rfl | (simp; done) | (simp [*]; done) | ((try simp only [Bool.not_not]); (generalize ByteArray.toList _ = l_); cases l_ <;> rfl) | (simp; (generalize ByteArray.toList _ = l_); cases l_ <;> rfl), by repeat (first | exact Drawn0.refl _ | apply Drawn0.step)⟩
          · rw [if_neg c6] at H
            have c6b0 : (a0 == 12) = false := beq_eq_false_iff_ne.mpr c6
            have c6b1 : (a0 != 12) = true := bne_iff_ne.mpr c6
            by_cases c7 : a0 = 15
            · rw [if_pos c7] at H
              have c7b0 : (a0 == 15) = true := beq_iff_eq.mpr c7
              have c7b1 : (a0 != 15) = false := bne_eq_false_iff_eq.mpr c7
              clear c7
              obtain rfl := Option.some.inj H
              go_enter Try.func10, Try.ntmps10
              go_wp2
              go_ret
              exact ⟨by first | rfl | (simp; done) | (simp [*]; done) | ((try simp only [Bool.not_not]); (generalize ByteArray.toList _ = l_); cases l_ <;> rfl) | (simp; (generalize ByteArray.toList _ = l_); cases l_ <;> rfl), by repeat (first | exact Drawn0.refl _ | apply Drawn0.step)⟩
            · rw [if_neg c7] at H
              have c7b0 : (a0 == 15) = false := beq_eq_false_iff_ne.mpr c7
              have c7b1 : (a0 != 15) = true := bne_iff_ne.mpr c7
              by_cases c8 : a0 = 16
              · rw [if_pos c8] at H
                have c8b0 : (a0 == 16) = true := beq_iff_eq.mpr c8
                have c8b1 : (a0 != 16) = false := bne_eq_false_iff_eq.mpr c8
                clear c8
                obtain rfl := Option.some.inj H
                go_enter Try.func10, Try.ntmps10
                go_wp2
                go_ret
                exact ⟨by first | rfl | (simp; done) | (simp [*]; done) | ((try simp only [Bool.not_not]); (generalize ByteArray.toList _ = l_); cases l_ <;> rfl) | (simp; (generalize ByteArray.toList _ = l_); cases l_ <;> rfl), by repeat (first | exact Drawn0.refl _ | apply Drawn0.step)⟩
              · rw [if_neg c8] at H
                have c8b0 : (a0 == 16) = false := beq_eq_false_iff_ne.mpr c8
                have c8b1 : (a0 != 16) = true := bne_iff_ne.mpr c8
                by_cases c9 : a0 = 28
                · rw [if_pos c9] at H
                  have c9b0 : (a0 == 28) = true := beq_iff_eq.mpr c9
                  have c9b1 : (a0 != 28) = false := bne_eq_false_iff_eq.mpr c9
                  clear c9
                  obtain rfl := Option.some.inj H
                  go_enter Try.func10, Try.ntmps10
                  go_wp2
                  go_ret
                  exact ⟨by first | rfl | (simp; done) | (simp [*]; done) | ((try simp only [Bool.not_not]); (generalize ByteArray.toList _ = l_); cases l_ <;> rfl) | (simp; (generalize ByteArray.toList _ = l_); cases l_ <;> rfl), by repeat (first | exact Drawn0.refl _ | apply Drawn0.step)⟩
                · rw [if_neg c9] at H
                  have c9b0 : (a0 == 28) = false := beq_eq_false_iff_ne.mpr c9
                  have c9b1 : (a0 != 28) = true := bne_iff_ne.mpr c9
                  by_cases c10 : a0 = 33
                  · rw [if_pos c10] at H
                    have c10b0 : (a0 == 33) = true := beq_iff_eq.mpr c10
                    have c10b1 : (a0 != 33) = false := bne_eq_false_iff_eq.mpr c10
                    clear c10
                    obtain rfl := Option.some.inj H
                    go_enter Try.func10, Try.ntmps10
                    go_wp2
                    go_ret
                    exact ⟨by first | rfl | (simp; done) | (simp [*]; done) | ((try simp only [Bool.not_not]); (generalize ByteArray.toList _ = l_); cases l_ <;> rfl) | (simp; (generalize ByteArray.toList _ = l_); cases l_ <;> rfl), by repeat (first | exact Drawn0.refl _ | apply Drawn0.step)⟩
                  · rw [if_neg c10] at H
                    have c10b0 : (a0 == 33) = false := beq_eq_false_iff_ne.mpr c10
                    have c10b1 : (a0 != 33) = true := bne_iff_ne.mpr c10
                    by_cases c11 : a0 = 39
                    · rw [if_pos c11] at H
                      have c11b0 : (a0 == 39) = true := beq_iff_eq.mpr c11
                      have c11b1 : (a0 != 39) = false := bne_eq_false_iff_eq.mpr c11
                      clear c11
                      obtain rfl := Option.some.inj H
                      go_enter Try.func10, Try.ntmps10
                      go_wp2
                      go_ret
                      exact ⟨by first | rfl | (simp; done) | (simp [*]; done) | ((try simp only [Bool.not_not]); (generalize ByteArray.toList _ = l_); cases l_ <;> rfl) | (simp; (generalize ByteArray.toList _ = l_); cases l_ <;> rfl), by repeat (first | exact Drawn0.refl _ | apply Drawn0.step)⟩
                    · rw [if_neg c11] at H
                      have c11b0 : (a0 == 39) = false := beq_eq_false_iff_ne.mpr c11
                      have c11b1 : (a0 != 39) = true := bne_iff_ne.mpr c11
                      by_cases c12 : a0 = 43
                      · rw [if_pos c12] at H
                        have c12b0 : (a0 == 43) = true := beq_iff_eq.mpr c12
                        have c12b1 : (a0 != 43) = false := bne_eq_false_iff_eq.mpr c12
                        clear c12
                        obtain rfl := Option.some.inj H
                        go_enter Try.func10, Try.ntmps10
                        go_wp2
                        go_ret
                        exact ⟨by first | rfl | (simp; done) | (simp [*]; done) | ((try simp only [Bool.not_not]); (generalize ByteArray.toList _ = l_); cases l_ <;> rfl) | (simp; (generalize ByteArray.toList _ = l_); cases l_ <;> rfl), by repeat (first | exact Drawn0.refl _ | apply Drawn0.step)⟩
                      · rw [if_neg c12] at H
                        have c12b0 : (a0 == 43) = false := beq_eq_false_iff_ne.mpr c12
                        have c12b1 : (a0 != 43) = true := bne_iff_ne.mpr c12
                        by_cases c13 : a0 = 46
                        · rw [if_pos c13] at H
                          have c13b0 : (a0 == 46) = true := beq_iff_eq.mpr c13
                          have c13b1 : (a0 != 46) = false := bne_eq_false_iff_eq.mpr c13
                          clear c13
                          obtain rfl := Option.some.inj H
                          go_enter Try.func10, Try.ntmps10
                          go_wp2
                          go_ret
                          exact ⟨by first | rfl | (simp; done) | (simp [*]; done) | ((try simp only [Bool.not_not]); (generalize ByteArray.toList _ = l_); cases l_ <;> rfl) | (simp; (generalize ByteArray.toList _ = l_); cases l_ <;> rfl), by repeat (first | exact Drawn0.refl _ | apply Drawn0.step)⟩
                        · rw [if_neg c13] at H
                          have c13b0 : (a0 == 46) = false := beq_eq_false_iff_ne.mpr c13
                          have c13b1 : (a0 != 46) = true := bne_iff_ne.mpr c13
                          by_cases c14 : a0 = 47
                          · rw [if_pos c14] at H
                            have c14b0 : (a0 == 47) = true := beq_iff_eq.mpr c14
                            have c14b1 : (a0 != 47) = false := bne_eq_false_iff_eq.mpr c14
                            clear c14
                            obtain rfl := Option.some.inj H
                            go_enter Try.func10, Try.ntmps10
                            go_wp2
                            go_ret
                            exact ⟨by first | rfl | (simp; done) | (simp [*]; done) | ((try simp only [Bool.not_not]); (generalize ByteArray.toList _ = l_); cases l_ <;> rfl) | (simp; (generalize ByteArray.toList _ = l_); cases l_ <;> rfl), by repeat (first | exact Drawn0.refl _ | apply Drawn0.step)⟩
                          · rw [if_neg c14] at H
                            have c14b0 : (a0 == 47) = false := beq_eq_false_iff_ne.mpr c14
                            have c14b1 : (a0 != 47) = true := bne_iff_ne.mpr c14
                            by_cases c15 : a0 = 48
                            · rw [if_pos c15] at H
                              have c15b0 : (a0 == 48) = true := beq_iff_eq.mpr c15
                              have c15b1 : (a0 != 48) = false := bne_eq_false_iff_eq.mpr c15
                              clear c15
                              obtain rfl := Option.some.inj H
                              go_enter Try.func10, Try.ntmps10
                              go_wp2
                              go_ret
                              exact ⟨by first | rfl | (simp; done) | (simp [*]; done) | ((try simp only [Bool.not_not]); (generalize ByteArray.toList _ = l_); cases l_ <;> rfl) | (simp; (generalize ByteArray.toList _ = l_); cases l_ <;> rfl), by repeat (first | exact Drawn0.refl _ | apply Drawn0.step)⟩
                            · rw [if_neg c15] at H
                              have c15b0 : (a0 == 48) = false := beq_eq_false_iff_ne.mpr c15
                              have c15b1 : (a0 != 48) = true := bne_iff_ne.mpr c15
                              obtain rfl := Option.some.inj H
                              go_enter Try.func10, Try.ntmps10
                              go_wp2
                              go_ret
                              exact ⟨by first | rfl | (simp; done) | (simp [*]; done) | ((try simp only [Bool.not_not]); (generalize ByteArray.toList _ = l_); cases l_ <;> rfl) | (simp; (generalize ByteArray.toList _ = l_); cases l_ <;> rfl), by repeat (first | exact Drawn0.refl _ | apply Drawn0.step)⟩

/-! ### ddiref05_Known: function 9 -/
def ddiref05_Known.f (a0 : Int) : Option (Bool) := (ddiref05_Mnemonic.f a0).bind fun t120 => (some (t120.toList != ([] : List UInt8)))
set_option maxHeartbeats 8000000 in
set_option maxRecDepth 100000 in
theorem ddiref05_Known.calls (a0 : Int) (r : Bool) (w : World) (h : ddiref05_Known.f a0 = some r) :
    Calls Try.prog 9 #[.int .i64 a0] w fun e w' => e = .returned (.bool r) ∧ Drawn0 w w' := by
  have H : ((ddiref05_Mnemonic.f a0).bind fun t120 => (some (t120.toList != ([] : List UInt8)))) = some r := h
  clear h
  replace H := Option.bind_eq_some_iff.mp H
  obtain ⟨t120, A20, H⟩ := H
  replace H : (some (t120.toList != ([] : List UInt8))) = some r := H
  have A2 := Aside0.mk A20
  clear A20
  obtain rfl := Option.some.inj H
  go_enter Try.func9, Try.ntmps9
  go_wp2_with (first | ((with_reducible refine gate_callee (f := 10) rfl ?_); refine goesL_ (some 4) rfl rfl Try.func10 (by kernel_rfl) rfl #[.int .i64 a0] rfl (by (try simp only [List.map_toArray, List.map_cons, List.map_nil]); first | done | rfl | (simp only [List.length_drop, List.length_take]; rfl)) ?_; (with_reducible refine (ddiref05_Mnemonic.calls a0 t120 _ A2.out).mono ?_); rintro e w' ⟨rfl, ⟨nd, rfl⟩⟩; refine ⟨_, rfl, ?_⟩))
  go_ret
  exact ⟨by first | rfl | (simp; done) | (simp [*]; done) | ((try simp only [Bool.not_not]); (generalize ByteArray.toList _ = l_); cases l_ <;> rfl) | (simp; (generalize ByteArray.toList _ = l_); cases l_ <;> rfl), by repeat (first | exact Drawn0.refl _ | apply Drawn0.step)⟩

/-! ### ddiref05_Single: function 11 -/
def ddiref05_Single.f (a0 : Int) : Option (Bool) := if a0 = 6 then (some true) else (if a0 = 5 then (some true) else (some (a0 == 39)))
set_option maxHeartbeats 8000000 in
set_option maxRecDepth 100000 in
theorem ddiref05_Single.calls (a0 : Int) (r : Bool) (w : World) (h : ddiref05_Single.f a0 = some r) :
    Calls Try.prog 11 #[.int .i64 a0] w fun e w' => e = .returned (.bool r) ∧ Drawn0 w w' := by
  have H : (if a0 = 6 then (some true) else (if a0 = 5 then (some true) else (some (a0 == 39)))) = some r := h
  clear h
  by_cases c2 : a0 = 6
  · rw [if_pos c2] at H
    have c2b0 : (a0 == 6) = true := beq_iff_eq.mpr c2
    have c2b1 : (a0 != 6) = false := bne_eq_false_iff_eq.mpr c2
    clear c2
    obtain rfl := Option.some.inj H
    go_enter Try.func11, Try.ntmps11
    go_wp2
    go_ret
    exact ⟨by first | rfl | (simp; done) | (simp [*]; done) | ((try simp only [Bool.not_not]); (generalize ByteArray.toList _ = l_); cases l_ <;> rfl) | (simp; (generalize ByteArray.toList _ = l_); cases l_ <;> rfl), by repeat (first | exact Drawn0.refl _ | apply Drawn0.step)⟩
  · rw [if_neg c2] at H
    have c2b0 : (a0 == 6) = false := beq_eq_false_iff_ne.mpr c2
    have c2b1 : (a0 != 6) = true := bne_iff_ne.mpr c2
    by_cases c3 : a0 = 5
    · rw [if_pos c3] at H
      have c3b0 : (a0 == 5) = true := beq_iff_eq.mpr c3
      have c3b1 : (a0 != 5) = false := bne_eq_false_iff_eq.mpr c3
      clear c3
      obtain rfl := Option.some.inj H
      go_enter Try.func11, Try.ntmps11
      go_wp2
      go_ret
      exact ⟨by first | rfl | (simp; done) | (simp [*]; done) | ((try simp only [Bool.not_not]); (generalize ByteArray.toList _ = l_); cases l_ <;> rfl) | (simp; (generalize ByteArray.toList _ = l_); cases l_ <;> rfl), by repeat (first | exact Drawn0.refl _ | apply Drawn0.step)⟩
    · rw [if_neg c3] at H
      have c3b0 : (a0 == 5) = false := beq_eq_false_iff_ne.mpr c3
      have c3b1 : (a0 != 5) = true := bne_iff_ne.mpr c3
      obtain rfl := Option.some.inj H
      go_enter Try.func11, Try.ntmps11
      go_wp2
      go_ret
      exact ⟨by first | rfl | (simp; done) | (simp [*]; done) | ((try simp only [Bool.not_not]); (generalize ByteArray.toList _ = l_); cases l_ <;> rfl) | (simp; (generalize ByteArray.toList _ = l_); cases l_ <;> rfl), by repeat (first | exact Drawn0.refl _ | apply Drawn0.step)⟩

/-! ### rdata_Type: function 12 -/
def rdata_Type.l0 : Nat → ByteArray → List (S36) → Int → Int → Option (Int × Bool)
  | 0, _, _, _, _ => none
  | k + 1, x0, x6, x7, x8 => if x8 < x7 then (if 0 ≤ x8 then (if x8 < (x6.length : Int) then (if ((rd_T36 x6 x8).f1).toList = x0.toList then (some ((rd_T36 x6 x8).f0, true)) else (rdata_Type.l0 k x0 x6 x7 (wrap64 (x8 + 1)))) else (none)) else (none)) else (some (0, false))
def rdata_Type.f (k : Nat) (a0 : ByteArray) : Option (Int × Bool) := (rdata_kinds.f).bind fun t121 => (rdata_Type.l0 k a0 t121 (t121.length : Int) 0)
theorem rdata_Type.mono_l : ∀ k, (∀ y0 y1 y2 y3, LeO (rdata_Type.l0 k y0 y1 y2 y3) (rdata_Type.l0 (k + 1) y0 y1 y2 y3))
  | 0 => fun _ _ _ _ r h => by simp [rdata_Type.l0] at h
  | k + 1 => by
    have ih0 := rdata_Type.mono_l k
    · intro y0 y1 y2 y3
      unfold rdata_Type.l0
      repeat' first
      | (with_reducible exact ih0 _ _ _ _)
      | (with_reducible exact LeO.refl _)
      | (with_reducible exact LeO.none _)
      | (with_reducible refine LeO.ite ?_ ?_)
      | (with_reducible refine LeO.bind ?_ (fun _ => ?_))
      | exact ih0 _ _ _ _
      | exact LeO.none _
      | refine LeO.ite ?_ ?_
      | refine LeO.bind ?_ (fun _ => ?_)
theorem rdata_Type.mono : ∀ a0 k, LeO (rdata_Type.f k a0) (rdata_Type.f (k + 1) a0) := by
  intro a0 k
  have ih0 := rdata_Type.mono_l k
  unfold rdata_Type.f
  repeat' first
      | (with_reducible exact ih0 _ _ _ _)
      | (with_reducible exact LeO.refl _)
      | (with_reducible exact LeO.none _)
      | (with_reducible refine LeO.ite ?_ ?_)
      | (with_reducible refine LeO.bind ?_ (fun _ => ?_))
      | exact ih0 _ _ _ _
      | exact LeO.none _
      | refine LeO.ite ?_ ?_
      | refine LeO.bind ?_ (fun _ => ?_)
set_option maxHeartbeats 8000000 in
set_option maxRecDepth 100000 in
theorem rdata_Type.calls (k : Nat) (a0 : ByteArray) (r1 : Int) (r2 : Bool) (w : World) (h : rdata_Type.f k a0 = some (r1, r2)) :
    Calls Try.prog 12 #[.string a0] w fun e w' => e = .returned (.tuple #[.int .i64 r1, .bool r2]) ∧ Below w.heap.size w w' := by
  have hu36 := Try.underlying36
  have HB := Aside0.mk (Below.refl w.heap.size w)
  have H : ((rdata_kinds.f).bind fun t121 => (rdata_Type.l0 k a0 t121 (t121.length : Int) 0)) = some (r1, r2) := h
  clear h
  replace H := Option.bind_eq_some_iff.mp H
  obtain ⟨t121, A20, H⟩ := H
  replace H : (rdata_Type.l0 k a0 t121 (t121.length : Int) 0) = some (r1, r2) := H
  have A2 := Aside0.mk A20
  clear A20
  have H' := Aside0.mk H
  clear H
  go_enter Try.func12, Try.ntmps12
  go_wp2_with (first | ((with_reducible refine gate_callee (f := 21) rfl ?_); refine goesL_ (some 6) rfl rfl Try.func21 (by kernel_rfl) rfl #[] rfl (by (try simp only [List.map_toArray, List.map_cons, List.map_nil]); first | done | rfl | (simp only [List.length_drop, List.length_take]; rfl)) ?_; (with_reducible refine (rdata_kinds.calls  t121 _ A2.out).mono ?_); rintro e w3 ⟨v122, rfl, ho0, hb⟩; refine ⟨_, rfl, ?_⟩; have n0_ := Aside0.mk (Kd.R_lower ho0 (below_size (by repeat (first | (with_reducible first | exact HB.out | apply below_alloc | apply pw_below_drewN | apply below_drew1) | exact HB.out)))); have n1_ := Aside0.mk (below_step (by repeat (first | (with_reducible first | exact HB.out | apply below_alloc | apply pw_below_drewN | apply below_drew1) | exact HB.out)) hb); clear HB; have HO123 := n0_; have HB := n1_; clear n0_ n1_; (try clear hb); (try clear hb2); (try clear hk); (try clear hi); (try clear ho0); obtain ⟨Ao4, co4, eo4⟩ := Kd.R_slice HO123.out; subst eo4))
  go_loopg [8] k (fun kq v8 w' => ∃ (x8_1 : Int), v8 = .int .i64 x8_1 ∧ Aside0 (rdata_Type.l0 kq a0 t121 (t121.length : Int) x8_1 = some (r1, r2)) ∧ Aside0 (kq ≤ k) ∧ Aside0 (Kd.R k36 36 w' w.heap.size (fun _ => True) (.slice Ao4 t121.length co4) t121) ∧ Aside0 (Below w.heap.size w w'))
  case atStart => exact ⟨(0), (by first | rfl | (simp; done) | (simp [*]; done) | ((try simp only [Bool.not_not]); (generalize ByteArray.toList _ = l_); cases l_ <;> rfl) | (simp; (generalize ByteArray.toList _ = l_); cases l_ <;> rfl)), H', ⟨Nat.le_refl _⟩, ⟨by (with_reducible repeat (first | apply Kd.R_alloc | apply Kd.R_drewN | apply Kd.R_drew)); exact HO123.out⟩, ⟨by repeat (first | (with_reducible first | exact HB.out | apply below_alloc | apply pw_below_drewN | apply below_drew1) | exact HB.out)⟩⟩
  case round =>
    clear H'
    try clear c1
    try clear c2
    try clear p2
    obtain ⟨x8_1, rfl, HA, HK1, HO_6, HB⟩ := hrel
    cases gk with
    | zero => exact absurd HA.out (by simp [rdata_Type.l0])
    | succ k1 =>
      have H := HA.out
      clear HA
      simp only [rdata_Type.l0] at H
      by_cases c5 : x8_1 < (t121.length : Int)
      · rw [if_pos c5] at H
        have c5b0 : decide (x8_1 < (t121.length : Int)) = true := decide_eq_true c5
        clear c5
        by_cases c6 : 0 ≤ x8_1
        · rw [if_pos c6] at H
          have c6b0 : decide (0 ≤ x8_1) = true := decide_eq_true c6
          clear c6
          by_cases c7 : x8_1 < (t121.length : Int)
          · rw [if_pos c7] at H
            have c7b0 : decide (x8_1 < (t121.length : Int)) = true := decide_eq_true c7
            clear c7
            by_cases c8 : ((rd_T36 t121 x8_1).f1).toList = a0.toList
            · rw [if_pos c8] at H
              have c8b0 : (((rd_T36 t121 x8_1).f1).toList == a0.toList) = true := beq_iff_eq.mpr c8
              have c8b1 : (((rd_T36 t121 x8_1).f1).toList != a0.toList) = false := bne_eq_false_iff_eq.mpr c8
              clear c8
              simp only [Option.some.injEq, Prod.mk.injEq] at H
              obtain ⟨rfl, rfl⟩ := H
              have p124 : 0 ≤ (x8_1 : Int) := of_decide_eq_true (by first | (with_reducible assumption) | assumption)
              have q124 : x8_1 < (t121.length : Int) := of_decide_eq_true (by first | (with_reducible assumption) | assumption)
              obtain ⟨ad124, e124, hx124_0, hx124_1, hx124_2⟩ := at_T36 (Kd.R_reads' HO_6.out).2.2 x8_1 p124 q124
              cases e124
              replace p124 := eq_true p124
              replace q124 := eq_true q124
              go_wp2_with (first | ((with_reducible refine gate_dst (N := 5) rfl ?_); refine box_event ?hg (N := 5) ?hd (cs := #[.int .i64 0, .string (⟨#[]⟩ : ByteArray), .string (⟨#[]⟩ : ByteArray)]) (t := 36) ?hr ?_; (case hd => rfl); (case hg => rfl); (case hr => first | (go_simp; done) | (go_simp; rfl)); intro gb125 hg w9 hbox hb; have n0_ := Aside0.mk (Kd.R_below (Kd.R_elderB (by (with_reducible repeat (first | apply Kd.R_alloc | apply Kd.R_drewN | apply Kd.R_drew)); exact HO_6.out) gb125 (Nat.le_of_eq hg.symm)) hb); have n1_ := Aside0.mk (below_step (by repeat (first | (with_reducible first | exact HB.out | apply below_alloc | apply pw_below_drewN | apply below_drew1) | exact HB.out)) hb); have n2_ := Aside0.mk (hbox); have n3_ := Aside0.mk ((by rw [hg]; exact (below_size (by repeat (first | (with_reducible first | exact HB.out | apply below_alloc | apply pw_below_drewN | apply below_drew1) | exact HB.out))) : w.heap.size ≤ gb125)); have n4_ := Aside0.mk ((by rw [hg]; exact (below_size (by repeat (first | (with_reducible first | exact HB.out | apply below_alloc | apply pw_below_drewN | apply below_drew1) | exact HB.out))) : w.heap.size ≤ gb125)); clear HO_6; clear HB; have HO_6 := n0_; have HB := n1_; have BK125 := n2_; have GW125 := n3_; have GE125 := n4_; clear n0_ n1_ n2_ n3_ n4_; clear hb hbox hg; have hcz10_0 : w9.cell? ⟨gb125, 0, none⟩ = some (.int .i64 0) := (blk_cell BK125.out 0).trans rfl; have hcz10_1 : w9.cell? ⟨gb125, 1, none⟩ = some (.string (⟨#[]⟩ : ByteArray)) := (blk_cell BK125.out 1).trans rfl; have hcz10_2 : w9.cell? ⟨gb125, 2, none⟩ = some (.string (⟨#[]⟩ : ByteArray)) := (blk_cell BK125.out 2).trans rfl; have hfz10_0 := blk_frozen BK125.out 0; have hfz10_1 := blk_frozen BK125.out 1; have hfz10_2 := blk_frozen BK125.out 2))
              go_ret2
              exact ⟨by first | rfl | (simp [errW_none, errW_some] <;> rfl) | (simp [*, errW_none, errW_some] <;> rfl), by repeat (first | (with_reducible first | exact HB.out | apply below_alloc | apply pw_below_drewN | apply below_drew1 | refine below_set ?_ GE125.out) | exact HB.out)⟩
            · rw [if_neg c8] at H
              have c8b0 : (((rd_T36 t121 x8_1).f1).toList == a0.toList) = false := beq_eq_false_iff_ne.mpr c8
              have c8b1 : (((rd_T36 t121 x8_1).f1).toList != a0.toList) = true := bne_iff_ne.mpr c8
              have H' := Aside0.mk H
              clear H
              have p124 : 0 ≤ (x8_1 : Int) := of_decide_eq_true (by first | (with_reducible assumption) | assumption)
              have q124 : x8_1 < (t121.length : Int) := of_decide_eq_true (by first | (with_reducible assumption) | assumption)
              obtain ⟨ad124, e124, hx124_0, hx124_1, hx124_2⟩ := at_T36 (Kd.R_reads' HO_6.out).2.2 x8_1 p124 q124
              cases e124
              replace p124 := eq_true p124
              replace q124 := eq_true q124
              go_wp2_with (first | ((with_reducible refine gate_dst (N := 5) rfl ?_); refine box_event ?hg (N := 5) ?hd (cs := #[.int .i64 0, .string (⟨#[]⟩ : ByteArray), .string (⟨#[]⟩ : ByteArray)]) (t := 36) ?hr ?_; (case hd => rfl); (case hg => rfl); (case hr => first | (go_simp; done) | (go_simp; rfl)); intro gb125 hg w11 hbox hb; have n0_ := Aside0.mk (Kd.R_below (Kd.R_elderB (by (with_reducible repeat (first | apply Kd.R_alloc | apply Kd.R_drewN | apply Kd.R_drew)); exact HO_6.out) gb125 (Nat.le_of_eq hg.symm)) hb); have n1_ := Aside0.mk (below_step (by repeat (first | (with_reducible first | exact HB.out | apply below_alloc | apply pw_below_drewN | apply below_drew1) | exact HB.out)) hb); have n2_ := Aside0.mk (hbox); have n3_ := Aside0.mk ((by rw [hg]; exact (below_size (by repeat (first | (with_reducible first | exact HB.out | apply below_alloc | apply pw_below_drewN | apply below_drew1) | exact HB.out))) : w.heap.size ≤ gb125)); have n4_ := Aside0.mk ((by rw [hg]; exact (below_size (by repeat (first | (with_reducible first | exact HB.out | apply below_alloc | apply pw_below_drewN | apply below_drew1) | exact HB.out))) : w.heap.size ≤ gb125)); clear HO_6; clear HB; have HO_6 := n0_; have HB := n1_; have BK125 := n2_; have GW125 := n3_; have GE125 := n4_; clear n0_ n1_ n2_ n3_ n4_; clear hb hbox hg; have hcz12_0 : w11.cell? ⟨gb125, 0, none⟩ = some (.int .i64 0) := (blk_cell BK125.out 0).trans rfl; have hcz12_1 : w11.cell? ⟨gb125, 1, none⟩ = some (.string (⟨#[]⟩ : ByteArray)) := (blk_cell BK125.out 1).trans rfl; have hcz12_2 : w11.cell? ⟨gb125, 2, none⟩ = some (.string (⟨#[]⟩ : ByteArray)) := (blk_cell BK125.out 2).trans rfl; have hfz12_0 := blk_frozen BK125.out 0; have hfz12_1 := blk_frozen BK125.out 1; have hfz12_2 := blk_frozen BK125.out 2))
              go_roundg k1
              case measure => have := HK1.out; omega
              case rel => exact ⟨(wrap64 (x8_1 + 1)), (by first | rfl | (simp; done) | (simp [*]; done) | ((try simp only [Bool.not_not]); (generalize ByteArray.toList _ = l_); cases l_ <;> rfl) | (simp; (generalize ByteArray.toList _ = l_); cases l_ <;> rfl)), H', ⟨by have := HK1.out; omega⟩, ⟨by (with_reducible repeat (first | apply Kd.R_alloc | apply Kd.R_drewN | apply Kd.R_drew)); exact Kd.R_mono (Kd.R_far (p := ⟨gb125, 2, none⟩) (Kd.R_far (p := ⟨gb125, 1, none⟩) (Kd.R_far (p := ⟨gb125, 0, none⟩) (Kd.R_mono HO_6.out (fun k_ hk => (⟨hk, hk.2⟩ : _ ∧ k_ ≠ gb125))) (fun _ hk => hk.2) (.int .i64 ((rd_T36 t121 x8_1).f0))) (fun _ hk => hk.2) (.string ((rd_T36 t121 x8_1).f1))) (fun _ hk => hk.2) (.string ((rd_T36 t121 x8_1).f2))) (fun _ hk => trivial)⟩, ⟨by repeat (first | (with_reducible first | exact HB.out | apply below_alloc | apply pw_below_drewN | apply below_drew1 | refine below_set ?_ GE125.out) | exact HB.out)⟩⟩
          · rw [if_neg c7] at H
            exact absurd H (by simp)
        · rw [if_neg c6] at H
          exact absurd H (by simp)
      · rw [if_neg c5] at H
        have c5b0 : decide (x8_1 < (t121.length : Int)) = false := decide_eq_false c5
        clear c5
        simp only [Option.some.injEq, Prod.mk.injEq] at H
        obtain ⟨rfl, rfl⟩ := H
        go_wp2
        go_ret2
        exact ⟨by first | rfl | (simp [errW_none, errW_some] <;> rfl) | (simp [*, errW_none, errW_some] <;> rfl), by repeat (first | (with_reducible first | exact HB.out | apply below_alloc | apply pw_below_drewN | apply below_drew1) | exact HB.out)⟩

/-! ### ddiref05_Type: function 13 -/
def ddiref05_Type.l0 : Nat → ByteArray → Int → Option (Int × Bool)
  | 0, _, _ => none
  | k + 1, x0, x4 => if x4 ≤ 48 then (if x0.toList = ([] : List UInt8) then (ddiref05_Type.l0 k x0 (wrap64 (x4 + 1))) else ((ddiref05_Mnemonic.f x4).bind fun t126 => (if t126.toList = x0.toList then (some (x4, true)) else (ddiref05_Type.l0 k x0 (wrap64 (x4 + 1)))))) else (some (0, false))
def ddiref05_Type.f (k : Nat) (a0 : ByteArray) : Option (Int × Bool) := ddiref05_Type.l0 k a0 1
theorem ddiref05_Type.mono_l : ∀ k, (∀ y0 y1, LeO (ddiref05_Type.l0 k y0 y1) (ddiref05_Type.l0 (k + 1) y0 y1))
  | 0 => fun _ _ r h => by simp [ddiref05_Type.l0] at h
  | k + 1 => by
    have ih0 := ddiref05_Type.mono_l k
    · intro y0 y1
      unfold ddiref05_Type.l0
      repeat' first
      | (with_reducible exact ih0 _ _)
      | (with_reducible exact LeO.refl _)
      | (with_reducible exact LeO.none _)
      | (with_reducible refine LeO.ite ?_ ?_)
      | (with_reducible refine LeO.bind ?_ (fun _ => ?_))
      | exact ih0 _ _
      | exact LeO.none _
      | refine LeO.ite ?_ ?_
      | refine LeO.bind ?_ (fun _ => ?_)
theorem ddiref05_Type.mono : ∀ a0 k, LeO (ddiref05_Type.f k a0) (ddiref05_Type.f (k + 1) a0) := by
  intro a0 k
  have ih0 := ddiref05_Type.mono_l k
  unfold ddiref05_Type.f
  repeat' first
      | (with_reducible exact ih0 _ _)
      | (with_reducible exact LeO.refl _)
      | (with_reducible exact LeO.none _)
      | (with_reducible refine LeO.ite ?_ ?_)
      | (with_reducible refine LeO.bind ?_ (fun _ => ?_))
      | exact ih0 _ _
      | exact LeO.none _
      | refine LeO.ite ?_ ?_
      | refine LeO.bind ?_ (fun _ => ?_)
set_option maxHeartbeats 8000000 in
set_option maxRecDepth 100000 in
theorem ddiref05_Type.calls (k : Nat) (a0 : ByteArray) (r1 : Int) (r2 : Bool) (w : World) (h : ddiref05_Type.f k a0 = some (r1, r2)) :
    Calls Try.prog 13 #[.string a0] w fun e w' => e = .returned (.tuple #[.int .i64 r1, .bool r2]) ∧ Drawn0 w w' := by
  have H : (ddiref05_Type.l0 k a0 1) = some (r1, r2) := h
  clear h
  have H' := Aside0.mk H
  clear H
  go_enter Try.func13, Try.ntmps13
  go_wp2
  go_loopg [4] k (fun kq v4 w' => ∃ (x4_1 : Int), v4 = .int .i64 x4_1 ∧ Aside0 (ddiref05_Type.l0 kq a0 x4_1 = some (r1, r2)) ∧ Aside0 (kq ≤ k) ∧ Drawn0 w w')
  case atStart => exact ⟨(1), (by first | rfl | (simp; done) | (simp [*]; done) | ((try simp only [Bool.not_not]); (generalize ByteArray.toList _ = l_); cases l_ <;> rfl) | (simp; (generalize ByteArray.toList _ = l_); cases l_ <;> rfl)), H', ⟨Nat.le_refl _⟩, by repeat (first | exact Drawn0.refl _ | apply Drawn0.step)⟩
  case round =>
    clear H'
    try clear c1
    obtain ⟨x4_1, rfl, HA, HK1, ⟨m1, rfl⟩⟩ := hrel
    cases gk with
    | zero => exact absurd HA.out (by simp [ddiref05_Type.l0])
    | succ k1 =>
      have H := HA.out
      clear HA
      simp only [ddiref05_Type.l0] at H
      by_cases c2 : x4_1 ≤ 48
      · rw [if_pos c2] at H
        have c2b0 : decide (x4_1 ≤ 48) = true := decide_eq_true c2
        clear c2
        by_cases c3 : a0.toList = ([] : List UInt8)
        · rw [if_pos c3] at H
          have c3b0 : (a0.toList == ([] : List UInt8)) = true := beq_iff_eq.mpr c3
          have c3b1 : (a0.toList != ([] : List UInt8)) = false := bne_eq_false_iff_eq.mpr c3
          clear c3
          have H' := Aside0.mk H
          clear H
          go_wp2
          go_roundg k1
          case measure => have := HK1.out; omega
          case rel => exact ⟨(wrap64 (x4_1 + 1)), (by first | rfl | (simp; done) | (simp [*]; done) | ((try simp only [Bool.not_not]); (generalize ByteArray.toList _ = l_); cases l_ <;> rfl) | (simp; (generalize ByteArray.toList _ = l_); cases l_ <;> rfl)), H', ⟨by have := HK1.out; omega⟩, by repeat (first | exact Drawn0.refl _ | apply Drawn0.step)⟩
        · rw [if_neg c3] at H
          have c3b0 : (a0.toList == ([] : List UInt8)) = false := beq_eq_false_iff_ne.mpr c3
          have c3b1 : (a0.toList != ([] : List UInt8)) = true := bne_iff_ne.mpr c3
          replace H := Option.bind_eq_some_iff.mp H
          obtain ⟨t126, A40, H⟩ := H
          replace H : (if t126.toList = a0.toList then (some (x4_1, true)) else (ddiref05_Type.l0 k1 a0 (wrap64 (x4_1 + 1)))) = some (r1, r2) := H
          have A4 := Aside0.mk A40
          clear A40
          by_cases c5 : t126.toList = a0.toList
          · rw [if_pos c5] at H
            have c5b0 : (t126.toList == a0.toList) = true := beq_iff_eq.mpr c5
            have c5b1 : (t126.toList != a0.toList) = false := bne_eq_false_iff_eq.mpr c5
            clear c5
            simp only [Option.some.injEq, Prod.mk.injEq] at H
            obtain ⟨rfl, rfl⟩ := H
            go_wp2_with (first | (go_at_call 10; (with_reducible refine (ddiref05_Mnemonic.calls x4_1 t126 _ A4.out).mono ?_); rintro e w' ⟨rfl, ⟨nd, rfl⟩⟩))
            go_ret2
            exact ⟨by first | rfl | (simp; done) | (simp [*]; done) | ((try simp only [Bool.not_not]); (generalize ByteArray.toList _ = l_); cases l_ <;> rfl) | (simp; (generalize ByteArray.toList _ = l_); cases l_ <;> rfl), by repeat (first | exact Drawn0.refl _ | apply Drawn0.step)⟩
          · rw [if_neg c5] at H
            have c5b0 : (t126.toList == a0.toList) = false := beq_eq_false_iff_ne.mpr c5
            have c5b1 : (t126.toList != a0.toList) = true := bne_iff_ne.mpr c5
            have H' := Aside0.mk H
            clear H
            go_wp2_with (first | (go_at_call 10; (with_reducible refine (ddiref05_Mnemonic.calls x4_1 t126 _ A4.out).mono ?_); rintro e w' ⟨rfl, ⟨nd, rfl⟩⟩))
            go_roundg k1
            case measure => have := HK1.out; omega
            case rel => exact ⟨(wrap64 (x4_1 + 1)), (by first | rfl | (simp; done) | (simp [*]; done) | ((try simp only [Bool.not_not]); (generalize ByteArray.toList _ = l_); cases l_ <;> rfl) | (simp; (generalize ByteArray.toList _ = l_); cases l_ <;> rfl)), H', ⟨by have := HK1.out; omega⟩, by repeat (first | exact Drawn0.refl _ | apply Drawn0.step)⟩
      · rw [if_neg c2] at H
        have c2b0 : decide (x4_1 ≤ 48) = false := decide_eq_false c2
        clear c2
        simp only [Option.some.injEq, Prod.mk.injEq] at H
        obtain ⟨rfl, rfl⟩ := H
        go_wp2
        go_ret2
        exact ⟨by first | rfl | (simp; done) | (simp [*]; done) | ((try simp only [Bool.not_not]); (generalize ByteArray.toList _ = l_); cases l_ <;> rfl) | (simp; (generalize ByteArray.toList _ = l_); cases l_ <;> rfl), by repeat (first | exact Drawn0.refl _ | apply Drawn0.step)⟩

end Go.Proofs.Ytaehonmfoanloaa.P
