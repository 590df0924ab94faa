/- The Go functions in Lean, with the proofs that the code comes to these answers: printed by this session's program (wip/px) out of the seat's translation. Conditions: each theorem's own. -/
import Derived.Test.YtaehonmfoanloaaDoorPAx0
namespace Go.Proofs.YtaehonmfoanloaaDoor.PA
open Go.RowKit Go.Proofs.YtaehonmfoanloaaDoorW.PrintWords Go.Proofs.YtaehonmfoanloaaDoorW.PrintLast Go.Proofs.YtaehonmfoanloaaDoorW.PrintMore
attribute [local go_sem] max2_int min2_int max_two min_two max_three min_three max_four min_four   -- for this text's walks alone
attribute [local go_sem ↓] Ext.isSome_setCell
open Press
set_option linter.unusedVariables false
set_option linter.unusedSimpArgs false

-- NOT PRINTED: function 11 (ddilaw05_short)

/-! ### rdata_kinds: function 56 -/
def rdata_kinds.f  : Option ((List (S50))) := some (([(⟨1, (⟨#[65]⟩ : ByteArray), (⟨#[52]⟩ : ByteArray)⟩ : S50), (⟨2, (⟨#[78, 83]⟩ : ByteArray), (⟨#[104]⟩ : ByteArray)⟩ : S50), (⟨5, (⟨#[67, 78, 65, 77, 69]⟩ : ByteArray), (⟨#[104]⟩ : ByteArray)⟩ : S50), (⟨6, (⟨#[83, 79, 65]⟩ : ByteArray), (⟨#[104, 109, 118, 119, 120, 121, 122]⟩ : ByteArray)⟩ : S50), (⟨12, (⟨#[80, 84, 82]⟩ : ByteArray), (⟨#[104]⟩ : ByteArray)⟩ : S50), (⟨15, (⟨#[77, 88]⟩ : ByteArray), (⟨#[65, 104]⟩ : ByteArray)⟩ : S50), (⟨16, (⟨#[84, 88, 84]⟩ : ByteArray), (⟨#[116]⟩ : ByteArray)⟩ : S50), (⟨28, (⟨#[65, 65, 65, 65]⟩ : ByteArray), (⟨#[54]⟩ : ByteArray)⟩ : S50), (⟨33, (⟨#[83, 82, 86]⟩ : ByteArray), (⟨#[65, 66, 67, 104]⟩ : ByteArray)⟩ : S50), (⟨39, (⟨#[68, 78, 65, 77, 69]⟩ : ByteArray), (⟨#[104]⟩ : ByteArray)⟩ : S50), (⟨43, (⟨#[68, 83]⟩ : ByteArray), (⟨#[65, 98, 99, 114]⟩ : ByteArray)⟩ : S50), (⟨46, (⟨#[82, 82, 83, 73, 71]⟩ : ByteArray), (⟨#[65, 115, 98, 120, 121, 122, 70, 104, 114]⟩ : ByteArray)⟩ : S50), (⟨47, (⟨#[78, 83, 69, 67]⟩ : ByteArray), (⟨#[104, 110]⟩ : ByteArray)⟩ : S50), (⟨48, (⟨#[68, 78, 83, 75, 69, 89]⟩ : ByteArray), (⟨#[65, 98, 99, 114]⟩ : ByteArray)⟩ : S50)] : List (S50)))
set_option maxHeartbeats 40000000 in
set_option maxRecDepth 100000 in
theorem rdata_kinds.calls  (r : List (S50)) (w : World) (h : rdata_kinds.f  = some r) :
 Calls Tryd.prog 56 #[] w fun e w' => ∃ v0_ : Value, e = .returned (v0_) ∧ Kd.R k50 50 w' w.heap.size (fun _ => True) v0_ r ∧ Below w.heap.size w w' := by
 have hu50 := Tryd.underlying50
 have HB := Aside0.mk (Below.refl w.heap.size w)
 have H : (some (([(⟨1, (⟨#[65]⟩ : ByteArray), (⟨#[52]⟩ : ByteArray)⟩ : S50), (⟨2, (⟨#[78, 83]⟩ : ByteArray), (⟨#[104]⟩ : ByteArray)⟩ : S50), (⟨5, (⟨#[67, 78, 65, 77, 69]⟩ : ByteArray), (⟨#[104]⟩ : ByteArray)⟩ : S50), (⟨6, (⟨#[83, 79, 65]⟩ : ByteArray), (⟨#[104, 109, 118, 119, 120, 121, 122]⟩ : ByteArray)⟩ : S50), (⟨12, (⟨#[80, 84, 82]⟩ : ByteArray), (⟨#[104]⟩ : ByteArray)⟩ : S50), (⟨15, (⟨#[77, 88]⟩ : ByteArray), (⟨#[65, 104]⟩ : ByteArray)⟩ : S50), (⟨16, (⟨#[84, 88, 84]⟩ : ByteArray), (⟨#[116]⟩ : ByteArray)⟩ : S50), (⟨28, (⟨#[65, 65, 65, 65]⟩ : ByteArray), (⟨#[54]⟩ : ByteArray)⟩ : S50), (⟨33, (⟨#[83, 82, 86]⟩ : ByteArray), (⟨#[65, 66, 67, 104]⟩ : ByteArray)⟩ : S50), (⟨39, (⟨#[68, 78, 65, 77, 69]⟩ : ByteArray), (⟨#[104]⟩ : ByteArray)⟩ : S50), (⟨43, (⟨#[68, 83]⟩ : ByteArray), (⟨#[65, 98, 99, 114]⟩ : ByteArray)⟩ : S50), (⟨46, (⟨#[82, 82, 83, 73, 71]⟩ : ByteArray), (⟨#[65, 115, 98, 120, 121, 122, 70, 104, 114]⟩ : ByteArray)⟩ : S50), (⟨47, (⟨#[78, 83, 69, 67]⟩ : ByteArray), (⟨#[104, 110]⟩ : ByteArray)⟩ : S50), (⟨48, (⟨#[68, 78, 83, 75, 69, 89]⟩ : ByteArray), (⟨#[65, 98, 99, 114]⟩ : ByteArray)⟩ : S50)] : List (S50)))) = some r := h
 clear h
 obtain ⟨y101, hy101⟩ : ∃ y_ : List (S50), y_ = (([(⟨1, (⟨#[65]⟩ : ByteArray), (⟨#[52]⟩ : ByteArray)⟩ : S50), (⟨2, (⟨#[78, 83]⟩ : ByteArray), (⟨#[104]⟩ : ByteArray)⟩ : S50), (⟨5, (⟨#[67, 78, 65, 77, 69]⟩ : ByteArray), (⟨#[104]⟩ : ByteArray)⟩ : S50), (⟨6, (⟨#[83, 79, 65]⟩ : ByteArray), (⟨#[104, 109, 118, 119, 120, 121, 122]⟩ : ByteArray)⟩ : S50), (⟨12, (⟨#[80, 84, 82]⟩ : ByteArray), (⟨#[104]⟩ : ByteArray)⟩ : S50), (⟨15, (⟨#[77, 88]⟩ : ByteArray), (⟨#[65, 104]⟩ : ByteArray)⟩ : S50), (⟨16, (⟨#[84, 88, 84]⟩ : ByteArray), (⟨#[116]⟩ : ByteArray)⟩ : S50), (⟨28, (⟨#[65, 65, 65, 65]⟩ : ByteArray), (⟨#[54]⟩ : ByteArray)⟩ : S50), (⟨33, (⟨#[83, 82, 86]⟩ : ByteArray), (⟨#[65, 66, 67, 104]⟩ : ByteArray)⟩ : S50), (⟨39, (⟨#[68, 78, 65, 77, 69]⟩ : ByteArray), (⟨#[104]⟩ : ByteArray)⟩ : S50), (⟨43, (⟨#[68, 83]⟩ : ByteArray), (⟨#[65, 98, 99, 114]⟩ : ByteArray)⟩ : S50), (⟨46, (⟨#[82, 82, 83, 73, 71]⟩ : ByteArray), (⟨#[65, 115, 98, 120, 121, 122, 70, 104, 114]⟩ : ByteArray)⟩ : S50), (⟨47, (⟨#[78, 83, 69, 67]⟩ : ByteArray), (⟨#[104, 110]⟩ : ByteArray)⟩ : S50), (⟨48, (⟨#[68, 78, 83, 75, 69, 89]⟩ : ByteArray), (⟨#[65, 98, 99, 114]⟩ : ByteArray)⟩ : S50)] : List (S50))) := ⟨_, rfl⟩
 replace H : (some y101) = some r := by first | (rw [hy101]; with_reducible exact H) | (have H2_ := (Option.bind_some _ _).symm.trans H; rw [hy101]; with_reducible exact H2_) | (have H2_ := (Option.bind_some _ _).symm.trans H; with_reducible exact H2_) | with_reducible exact H | (rw [hy101]; exact H) | exact H
 have Ny101 := Aside0.mk hy101
 clear hy101
 obtain rfl := Option.some.inj H
 go_enter Tryd.func56, Tryd.ntmps56
 go_wp2_with (first | ((with_reducible refine gate_dst (N := 15) rfl ?_); refine Kd.R_lit k50 _ 50 ?hg (N := 15) ?hd (xs := ([(⟨1, (⟨#[65]⟩ : ByteArray), (⟨#[52]⟩ : ByteArray)⟩ : S50), (⟨2, (⟨#[78, 83]⟩ : ByteArray), (⟨#[104]⟩ : ByteArray)⟩ : S50), (⟨5, (⟨#[67, 78, 65, 77, 69]⟩ : ByteArray), (⟨#[104]⟩ : ByteArray)⟩ : S50), (⟨6, (⟨#[83, 79, 65]⟩ : ByteArray), (⟨#[104, 109, 118, 119, 120, 121, 122]⟩ : ByteArray)⟩ : S50), (⟨12, (⟨#[80, 84, 82]⟩ : ByteArray), (⟨#[104]⟩ : ByteArray)⟩ : S50), (⟨15, (⟨#[77, 88]⟩ : ByteArray), (⟨#[65, 104]⟩ : ByteArray)⟩ : S50), (⟨16, (⟨#[84, 88, 84]⟩ : ByteArray), (⟨#[116]⟩ : ByteArray)⟩ : S50), (⟨28, (⟨#[65, 65, 65, 65]⟩ : ByteArray), (⟨#[54]⟩ : ByteArray)⟩ : S50), (⟨33, (⟨#[83, 82, 86]⟩ : ByteArray), (⟨#[65, 66, 67, 104]⟩ : ByteArray)⟩ : S50), (⟨39, (⟨#[68, 78, 65, 77, 69]⟩ : ByteArray), (⟨#[104]⟩ : ByteArray)⟩ : S50), (⟨43, (⟨#[68, 83]⟩ : ByteArray), (⟨#[65, 98, 99, 114]⟩ : ByteArray)⟩ : S50), (⟨46, (⟨#[82, 82, 83, 73, 71]⟩ : ByteArray), (⟨#[65, 115, 98, 120, 121, 122, 70, 104, 114]⟩ : ByteArray)⟩ : S50), (⟨47, (⟨#[78, 83, 69, 67]⟩ : ByteArray), (⟨#[104, 110]⟩ : ByteArray)⟩ : S50), (⟨48, (⟨#[68, 78, 83, 75, 69, 89]⟩ : ByteArray), (⟨#[65, 98, 99, 114]⟩ : ByteArray)⟩ : S50)] : List (S50))) (inner := [.int .i64 1, .string (⟨#[65]⟩ : ByteArray), .string (⟨#[52]⟩ : ByteArray), .int .i64 2, .string (⟨#[78, 83]⟩ : ByteArray), .string (⟨#[104]⟩ : ByteArray), .int .i64 5, .string (⟨#[67, 78, 65, 77, 69]⟩ : ByteArray), .string (⟨#[104]⟩ : ByteArray), .int .i64 6, .string (⟨#[83, 79, 65]⟩ : ByteArray), .string (⟨#[104, 109, 118, 119, 120, 121, 122]⟩ : ByteArray), .int .i64 12, .string (⟨#[80, 84, 82]⟩ : ByteArray), .string (⟨#[104]⟩ : ByteArray), .int .i64 15, .string (⟨#[77, 88]⟩ : ByteArray), .string (⟨#[65, 104]⟩ : ByteArray), .int .i64 16, .string (⟨#[84, 88, 84]⟩ : ByteArray), .string (⟨#[116]⟩ : ByteArray), .int .i64 28, .string (⟨#[65, 65, 65, 65]⟩ : ByteArray), .string (⟨#[54]⟩ : ByteArray), .int .i64 33, .string (⟨#[83, 82, 86]⟩ : ByteArray), .string (⟨#[65, 66, 67, 104]⟩ : ByteArray), .int .i64 39, .string (⟨#[68, 78, 65, 77, 69]⟩ : ByteArray), .string (⟨#[104]⟩ : ByteArray), .int .i64 43, .string (⟨#[68, 83]⟩ : ByteArray), .string (⟨#[65, 98, 99, 114]⟩ : ByteArray), .int .i64 46, .string (⟨#[82, 82, 83, 73, 71]⟩ : ByteArray), .string (⟨#[65, 115, 98, 120, 121, 122, 70, 104, 114]⟩ : ByteArray), .int .i64 47, .string (⟨#[78, 83, 69, 67]⟩ : ByteArray), .string (⟨#[104, 110]⟩ : ByteArray), .int .i64 48, .string (⟨#[68, 78, 83, 75, 69, 89]⟩ : ByteArray), .string (⟨#[65, 98, 99, 114]⟩ : ByteArray)]) (ok := fun _ => True) (okp := fun _ => True) ?hr ?hp (fun _ hk => hk) trivial (Below.refl _ _) (Nat.le_refl _) (by simp) ?_; (case hd => rfl); (case hg => rfl); (case hr => first | (go_simp; done) | (go_simp; rfl)); (case hp => exact (Reps.c3 (show Kd.M k50 _ _ _ (⟨1, (⟨#[65]⟩ : ByteArray), (⟨#[52]⟩ : ByteArray)⟩ : S50) [.int .i64 1, .string (⟨#[65]⟩ : ByteArray), .string (⟨#[52]⟩ : ByteArray)] from (k50_mkM _ _ _ (⟨1, (⟨#[65]⟩ : ByteArray), (⟨#[52]⟩ : ByteArray)⟩ : S50) )) (Reps.c3 (show Kd.M k50 _ _ _ (⟨2, (⟨#[78, 83]⟩ : ByteArray), (⟨#[104]⟩ : ByteArray)⟩ : S50) [.int .i64 2, .string (⟨#[78, 83]⟩ : ByteArray), .string (⟨#[104]⟩ : ByteArray)] from (k50_mkM _ _ _ (⟨2, (⟨#[78, 83]⟩ : ByteArray), (⟨#[104]⟩ : ByteArray)⟩ : S50) )) (Reps.c3 (show Kd.M k50 _ _ _ (⟨5, (⟨#[67, 78, 65, 77, 69]⟩ : ByteArray), (⟨#[104]⟩ : ByteArray)⟩ : S50) [.int .i64 5, .string (⟨#[67, 78, 65, 77, 69]⟩ : ByteArray), .string (⟨#[104]⟩ : ByteArray)] from (k50_mkM _ _ _ (⟨5, (⟨#[67, 78, 65, 77, 69]⟩ : ByteArray), (⟨#[104]⟩ : ByteArray)⟩ : S50) )) (Reps.c3 (show Kd.M k50 _ _ _ (⟨6, (⟨#[83, 79, 65]⟩ : ByteArray), (⟨#[104, 109, 118, 119, 120, 121, 122]⟩ : ByteArray)⟩ : S50) [.int .i64 6, .string (⟨#[83, 79, 65]⟩ : ByteArray), .string (⟨#[104, 109, 118, 119, 120, 121, 122]⟩ : ByteArray)] from (k50_mkM _ _ _ (⟨6, (⟨#[83, 79, 65]⟩ : ByteArray), (⟨#[104, 109, 118, 119, 120, 121, 122]⟩ : ByteArray)⟩ : S50) )) (Reps.c3 (show Kd.M k50 _ _ _ (⟨12, (⟨#[80, 84, 82]⟩ : ByteArray), (⟨#[104]⟩ : ByteArray)⟩ : S50) [.int .i64 12, .string (⟨#[80, 84, 82]⟩ : ByteArray), .string (⟨#[104]⟩ : ByteArray)] from (k50_mkM _ _ _ (⟨12, (⟨#[80, 84, 82]⟩ : ByteArray), (⟨#[104]⟩ : ByteArray)⟩ : S50) )) (Reps.c3 (show Kd.M k50 _ _ _ (⟨15, (⟨#[77, 88]⟩ : ByteArray), (⟨#[65, 104]⟩ : ByteArray)⟩ : S50) [.int .i64 15, .string (⟨#[77, 88]⟩ : ByteArray), .string (⟨#[65, 104]⟩ : ByteArray)] from (k50_mkM _ _ _ (⟨15, (⟨#[77, 88]⟩ : ByteArray), (⟨#[65, 104]⟩ : ByteArray)⟩ : S50) )) (Reps.c3 (show Kd.M k50 _ _ _ (⟨16, (⟨#[84, 88, 84]⟩ : ByteArray), (⟨#[116]⟩ : ByteArray)⟩ : S50) [.int .i64 16, .string (⟨#[84, 88, 84]⟩ : ByteArray), .string (⟨#[116]⟩ : ByteArray)] from (k50_mkM _ _ _ (⟨16, (⟨#[84, 88, 84]⟩ : ByteArray), (⟨#[116]⟩ : ByteArray)⟩ : S50) )) (Reps.c3 (show Kd.M k50 _ _ _ (⟨28, (⟨#[65, 65, 65, 65]⟩ : ByteArray), (⟨#[54]⟩ : ByteArray)⟩ : S50) [.int .i64 28, .string (⟨#[65, 65, 65, 65]⟩ : ByteArray), .string (⟨#[54]⟩ : ByteArray)] from (k50_mkM _ _ _ (⟨28, (⟨#[65, 65, 65, 65]⟩ : ByteArray), (⟨#[54]⟩ : ByteArray)⟩ : S50) )) (Reps.c3 (show Kd.M k50 _ _ _ (⟨33, (⟨#[83, 82, 86]⟩ : ByteArray), (⟨#[65, 66, 67, 104]⟩ : ByteArray)⟩ : S50) [.int .i64 33, .string (⟨#[83, 82, 86]⟩ : ByteArray), .string (⟨#[65, 66, 67, 104]⟩ : ByteArray)] from (k50_mkM _ _ _ (⟨33, (⟨#[83, 82, 86]⟩ : ByteArray), (⟨#[65, 66, 67, 104]⟩ : ByteArray)⟩ : S50) )) (Reps.c3 (show Kd.M k50 _ _ _ (⟨39, (⟨#[68, 78, 65, 77, 69]⟩ : ByteArray), (⟨#[104]⟩ : ByteArray)⟩ : S50) [.int .i64 39, .string (⟨#[68, 78, 65, 77, 69]⟩ : ByteArray), .string (⟨#[104]⟩ : ByteArray)] from (k50_mkM _ _ _ (⟨39, (⟨#[68, 78, 65, 77, 69]⟩ : ByteArray), (⟨#[104]⟩ : ByteArray)⟩ : S50) )) (Reps.c3 (show Kd.M k50 _ _ _ (⟨43, (⟨#[68, 83]⟩ : ByteArray), (⟨#[65, 98, 99, 114]⟩ : ByteArray)⟩ : S50) [.int .i64 43, .string (⟨#[68, 83]⟩ : ByteArray), .string (⟨#[65, 98, 99, 114]⟩ : ByteArray)] from (k50_mkM _ _ _ (⟨43, (⟨#[68, 83]⟩ : ByteArray), (⟨#[65, 98, 99, 114]⟩ : ByteArray)⟩ : S50) )) (Reps.c3 (show Kd.M k50 _ _ _ (⟨46, (⟨#[82, 82, 83, 73, 71]⟩ : ByteArray), (⟨#[65, 115, 98, 120, 121, 122, 70, 104, 114]⟩ : ByteArray)⟩ : S50) [.int .i64 46, .string (⟨#[82, 82, 83, 73, 71]⟩ : ByteArray), .string (⟨#[65, 115, 98, 120, 121, 122, 70, 104, 114]⟩ : ByteArray)] from (k50_mkM _ _ _ (⟨46, (⟨#[82, 82, 83, 73, 71]⟩ : ByteArray), (⟨#[65, 115, 98, 120, 121, 122, 70, 104, 114]⟩ : ByteArray)⟩ : S50) )) (Reps.c3 (show Kd.M k50 _ _ _ (⟨47, (⟨#[78, 83, 69, 67]⟩ : ByteArray), (⟨#[104, 110]⟩ : ByteArray)⟩ : S50) [.int .i64 47, .string (⟨#[78, 83, 69, 67]⟩ : ByteArray), .string (⟨#[104, 110]⟩ : ByteArray)] from (k50_mkM _ _ _ (⟨47, (⟨#[78, 83, 69, 67]⟩ : ByteArray), (⟨#[104, 110]⟩ : ByteArray)⟩ : S50) )) (Reps.c3 (show Kd.M k50 _ _ _ (⟨48, (⟨#[68, 78, 83, 75, 69, 89]⟩ : ByteArray), (⟨#[65, 98, 99, 114]⟩ : ByteArray)⟩ : S50) [.int .i64 48, .string (⟨#[68, 78, 83, 75, 69, 89]⟩ : ByteArray), .string (⟨#[65, 98, 99, 114]⟩ : ByteArray)] from (k50_mkM _ _ _ (⟨48, (⟨#[68, 78, 83, 75, 69, 89]⟩ : ByteArray), (⟨#[65, 98, 99, 114]⟩ : ByteArray)⟩ : S50) )) (Reps.none _ _)))))))))))))))); intro v102 w1 ho2 hb hg_ hnew_; clear hg_ hnew_; (first | rw [← Ny101.out] at ho2 | (simp only [Int.reduceToNat] at ho2; rw [← Ny101.out] at ho2)); have HO103 := Aside0.mk (Kd.R_lower ho2 (below_size (by repeat (first | (with_reducible first | exact HB.out | apply below_alloc | apply pw_below_drewN | apply below_drew1) | exact HB.out)))); replace HB := (pS HB hb); clear hb ho2))
 go_ret
 exact ⟨_, by first | rfl | (simp [errW_none, errW_some] <;> rfl) | (simp [*, errW_none, errW_some] <;> rfl), by (with_reducible repeat (first | apply Kd.R_alloc | apply Kd.R_drewN | apply Kd.R_drew)); exact HO103.out, by repeat (first | (with_reducible first | exact HB.out | apply below_alloc | apply pw_below_drewN | apply below_drew1) | exact HB.out)⟩

/-! ### rdata_find: function 38 -/
def rdata_find.l0 : Nat → Int → List (S50) → Int → Int → Option (Int × ByteArray × ByteArray × Bool)
 | 0, _, _, _, _ => none
 | k + 1, x0, x6, x7, x8 => if x8 < x7 then (if 0 ≤ x8 then (if x8 < (x6.length : Int) then (if ((rd_T50 x6 x8).f0) = x0 then (some ((rd_T50 x6 x8).f0, (rd_T50 x6 x8).f1, (rd_T50 x6 x8).f2, true)) else (rdata_find.l0 k x0 x6 x7 (wrap64 (x8 + 1)))) else (none)) else (none)) else (some (0, (⟨#[]⟩ : ByteArray), (⟨#[]⟩ : ByteArray), false))
def rdata_find.f (k : Nat) (a0 : Int) : Option (Int × ByteArray × ByteArray × Bool) := (rdata_kinds.f).bind fun t105 => (rdata_find.l0 k a0 t105 (t105.length : Int) 0)
theorem rdata_find.mono_l : ∀ k, (∀ y0 y1 y2 y3, LeO (rdata_find.l0 k y0 y1 y2 y3) (rdata_find.l0 (k + 1) y0 y1 y2 y3))
 | 0 => fun _ _ _ _ r h => by simp [rdata_find.l0] at h
 | k + 1 => by
  have ih0 := rdata_find.mono_l k
  ·
   intro y0 y1 y2 y3
   unfold rdata_find.l0
   repeat' with_reducible first | exact ih0 _ _ _ _ | exact LeO.refl _ | exact LeO.none _ | refine LeO.ite ?_ ?_ | refine LeO.bind ?_ (fun _ => ?_)
theorem rdata_find.mono : ∀ a0 k, LeO (rdata_find.f k a0) (rdata_find.f (k + 1) a0) := by
 intro a0 k
 have ih0 := rdata_find.mono_l k
 unfold rdata_find.f
 repeat' with_reducible first | exact ih0 _ _ _ _ | exact LeO.refl _ | exact LeO.none _ | refine LeO.ite ?_ ?_ | refine LeO.bind ?_ (fun _ => ?_)
set_option maxHeartbeats 40000000 in
set_option maxRecDepth 100000 in
theorem rdata_find.calls (k : Nat) (a0 : Int) (r1 : Int) (r2 : ByteArray) (r3 : ByteArray) (r4 : Bool) (w : World) (h : rdata_find.f k a0 = some (r1, r2, r3, r4)) :
 Calls Tryd.prog 38 #[.int .i64 a0] w fun e w' => e = .returned (.tuple #[.agg #[.int .i64 r1, .string r2, .string r3], .bool r4]) ∧ Below w.heap.size w w' := by
 have hu50 := Tryd.underlying50
 have HB := Aside0.mk (Below.refl w.heap.size w)
 have H : ((rdata_kinds.f).bind fun t105 => (rdata_find.l0 k a0 t105 (t105.length : Int) 0)) = some (r1, r2, r3, r4) := h
 clear h
 replace H := Option.bind_eq_some_iff.mp H
 obtain ⟨t105, A20, H⟩ := H
 have A2 := Aside0.mk A20
 clear A20
 have H' := Aside0.mk H
 clear H
 go_enter Tryd.func38, Tryd.ntmps38
 go_wp2_with (first | ((with_reducible refine gate_dst (N := 2) rfl ?_); refine boxA (N := 2) (cs := #[.int .i64 0, .string (⟨#[]⟩ : ByteArray), .string (⟨#[]⟩ : ByteArray)]) (t := 50) ?_; intro gb104 hg w3 hbox hb; have BK104 := Aside0.mk (hbox); have GE104 := (pZ HB hg); replace HB := (pS HB hb); clear hb hbox hg) | ((with_reducible refine gate_callee (f := 56) rfl ?_); refine goesA (some 6) Tryd.func56 #[] ?_; (with_reducible refine (rdata_kinds.calls  t105 _ A2.out).mono ?_); rintro e w4 ⟨v106, rfl, ho0, hb⟩; refine ⟨_, rfl, ?_⟩; have HO107 := Aside0.mk (Kd.R_lower (Kd.R_newB ho0 (g := gb104) (o := .cells #[.int .i64 0, .string (⟨#[]⟩ : ByteArray), .string (⟨#[]⟩ : ByteArray)] 50 (0, 0)) (pM BK104)) (below_size (by repeat (first | (with_reducible first | exact HB.out | apply below_alloc | apply pw_below_drewN | apply below_drew1 | refine below_set ?_ GE104.out) | exact HB.out)))); replace BK104 := (pB BK104 hb); replace HB := (pS HB hb); (try clear hb); (try clear hk); (try clear ho0); obtain ⟨Ao5, co5, eo5⟩ := Kd.R_slice HO107.out; subst eo5))
 go_loopg [8] k (fun kq v8 w' => ∃ (x8_1 : Int) (x105000_1 : Int) (x105001_1 : ByteArray) (x105002_1 : ByteArray), v8 = .int .i64 x8_1 ∧ Aside0 (rdata_find.l0 kq a0 t105 (t105.length : Int) x8_1 = some (r1, r2, r3, r4)) ∧ Aside0 (kq ≤ k) ∧ Aside0 (Kd.R k50 50 w' w.heap.size (fun k_ => k_ ≠ gb104) (.slice Ao5 t105.length co5) t105) ∧ Aside0 (w'.heap[gb104]? = some (.cells #[.int .i64 x105000_1, .string x105001_1, .string x105002_1] 50 (0, 0))) ∧ Aside0 (Below w.heap.size w w'))
 case atStart => exact ⟨(0), (0), ((⟨#[]⟩ : ByteArray)), ((⟨#[]⟩ : ByteArray)), pT, H', ⟨Nat.le_refl _⟩, ⟨by (with_reducible repeat (first | apply Kd.R_alloc | apply Kd.R_drewN | apply Kd.R_drew)); exact Kd.R_mono HO107.out (fun _ hk => hk.2)⟩, ⟨pM BK104⟩, ⟨pE HB⟩⟩
 case round =>
  clear H'
  obtain ⟨x8_1, x105000_1, x105001_1, x105002_1, rfl, HA, HK1, HO_6, BK104, HB⟩ := hrel
  cases gk with
  | zero => exact absurd HA.out (by simp [rdata_find.l0])
  | succ k1 =>
   have H := HA.out
   clear HA
   simp only [rdata_find.l0] at H
   by_cases c6 : x8_1 < (t105.length : Int)
   ·
    rw [if_pos c6] at H
    have c6b0 := decide_eq_true c6
    clear c6
    by_cases c7 : 0 ≤ x8_1
    ·
     rw [if_pos c7] at H
     have c7b0 := decide_eq_true c7
     clear c7
     by_cases c8 : x8_1 < (t105.length : Int)
     ·
      rw [if_pos c8] at H
      have c8b0 := decide_eq_true c8
      clear c8
      by_cases c9 : ((rd_T50 t105 x8_1).f0) = a0
      ·
       rw [if_pos c9] at H
       have c9b0 : (((rd_T50 t105 x8_1).f0) == a0) = true := beq_iff_eq.mpr c9
       have c9b1 : (((rd_T50 t105 x8_1).f0) != a0) = false := bne_eq_false_iff_eq.mpr c9
       clear c9
       simp only [Option.some.injEq, Prod.mk.injEq] at H
       obtain ⟨rfl, rfl, rfl, rfl⟩ := H
       have p108 : 0 ≤ (x8_1 : Int) := oD
       have q108 : x8_1 < (t105.length : Int) := oD
       obtain ⟨ad108, e108, hx108_0, hx108_1, hx108_2⟩ := at_T50 (Kd.R_reads' HO_6.out).2.2 x8_1 p108 q108
       cases e108
       replace p108 := eq_true p108
       replace q108 := eq_true q108
       go_wp2_with (first | ((with_reducible refine gate_dst (N := 5) rfl ?_); refine boxA (N := 5) (cs := #[.int .i64 0, .string (⟨#[]⟩ : ByteArray), .string (⟨#[]⟩ : ByteArray)]) (t := 50) ?_; intro gb109 hg w10 hbox hb; have BK109 := Aside0.mk (hbox); have GE109 := (pZ HB hg); have NB104_109 := (pL BK104 hg); have NB109_104 := (pG BK104 hg); replace HO_6 := Aside0.mk (Kd.R_below (Kd.R_elderB (by (with_reducible repeat (first | apply Kd.R_alloc | apply Kd.R_drewN | apply Kd.R_drew)); exact HO_6.out) gb109 (Nat.le_of_eq hg.symm)) hb); replace BK104 := (pB BK104 hb); replace HB := (pS HB hb); clear hb hbox hg; have hnb11 := NB109_104.out; have hnc11 := NB104_109.out; obtain ⟨hcz12_0, hcz12_1, hcz12_2, hfz12_0, hfz12_1, hfz12_2⟩ := pC3 BK109; obtain ⟨hcz13_0, hcz13_1, hcz13_2, hfz13_0, hfz13_1, hfz13_2⟩ := pC3 BK104) | ((with_reducible refine gate_store (t := 50) (p := 2) rfl ?_); refine store_event (t := 50) (p := 2) (v := ?vo_w14) (w1 := ((((((w10.setCell ⟨gb109, 0, none⟩ (.int .i64 ((rd_T50 t105 x8_1).f0))).setCell ⟨gb109, 1, none⟩ (.string ((rd_T50 t105 x8_1).f1))).setCell ⟨gb109, 2, none⟩ (.string ((rd_T50 t105 x8_1).f2))).setCell ⟨gb104, 0, none⟩ (.int .i64 ((rd_T50 t105 x8_1).f0))).setCell ⟨gb104, 1, none⟩ (.string ((rd_T50 t105 x8_1).f1))).setCell ⟨gb104, 2, none⟩ (.string ((rd_T50 t105 x8_1).f2)))) ?hg ?ho ?hn ?hr ?_; (case ho => rfl); (case hg => rfl); (case hn => rfl); (case hr => first | (exact Ext.run_store_chain 50 _ _ rfl _ _ _ _ rfl rfl (pK NB104_109 (pK NB104_109 (pK NB104_109 (pM BK104)))) (by kernel_rfl) rfl rfl rfl) | (go_simp; done) | (go_simp; rfl)); intro w14 hw; replace HO_6 : Aside0 (Kd.R k50 50 w14 w.heap.size (fun k_ => k_ ≠ gb104 ∧ k_ ≠ gb109) (.slice (some ad108) t105.length co5) t105) := ⟨(by rw [hw]; exact (by (with_reducible repeat (first | apply Kd.R_alloc | apply Kd.R_drewN | apply Kd.R_drew)); exact Kd.R_mono (Kd.R_far (p := ⟨gb104, 2, none⟩) (Kd.R_far (p := ⟨gb104, 1, none⟩) (Kd.R_far (p := ⟨gb104, 0, none⟩) (Kd.R_far (p := ⟨gb109, 2, none⟩) (Kd.R_far (p := ⟨gb109, 1, none⟩) (Kd.R_far (p := ⟨gb109, 0, none⟩) (Kd.R_mono (Kd.R_mono HO_6.out (fun k_ hk => (⟨hk, hk.2⟩ : _ ∧ k_ ≠ gb109))) (fun k_ hk => (⟨hk, hk.1.1⟩ : _ ∧ k_ ≠ gb104))) (fun _ hk => hk.1.2) (.int .i64 ((rd_T50 t105 x8_1).f0))) (fun _ hk => hk.1.2) (.string ((rd_T50 t105 x8_1).f1))) (fun _ hk => hk.1.2) (.string ((rd_T50 t105 x8_1).f2))) (fun _ hk => hk.2) (.int .i64 ((rd_T50 t105 x8_1).f0))) (fun _ hk => hk.2) (.string ((rd_T50 t105 x8_1).f1))) (fun _ hk => hk.2) (.string ((rd_T50 t105 x8_1).f2))) (fun _ hk => ⟨hk.1.1.1, hk.1.1.2⟩)))⟩; replace BK104 : Aside0 (w14.heap[gb104]? = some (.cells #[.int .i64 ((rd_T50 t105 x8_1).f0), .string ((rd_T50 t105 x8_1).f1), .string ((rd_T50 t105 x8_1).f2)] 50 (0, 0))) := (pW hw (pP (pP (pP (pK NB104_109 (pK NB104_109 (pK NB104_109 (pM BK104)))))))); replace BK109 : Aside0 (w14.heap[gb109]? = some (.cells #[.int .i64 ((rd_T50 t105 x8_1).f0), .string ((rd_T50 t105 x8_1).f1), .string ((rd_T50 t105 x8_1).f2)] 50 (0, 0))) := (pW hw (pK NB109_104 (pK NB109_104 (pK NB109_104 (pP (pP (pP (pM BK109)))))))); replace HB : Aside0 (Below w.heap.size w w14) := ⟨(by rw [hw]; exact (by repeat (first | (with_reducible first | exact HB.out | apply below_alloc | apply pw_below_drewN | apply below_drew1 | refine below_set ?_ GE104.out | refine below_set ?_ GE109.out) | exact HB.out)))⟩; clear hw))
       refine bodyPost_ret (results_ct rfl _ _ gb104 50 #[.int .i64 ((rd_T50 t105 x8_1).f0), .string ((rd_T50 t105 x8_1).f1), .string ((rd_T50 t105 x8_1).f2)] (0, 0) _ rfl (pM BK104) Tryd.underlying50 rfl (by kernel_rfl)) rfl ?_
       exact pR (pE HB)
      ·
       rw [if_neg c9] at H
       have c9b0 : (((rd_T50 t105 x8_1).f0) == a0) = false := beq_eq_false_iff_ne.mpr c9
       have c9b1 : (((rd_T50 t105 x8_1).f0) != a0) = true := bne_iff_ne.mpr c9
       have H' := Aside0.mk H
       clear H
       have p108 : 0 ≤ (x8_1 : Int) := oD
       have q108 : x8_1 < (t105.length : Int) := oD
       obtain ⟨ad108, e108, hx108_0, hx108_1, hx108_2⟩ := at_T50 (Kd.R_reads' HO_6.out).2.2 x8_1 p108 q108
       cases e108
       replace p108 := eq_true p108
       replace q108 := eq_true q108
       go_wp2_with (first | ((with_reducible refine gate_dst (N := 5) rfl ?_); refine boxA (N := 5) (cs := #[.int .i64 0, .string (⟨#[]⟩ : ByteArray), .string (⟨#[]⟩ : ByteArray)]) (t := 50) ?_; intro gb109 hg w15 hbox hb; have BK109 := Aside0.mk (hbox); have GE109 := (pZ HB hg); have NB104_109 := (pL BK104 hg); have NB109_104 := (pG BK104 hg); replace HO_6 := Aside0.mk (Kd.R_below (Kd.R_elderB (by (with_reducible repeat (first | apply Kd.R_alloc | apply Kd.R_drewN | apply Kd.R_drew)); exact HO_6.out) gb109 (Nat.le_of_eq hg.symm)) hb); replace BK104 := (pB BK104 hb); replace HB := (pS HB hb); clear hb hbox hg; have hnb16 := NB109_104.out; have hnc16 := NB104_109.out; obtain ⟨hcz17_0, hcz17_1, hcz17_2, hfz17_0, hfz17_1, hfz17_2⟩ := pC3 BK109))
       go_roundg k1
       case measure => have := HK1.out; omega
       case rel => exact ⟨(wrap64 (x8_1 + 1)), (x105000_1), (x105001_1), (x105002_1), pT, H', ⟨by have := HK1.out; omega⟩, ⟨by (with_reducible repeat (first | apply Kd.R_alloc | apply Kd.R_drewN | apply Kd.R_drew)); exact Kd.R_mono (Kd.R_far (p := ⟨gb109, 2, none⟩) (Kd.R_far (p := ⟨gb109, 1, none⟩) (Kd.R_far (p := ⟨gb109, 0, none⟩) (Kd.R_mono HO_6.out (fun k_ hk => (⟨hk, hk.2⟩ : _ ∧ k_ ≠ gb109))) (fun _ hk => hk.2) (.int .i64 ((rd_T50 t105 x8_1).f0))) (fun _ hk => hk.2) (.string ((rd_T50 t105 x8_1).f1))) (fun _ hk => hk.2) (.string ((rd_T50 t105 x8_1).f2))) (fun _ hk => hk.1.1)⟩, ⟨by (with_reducible repeat (first | refine blk_drewN ?_ _ | refine blk_drew ?_ | refine blk_alloc ?_ _)); refine blk_far ?_ NB104_109.out _; (with_reducible repeat (first | refine blk_drewN ?_ _ | refine blk_drew ?_ | refine blk_alloc ?_ _)); refine blk_far ?_ NB104_109.out _; (with_reducible repeat (first | refine blk_drewN ?_ _ | refine blk_drew ?_ | refine blk_alloc ?_ _)); refine blk_far ?_ NB104_109.out _; (with_reducible repeat (first | refine blk_drewN ?_ _ | refine blk_drew ?_ | refine blk_alloc ?_ _)); exact BK104.out⟩, ⟨pE HB⟩⟩
     ·
      rw [if_neg c8] at H
      exact absurd H (by simp)
    ·
     rw [if_neg c7] at H
     exact absurd H (by simp)
   ·
    rw [if_neg c6] at H
    have c6b0 := decide_eq_false c6
    clear c6
    simp only [Option.some.injEq, Prod.mk.injEq] at H
    obtain ⟨rfl, rfl, rfl, rfl⟩ := H
    obtain ⟨hcz18_0, hcz18_1, hcz18_2, hfz18_0, hfz18_1, hfz18_2⟩ := pC3 BK104
    go_wp2
    refine bodyPost_ret (results_ct rfl _ _ gb104 50 #[.int .i64 0, .string (⟨#[]⟩ : ByteArray), .string (⟨#[]⟩ : ByteArray)] (0, 0) _ rfl (pP (pP (pP (pM BK104)))) Tryd.underlying50 rfl (by kernel_rfl)) rfl ?_
    exact pR (pE HB)

/-! ### rdata_Known: function 20 -/
def rdata_Known.f (k : Nat) (a0 : Int) : Option (Bool) := (rdata_find.f k a0).bind fun bt110 => (some bt110.2.2.2)
theorem rdata_Known.mono : ∀ a0 k, LeO (rdata_Known.f k a0) (rdata_Known.f (k + 1) a0) := by
 intro a0 k
 unfold rdata_Known.f
 repeat' with_reducible first | exact rdata_find.mono _ _ | exact LeO.refl _ | exact LeO.none _ | refine LeO.ite ?_ ?_ | refine LeO.bind ?_ (fun _ => ?_)
set_option maxHeartbeats 40000000 in
set_option maxRecDepth 100000 in
theorem rdata_Known.calls (k : Nat) (a0 : Int) (r : Bool) (w : World) (h : rdata_Known.f k a0 = some r) :
 Calls Tryd.prog 20 #[.int .i64 a0] w fun e w' => e = .returned (.bool r) ∧ Below w.heap.size w w' := by
 have hu50 := Tryd.underlying50
 have HB := Aside0.mk (Below.refl w.heap.size w)
 have H : ((rdata_find.f k a0).bind fun bt110 => (some bt110.2.2.2)) = some r := h
 clear h
 replace H := Option.bind_eq_some_iff.mp H
 obtain ⟨⟨t110, t111, t112, t113⟩, A20, H⟩ := H
 replace H : (some t113) = some r := H
 have A2 := Aside0.mk A20
 clear A20
 obtain rfl := Option.some.inj H
 go_enter Tryd.func20, Tryd.ntmps20
 go_wp2_with (first | ((with_reducible refine gate_callee (f := 38) rfl ?_); refine goesA (some 7) Tryd.func38 #[.int .i64 a0] ?_; (with_reducible refine (rdata_find.calls k a0 t110 t111 t112 t113 _ A2.out).mono ?_); rintro e w3 ⟨rfl, hb⟩; refine ⟨_, rfl, ?_⟩; replace HB := (pS HB hb); (try clear hb)) | ((with_reducible refine gate_dst (N := 3) rfl ?_); refine boxA (N := 3) (cs := #[.int .i64 0, .string (⟨#[]⟩ : ByteArray), .string (⟨#[]⟩ : ByteArray)]) (t := 50) ?_; intro gb114 hg w4 hbox hb; have BK114 := Aside0.mk (hbox); have GE114 := (pZ HB hg); replace HB := (pS HB hb); clear hb hbox hg; obtain ⟨hcz5_0, hcz5_1, hcz5_2, hfz5_0, hfz5_1, hfz5_2⟩ := pC3 BK114))
 go_ret
 exact pR (pE HB)

/-! ### addr_Valid: function 22 -/
def addr_Valid.f (a0_0 : Bool) (a0_1 : Int) (a0_2 : Int) : Option (Bool) := if a0_0 = true then (some true) else (if a0_1 = 0 then (some (decide (a0_2 ≤ 4294967295))) else (some false))
set_option maxHeartbeats 40000000 in
set_option maxRecDepth 100000 in
theorem addr_Valid.calls (a0_0 : Bool) (a0_1 : Int) (a0_2 : Int) (r : Bool) (w : World) (h : addr_Valid.f a0_0 a0_1 a0_2 = some r) :
 Calls Tryd.prog 22 #[.agg #[.bool a0_0, .int .u64 a0_1, .int .u64 a0_2]] w fun e w' => e = .returned (.bool r) ∧ Below w.heap.size w w' := by
 have hu24 := Tryd.underlying24
 have HB := Aside0.mk (Below.refl w.heap.size w)
 have H : (if a0_0 = true then (some true) else (if a0_1 = 0 then (some (decide (a0_2 ≤ 4294967295))) else (some false))) = some r := h
 clear h
 by_cases c2 : a0_0 = true
 ·
  subst c2
  rw [if_pos rfl] at H
  obtain rfl := Option.some.inj H
  go_enter Tryd.func22, Tryd.ntmps22
  go_wp2_with (first | ((with_reducible refine gate_dst (N := 1) rfl ?_); refine boxA (N := 1) (cs := #[.bool true, .int .u64 a0_1, .int .u64 a0_2]) (t := 24) ?_; intro gb115 hg w3 hbox hb; have BK115 := Aside0.mk (hbox); have GE115 := (pZ HB hg); replace HB := (pS HB hb); clear hb hbox hg; obtain ⟨hcz4_0, hcz4_1, hcz4_2, hfz4_0, hfz4_1, hfz4_2⟩ := pC3 BK115))
  go_ret
  exact pR (pE HB)
 ·
  replace c2 := Bool.eq_false_iff.mpr c2
  subst c2
  rw [if_neg (show ¬ (false = true) by decide)] at H
  by_cases c5 : a0_1 = 0
  ·
   rw [if_pos c5] at H
   have c5b0 : (a0_1 == 0) = true := beq_iff_eq.mpr c5
   have c5b1 : (a0_1 != 0) = false := bne_eq_false_iff_eq.mpr c5
   clear c5
   obtain rfl := Option.some.inj H
   go_enter Tryd.func22, Tryd.ntmps22
   go_wp2_with (first | ((with_reducible refine gate_dst (N := 1) rfl ?_); refine boxA (N := 1) (cs := #[.bool false, .int .u64 a0_1, .int .u64 a0_2]) (t := 24) ?_; intro gb115 hg w6 hbox hb; have BK115 := Aside0.mk (hbox); have GE115 := (pZ HB hg); replace HB := (pS HB hb); clear hb hbox hg; obtain ⟨hcz7_0, hcz7_1, hcz7_2, hfz7_0, hfz7_1, hfz7_2⟩ := pC3 BK115))
   go_ret
   exact pR (pE HB)
  ·
   rw [if_neg c5] at H
   have c5b0 : (a0_1 == 0) = false := beq_eq_false_iff_ne.mpr c5
   have c5b1 : (a0_1 != 0) = true := bne_iff_ne.mpr c5
   obtain rfl := Option.some.inj H
   go_enter Tryd.func22, Tryd.ntmps22
   go_wp2_with (first | ((with_reducible refine gate_dst (N := 1) rfl ?_); refine boxA (N := 1) (cs := #[.bool false, .int .u64 a0_1, .int .u64 a0_2]) (t := 24) ?_; intro gb115 hg w8 hbox hb; have BK115 := Aside0.mk (hbox); have GE115 := (pZ HB hg); replace HB := (pS HB hb); clear hb hbox hg; obtain ⟨hcz9_0, hcz9_1, hcz9_2, hfz9_0, hfz9_1, hfz9_2⟩ := pC3 BK115))
   go_ret
   exact pR (pE HB)

/-! ### stringslite_HasSuffix: function 80 -/
def stringslite_HasSuffix.f (a0 : ByteArray) (a1 : ByteArray) : Option (Bool) := if (a0.size : Int) ≥ (a1.size : Int) then (if 0 ≤ (wrap64 ((a0.size : Int) - (a1.size : Int))) then (if (wrap64 ((a0.size : Int) - (a1.size : Int))) ≤ (a0.size : Int) then (some ((a0.extract ((wrap64 ((a0.size : Int) - (a1.size : Int))) : Int).toNat a0.size).toList == a1.toList)) else (none)) else (none)) else (some false)
set_option maxHeartbeats 40000000 in
set_option maxRecDepth 100000 in
theorem stringslite_HasSuffix.calls (a0 : ByteArray) (a1 : ByteArray) (r : Bool) (w : World) (h : stringslite_HasSuffix.f a0 a1 = some r) :
 Calls Tryd.prog 80 #[.string a0, .string a1] w fun e w' => e = .returned (.bool r) ∧ Drawn0 w w' := by
 have H : (if (a0.size : Int) ≥ (a1.size : Int) then (if 0 ≤ (wrap64 ((a0.size : Int) - (a1.size : Int))) then (if (wrap64 ((a0.size : Int) - (a1.size : Int))) ≤ (a0.size : Int) then (some ((a0.extract ((wrap64 ((a0.size : Int) - (a1.size : Int))) : Int).toNat a0.size).toList == a1.toList)) else (none)) else (none)) else (some false)) = some r := h
 clear h
 by_cases c3 : (a0.size : Int) ≥ (a1.size : Int)
 ·
  rw [if_pos c3] at H
  have c3b0 := decide_eq_true c3
  have c3b1 : decide (a1.size ≤ a0.size) = true := decide_eq_true (Int.ofNat_le.mp c3)
  clear c3
  obtain ⟨ji4, hji4⟩ : ∃ j_ : Int, (wrap64 ((a0.size : Int) - (a1.size : Int))) = j_ := ⟨_, rfl⟩
  replace H : (if 0 ≤ (ji4) then (if (ji4) ≤ (a0.size : Int) then (some ((a0.extract ((ji4) : Int).toNat a0.size).toList == a1.toList)) else (none)) else (none)) = some r := by first | (rw [hji4] at H; exact H) | (simp only [hji4] at H ⊢; exact H)
  have hji4w : (IntKind.i64.wrap ((a0.size : Int) - (a1.size : Int))) = ji4 := (i64_w _).trans hji4
  by_cases c5 : 0 ≤ (ji4)
  ·
   rw [if_pos c5] at H
   have c5b0 := eq_true c5
   have c5b1 := decide_eq_true c5
   clear c5
   by_cases c6 : (ji4) ≤ (a0.size : Int)
   ·
    rw [if_pos c6] at H
    have c6b0 := eq_true c6
    have c6b1 := decide_eq_true c6
    clear c6
    obtain rfl := Option.some.inj H
    go_enter Tryd.func80, Tryd.ntmps80
    go_wp2
    go_ret
    exact ⟨by first | rfl | (simp; done) | (simp only [← hji4] <;> (first | rfl | simp)) | (simp [*]; done) | ((try simp only [Bool.not_not]); (generalize ByteArray.toList _ = l_); cases l_ <;> rfl) | (simp; (generalize ByteArray.toList _ = l_); cases l_ <;> rfl), by repeat (first | exact Drawn0.refl _ | apply Drawn0.step)⟩
   ·
    rw [if_neg c6] at H
    exact absurd H (by simp)
  ·
   rw [if_neg c5] at H
   exact absurd H (by simp)
 ·
  rw [if_neg c3] at H
  have c3b0 := decide_eq_false c3
  have c3b1 : decide (a1.size ≤ a0.size) = false := decide_eq_false (fun h => c3 (Int.ofNat_le.mpr h))
  clear c3
  obtain rfl := Option.some.inj H
  go_enter Tryd.func80, Tryd.ntmps80
  go_wp2
  go_ret
  exact pV

/-! ### strings_HasSuffix: function 53 -/
def strings_HasSuffix.f (a0 : ByteArray) (a1 : ByteArray) : Option (Bool) := (stringslite_HasSuffix.f a0 a1).bind fun t116 => (some t116)
set_option maxHeartbeats 40000000 in
set_option maxRecDepth 100000 in
theorem strings_HasSuffix.calls (a0 : ByteArray) (a1 : ByteArray) (r : Bool) (w : World) (h : strings_HasSuffix.f a0 a1 = some r) :
 Calls Tryd.prog 53 #[.string a0, .string a1] w fun e w' => e = .returned (.bool r) ∧ Drawn0 w w' := by
 have H : ((stringslite_HasSuffix.f a0 a1).bind fun t116 => (some t116)) = some r := h
 clear h
 replace H := Option.bind_eq_some_iff.mp H
 obtain ⟨t116, A30, H⟩ := H
 have A3 := Aside0.mk A30
 clear A30
 obtain rfl := Option.some.inj H
 go_enter Tryd.func53, Tryd.ntmps53
 go_wp2_with (first | ((with_reducible refine gate_callee (f := 80) rfl ?_); refine goesA (some 7) Tryd.func80 #[.string a0, .string a1] ?_; (with_reducible refine (stringslite_HasSuffix.calls a0 a1 t116 _ A3.out).mono ?_); rintro e w' ⟨rfl, ⟨nd, rfl⟩⟩; refine ⟨_, rfl, ?_⟩))
 go_ret
 exact pV

/-! ### strings_Split: function 54 (given) -/
def strings_Split.f (a0 : ByteArray) (a1 : ByteArray) : Option (List ByteArray) := if a0.size < 4294967281 then (if 1 ≤ a1.size then some (Lib.splitB a1 0 (Lib.countB a0 a1) a0) else none) else none
theorem strings_Split.calls (a0 : ByteArray) (a1 : ByteArray) (r : List ByteArray) (w : World) (hLD : Laid w) (h : strings_Split.f a0 a1 = some r) :
    Calls Tryd.prog 54 #[.string a0, .string a1] w fun e w' => ∃ v0_ : Value, e = .returned (v0_) ∧ Kd.R Kd.string 9 w' w.heap.size (fun _ => True) v0_ r ∧ Below w.heap.size w w' := by
  unfold strings_Split.f at h
  by_cases h0 : a0.size < 4294967281
  · rw [if_pos h0] at h
    by_cases h1 : 1 ≤ a1.size
    · rw [if_pos h1] at h
      obtain rfl := Option.some.inj h
      refine (Tryd.strings_Split_shaped a0 a1 w hLD.shape h0 h1).mono ?_
      rintro e w' ⟨rfl, rfl⟩
      have hl : (Lib.splitB a1 0 (Lib.countB a0 a1) a0).length = Lib.countB a0 a1 + 1 := Lib.splitB_all a1 h1 0 _ a0 rfl
      have hc := Lib.countB_le a1 h1 a0.size a0 (Nat.le_refl _)
      refine ⟨_, rfl, ?_, below_alloc (Below.refl _ _) _⟩
      refine Kd.R_of_own (enc := Value.string) (xs := Lib.splitB a1 0 (Lib.countB a0 a1) a0) ⟨by simp [encs], .inr ⟨w.heap.size, Lib.countB a0 a1 + 1, ((Lib.splitB a1 0 (Lib.countB a0 a1) a0).map Value.string).toArray, by rw [hl], Nat.le_refl _, by unfold World.alloc; simp, by rw [hl]; exact Nat.le_refl _, by unfold maxLen; omega, by simp [hl], ?_⟩⟩ (fun _ _ => trivial)
      rw [List.take_of_length_le (by simp)]
      simp [encs]
    · rw [if_neg h1] at h; cases h
  · rw [if_neg h0] at h; cases h


/-! ### dname_ordinary: function 55 -/
mutual
def dname_ordinary.j0 : Nat → ByteArray → Bool → Option (Bool)
 | 0, _, _ => none
 | k + 1, x0, x11 => if x11 = true then (some false) else (dname_ordinary.l0 k x0 (x0.size : Int) 0)
def dname_ordinary.l0 : Nat → ByteArray → Int → Int → Option (Bool)
 | 0, _, _, _ => none
 | k + 1, x0, x13, x14 => if x14 < x13 then (if 0 ≤ x14 then (if x14 < (x0.size : Int) then (if (bt x0 x14) < 97 then (if (bt x0 x14) < 48 then (if (bt x0 x14) = 45 then (dname_ordinary.l0 k x0 x13 (wrap64 (x14 + 1))) else (if (bt x0 x14) = 95 then (dname_ordinary.l0 k x0 x13 (wrap64 (x14 + 1))) else (some false))) else (if (bt x0 x14) > 57 then (if (bt x0 x14) = 45 then (dname_ordinary.l0 k x0 x13 (wrap64 (x14 + 1))) else (if (bt x0 x14) = 95 then (dname_ordinary.l0 k x0 x13 (wrap64 (x14 + 1))) else (some false))) else (dname_ordinary.l0 k x0 x13 (wrap64 (x14 + 1))))) else (if (bt x0 x14) > 122 then (if (bt x0 x14) < 48 then (if (bt x0 x14) = 45 then (dname_ordinary.l0 k x0 x13 (wrap64 (x14 + 1))) else (if (bt x0 x14) = 95 then (dname_ordinary.l0 k x0 x13 (wrap64 (x14 + 1))) else (some false))) else (if (bt x0 x14) > 57 then (if (bt x0 x14) = 45 then (dname_ordinary.l0 k x0 x13 (wrap64 (x14 + 1))) else (if (bt x0 x14) = 95 then (dname_ordinary.l0 k x0 x13 (wrap64 (x14 + 1))) else (some false))) else (dname_ordinary.l0 k x0 x13 (wrap64 (x14 + 1))))) else (dname_ordinary.l0 k x0 x13 (wrap64 (x14 + 1))))) else (none)) else (none)) else (some true)
end
def dname_ordinary.f (k : Nat) (a0 : ByteArray) : Option (Bool) := if a0.toList = ([] : List UInt8) then (dname_ordinary.j0 k a0 true) else (dname_ordinary.j0 k a0 (decide ((a0.size : Int) > 63)))
theorem dname_ordinary.mono_l : ∀ k, (∀ y0 y1, LeO (dname_ordinary.j0 k y0 y1) (dname_ordinary.j0 (k + 1) y0 y1)) ∧ (∀ y0 y1 y2, LeO (dname_ordinary.l0 k y0 y1 y2) (dname_ordinary.l0 (k + 1) y0 y1 y2))
 | 0 => ⟨fun _ _ r h => by simp [dname_ordinary.j0] at h, fun _ _ _ r h => by simp [dname_ordinary.l0] at h⟩
 | k + 1 => by
  obtain ⟨ih0, ih1⟩ := dname_ordinary.mono_l k
  refine ⟨?_, ?_⟩
  ·
   intro y0 y1
   unfold dname_ordinary.j0
   repeat' with_reducible first | exact ih0 _ _ | exact ih1 _ _ _ | exact LeO.refl _ | exact LeO.none _ | refine LeO.ite ?_ ?_ | refine LeO.bind ?_ (fun _ => ?_)
  ·
   intro y0 y1 y2
   unfold dname_ordinary.l0
   repeat' with_reducible first | exact ih0 _ _ | exact ih1 _ _ _ | exact LeO.refl _ | exact LeO.none _ | refine LeO.ite ?_ ?_ | refine LeO.bind ?_ (fun _ => ?_)
theorem dname_ordinary.mono : ∀ a0 k, LeO (dname_ordinary.f k a0) (dname_ordinary.f (k + 1) a0) := by
 intro a0 k
 obtain ⟨ih0, ih1⟩ := dname_ordinary.mono_l k
 unfold dname_ordinary.f
 repeat' with_reducible first | exact ih0 _ _ | exact ih1 _ _ _ | exact LeO.refl _ | exact LeO.none _ | refine LeO.ite ?_ ?_ | refine LeO.bind ?_ (fun _ => ?_)
set_option maxHeartbeats 40000000 in
set_option maxRecDepth 100000 in
theorem dname_ordinary.calls (k : Nat) (a0 : ByteArray) (r : Bool) (w : World) (h : dname_ordinary.f k a0 = some r) :
 Calls Tryd.prog 55 #[.string a0] w fun e w' => e = .returned (.bool r) ∧ Drawn0 w w' := by
 have H : (if a0.toList = ([] : List UInt8) then (dname_ordinary.j0 k a0 true) else (dname_ordinary.j0 k a0 (decide ((a0.size : Int) > 63)))) = some r := h
 clear h
 have HC2 := Aside0.mk H
 clear H
 go_enter Tryd.func55, Tryd.ntmps55
 go_upto_region 1 with (fail)
 go_cut [11] (fun v11 wc => ∃ (kq : Nat) (x11_1 : Bool), v11 = .bool x11_1 ∧ Aside0 (dname_ordinary.j0 kq a0 x11_1 = some r) ∧ Aside0 (kq ≤ k) ∧ Drawn0 w wc)
 case first =>
  have H := HC2.out
  clear HC2
  by_cases c3 : a0.toList = ([] : List UInt8)
  ·
   rw [if_pos c3] at H
   have c3b0 : (a0.toList == ([] : List UInt8)) = true := beq_iff_eq.mpr c3
   have c3b1 : (a0.toList != ([] : List UInt8)) = false := bne_eq_false_iff_eq.mpr c3
   clear c3
   (first | rw [c3b0] | (simp only [i64_w, i32_w]; rw [c3b0]) | skip)
   have H' := Aside0.mk H
   clear H
   go_wp2
   refine Met.intro ?_
   go_step
   (repeat apply Exists.intro)
   refine ⟨?rel, ?heq_⟩
   case heq_ => first | rfl | (rw [c3b0]) | (simp only [c3b0])
   case rel => exact ⟨_, (true), pT, H', ⟨by first | omega | exact Nat.le_refl _⟩, by repeat (first | exact Drawn0.refl _ | apply Drawn0.step)⟩
  ·
   rw [if_neg c3] at H
   have c3b0 : (a0.toList == ([] : List UInt8)) = false := beq_eq_false_iff_ne.mpr c3
   have c3b1 : (a0.toList != ([] : List UInt8)) = true := bne_iff_ne.mpr c3
   (first | rw [c3b0] | (simp only [i64_w, i32_w]; rw [c3b0]) | skip)
   have H' := Aside0.mk H
   clear H
   go_wp2
   refine Met.intro ?_
   go_step
   (repeat apply Exists.intro)
   refine ⟨?rel, ?heq_⟩
   case heq_ => first | rfl | (rw [c3b0]) | (simp only [c3b0])
   case rel => exact ⟨_, (decide ((a0.size : Int) > 63)), pT, H', ⟨by first | omega | exact Nat.le_refl _⟩, by repeat (first | exact Drawn0.refl _ | apply Drawn0.step)⟩
 case rest =>
  clear HC2
  obtain ⟨kq, x11_1, rfl, HA, HJ1, ⟨mc1, rfl⟩⟩ := hcut
  cases kq with
  | zero => exact absurd HA.out (by simp [dname_ordinary.j0])
  | succ kj1 =>
   have H := HA.out
   clear HA
   simp only [dname_ordinary.j0] at H
   by_cases c4 : x11_1 = true
   ·
    subst c4
    rw [if_pos rfl] at H
    obtain rfl := Option.some.inj H
    go_wp2
    go_ret
    exact pV
   ·
    replace c4 := Bool.eq_false_iff.mpr c4
    subst c4
    rw [if_neg (show ¬ (false = true) by decide)] at H
    have H' := Aside0.mk H
    clear H
    go_wp2
    go_loopg [14] kj1 (fun kq v14 w' => ∃ (x14_2 : Int), v14 = .int .i64 x14_2 ∧ Aside0 (dname_ordinary.l0 kq a0 (a0.size : Int) x14_2 = some r) ∧ Aside0 (kq ≤ kj1) ∧ Drawn0 w w')
    case atStart => exact ⟨(0), pT, H', ⟨Nat.le_refl _⟩, by repeat (first | exact Drawn0.refl _ | apply Drawn0.step)⟩
    case round =>
     clear H'
     try clear c4
     obtain ⟨x14_2, rfl, HA, HK2, ⟨m2, rfl⟩⟩ := hrel
     cases gk with
     | zero => exact absurd HA.out (by simp [dname_ordinary.l0])
     | succ k2 =>
      have H := HA.out
      clear HA
      simp only [dname_ordinary.l0] at H
      by_cases c5 : x14_2 < (a0.size : Int)
      ·
       rw [if_pos c5] at H
       have c5b0 := decide_eq_true c5
       clear c5
       by_cases c6 : 0 ≤ x14_2
       ·
        rw [if_pos c6] at H
        have c6b0 := decide_eq_true c6
        clear c6
        by_cases c7 : x14_2 < (a0.size : Int)
        ·
         rw [if_pos c7] at H
         have c7b0 := decide_eq_true c7
         clear c7
         by_cases c9 : (bt a0 x14_2) < 97
         ·
          rw [if_pos c9] at H
          have c9b0 := decide_eq_true c9
          clear c9
          by_cases c10 : (bt a0 x14_2) < 48
          ·
           rw [if_pos c10] at H
           have c10b0 := decide_eq_true c10
           clear c10
           by_cases c11 : (bt a0 x14_2) = 45
           ·
            rw [if_pos c11] at H
            have c11b0 : ((bt a0 x14_2) == 45) = true := beq_iff_eq.mpr c11
            have c11b1 : ((bt a0 x14_2) != 45) = false := bne_eq_false_iff_eq.mpr c11
            clear c11
            have H' := Aside0.mk H
            clear H
            have p8 : 0 ≤ (x14_2 : Int) := oD
            have q8 : x14_2 < (a0.size : Int) := oD
            have hx8 := bt_at a0 x14_2
            replace p8 := eq_true p8
            replace q8 := eq_true q8
            go_wp2
            go_roundg k2
            case measure => have := HJ1.out; have := HK2.out; omega
            case rel => exact ⟨(wrap64 (x14_2 + 1)), pT, H', ⟨by have := HJ1.out; have := HK2.out; omega⟩, by repeat (first | exact Drawn0.refl _ | apply Drawn0.step)⟩
           ·
            rw [if_neg c11] at H
            have c11b0 : ((bt a0 x14_2) == 45) = false := beq_eq_false_iff_ne.mpr c11
            have c11b1 : ((bt a0 x14_2) != 45) = true := bne_iff_ne.mpr c11
            by_cases c12 : (bt a0 x14_2) = 95
            ·
             rw [if_pos c12] at H
             have c12b0 : ((bt a0 x14_2) == 95) = true := beq_iff_eq.mpr c12
             have c12b1 : ((bt a0 x14_2) != 95) = false := bne_eq_false_iff_eq.mpr c12
             clear c12
             have H' := Aside0.mk H
             clear H
             have p8 : 0 ≤ (x14_2 : Int) := oD
             have q8 : x14_2 < (a0.size : Int) := oD
             have hx8 := bt_at a0 x14_2
             replace p8 := eq_true p8
             replace q8 := eq_true q8
             go_wp2
             go_roundg k2
             case measure => have := HJ1.out; have := HK2.out; omega
             case rel => exact ⟨(wrap64 (x14_2 + 1)), pT, H', ⟨by have := HJ1.out; have := HK2.out; omega⟩, by repeat (first | exact Drawn0.refl _ | apply Drawn0.step)⟩
            ·
             rw [if_neg c12] at H
             have c12b0 : ((bt a0 x14_2) == 95) = false := beq_eq_false_iff_ne.mpr c12
             have c12b1 : ((bt a0 x14_2) != 95) = true := bne_iff_ne.mpr c12
             obtain rfl := Option.some.inj H
             have p8 : 0 ≤ (x14_2 : Int) := oD
             have q8 : x14_2 < (a0.size : Int) := oD
             have hx8 := bt_at a0 x14_2
             replace p8 := eq_true p8
             replace q8 := eq_true q8
             go_wp2
             go_ret
             exact pV
          ·
           rw [if_neg c10] at H
           have c10b0 := decide_eq_false c10
           clear c10
           by_cases c13 : (bt a0 x14_2) > 57
           ·
            rw [if_pos c13] at H
            have c13b0 := decide_eq_true c13
            clear c13
            by_cases c14 : (bt a0 x14_2) = 45
            ·
             rw [if_pos c14] at H
             have c14b0 : ((bt a0 x14_2) == 45) = true := beq_iff_eq.mpr c14
             have c14b1 : ((bt a0 x14_2) != 45) = false := bne_eq_false_iff_eq.mpr c14
             clear c14
             have H' := Aside0.mk H
             clear H
             have p8 : 0 ≤ (x14_2 : Int) := oD
             have q8 : x14_2 < (a0.size : Int) := oD
             have hx8 := bt_at a0 x14_2
             replace p8 := eq_true p8
             replace q8 := eq_true q8
             go_wp2
             go_roundg k2
             case measure => have := HJ1.out; have := HK2.out; omega
             case rel => exact ⟨(wrap64 (x14_2 + 1)), pT, H', ⟨by have := HJ1.out; have := HK2.out; omega⟩, by repeat (first | exact Drawn0.refl _ | apply Drawn0.step)⟩
            ·
             rw [if_neg c14] at H
             have c14b0 : ((bt a0 x14_2) == 45) = false := beq_eq_false_iff_ne.mpr c14
             have c14b1 : ((bt a0 x14_2) != 45) = true := bne_iff_ne.mpr c14
             by_cases c15 : (bt a0 x14_2) = 95
             ·
              rw [if_pos c15] at H
              have c15b0 : ((bt a0 x14_2) == 95) = true := beq_iff_eq.mpr c15
              have c15b1 : ((bt a0 x14_2) != 95) = false := bne_eq_false_iff_eq.mpr c15
              clear c15
              have H' := Aside0.mk H
              clear H
              have p8 : 0 ≤ (x14_2 : Int) := oD
              have q8 : x14_2 < (a0.size : Int) := oD
              have hx8 := bt_at a0 x14_2
              replace p8 := eq_true p8
              replace q8 := eq_true q8
              go_wp2
              go_roundg k2
              case measure => have := HJ1.out; have := HK2.out; omega
              case rel => exact ⟨(wrap64 (x14_2 + 1)), pT, H', ⟨by have := HJ1.out; have := HK2.out; omega⟩, by repeat (first | exact Drawn0.refl _ | apply Drawn0.step)⟩
             ·
              rw [if_neg c15] at H
              have c15b0 : ((bt a0 x14_2) == 95) = false := beq_eq_false_iff_ne.mpr c15
              have c15b1 : ((bt a0 x14_2) != 95) = true := bne_iff_ne.mpr c15
              obtain rfl := Option.some.inj H
              have p8 : 0 ≤ (x14_2 : Int) := oD
              have q8 : x14_2 < (a0.size : Int) := oD
              have hx8 := bt_at a0 x14_2
              replace p8 := eq_true p8
              replace q8 := eq_true q8
              go_wp2
              go_ret
              exact pV
           ·
            rw [if_neg c13] at H
            have c13b0 := decide_eq_false c13
            clear c13
            have H' := Aside0.mk H
            clear H
            have p8 : 0 ≤ (x14_2 : Int) := oD
            have q8 : x14_2 < (a0.size : Int) := oD
            have hx8 := bt_at a0 x14_2
            replace p8 := eq_true p8
            replace q8 := eq_true q8
            go_wp2
            go_roundg k2
            case measure => have := HJ1.out; have := HK2.out; omega
            case rel => exact ⟨(wrap64 (x14_2 + 1)), pT, H', ⟨by have := HJ1.out; have := HK2.out; omega⟩, by repeat (first | exact Drawn0.refl _ | apply Drawn0.step)⟩
         ·
          rw [if_neg c9] at H
          have c9b0 := decide_eq_false c9
          clear c9
          by_cases c16 : (bt a0 x14_2) > 122
          ·
           rw [if_pos c16] at H
           have c16b0 := decide_eq_true c16
           clear c16
           by_cases c17 : (bt a0 x14_2) < 48
           ·
            rw [if_pos c17] at H
            have c17b0 := decide_eq_true c17
            clear c17
            by_cases c18 : (bt a0 x14_2) = 45
            ·
             rw [if_pos c18] at H
             have c18b0 : ((bt a0 x14_2) == 45) = true := beq_iff_eq.mpr c18
             have c18b1 : ((bt a0 x14_2) != 45) = false := bne_eq_false_iff_eq.mpr c18
             clear c18
             have H' := Aside0.mk H
             clear H
             have p8 : 0 ≤ (x14_2 : Int) := oD
             have q8 : x14_2 < (a0.size : Int) := oD
             have hx8 := bt_at a0 x14_2
             replace p8 := eq_true p8
             replace q8 := eq_true q8
             go_wp2
             go_roundg k2
             case measure => have := HJ1.out; have := HK2.out; omega
             case rel => exact ⟨(wrap64 (x14_2 + 1)), pT, H', ⟨by have := HJ1.out; have := HK2.out; omega⟩, by repeat (first | exact Drawn0.refl _ | apply Drawn0.step)⟩
            ·
             rw [if_neg c18] at H
             have c18b0 : ((bt a0 x14_2) == 45) = false := beq_eq_false_iff_ne.mpr c18
             have c18b1 : ((bt a0 x14_2) != 45) = true := bne_iff_ne.mpr c18
             by_cases c19 : (bt a0 x14_2) = 95
             ·
              rw [if_pos c19] at H
              have c19b0 : ((bt a0 x14_2) == 95) = true := beq_iff_eq.mpr c19
              have c19b1 : ((bt a0 x14_2) != 95) = false := bne_eq_false_iff_eq.mpr c19
              clear c19
              have H' := Aside0.mk H
              clear H
              have p8 : 0 ≤ (x14_2 : Int) := oD
              have q8 : x14_2 < (a0.size : Int) := oD
              have hx8 := bt_at a0 x14_2
              replace p8 := eq_true p8
              replace q8 := eq_true q8
              go_wp2
              go_roundg k2
              case measure => have := HJ1.out; have := HK2.out; omega
              case rel => exact ⟨(wrap64 (x14_2 + 1)), pT, H', ⟨by have := HJ1.out; have := HK2.out; omega⟩, by repeat (first | exact Drawn0.refl _ | apply Drawn0.step)⟩
             ·
              rw [if_neg c19] at H
              have c19b0 : ((bt a0 x14_2) == 95) = false := beq_eq_false_iff_ne.mpr c19
              have c19b1 : ((bt a0 x14_2) != 95) = true := bne_iff_ne.mpr c19
              obtain rfl := Option.some.inj H
              have p8 : 0 ≤ (x14_2 : Int) := oD
              have q8 : x14_2 < (a0.size : Int) := oD
              have hx8 := bt_at a0 x14_2
              replace p8 := eq_true p8
              replace q8 := eq_true q8
              go_wp2
              go_ret
              exact pV
           ·
            rw [if_neg c17] at H
            have c17b0 := decide_eq_false c17
            clear c17
            by_cases c20 : (bt a0 x14_2) > 57
            ·
             rw [if_pos c20] at H
             have c20b0 := decide_eq_true c20
             clear c20
             by_cases c21 : (bt a0 x14_2) = 45
             ·
              rw [if_pos c21] at H
              have c21b0 : ((bt a0 x14_2) == 45) = true := beq_iff_eq.mpr c21
              have c21b1 : ((bt a0 x14_2) != 45) = false := bne_eq_false_iff_eq.mpr c21
              clear c21
              have H' := Aside0.mk H
              clear H
              have p8 : 0 ≤ (x14_2 : Int) := oD
              have q8 : x14_2 < (a0.size : Int) := oD
              have hx8 := bt_at a0 x14_2
              replace p8 := eq_true p8
              replace q8 := eq_true q8
              go_wp2
              go_roundg k2
              case measure => have := HJ1.out; have := HK2.out; omega
              case rel => exact ⟨(wrap64 (x14_2 + 1)), pT, H', ⟨by have := HJ1.out; have := HK2.out; omega⟩, by repeat (first | exact Drawn0.refl _ | apply Drawn0.step)⟩
             ·
              rw [if_neg c21] at H
              have c21b0 : ((bt a0 x14_2) == 45) = false := beq_eq_false_iff_ne.mpr c21
              have c21b1 : ((bt a0 x14_2) != 45) = true := bne_iff_ne.mpr c21
              by_cases c22 : (bt a0 x14_2) = 95
              ·
               rw [if_pos c22] at H
               have c22b0 : ((bt a0 x14_2) == 95) = true := beq_iff_eq.mpr c22
               have c22b1 : ((bt a0 x14_2) != 95) = false := bne_eq_false_iff_eq.mpr c22
               clear c22
               have H' := Aside0.mk H
               clear H
               have p8 : 0 ≤ (x14_2 : Int) := oD
               have q8 : x14_2 < (a0.size : Int) := oD
               have hx8 := bt_at a0 x14_2
               replace p8 := eq_true p8
               replace q8 := eq_true q8
               go_wp2
               go_roundg k2
               case measure => have := HJ1.out; have := HK2.out; omega
               case rel => exact ⟨(wrap64 (x14_2 + 1)), pT, H', ⟨by have := HJ1.out; have := HK2.out; omega⟩, by repeat (first | exact Drawn0.refl _ | apply Drawn0.step)⟩
              ·
               rw [if_neg c22] at H
               have c22b0 : ((bt a0 x14_2) == 95) = false := beq_eq_false_iff_ne.mpr c22
               have c22b1 : ((bt a0 x14_2) != 95) = true := bne_iff_ne.mpr c22
               obtain rfl := Option.some.inj H
               have p8 : 0 ≤ (x14_2 : Int) := oD
               have q8 : x14_2 < (a0.size : Int) := oD
               have hx8 := bt_at a0 x14_2
               replace p8 := eq_true p8
               replace q8 := eq_true q8
               go_wp2
               go_ret
               exact pV
            ·
             rw [if_neg c20] at H
             have c20b0 := decide_eq_false c20
             clear c20
             have H' := Aside0.mk H
             clear H
             have p8 : 0 ≤ (x14_2 : Int) := oD
             have q8 : x14_2 < (a0.size : Int) := oD
             have hx8 := bt_at a0 x14_2
             replace p8 := eq_true p8
             replace q8 := eq_true q8
             go_wp2
             go_roundg k2
             case measure => have := HJ1.out; have := HK2.out; omega
             case rel => exact ⟨(wrap64 (x14_2 + 1)), pT, H', ⟨by have := HJ1.out; have := HK2.out; omega⟩, by repeat (first | exact Drawn0.refl _ | apply Drawn0.step)⟩
          ·
           rw [if_neg c16] at H
           have c16b0 := decide_eq_false c16
           clear c16
           have H' := Aside0.mk H
           clear H
           have p8 : 0 ≤ (x14_2 : Int) := oD
           have q8 : x14_2 < (a0.size : Int) := oD
           have hx8 := bt_at a0 x14_2
           replace p8 := eq_true p8
           replace q8 := eq_true q8
           go_wp2
           go_roundg k2
           case measure => have := HJ1.out; have := HK2.out; omega
           case rel => exact ⟨(wrap64 (x14_2 + 1)), pT, H', ⟨by have := HJ1.out; have := HK2.out; omega⟩, by repeat (first | exact Drawn0.refl _ | apply Drawn0.step)⟩
        ·
         rw [if_neg c7] at H
         exact absurd H (by simp)
       ·
        rw [if_neg c6] at H
        exact absurd H (by simp)
      ·
       rw [if_neg c5] at H
       have c5b0 := decide_eq_false c5
       clear c5
       obtain rfl := Option.some.inj H
       go_wp2
       go_ret
       exact pV

end Go.Proofs.YtaehonmfoanloaaDoor.PA
