/- The Go functions in Lean, with the proofs that the code comes to these answers: printed by this session's program (wip/px) out of the seat's translation. Conditions: each theorem's own. -/
import Derived.Test.YteflcmmandlknaaGreatDoorPAx0
import Derived.Test.YteflcmmandlknaaGreatDoorPAx4
import Derived.Test.YteflcmmandlknaaGreatDoorPAx5
import Derived.Test.YteflcmmandlknaaGreatDoorPAx7
namespace Go.Proofs.YteflcmmandlknaaGreatDoor.PA
open Go.RowKit Go.Proofs.YteflcmmandlknaaGreatDoorW.PrintWords Go.Proofs.YteflcmmandlknaaGreatDoorW.PrintLast Go.Proofs.YteflcmmandlknaaGreatDoorW.PrintMore
attribute [local go_sem] max2_int min2_int max_two min_two max_three min_three max_four min_four   -- for this text's walks alone
attribute [local go_sem ↓] Ext.isSome_setCell
open Press
set_option linter.unusedVariables false
set_option linter.unusedSimpArgs false
/-! ### strconv_FormatUint: function 70 (given) -/
/-- A hexadecimal digit. -/
def hexd (n : Nat) : UInt8 := if n < 10 then UInt8.ofNat (48 + n) else UInt8.ofNat (87 + n)
def hexText (u : Nat) : List UInt8 := if u < 16 then [hexd u] else if u < 256 then [hexd (u / 16), hexd (u % 16)] else if u < 4096 then [hexd (u / 256), hexd (u / 16 % 16), hexd (u % 16)] else [hexd (u / 4096), hexd (u / 256 % 16), hexd (u / 16 % 16), hexd (u % 16)]
def strconv_FormatUint.f (a0 : Int) (a1 : Int) : Option ByteArray := if a1 = 10 then (if 0 ≤ a0 ∧ a0 < 18446744073709551616 then some (⟨(Lib.decDigits a0.toNat).toArray⟩ : ByteArray) else none) else if a1 = 16 then (if 0 ≤ a0 ∧ a0 < 65536 then some (⟨(hexText a0.toNat).toArray⟩ : ByteArray) else none) else none
theorem pow2_16 (w : World) : Calls Tryz.prog 130 #[.int .i64 16] w fun e w' => e = .returned (.bool true) ∧ w' = w := by
  go_enter Tryz.func130, Tryz.ntmps130
  go_wp2
  go_ret
  exact ⟨rfl, rfl⟩
theorem tz64_16 (w : World) (hc : w.cell? ⟨0, 15, none⟩ = some (.int .u8 4)) : Calls Tryz.prog 76 #[.int .u64 16] w fun e w' => e = .returned (.int .i64 4) ∧ w' = w := by
  have key : IntKind.u64.wrap (bits BinOp.and IntKind.u64 16 (IntKind.u64.wrap (-16)) * 285870213051353865) / 288230376151711744 = 15 := by decide
  go_enter Tryz.func76, Tryz.ntmps76
  go_wp2_with (simp only [key])
  go_ret
  exact ⟨rfl, rfl⟩
theorem tz_16 (w : World) (hc : w.cell? ⟨0, 15, none⟩ = some (.int .u8 4)) : Calls Tryz.prog 131 #[.int .u64 16] w fun e w' => e = .returned (.int .i64 4) ∧ w' = w := by
  have HC := Aside0.mk hc
  clear hc
  go_enter Tryz.func131, Tryz.ntmps131
  go_wp2_with fail
  refine (tz64_16 _ HC.out).mono ?_
  rintro e w' ⟨rfl, rfl⟩
  go_wp2_with fail
  go_ret
  exact ⟨rfl, rfl⟩
theorem bru_ {w : World} (h : Laid w) : w.cell? ⟨0, 15, none⟩ = some (.int .u8 4) := by
  rw [h.bruijn.cell (show Tryz.prog.globalNamed "math/bits.deBruijn64tab" = some 0 by kernel_rfl) 15 (by decide)]
  rfl
theorem zc65_size : Tryz.zeroCells150.size = 65 := by decide +kernel
theorem and15_ (u q d : Nat) (h : u = 16 * q + d) (hd : d < 16) (hu : u < 18446744073709551616) : bits .and .u64 (u : Int) 15 = (d : Int) := by
  have := bits_and_u64_nat u 15 hu (by omega)
  rw [show ((15 : Nat) : Int) = 15 from rfl] at this
  rw [this]
  have e : u &&& 15 = u % 16 := Nat.and_two_pow_sub_one_eq_mod u 4
  rw [e]
  omega
theorem hexd_at : ∀ i : Fin 16, (⟨#[48, 49, 50, 51, 52, 53, 54, 55, 56, 57, 97, 98, 99, 100, 101, 102, 103, 104, 105, 106, 107, 108, 109, 110, 111, 112, 113, 114, 115, 116, 117, 118, 119, 120, 121, 122]⟩ : ByteArray).data[i.val]? = some (hexd i.val) := by decide +kernel
theorem idx16_ (d : Nat) (hd : d < 16) : ∀ w, (Instr.index 9 (.string (⟨#[48, 49, 50, 51, 52, 53, 54, 55, 56, 57, 97, 98, 99, 100, 101, 102, 103, 104, 105, 106, 107, 108, 109, 110, 111, 112, 113, 114, 115, 116, 117, 118, 119, 120, 121, 122]⟩ : ByteArray)) (.int .u64 (d : Int))).run Tryz.prog w = .ok (.int .u8 ((hexd d).toNat : Int)) w := by
  intro w
  have hs : (⟨#[48, 49, 50, 51, 52, 53, 54, 55, 56, 57, 97, 98, 99, 100, 101, 102, 103, 104, 105, 106, 107, 108, 109, 110, 111, 112, 113, 114, 115, 116, 117, 118, 119, 120, 121, 122]⟩ : ByteArray).size = 36 := by decide +kernel
  have h1 := hexd_at ⟨d, hd⟩
  generalize (⟨#[48, 49, 50, 51, 52, 53, 54, 55, 56, 57, 97, 98, 99, 100, 101, 102, 103, 104, 105, 106, 107, 108, 109, 110, 111, 112, 113, 114, 115, 116, 117, 118, 119, 120, 121, 122]⟩ : ByteArray) = D at hs h1
  rw [run_index_string w 9 D .u64 _ (by kernel_rfl), dif_pos ⟨by omega, by rw [hs]; omega⟩]
  have e : ((d : Int)).toNat = d := by omega
  simp only [e]
  have h2 : D[d]'(by rw [hs]; omega) = hexd d := by
    have := (Array.getElem?_eq_some_iff.1 h1).2
    exact this
  rw [h2]
theorem cv16_ (w : World) (cells : Array Value) (off n : Nat) (l : List UInt8) (hn : l.length = n) (hc : ∀ j (hj : j < l.length), cells[off + j]? = some (.int .u8 (l[j].toNat : Int))) :
    (convert 103 9 (.slice (some ⟨w.heap.size, off, none⟩) n n)).run Tryz.prog (w.alloc (.cells cells 150)) = .ok (.string ⟨l.toArray⟩) (w.alloc (.cells cells 150)) := by
  subst hn
  refine run_convert_bytes_back (P := Tryz.prog) _ 103 9 5 ⟨w.heap.size, off, none⟩ l.length l (by kernel_rfl) (by kernel_rfl) (by kernel_rfl) (fun j hj => ?_)
  rw [Lib.add_plain, World.cell?_alloc_new]
  exact hc j hj
set_option maxHeartbeats 4000000 in
set_option maxRecDepth 100000 in
theorem fb16_1 (u : Nat) (ht : u < 16) (w : World) (hLD : Laid w) (hb64 : u < 65536) : Calls Tryz.prog 116 #[.slice none 0 0, .int .u64 u, .int .i64 16, .bool false, .bool false] w fun e w' => e = .returned (.tuple #[.slice none 0 0, .string (⟨#[hexd u]⟩ : ByteArray)]) ∧ Below w.heap.size w w' := by
  have HLD := Aside0.mk hLD
  clear hLD
  have xt := idx16_ u ht
  have gt : ¬ (16 : Int) ≤ (u : Int) := by omega
  have hcv := cv16_ w (Tryz.zeroCells150.setIfInBounds 64 (.int .u8 ((hexd u).toNat : Int))) 64 1 [hexd u] rfl (by intro j hj; simp only [List.length_cons, List.length_nil] at hj; match j, hj with | 0, _ => simp [Array.getElem?_setIfInBounds, zc65_size])
  clear ht hb64
  go_enter Tryz.func116, Tryz.ntmps116
  go_wp2_with fail
  refine (pow2_16 _).mono ?_
  rintro e w' ⟨rfl, rfl⟩
  go_wp2_with fail
  refine (tz_16 _ (bru_ (HLD.out.below (by repeat (first | exact Below.refl _ _ | apply below_drew | apply below_alloc | apply pw_below_drewN))))).mono ?_
  rintro e w' ⟨rfl, rfl⟩
  go_wp2_with fail
  refine wp_loop_rounds 1 ?_
  rw [rounds_succ]
  go_wp2_with fail
  refine bodyPost_ret (v := .tuple #[.slice none 0 0, .string (⟨#[hexd u]⟩ : ByteArray)]) (by simp [results, Tryz.results116, go_sem]) rfl ⟨rfl, ?_⟩
  (repeat (first | exact Below.refl _ _ | apply below_drew | apply below_alloc | apply pw_below_drewN))
set_option maxHeartbeats 4000000 in
set_option maxRecDepth 100000 in
theorem fb16_2 (u u1 d0 : Nat) (e0 : u = 16 * u1 + d0) (b0 : d0 < 16) (n0 : 1 ≤ u1) (ht : u1 < 16) (w : World) (hLD : Laid w) (hb64 : u < 65536) : Calls Tryz.prog 116 #[.slice none 0 0, .int .u64 u, .int .i64 16, .bool false, .bool false] w fun e w' => e = .returned (.tuple #[.slice none 0 0, .string (⟨#[hexd u1, hexd d0]⟩ : ByteArray)]) ∧ Below w.heap.size w w' := by
  have HLD := Aside0.mk hLD
  clear hLD
  have q0 : (u : Int) / 16 = (u1 : Int) := by omega
  have a0 : bits .and .u64 (u : Int) 15 = (d0 : Int) := and15_ _ _ _ e0 b0 (by omega)
  have g0 : (16 : Int) ≤ (u : Int) := by omega
  have x0 := idx16_ d0 b0
  have xt := idx16_ u1 ht
  have gt : ¬ (16 : Int) ≤ (u1 : Int) := by omega
  have hcv := cv16_ w ((Tryz.zeroCells150.setIfInBounds 64 (.int .u8 ((hexd d0).toNat : Int))).setIfInBounds 63 (.int .u8 ((hexd u1).toNat : Int))) 63 2 [hexd u1, hexd d0] rfl (by intro j hj; simp only [List.length_cons, List.length_nil] at hj; match j, hj with | 0, _ => simp [Array.getElem?_setIfInBounds, zc65_size] | 1, _ => simp [Array.getElem?_setIfInBounds, zc65_size])
  clear e0 b0 n0
  clear ht hb64
  go_enter Tryz.func116, Tryz.ntmps116
  go_wp2_with fail
  refine (pow2_16 _).mono ?_
  rintro e w' ⟨rfl, rfl⟩
  go_wp2_with fail
  refine (tz_16 _ (bru_ (HLD.out.below (by repeat (first | exact Below.refl _ _ | apply below_drew | apply below_alloc | apply pw_below_drewN))))).mono ?_
  rintro e w' ⟨rfl, rfl⟩
  go_wp2_with fail
  refine wp_loop_rounds 2 ?_
  rw [rounds_succ]
  go_wp2_with fail
  rw [rounds_succ]
  go_wp2_with fail
  refine bodyPost_ret (v := .tuple #[.slice none 0 0, .string (⟨#[hexd u1, hexd d0]⟩ : ByteArray)]) (by simp [results, Tryz.results116, go_sem]) rfl ⟨rfl, ?_⟩
  (repeat (first | exact Below.refl _ _ | apply below_drew | apply below_alloc | apply pw_below_drewN))
set_option maxHeartbeats 4000000 in
set_option maxRecDepth 100000 in
theorem fb16_3 (u u1 u2 d0 d1 : Nat) (e0 : u = 16 * u1 + d0) (b0 : d0 < 16) (n0 : 1 ≤ u1) (e1 : u1 = 16 * u2 + d1) (b1 : d1 < 16) (n1 : 1 ≤ u2) (ht : u2 < 16) (w : World) (hLD : Laid w) (hb64 : u < 65536) : Calls Tryz.prog 116 #[.slice none 0 0, .int .u64 u, .int .i64 16, .bool false, .bool false] w fun e w' => e = .returned (.tuple #[.slice none 0 0, .string (⟨#[hexd u2, hexd d1, hexd d0]⟩ : ByteArray)]) ∧ Below w.heap.size w w' := by
  have HLD := Aside0.mk hLD
  clear hLD
  have q0 : (u : Int) / 16 = (u1 : Int) := by omega
  have a0 : bits .and .u64 (u : Int) 15 = (d0 : Int) := and15_ _ _ _ e0 b0 (by omega)
  have g0 : (16 : Int) ≤ (u : Int) := by omega
  have x0 := idx16_ d0 b0
  have q1 : (u1 : Int) / 16 = (u2 : Int) := by omega
  have a1 : bits .and .u64 (u1 : Int) 15 = (d1 : Int) := and15_ _ _ _ e1 b1 (by omega)
  have g1 : (16 : Int) ≤ (u1 : Int) := by omega
  have x1 := idx16_ d1 b1
  have xt := idx16_ u2 ht
  have gt : ¬ (16 : Int) ≤ (u2 : Int) := by omega
  have hcv := cv16_ w (((Tryz.zeroCells150.setIfInBounds 64 (.int .u8 ((hexd d0).toNat : Int))).setIfInBounds 63 (.int .u8 ((hexd d1).toNat : Int))).setIfInBounds 62 (.int .u8 ((hexd u2).toNat : Int))) 62 3 [hexd u2, hexd d1, hexd d0] rfl (by intro j hj; simp only [List.length_cons, List.length_nil] at hj; match j, hj with | 0, _ => simp [Array.getElem?_setIfInBounds, zc65_size] | 1, _ => simp [Array.getElem?_setIfInBounds, zc65_size] | 2, _ => simp [Array.getElem?_setIfInBounds, zc65_size])
  clear e0 b0 n0
  clear e1 b1 n1
  clear ht hb64
  go_enter Tryz.func116, Tryz.ntmps116
  go_wp2_with fail
  refine (pow2_16 _).mono ?_
  rintro e w' ⟨rfl, rfl⟩
  go_wp2_with fail
  refine (tz_16 _ (bru_ (HLD.out.below (by repeat (first | exact Below.refl _ _ | apply below_drew | apply below_alloc | apply pw_below_drewN))))).mono ?_
  rintro e w' ⟨rfl, rfl⟩
  go_wp2_with fail
  refine wp_loop_rounds 3 ?_
  rw [rounds_succ]
  go_wp2_with fail
  rw [rounds_succ]
  go_wp2_with fail
  rw [rounds_succ]
  go_wp2_with fail
  refine bodyPost_ret (v := .tuple #[.slice none 0 0, .string (⟨#[hexd u2, hexd d1, hexd d0]⟩ : ByteArray)]) (by simp [results, Tryz.results116, go_sem]) rfl ⟨rfl, ?_⟩
  (repeat (first | exact Below.refl _ _ | apply below_drew | apply below_alloc | apply pw_below_drewN))
set_option maxHeartbeats 4000000 in
set_option maxRecDepth 100000 in
theorem fb16_4 (u u1 u2 u3 d0 d1 d2 : Nat) (e0 : u = 16 * u1 + d0) (b0 : d0 < 16) (n0 : 1 ≤ u1) (e1 : u1 = 16 * u2 + d1) (b1 : d1 < 16) (n1 : 1 ≤ u2) (e2 : u2 = 16 * u3 + d2) (b2 : d2 < 16) (n2 : 1 ≤ u3) (ht : u3 < 16) (w : World) (hLD : Laid w) (hb64 : u < 65536) : Calls Tryz.prog 116 #[.slice none 0 0, .int .u64 u, .int .i64 16, .bool false, .bool false] w fun e w' => e = .returned (.tuple #[.slice none 0 0, .string (⟨#[hexd u3, hexd d2, hexd d1, hexd d0]⟩ : ByteArray)]) ∧ Below w.heap.size w w' := by
  have HLD := Aside0.mk hLD
  clear hLD
  have q0 : (u : Int) / 16 = (u1 : Int) := by omega
  have a0 : bits .and .u64 (u : Int) 15 = (d0 : Int) := and15_ _ _ _ e0 b0 (by omega)
  have g0 : (16 : Int) ≤ (u : Int) := by omega
  have x0 := idx16_ d0 b0
  have q1 : (u1 : Int) / 16 = (u2 : Int) := by omega
  have a1 : bits .and .u64 (u1 : Int) 15 = (d1 : Int) := and15_ _ _ _ e1 b1 (by omega)
  have g1 : (16 : Int) ≤ (u1 : Int) := by omega
  have x1 := idx16_ d1 b1
  have q2 : (u2 : Int) / 16 = (u3 : Int) := by omega
  have a2 : bits .and .u64 (u2 : Int) 15 = (d2 : Int) := and15_ _ _ _ e2 b2 (by omega)
  have g2 : (16 : Int) ≤ (u2 : Int) := by omega
  have x2 := idx16_ d2 b2
  have xt := idx16_ u3 ht
  have gt : ¬ (16 : Int) ≤ (u3 : Int) := by omega
  have hcv := cv16_ w ((((Tryz.zeroCells150.setIfInBounds 64 (.int .u8 ((hexd d0).toNat : Int))).setIfInBounds 63 (.int .u8 ((hexd d1).toNat : Int))).setIfInBounds 62 (.int .u8 ((hexd d2).toNat : Int))).setIfInBounds 61 (.int .u8 ((hexd u3).toNat : Int))) 61 4 [hexd u3, hexd d2, hexd d1, hexd d0] rfl (by intro j hj; simp only [List.length_cons, List.length_nil] at hj; match j, hj with | 0, _ => simp [Array.getElem?_setIfInBounds, zc65_size] | 1, _ => simp [Array.getElem?_setIfInBounds, zc65_size] | 2, _ => simp [Array.getElem?_setIfInBounds, zc65_size] | 3, _ => simp [Array.getElem?_setIfInBounds, zc65_size])
  clear e0 b0 n0
  clear e1 b1 n1
  clear e2 b2 n2
  clear ht hb64
  go_enter Tryz.func116, Tryz.ntmps116
  go_wp2_with fail
  refine (pow2_16 _).mono ?_
  rintro e w' ⟨rfl, rfl⟩
  go_wp2_with fail
  refine (tz_16 _ (bru_ (HLD.out.below (by repeat (first | exact Below.refl _ _ | apply below_drew | apply below_alloc | apply pw_below_drewN))))).mono ?_
  rintro e w' ⟨rfl, rfl⟩
  go_wp2_with fail
  refine wp_loop_rounds 4 ?_
  rw [rounds_succ]
  go_wp2_with fail
  rw [rounds_succ]
  go_wp2_with fail
  rw [rounds_succ]
  go_wp2_with fail
  rw [rounds_succ]
  go_wp2_with fail
  refine bodyPost_ret (v := .tuple #[.slice none 0 0, .string (⟨#[hexd u3, hexd d2, hexd d1, hexd d0]⟩ : ByteArray)]) (by simp [results, Tryz.results116, go_sem]) rfl ⟨rfl, ?_⟩
  (repeat (first | exact Below.refl _ _ | apply below_drew | apply below_alloc | apply pw_below_drewN))
theorem fb16 (u : Nat) (hu : u < 65536) (w : World) (hLD : Laid w) : Calls Tryz.prog 116 #[.slice none 0 0, .int .u64 u, .int .i64 16, .bool false, .bool false] w fun e w' => e = .returned (.tuple #[.slice none 0 0, .string (⟨(hexText u).toArray⟩ : ByteArray)]) ∧ Below w.heap.size w w' := by
  unfold hexText
  by_cases h1 : u < 16
  · rw [if_pos h1]
    exact fb16_1 u h1 w hLD hu
  · rw [if_neg h1]
    by_cases h2 : u < 256
    · rw [if_pos h2]
      exact fb16_2 u (u / 16) (u % 16) (by omega) (by omega) (by omega) (by omega) w hLD hu
    · rw [if_neg h2]
      by_cases h3 : u < 4096
      · rw [if_pos h3]
        exact fb16_3 u (u / 16) (u / 256) (u % 16) (u / 16 % 16) (by omega) (by omega) (by omega) (by omega) (by omega) (by omega) (by omega) w hLD hu
      · rw [if_neg h3]
        exact fb16_4 u (u / 16) (u / 256) (u / 4096) (u % 16) (u / 16 % 16) (u / 256 % 16) (by omega) (by omega) (by omega) (by omega) (by omega) (by omega) (by omega) (by omega) (by omega) (by omega) w hLD hu
theorem iFU16 (u : Nat) (hu : u < 65536) (w : World) (hLD : Laid w) : Calls Tryz.prog 99 #[.int .u64 u, .int .i64 16] w fun e w' => e = .returned (.string (⟨(hexText u).toArray⟩ : ByteArray)) ∧ Below w.heap.size w w' := by
  have HLD := Aside0.mk hLD
  clear hLD
  go_enter Tryz.func99, Tryz.ntmps99
  go_wp2_with fail
  refine (fb16 u hu _ HLD.out).mono ?_
  rintro e w' ⟨rfl, hb⟩
  have HB := Aside0.mk hb
  clear hb
  go_wp2_with fail
  go_ret
  exact ⟨rfl, HB.out⟩
set_option maxHeartbeats 4000000 in
set_option maxRecDepth 100000 in
theorem iFU10 (u : Nat) (hu : u < 18446744073709551616) (w : World) (hLD : Laid w) : Calls Tryz.prog 99 #[.int .u64 u, .int .i64 10] w fun e w' => e = .returned (.string (⟨(Lib.decDigits u).toArray⟩ : ByteArray)) ∧ Below w.heap.size w w' := by
  by_cases h100 : u < 100
  · have hI : (u : Int) < 100 := by omega
    have hW : IntKind.i64.wrap (u : Int) = (u : Int) := by rw [IntKind.wrap_i64]; omega
    go_enter Tryz.func99, Tryz.ntmps99
    go_wp2_with fail
    refine (Tryz.internal_strconv_small u h100 _).mono ?_
    rintro e w' ⟨rfl, rfl⟩
    go_wp2_with fail
    go_ret
    exact ⟨rfl, Below.refl _ _⟩
  · have hI : ¬ (u : Int) < 100 := by omega
    have hu1 : 1 ≤ u := by omega
    have hnd20 : Lib.nDigits u ≤ 20 := by have := Lib.numDigits_eq u hu1 hu; split at this <;> omega
    have hal : Tryz.prog.arrayLen 135 = 24 := by kernel_rfl
    have hund : Tryz.prog.underlying 135 = some (.array 24 5) := by kernel_rfl
    have hsl : ∀ W, (Instr.sliceAt 135 (.pointer (some ⟨w.heap.size, 0, none⟩)) none (some (.int .i64 (Lib.nDigits u : Int))) none).run Tryz.prog W = .ok (.slice (some ⟨w.heap.size, 0, none⟩) (Lib.nDigits u) 24) W := fun W => by
      rw [run_sliceAt_array_h W 135 ⟨w.heap.size, 0, none⟩ hund .i64 (Lib.nDigits u : Int) (by omega) (by rw [hal]; omega)]
      go_simp
    have hH0 := Lib.holds_zero0 w 135 (Lib.nDigits u) (by omega)
    have hfmt := Tryz.internal_strconv_formatBase10 w.heap.size 0 24 u (Array.replicate (Lib.nDigits u) 0) (w.alloc (.cells Lib.zeros24 135)) hH0 (by rw [Array.size_replicate]; exact Lib.lt_pow_nDigits u) hu (by rw [Array.size_replicate]; omega)
    rw [Array.size_replicate] at hfmt
    have HH0 := Aside0.mk hH0
    have HLD := Aside0.mk hLD
    have HF := Aside0.mk hfmt
    clear hH0 hal hund hLD hfmt
    go_enter Tryz.func99, Tryz.ntmps99
    go_wp2_with fail
    refine (Tryz.internal_strconv_numDigits u hu1 hu _ (HLD.out.below (by repeat (first | exact Below.refl _ _ | apply below_drew | apply below_alloc | apply pw_below_drewN))).pow10).mono ?_
    rintro e w' ⟨rfl, rfl⟩
    go_wp2_with fail
    refine HF.out.mono ?_
    rintro e w' ⟨rfl, k, v', dk, rfl, hF⟩
    have hcv : (convert 103 9 (.slice (some ⟨w.heap.size, 0, none⟩) (Lib.nDigits u) 24)).run Tryz.prog ((Go.Sort.putRow (fun (b : UInt8) => Value.int .u8 (b.toNat : Int)) (w.alloc (.cells Lib.zeros24 135)) w.heap.size 0 dk).drewN k) = .ok (.string ⟨(Lib.decDigits u).toArray⟩) ((Go.Sort.putRow (fun (b : UInt8) => Value.int .u8 (b.toNat : Int)) (w.alloc (.cells Lib.zeros24 135)) w.heap.size 0 dk).drewN k) := by
      have h := run_convert_bytes_back (P := Tryz.prog) ((Go.Sort.putRow (fun (b : UInt8) => Value.int .u8 (b.toNat : Int)) (w.alloc (.cells Lib.zeros24 135)) w.heap.size 0 dk).drewN k) 103 9 5 ⟨w.heap.size, 0, none⟩ 24 (Lib.decDigits u) (by kernel_rfl) (by kernel_rfl) (by kernel_rfl) (fun j hj => by
        rw [Lib.row_is_numeral hF j hj, Lib.add_plain, World.cell?_drewN]
        exact Go.Sort.cell?_putRow (fun (b : UInt8) => Value.int .u8 (b.toNat : Int)) _ w.heap.size 0 _ dk HH0.out (by rw [hF.size, Array.size_replicate]) j (by rw [hF.size]; rw [Lib.decDigits_length] at hj; exact hj))
      rw [Lib.decDigits_length] at h
      exact h
    obtain ⟨os, eo⟩ := Lib.fin_at w (.cells Lib.zeros24 135) dk k 0
    have HBB : Aside0 (Below w.heap.size w ((Go.Sort.putRow (fun (b : UInt8) => Value.int .u8 (b.toNat : Int)) (w.alloc (.cells Lib.zeros24 135)) w.heap.size 0 dk).drewN k)) := Aside0.mk (by rw [eo]; exact Lib.below_grow w.heap.size w (Nat.le_refl _) k os)
    clear eo hF
    generalize (Go.Sort.putRow (fun (b : UInt8) => Value.int .u8 (b.toNat : Int)) (w.alloc (.cells Lib.zeros24 135)) w.heap.size 0 dk).drewN k = W2 at hcv HBB ⊢
    go_wp2_with fail
    go_ret
    exact ⟨rfl, HBB.out⟩
theorem strconv_FormatUint.calls (a0 : Int) (a1 : Int) (r : ByteArray) (w : World) (hLD : Laid w) (h : strconv_FormatUint.f a0 a1 = some r) :
    Calls Tryz.prog 70 #[.int .u64 a0, .int .i64 a1] w fun e w' => e = .returned (.string r) ∧ Below w.heap.size w w' := by
  unfold strconv_FormatUint.f at h
  by_cases h10 : a1 = 10
  · rw [if_pos h10] at h
    by_cases hb : 0 ≤ a0 ∧ a0 < 18446744073709551616
    · rw [if_pos hb] at h
      obtain rfl := Option.some.inj h
      subst h10
      obtain ⟨u, rfl⟩ : ∃ u : Nat, a0 = u := ⟨a0.toNat, by omega⟩
      rw [Int.toNat_natCast]
      have hu : u < 18446744073709551616 := by omega
      have HLD := Aside0.mk hLD
      clear hLD h hb
      go_enter Tryz.func70, Tryz.ntmps70
      go_wp2_with fail
      refine (iFU10 u hu _ HLD.out).mono ?_
      rintro e w' ⟨rfl, hb⟩
      have HB := Aside0.mk hb
      clear hb
      go_wp2_with fail
      go_ret
      exact ⟨rfl, HB.out⟩
    · rw [if_neg hb] at h; cases h
  · rw [if_neg h10] at h
    by_cases h16 : a1 = 16
    · rw [if_pos h16] at h
      by_cases hb : 0 ≤ a0 ∧ a0 < 65536
      · rw [if_pos hb] at h
        obtain rfl := Option.some.inj h
        subst h16
        obtain ⟨u, rfl⟩ : ∃ u : Nat, a0 = u := ⟨a0.toNat, by omega⟩
        rw [Int.toNat_natCast]
        have hu : u < 65536 := by omega
        have HLD := Aside0.mk hLD
        clear hLD h hb
        go_enter Tryz.func70, Tryz.ntmps70
        go_wp2_with fail
        refine (iFU16 u hu _ HLD.out).mono ?_
        rintro e w' ⟨rfl, hb⟩
        have HB := Aside0.mk hb
        clear hb
        go_wp2_with fail
        go_ret
        exact ⟨rfl, HB.out⟩
      · rw [if_neg hb] at h; cases h
    · rw [if_neg h16] at h; cases h

/-! ### addr_Reverse: function 47 -/
mutual
def addr_Reverse.j0 : Nat → ByteArray → ByteArray → ByteArray → Bool → Int → Int → Option (ByteArray × Int)
 | 0, _, _, _, _, _, _ => none
 | k + 1, x4, x6, x7, x182000, x182001, x182002 => addr_Reverse.l0 k x4 x6 x7 (wrap64 ((x4.size : Int) - 1)) x182000 x182001 x182002
def addr_Reverse.l0 : Nat → ByteArray → ByteArray → ByteArray → Int → Bool → Int → Int → Option (ByteArray × Int)
 | 0, _, _, _, _, _, _, _ => none
 | k + 1, x4, x6, x7, x8, x182000, x182001, x182002 => if x8 ≥ 0 then (if x182000 = true then (if 0 ≤ x8 then (if x8 < (x4.size : Int) then ((strconv_FormatUint.f (IntKind.u64.wrap (Go.bits .and .u8 (bt x4 x8) 15)) 16).bind fun t184 => (if t184.size + 1 ≤ 9223372036854775807 then ((strconv_FormatUint.f (IntKind.u64.wrap ((bt x4 x8) / 16)) 16).bind fun t185 => (if (t184 ++ (⟨#[46]⟩ : ByteArray)).size + t185.size ≤ 9223372036854775807 then (if ((t184 ++ (⟨#[46]⟩ : ByteArray)) ++ t185).size + 1 ≤ 9223372036854775807 then (if x6.size + (((t184 ++ (⟨#[46]⟩ : ByteArray)) ++ t185) ++ (⟨#[46]⟩ : ByteArray)).size ≤ 9223372036854775807 then (addr_Reverse.l0 k x4 (x6 ++ (((t184 ++ (⟨#[46]⟩ : ByteArray)) ++ t185) ++ (⟨#[46]⟩ : ByteArray))) x7 (wrap64 (x8 - 1)) x182000 x182001 x182002) else (none)) else (none)) else (none))) else (none))) else (none)) else (none)) else (if 0 ≤ x8 then (if x8 < (x4.size : Int) then ((strconv_Itoa.f (wrap64 (bt x4 x8))).bind fun t186 => (if t186.size + 1 ≤ 9223372036854775807 then (if x6.size + (t186 ++ (⟨#[46]⟩ : ByteArray)).size ≤ 9223372036854775807 then (addr_Reverse.l0 k x4 (x6 ++ (t186 ++ (⟨#[46]⟩ : ByteArray))) x7 (wrap64 (x8 - 1)) x182000 x182001 x182002) else (none)) else (none))) else (none)) else (none))) else (if x6.size + x7.size ≤ 9223372036854775807 then (some (x6 ++ x7, 0)) else (none))
end
def addr_Reverse.f (k : Nat) (a0_0 : Bool) (a0_1 : Int) (a0_2 : Int) : Option (ByteArray × Int) := (addr_Wire.f k a0_0 a0_1 a0_2).bind fun bt182 => (if bt182.2 = 0 then (if a0_0 = true then (addr_Reverse.j0 k bt182.1 (⟨#[]⟩ : ByteArray) (⟨#[105, 112, 54, 46, 97, 114, 112, 97, 46]⟩ : ByteArray) a0_0 a0_1 a0_2) else (addr_Reverse.j0 k bt182.1 (⟨#[]⟩ : ByteArray) (⟨#[105, 110, 45, 97, 100, 100, 114, 46, 97, 114, 112, 97, 46]⟩ : ByteArray) a0_0 a0_1 a0_2)) else (some ((⟨#[]⟩ : ByteArray), bt182.2)))
theorem addr_Reverse.mono_l : ∀ k, (∀ y0 y1 y2 y3 y4 y5, LeO (addr_Reverse.j0 k y0 y1 y2 y3 y4 y5) (addr_Reverse.j0 (k + 1) y0 y1 y2 y3 y4 y5)) ∧ (∀ y0 y1 y2 y3 y4 y5 y6, LeO (addr_Reverse.l0 k y0 y1 y2 y3 y4 y5 y6) (addr_Reverse.l0 (k + 1) y0 y1 y2 y3 y4 y5 y6))
 | 0 => ⟨fun _ _ _ _ _ _ r h => by simp [addr_Reverse.j0] at h, fun _ _ _ _ _ _ _ r h => by simp [addr_Reverse.l0] at h⟩
 | k + 1 => by
  obtain ⟨ih0, ih1⟩ := addr_Reverse.mono_l k
  refine ⟨?_, ?_⟩
  ·
   intro y0 y1 y2 y3 y4 y5
   unfold addr_Reverse.j0
   repeat' with_reducible first | exact ih0 _ _ _ _ _ _ | exact ih1 _ _ _ _ _ _ _ | exact addr_Wire.mono _ _ _ _ | exact LeO.refl _ | exact LeO.none _ | refine LeO.ite ?_ ?_ | refine LeO.bind ?_ (fun _ => ?_)
  ·
   intro y0 y1 y2 y3 y4 y5 y6
   unfold addr_Reverse.l0
   repeat' with_reducible first | exact ih0 _ _ _ _ _ _ | exact ih1 _ _ _ _ _ _ _ | exact addr_Wire.mono _ _ _ _ | exact LeO.refl _ | exact LeO.none _ | refine LeO.ite ?_ ?_ | refine LeO.bind ?_ (fun _ => ?_)
theorem addr_Reverse.mono : ∀ a0 a1 a2 k, LeO (addr_Reverse.f k a0 a1 a2) (addr_Reverse.f (k + 1) a0 a1 a2) := by
 intro a0 a1 a2 k
 obtain ⟨ih0, ih1⟩ := addr_Reverse.mono_l k
 unfold addr_Reverse.f
 repeat' with_reducible first | exact ih0 _ _ _ _ _ _ | exact ih1 _ _ _ _ _ _ _ | exact addr_Wire.mono _ _ _ _ | exact LeO.refl _ | exact LeO.none _ | refine LeO.ite ?_ ?_ | refine LeO.bind ?_ (fun _ => ?_)
def addr_Reverse.T12 : Bool × List (List Nat × List Nat) := (true, [([], []), ([], []), ([], []), ([1, 2], [1, 2]), ([3], [3]), ([4], [4]), ([5], [5]), ([6], [6]), ([], []), ([], []), ([8, 9], [8, 9]), ([10], [10]), ([11], [11]), ([12, 6], [12]), ([7, 13], [7, 13]), ([14], [14]), ([0, 15], [0, 15]), ([16, 13, 0, 1, 2, 3, 4, 5, 6, 7, 8, 9, 10, 11, 12, 13, 14, 15, 16], [0, 16])])
def addr_Reverse.B12 : List Nat := [0, 0, 0, 6, 14, 30, 62, 126, 0, 0, 768, 1792, 3840, 8062, 16382, 32766, 65535, 131071]
theorem addr_Reverse.tab12 : rtab .any (opsOf Tryz.f47 12) = addr_Reverse.T12 := by kernel_rfl
theorem addr_Reverse.bits12 : waitsOk addr_Reverse.T12.2 addr_Reverse.B12 = true := by kernel_rfl
set_option maxHeartbeats 40000000 in
set_option maxRecDepth 100000 in
theorem addr_Reverse.calls (k : Nat) (a0_0 : Bool) (a0_1 : Int) (a0_2 : Int) (r1 : ByteArray) (r2 : Int) (w : World) (hLD : Laid w) (h : addr_Reverse.f k a0_0 a0_1 a0_2 = some (r1, r2)) :
 Calls Tryz.prog 47 #[.agg #[.bool a0_0, .int .u64 a0_1, .int .u64 a0_2]] w fun e w' => e = .returned (.tuple #[.string r1, .int .i64 r2]) ∧ Below w.heap.size w w' := by
 have hu24 := Tryz.underlying24
 have HLD := Aside0.mk hLD
 clear hLD
 have HB := Aside0.mk (Below.refl w.heap.size w)
 have H : ((addr_Wire.f k a0_0 a0_1 a0_2).bind fun bt182 => (if bt182.2 = 0 then (if a0_0 = true then (addr_Reverse.j0 k bt182.1 (⟨#[]⟩ : ByteArray) (⟨#[105, 112, 54, 46, 97, 114, 112, 97, 46]⟩ : ByteArray) a0_0 a0_1 a0_2) else (addr_Reverse.j0 k bt182.1 (⟨#[]⟩ : ByteArray) (⟨#[105, 110, 45, 97, 100, 100, 114, 46, 97, 114, 112, 97, 46]⟩ : ByteArray) a0_0 a0_1 a0_2)) else (some ((⟨#[]⟩ : ByteArray), bt182.2)))) = some (r1, r2) := h
 clear h
 replace H := Option.bind_eq_some_iff.mp H
 obtain ⟨⟨t182, t183⟩, A20, H⟩ := H
 replace H : (if t183 = 0 then (if a0_0 = true then (addr_Reverse.j0 k t182 (⟨#[]⟩ : ByteArray) (⟨#[105, 112, 54, 46, 97, 114, 112, 97, 46]⟩ : ByteArray) a0_0 a0_1 a0_2) else (addr_Reverse.j0 k t182 (⟨#[]⟩ : ByteArray) (⟨#[105, 110, 45, 97, 100, 100, 114, 46, 97, 114, 112, 97, 46]⟩ : ByteArray) a0_0 a0_1 a0_2)) else (some ((⟨#[]⟩ : ByteArray), t183))) = some (r1, r2) := H
 have A2 := Aside0.mk A20
 clear A20
 by_cases c3 : t183 = 0
 ·
  rw [if_pos c3] at H
  have c3b0 : (t183 == 0) = true := beq_iff_eq.mpr c3
  have c3b1 : (t183 != 0) = false := bne_eq_false_iff_eq.mpr c3
  clear c3
  have HC4 := Aside0.mk H
  clear H
  go_enter Tryz.func47, Tryz.ntmps47
  go_upto_if 18 with (first | ((with_reducible refine gate_dst (N := 1) rfl ?_); refine boxA (N := 1) (cs := #[.bool a0_0, .int .u64 a0_1, .int .u64 a0_2]) (t := 24) ?_; intro gb181 hg w5 hbox hb; have BK181 := Aside0.mk (hbox); have GE181 := (pZ HB hg); replace HB := (pS HB hb); clear hb hbox hg; obtain ⟨hcz6_0, hcz6_1, hcz6_2, hfz6_0, hfz6_1, hfz6_2⟩ := pC3 BK181) | ((with_reducible refine gate_callee (f := 69) rfl ?_); refine goesA (some 11) Tryz.func69 #[.agg #[.bool a0_0, .int .u64 a0_1, .int .u64 a0_2]] ?_; (with_reducible refine (addr_Wire.calls k a0_0 a0_1 a0_2 t182 t183 _ A2.out).mono ?_); rintro e w7 ⟨rfl, hb⟩; refine ⟨_, rfl, ?_⟩; replace BK181 := (pB BK181 hb); replace HB := (pS HB hb); (try clear hb); obtain ⟨hcz8_0, hcz8_1, hcz8_2, hfz8_0, hfz8_1, hfz8_2⟩ := pC3 BK181))
  (try simp only [Act.put, List.setIfInBounds_toArray, List.set_cons_zero, List.set_cons_succ])
  go_cut [7] (fun v7 wc => ∃ (kq : Nat) (x7_3 : ByteArray), v7 = .string x7_3 ∧ Aside0 (addr_Reverse.j0 kq t182 (⟨#[]⟩ : ByteArray) x7_3 a0_0 a0_1 a0_2 = some (r1, r2)) ∧ Aside0 (kq ≤ k) ∧ Aside0 (wc.heap[gb181]? = some (.cells #[.bool a0_0, .int .u64 a0_1, .int .u64 a0_2] 24 (0, 0))) ∧ Aside0 (Below w.heap.size w wc))
  case first =>
   have H := HC4.out
   clear HC4
   by_cases c9 : a0_0 = true
   ·
    subst c9
    have H1 : (addr_Reverse.j0 k t182 (⟨#[]⟩ : ByteArray) (⟨#[105, 112, 54, 46, 97, 114, 112, 97, 46]⟩ : ByteArray) true a0_1 a0_2) = some (r1, r2) := by rw [if_pos rfl] at H; exact H
    clear H
    have H := H1
    clear H1
    have H' := Aside0.mk H
    clear H
    go_wp2
    go_meet
    case rel => exact ⟨_, ((⟨#[105, 112, 54, 46, 97, 114, 112, 97, 46]⟩ : ByteArray)), pT, H', ⟨by first | omega | exact Nat.le_refl _⟩, ⟨pM BK181⟩, ⟨pE HB⟩⟩
   ·
    replace c9 := Bool.eq_false_iff.mpr c9
    subst c9
    rw [if_neg (show ¬ (false = true) by decide)] at H
    have H' := Aside0.mk H
    clear H
    go_wp2
    go_meet
    case rel => exact ⟨_, ((⟨#[105, 110, 45, 97, 100, 100, 114, 46, 97, 114, 112, 97, 46]⟩ : ByteArray)), pT, H', ⟨by first | omega | exact Nat.le_refl _⟩, ⟨pM BK181⟩, ⟨pE HB⟩⟩
  case rest =>
   clear HC4
   try clear c3
   try clear c3b0
   try clear c3b1
   try clear hcz6_0 hcz6_1 hcz6_2
   try clear hcz8_0 hcz8_1 hcz8_2
   try clear hfz6_0 hfz6_1 hfz6_2
   try clear hfz8_0 hfz8_1 hfz8_2
   obtain ⟨kq, x7_3, rfl, HA, HJ3, BK181, HB⟩ := hcut
   cases kq with
   | zero => exact absurd HA.out (by simp [addr_Reverse.j0])
   | succ kj3 =>
    have H := HA.out
    clear HA
    simp only [addr_Reverse.j0] at H
    have H' := Aside0.mk H
    clear H
    go_wp2
    go_loopg [6, 8] kj3 (fun kq v6 v8 w' => ∃ (x6_2 : ByteArray) (x8_2 : Int), v6 = .string x6_2 ∧ v8 = .int .i64 x8_2 ∧ Aside0 (addr_Reverse.l0 kq t182 x6_2 x7_3 x8_2 a0_0 a0_1 a0_2 = some (r1, r2)) ∧ Aside0 (kq ≤ kj3) ∧ Aside0 (w'.heap[gb181]? = some (.cells #[.bool a0_0, .int .u64 a0_1, .int .u64 a0_2] 24 (0, 0))) ∧ Aside0 (Below w.heap.size w w'))
    case atStart => exact ⟨((⟨#[]⟩ : ByteArray)), (wrap64 ((t182.size : Int) - 1)), pT, pT, H', ⟨Nat.le_refl _⟩, ⟨pM BK181⟩, ⟨pE HB⟩⟩
    case round =>
     clear H'
     try clear c3
     try clear c3b0
     try clear c3b1
     try clear hcz6_0 hcz6_1 hcz6_2
     try clear hcz8_0 hcz8_1 hcz8_2
     try clear hfz6_0 hfz6_1 hfz6_2
     try clear hfz8_0 hfz8_1 hfz8_2
     obtain ⟨x6_2, x8_2, rfl, rfl, HA, HK2, BK181, HB⟩ := hrel
     cases gk with
     | zero => exact absurd HA.out (by simp [addr_Reverse.l0])
     | succ k2 =>
      have H := HA.out
      clear HA
      simp only [addr_Reverse.l0] at H
      by_cases c10 : x8_2 ≥ 0
      ·
       rw [if_pos c10] at H
       have c10b0 := decide_eq_true c10
       clear c10
       by_cases c11 : a0_0 = true
       ·
        subst c11
        have H1 : (if 0 ≤ x8_2 then (if x8_2 < (t182.size : Int) then ((strconv_FormatUint.f (IntKind.u64.wrap (Go.bits .and .u8 (bt t182 x8_2) 15)) 16).bind fun t184 => (if t184.size + 1 ≤ 9223372036854775807 then ((strconv_FormatUint.f (IntKind.u64.wrap ((bt t182 x8_2) / 16)) 16).bind fun t185 => (if (t184 ++ (⟨#[46]⟩ : ByteArray)).size + t185.size ≤ 9223372036854775807 then (if ((t184 ++ (⟨#[46]⟩ : ByteArray)) ++ t185).size + 1 ≤ 9223372036854775807 then (if x6_2.size + (((t184 ++ (⟨#[46]⟩ : ByteArray)) ++ t185) ++ (⟨#[46]⟩ : ByteArray)).size ≤ 9223372036854775807 then (addr_Reverse.l0 k2 t182 (x6_2 ++ (((t184 ++ (⟨#[46]⟩ : ByteArray)) ++ t185) ++ (⟨#[46]⟩ : ByteArray))) x7_3 (wrap64 (x8_2 - 1)) true a0_1 a0_2) else (none)) else (none)) else (none))) else (none))) else (none)) else (none)) = some (r1, r2) := by rw [if_pos rfl] at H; exact H
        clear H
        have H := H1
        clear H1
        by_cases c12 : 0 ≤ x8_2
        ·
         rw [if_pos c12] at H
         have c12b0 := decide_eq_true c12
         clear c12
         by_cases c13 : x8_2 < (t182.size : Int)
         ·
          rw [if_pos c13] at H
          have c13b0 := decide_eq_true c13
          clear c13
          replace H := Option.bind_eq_some_iff.mp H
          obtain ⟨t184, A150, H⟩ := H
          have A15 := Aside0.mk A150
          clear A150
          by_cases c16 : t184.size + 1 ≤ 9223372036854775807
          ·
           rw [if_pos c16] at H
           have c16b0 := eq_true c16
           have c16b1 := decide_eq_true c16
           try have c16b2 : (9223372036854775807 < t184.size + 1) = False := eq_false (Nat.not_lt.2 c16)
           replace H := Option.bind_eq_some_iff.mp H
           obtain ⟨t185, A180, H⟩ := H
           have A18 := Aside0.mk A180
           clear A180
           by_cases c19 : (t184 ++ (⟨#[46]⟩ : ByteArray)).size + t185.size ≤ 9223372036854775807
           ·
            rw [if_pos c19] at H
            have c19b0 := eq_true c19
            have c19b1 := decide_eq_true c19
            try have c19b2 : (9223372036854775807 < (t184 ++ (⟨#[46]⟩ : ByteArray)).size + t185.size) = False := eq_false (Nat.not_lt.2 c19)
            try have c19b2z := c19b2
            try simp only [go_sem, List.size_toArray, List.length_cons, List.length_nil, Nat.zero_add, Nat.reduceAdd] at c19b2z
            by_cases c20 : ((t184 ++ (⟨#[46]⟩ : ByteArray)) ++ t185).size + 1 ≤ 9223372036854775807
            ·
             rw [if_pos c20] at H
             have c20b0 := eq_true c20
             have c20b1 := decide_eq_true c20
             try have c20b2 : (9223372036854775807 < ((t184 ++ (⟨#[46]⟩ : ByteArray)) ++ t185).size + 1) = False := eq_false (Nat.not_lt.2 c20)
             try have c20b2z := c20b2
             try simp only [go_sem, List.size_toArray, List.length_cons, List.length_nil, Nat.zero_add, Nat.reduceAdd] at c20b2z
             by_cases c21 : x6_2.size + (((t184 ++ (⟨#[46]⟩ : ByteArray)) ++ t185) ++ (⟨#[46]⟩ : ByteArray)).size ≤ 9223372036854775807
             ·
              rw [if_pos c21] at H
              have c21b0 := eq_true c21
              have c21b1 := decide_eq_true c21
              try have c21b2 : (9223372036854775807 < x6_2.size + (((t184 ++ (⟨#[46]⟩ : ByteArray)) ++ t185) ++ (⟨#[46]⟩ : ByteArray)).size) = False := eq_false (Nat.not_lt.2 c21)
              try have c21b2z := c21b2
              try simp only [go_sem, List.size_toArray, List.length_cons, List.length_nil, Nat.zero_add, Nat.reduceAdd] at c21b2z
              have H' := Aside0.mk H
              clear H
              obtain ⟨hcz22_0, hcz22_1, hcz22_2, hfz22_0, hfz22_1, hfz22_2⟩ := pC3 BK181
              try go_wp2
              replace BK181 := Aside0.mk (blk_drew BK181.out)
              replace HB := Aside0.mk (below_drew1 HB.out)
              have p14 : 0 ≤ (x8_2 : Int) := oD
              have q14 : x8_2 < (t182.size : Int) := oD
              have hx14 := bt_at t182 x8_2
              replace p14 := eq_true p14
              replace q14 := eq_true q14
              have p17 : 0 ≤ (x8_2 : Int) := oD
              have q17 : x8_2 < (t182.size : Int) := oD
              have hx17 := bt_at t182 x8_2
              replace p17 := eq_true p17
              replace q17 := eq_true q17
              refine start_ (n := 18) (S := fun w' => True) (ds := []) (tk 18 0) (by kernel_rfl) rfl rfl trivial (fun hHeld => ?_); refine with_tabW addr_Reverse.tab12 addr_Reverse.bits12 (fun HT_ HW_ => ?_)
              generalize wr.drew = w23 at BK181 HB hHeld ⊢
              refine pureA (i := 0) (some 37) HT_ (tk 18 1) ?_
              refine pureA (i := 1) (some 38) HT_ (tk 18 2) ?_
              refine pureA (i := 2) (some 39) HT_ (tk 18 3) ?_
              refine pureA (i := 8) (some 45) HT_ (tr [3, 5, 1, 9]) ?_
              refine pureA (i := 9) (some 46) HT_ (tr [3, 5, 2, 8]) ?_
              refine takeA (i := 3) (some 40) HT_ HW_ (tr [4, 4, 2, 8]) hHeld ?_
              refine pureA (i := 4) (some 41) HT_ (tr [5, 3, 2, 8]) ?_
              refine pureA (i := 5) (some 42) HT_ (tr [6, 2, 2, 8]) ?_
              refine takeA (i := 10) (some 47) HT_ HW_ (tr [6, 2, 3, 7]) hHeld ?_
              refine pureA (i := 11) (some 48) HT_ (tr [6, 2, 4, 6]) ?_
              refine pureA (i := 12) (some 49) HT_ (tr [6, 2, 5, 5]) ?_
              refine one_ (i := 6) (N := some 43) (tr [7, 1, 5, 5]) rfl rfl (one_of HT_.out (by kernel_rfl)) (by decide) (fun K hK => ?_)
              refine goesR Tryz.func70 #[.int .u64 (IntKind.u64.wrap (Go.bits .and .u8 (bt t182 x8_2) 15)), .int .i64 16] ?_
              with_reducible refine (strconv_FormatUint.calls (IntKind.u64.wrap (Go.bits .and .u8 (bt t182 x8_2) 15)) 16 t184 _ ?side1 A15.out).mono ?_
              (case side1 => exact Laid.below HLD.out (pE HB))
              rintro e w24 ⟨rfl, hb⟩
              refine ⟨_, rfl, ?_⟩
              replace BK181 := (pB BK181 hb)
              replace HB := (pS HB hb)
              (try clear hb)
              refine hK.out _ _ trivial (fun hHeld => ?_)
              clear hK K
              refine normA (N := some 43) ?_
              refine pureA (i := 7) (some 44) HT_ (tk 18 13) ?_
              refine one_ (i := 13) (N := some 50) (tk 18 14) rfl rfl (one_of HT_.out (by kernel_rfl)) (by decide) (fun K hK => ?_)
              refine goesR Tryz.func70 #[.int .u64 (IntKind.u64.wrap ((bt t182 x8_2) / 16)), .int .i64 16] ?_
              with_reducible refine (strconv_FormatUint.calls (IntKind.u64.wrap ((bt t182 x8_2) / 16)) 16 t185 _ ?side1 A18.out).mono ?_
              (case side1 => exact Laid.below HLD.out (pE HB))
              rintro e w25 ⟨rfl, hb⟩
              refine ⟨_, rfl, ?_⟩
              replace BK181 := (pB BK181 hb)
              replace HB := (pS HB hb)
              (try clear hb)
              refine hK.out _ _ trivial (fun hHeld => ?_)
              clear hK K
              refine normA (N := some 50) ?_
              refine pureA (i := 14) (some 51) HT_ (tk 18 15) ?_
              refine pureA (i := 15) (some 52) HT_ (tk 18 16) ?_
              refine pureA (i := 16) (some 53) HT_ (tk 18 17) ?_
              refine pureA (i := 17) (some 6) HT_ (tk 18 18) ?_
              refine done_ (done_of HT_.out (by kernel_rfl)) ?_
              try go_wp2
              go_roundg k2
              case measure => have := HJ3.out; have := HK2.out; omega
              case rel => exact ⟨(x6_2 ++ (((t184 ++ (⟨#[46]⟩ : ByteArray)) ++ t185) ++ (⟨#[46]⟩ : ByteArray))), (wrap64 (x8_2 - 1)), pT, pT, H', ⟨by have := HJ3.out; have := HK2.out; omega⟩, ⟨pM BK181⟩, ⟨pE HB⟩⟩
             ·
              rw [if_neg c21] at H
              exact absurd H (by simp)
            ·
             rw [if_neg c20] at H
             exact absurd H (by simp)
           ·
            rw [if_neg c19] at H
            exact absurd H (by simp)
          ·
           rw [if_neg c16] at H
           exact absurd H (by simp)
         ·
          rw [if_neg c13] at H
          exact absurd H (by simp)
        ·
         rw [if_neg c12] at H
         exact absurd H (by simp)
       ·
        replace c11 := Bool.eq_false_iff.mpr c11
        subst c11
        rw [if_neg (show ¬ (false = true) by decide)] at H
        by_cases c26 : 0 ≤ x8_2
        ·
         rw [if_pos c26] at H
         have c26b0 := decide_eq_true c26
         clear c26
         by_cases c27 : x8_2 < (t182.size : Int)
         ·
          rw [if_pos c27] at H
          have c27b0 := decide_eq_true c27
          clear c27
          replace H := Option.bind_eq_some_iff.mp H
          obtain ⟨t186, A290, H⟩ := H
          have A29 := Aside0.mk A290
          clear A290
          by_cases c30 : t186.size + 1 ≤ 9223372036854775807
          ·
           rw [if_pos c30] at H
           have c30b0 := eq_true c30
           have c30b1 := decide_eq_true c30
           try have c30b2 : (9223372036854775807 < t186.size + 1) = False := eq_false (Nat.not_lt.2 c30)
           by_cases c31 : x6_2.size + (t186 ++ (⟨#[46]⟩ : ByteArray)).size ≤ 9223372036854775807
           ·
            rw [if_pos c31] at H
            have c31b0 := eq_true c31
            have c31b1 := decide_eq_true c31
            try have c31b2 : (9223372036854775807 < x6_2.size + (t186 ++ (⟨#[46]⟩ : ByteArray)).size) = False := eq_false (Nat.not_lt.2 c31)
            try have c31b2z := c31b2
            try simp only [go_sem, List.size_toArray, List.length_cons, List.length_nil, Nat.zero_add, Nat.reduceAdd] at c31b2z
            have H' := Aside0.mk H
            clear H
            obtain ⟨hcz32_0, hcz32_1, hcz32_2, hfz32_0, hfz32_1, hfz32_2⟩ := pC3 BK181
            have p28 : 0 ≤ (x8_2 : Int) := oD
            have q28 : x8_2 < (t182.size : Int) := oD
            have hx28 := bt_at t182 x8_2
            replace p28 := eq_true p28
            replace q28 := eq_true q28
            go_wp2_with (first | ((with_reducible refine gate_callee (f := 39) rfl ?_); refine goesA (some 34) Tryz.func39 #[.int .i64 (wrap64 (bt t182 x8_2))] ?_; (with_reducible refine (strconv_Itoa.calls (wrap64 (bt t182 x8_2)) t186 _ ?side1 A29.out).mono ?_); (case side1 => exact Laid.below HLD.out (pE HB)); rintro e w33 ⟨rfl, hb⟩; refine ⟨_, rfl, ?_⟩; replace BK181 := (pB BK181 hb); replace HB := (pS HB hb); (try clear hb)))
            go_roundg k2
            case measure => have := HJ3.out; have := HK2.out; omega
            case rel => exact ⟨(x6_2 ++ (t186 ++ (⟨#[46]⟩ : ByteArray))), (wrap64 (x8_2 - 1)), pT, pT, H', ⟨by have := HJ3.out; have := HK2.out; omega⟩, ⟨pM BK181⟩, ⟨pE HB⟩⟩
           ·
            rw [if_neg c31] at H
            exact absurd H (by simp)
          ·
           rw [if_neg c30] at H
           exact absurd H (by simp)
         ·
          rw [if_neg c27] at H
          exact absurd H (by simp)
        ·
         rw [if_neg c26] at H
         exact absurd H (by simp)
      ·
       rw [if_neg c10] at H
       have c10b0 := decide_eq_false c10
       clear c10
       by_cases c34 : x6_2.size + x7_3.size ≤ 9223372036854775807
       ·
        rw [if_pos c34] at H
        have c34b0 := eq_true c34
        have c34b1 := decide_eq_true c34
        try have c34b2 : (9223372036854775807 < x6_2.size + x7_3.size) = False := eq_false (Nat.not_lt.2 c34)
        simp only [Option.some.injEq, Prod.mk.injEq] at H
        obtain ⟨rfl, rfl⟩ := H
        go_wp2
        go_ret2
        exact pR (pE HB)
       ·
        rw [if_neg c34] at H
        exact absurd H (by simp)
 ·
  rw [if_neg c3] at H
  have c3b0 : (t183 == 0) = false := beq_eq_false_iff_ne.mpr c3
  have c3b1 : (t183 != 0) = true := bne_iff_ne.mpr c3
  simp only [Option.some.injEq, Prod.mk.injEq] at H
  obtain ⟨rfl, rfl⟩ := H
  go_enter Tryz.func47, Tryz.ntmps47
  go_wp2_with (first | ((with_reducible refine gate_dst (N := 1) rfl ?_); refine boxA (N := 1) (cs := #[.bool a0_0, .int .u64 a0_1, .int .u64 a0_2]) (t := 24) ?_; intro gb181 hg w35 hbox hb; have BK181 := Aside0.mk (hbox); have GE181 := (pZ HB hg); replace HB := (pS HB hb); clear hb hbox hg; obtain ⟨hcz36_0, hcz36_1, hcz36_2, hfz36_0, hfz36_1, hfz36_2⟩ := pC3 BK181) | ((with_reducible refine gate_callee (f := 69) rfl ?_); refine goesA (some 11) Tryz.func69 #[.agg #[.bool a0_0, .int .u64 a0_1, .int .u64 a0_2]] ?_; (with_reducible refine (addr_Wire.calls k a0_0 a0_1 a0_2 t182 t183 _ A2.out).mono ?_); rintro e w37 ⟨rfl, hb⟩; refine ⟨_, rfl, ?_⟩; replace BK181 := (pB BK181 hb); replace HB := (pS HB hb); (try clear hb)))
  go_ret2
  exact pR (pE HB)

/-! ### prefix_Zone: function 18 -/
mutual
def prefix_Zone.j0 : Nat → Int → Bool → Int → Int → Int → Option (ByteArray × Bool)
 | 0, _, _, _, _, _ => none
 | k + 1, x4, x188000, x188001, x188002, x188003 => (prefix_Valid.f x188000 x188001 x188002 x188003).bind fun t188 => (if t188 = true then (if x4 = 0 then (none) else (prefix_Zone.j1 k x4 ((Int.tmod x188003 x4) != 0) x188000 x188001 x188002 x188003)) else (prefix_Zone.j1 k x4 true x188000 x188001 x188002 x188003))
def prefix_Zone.j1 : Nat → Int → Bool → Bool → Int → Int → Int → Option (ByteArray × Bool)
 | 0, _, _, _, _, _, _ => none
 | k + 1, x4, x20, x188000, x188001, x188002, x188003 => if x20 = true then (some ((⟨#[]⟩ : ByteArray), false)) else ((addr_Reverse.f k x188000 x188001 x188002).bind fun bt189 => (if bt189.2 = 0 then (prefix_Zone.l0 k x4 bt189.1 x188003 x188000 x188001 x188002 x188003) else (some ((⟨#[]⟩ : ByteArray), false))))
def prefix_Zone.l0 : Nat → Int → ByteArray → Int → Bool → Int → Int → Int → Option (ByteArray × Bool)
 | 0, _, _, _, _, _, _, _ => none
 | k + 1, x4, x5, x7, x188000, x188001, x188002, x188003 => (prefix_length.f x188000 x188001 x188002).bind fun t191 => (if x7 < t191 then ((strings_Cut.f x5 (⟨#[46]⟩ : ByteArray)).bind fun bt192 => (prefix_Zone.l0 k x4 bt192.2.1 (wrap64 (x7 + x4)) x188000 x188001 x188002 x188003)) else (some (x5, true)))
end
def prefix_Zone.f (k : Nat) (a0_0 : Bool) (a0_1 : Int) (a0_2 : Int) (a0_3 : Int) : Option (ByteArray × Bool) := if a0_0 = true then (prefix_Zone.j0 k 4 a0_0 a0_1 a0_2 a0_3) else (prefix_Zone.j0 k 8 a0_0 a0_1 a0_2 a0_3)
theorem prefix_Zone.mono_l : ∀ k, (∀ y0 y1 y2 y3 y4, LeO (prefix_Zone.j0 k y0 y1 y2 y3 y4) (prefix_Zone.j0 (k + 1) y0 y1 y2 y3 y4)) ∧ (∀ y0 y1 y2 y3 y4 y5, LeO (prefix_Zone.j1 k y0 y1 y2 y3 y4 y5) (prefix_Zone.j1 (k + 1) y0 y1 y2 y3 y4 y5)) ∧ (∀ y0 y1 y2 y3 y4 y5 y6, LeO (prefix_Zone.l0 k y0 y1 y2 y3 y4 y5 y6) (prefix_Zone.l0 (k + 1) y0 y1 y2 y3 y4 y5 y6))
 | 0 => ⟨fun _ _ _ _ _ r h => by simp [prefix_Zone.j0] at h, fun _ _ _ _ _ _ r h => by simp [prefix_Zone.j1] at h, fun _ _ _ _ _ _ _ r h => by simp [prefix_Zone.l0] at h⟩
 | k + 1 => by
  obtain ⟨ih0, ih1, ih2⟩ := prefix_Zone.mono_l k
  refine ⟨?_, ?_, ?_⟩
  ·
   intro y0 y1 y2 y3 y4
   unfold prefix_Zone.j0
   repeat' with_reducible first | exact ih0 _ _ _ _ _ | exact ih1 _ _ _ _ _ _ | exact ih2 _ _ _ _ _ _ _ | exact addr_Reverse.mono _ _ _ _ | exact LeO.refl _ | exact LeO.none _ | refine LeO.ite ?_ ?_ | refine LeO.bind ?_ (fun _ => ?_)
  ·
   intro y0 y1 y2 y3 y4 y5
   unfold prefix_Zone.j1
   repeat' with_reducible first | exact ih0 _ _ _ _ _ | exact ih1 _ _ _ _ _ _ | exact ih2 _ _ _ _ _ _ _ | exact addr_Reverse.mono _ _ _ _ | exact LeO.refl _ | exact LeO.none _ | refine LeO.ite ?_ ?_ | refine LeO.bind ?_ (fun _ => ?_)
  ·
   intro y0 y1 y2 y3 y4 y5 y6
   unfold prefix_Zone.l0
   repeat' with_reducible first | exact ih0 _ _ _ _ _ | exact ih1 _ _ _ _ _ _ | exact ih2 _ _ _ _ _ _ _ | exact addr_Reverse.mono _ _ _ _ | exact LeO.refl _ | exact LeO.none _ | refine LeO.ite ?_ ?_ | refine LeO.bind ?_ (fun _ => ?_)
theorem prefix_Zone.mono : ∀ a0 a1 a2 a3 k, LeO (prefix_Zone.f k a0 a1 a2 a3) (prefix_Zone.f (k + 1) a0 a1 a2 a3) := by
 intro a0 a1 a2 a3 k
 obtain ⟨ih0, ih1, ih2⟩ := prefix_Zone.mono_l k
 unfold prefix_Zone.f
 repeat' with_reducible first | exact ih0 _ _ _ _ _ | exact ih1 _ _ _ _ _ _ | exact ih2 _ _ _ _ _ _ _ | exact addr_Reverse.mono _ _ _ _ | exact LeO.refl _ | exact LeO.none _ | refine LeO.ite ?_ ?_ | refine LeO.bind ?_ (fun _ => ?_)
set_option maxHeartbeats 40000000 in
set_option maxRecDepth 100000 in
theorem prefix_Zone.calls (k : Nat) (a0_0 : Bool) (a0_1 : Int) (a0_2 : Int) (a0_3 : Int) (r1 : ByteArray) (r2 : Bool) (w : World) (hLD : Laid w) (h : prefix_Zone.f k a0_0 a0_1 a0_2 a0_3 = some (r1, r2)) :
 Calls Tryz.prog 18 #[.agg #[.bool a0_0, .int .u64 a0_1, .int .u64 a0_2, .int .i64 a0_3]] w fun e w' => e = .returned (.tuple #[.string r1, .bool r2]) ∧ Below w.heap.size w w' := by
 have hu26 := Tryz.underlying26
 have hu24 := Tryz.underlying24
 have HLD := Aside0.mk hLD
 clear hLD
 have HB := Aside0.mk (Below.refl w.heap.size w)
 have H : (if a0_0 = true then (prefix_Zone.j0 k 4 a0_0 a0_1 a0_2 a0_3) else (prefix_Zone.j0 k 8 a0_0 a0_1 a0_2 a0_3)) = some (r1, r2) := h
 clear h
 have HC2 := Aside0.mk H
 clear H
 go_enter Tryz.func18, Tryz.ntmps18
 go_upto_if 10 with (first | ((with_reducible refine gate_dst (N := 1) rfl ?_); refine boxA (N := 1) (cs := #[.bool a0_0, .int .u64 a0_1, .int .u64 a0_2, .int .i64 a0_3]) (t := 26) ?_; intro gb187 hg w3 hbox hb; have BK187 := Aside0.mk (hbox); have GE187 := (pZ HB hg); replace HB := (pS HB hb); clear hb hbox hg; obtain ⟨hcz4_0, hcz4_1, hcz4_2, hcz4_3, hfz4_0, hfz4_1, hfz4_2, hfz4_3⟩ := pC4 BK187))
 (try simp only [Act.put, List.setIfInBounds_toArray, List.set_cons_zero, List.set_cons_succ])
 go_cut [4] (fun v4 wc => ∃ (kq : Nat) (x4_1 : Int), v4 = .int .i64 x4_1 ∧ Aside0 (prefix_Zone.j0 kq x4_1 a0_0 a0_1 a0_2 a0_3 = some (r1, r2)) ∧ Aside0 (kq ≤ k) ∧ Aside0 (wc.heap[gb187]? = some (.cells #[.bool a0_0, .int .u64 a0_1, .int .u64 a0_2, .int .i64 a0_3] 26 (0, 0))) ∧ Aside0 (Below w.heap.size w wc))
 case first =>
  have H := HC2.out
  clear HC2
  by_cases c5 : a0_0 = true
  ·
   subst c5
   have H1 : (prefix_Zone.j0 k 4 true a0_1 a0_2 a0_3) = some (r1, r2) := by rw [if_pos rfl] at H; exact H
   clear H
   have H := H1
   clear H1
   have H' := Aside0.mk H
   clear H
   go_wp2
   go_meet
   case rel => exact ⟨_, (4), pT, H', ⟨by first | omega | exact Nat.le_refl _⟩, ⟨pM BK187⟩, ⟨pE HB⟩⟩
  ·
   replace c5 := Bool.eq_false_iff.mpr c5
   subst c5
   rw [if_neg (show ¬ (false = true) by decide)] at H
   have H' := Aside0.mk H
   clear H
   go_wp2
   go_meet
   case rel => exact ⟨_, (8), pT, H', ⟨by first | omega | exact Nat.le_refl _⟩, ⟨pM BK187⟩, ⟨pE HB⟩⟩
 case rest =>
  clear HC2
  try clear hcz4_0 hcz4_1 hcz4_2 hcz4_3
  try clear hfz4_0 hfz4_1 hfz4_2 hfz4_3
  obtain ⟨kq, x4_1, rfl, HA, HJ1, BK187, HB⟩ := hcut
  cases kq with
  | zero => exact absurd HA.out (by simp [prefix_Zone.j0])
  | succ kj1 =>
   have H := HA.out
   clear HA
   simp only [prefix_Zone.j0] at H
   have HC6 := Aside0.mk H
   clear H
   go_upto_region 4 with (fail)
   go_cut [20] (fun v20 wc => ∃ (kq : Nat) (x20_5 : Bool), v20 = .bool x20_5 ∧ Aside0 (prefix_Zone.j1 kq x4_1 x20_5 a0_0 a0_1 a0_2 a0_3 = some (r1, r2)) ∧ Aside0 (kq ≤ kj1) ∧ Aside0 (wc.heap[gb187]? = some (.cells #[.bool a0_0, .int .u64 a0_1, .int .u64 a0_2, .int .i64 a0_3] 26 (0, 0))) ∧ Aside0 (Below w.heap.size w wc))
   case first =>
    have H := HC6.out
    clear HC6
    replace H := Option.bind_eq_some_iff.mp H
    obtain ⟨t188, A70, H⟩ := H
    have A7 := Aside0.mk A70
    clear A70
    by_cases c8 : t188 = true
    ·
     subst c8
     have H1 : (if x4_1 = 0 then (none) else (prefix_Zone.j1 kj1 x4_1 ((Int.tmod a0_3 x4_1) != 0) a0_0 a0_1 a0_2 a0_3)) = some (r1, r2) := by rw [if_pos rfl] at H; exact H
     clear H
     have H := H1
     clear H1
     by_cases c9 : x4_1 = 0
     ·
      rw [if_pos c9] at H
      exact absurd H (by simp)
     ·
      rw [if_neg c9] at H
      have c9b0 : (x4_1 == 0) = false := beq_eq_false_iff_ne.mpr c9
      have c9b1 : (x4_1 != 0) = true := bne_iff_ne.mpr c9
      (first | rw [c9b0] | (simp only [i64_w, i32_w]; rw [c9b0]) | skip)
      have H' := Aside0.mk H
      clear H
      obtain ⟨hcz10_0, hcz10_1, hcz10_2, hcz10_3, hfz10_0, hfz10_1, hfz10_2, hfz10_3⟩ := pC4 BK187
      go_wp2_with (first | ((with_reducible refine gate_callee (f := 26) rfl ?_); refine goesA (some 12) Tryz.func26 #[.agg #[.bool a0_0, .int .u64 a0_1, .int .u64 a0_2, .int .i64 a0_3]] ?_; (with_reducible refine (prefix_Valid.calls a0_0 a0_1 a0_2 a0_3 true _ A7.out).mono ?_); rintro e w11 ⟨rfl, hb⟩; refine ⟨_, rfl, ?_⟩; replace BK187 := (pB BK187 hb); replace HB := (pS HB hb); (try clear hb); obtain ⟨hcz12_0, hcz12_1, hcz12_2, hcz12_3, hfz12_0, hfz12_1, hfz12_2, hfz12_3⟩ := pC4 BK187))
      refine Met.intro ?_
      go_step
      (repeat apply Exists.intro)
      refine ⟨?rel, ?heq_⟩
      case heq_ => first | rfl | (rw [c9b0]) | (simp only [c9b0])
      case rel => exact ⟨_, (((Int.tmod a0_3 x4_1) != 0)), pT, H', ⟨by have := HJ1.out; first | omega | exact Nat.le_refl _⟩, ⟨pM BK187⟩, ⟨pE HB⟩⟩
    ·
     replace c8 := Bool.eq_false_iff.mpr c8
     subst c8
     rw [if_neg (show ¬ (false = true) by decide)] at H
     have H' := Aside0.mk H
     clear H
     obtain ⟨hcz13_0, hcz13_1, hcz13_2, hcz13_3, hfz13_0, hfz13_1, hfz13_2, hfz13_3⟩ := pC4 BK187
     go_wp2_with (first | ((with_reducible refine gate_callee (f := 26) rfl ?_); refine goesA (some 12) Tryz.func26 #[.agg #[.bool a0_0, .int .u64 a0_1, .int .u64 a0_2, .int .i64 a0_3]] ?_; (with_reducible refine (prefix_Valid.calls a0_0 a0_1 a0_2 a0_3 false _ A7.out).mono ?_); rintro e w14 ⟨rfl, hb⟩; refine ⟨_, rfl, ?_⟩; replace BK187 := (pB BK187 hb); replace HB := (pS HB hb); (try clear hb)))
     go_meet
     case rel => exact ⟨_, (true), pT, H', ⟨by have := HJ1.out; first | omega | exact Nat.le_refl _⟩, ⟨pM BK187⟩, ⟨pE HB⟩⟩
   case rest =>
    clear HC6
    try clear hcz4_0 hcz4_1 hcz4_2 hcz4_3
    try clear hfz4_0 hfz4_1 hfz4_2 hfz4_3
    obtain ⟨kq, x20_5, rfl, HA, HJ5, BK187, HB⟩ := hcut
    cases kq with
    | zero => exact absurd HA.out (by simp [prefix_Zone.j1])
    | succ kj5 =>
     have H := HA.out
     clear HA
     simp only [prefix_Zone.j1] at H
     by_cases c15 : x20_5 = true
     ·
      subst c15
      have H1 : (some ((⟨#[]⟩ : ByteArray), false)) = some (r1, r2) := by rw [if_pos rfl] at H; exact H
      clear H
      have H := H1
      clear H1
      simp only [Option.some.injEq, Prod.mk.injEq] at H
      obtain ⟨rfl, rfl⟩ := H
      go_wp2
      go_ret2
      exact pR (pE HB)
     ·
      replace c15 := Bool.eq_false_iff.mpr c15
      subst c15
      rw [if_neg (show ¬ (false = true) by decide)] at H
      replace H := Option.bind_eq_some_iff.mp H
      obtain ⟨⟨t189, t190⟩, A160, H⟩ := H
      replace H : (if t190 = 0 then (prefix_Zone.l0 kj5 x4_1 t189 a0_3 a0_0 a0_1 a0_2 a0_3) else (some ((⟨#[]⟩ : ByteArray), false))) = some (r1, r2) := H
      have A16 := Aside0.mk A160
      clear A160
      by_cases c17 : t190 = 0
      ·
       rw [if_pos c17] at H
       have c17b0 : (t190 == 0) = true := beq_iff_eq.mpr c17
       have c17b1 : (t190 != 0) = false := bne_eq_false_iff_eq.mpr c17
       clear c17
       have H' := Aside0.mk H
       clear H
       obtain ⟨hcz18_0, hcz18_1, hcz18_2, hcz18_3, hfz18_0, hfz18_1, hfz18_2, hfz18_3⟩ := pC4 BK187
       go_wp2_with (first | ((with_reducible refine gate_callee (f := 47) rfl ?_); refine goesA (some 24) Tryz.func47 #[.agg #[.bool a0_0, .int .u64 a0_1, .int .u64 a0_2]] ?_; (with_reducible refine (addr_Reverse.calls kj5 a0_0 a0_1 a0_2 t189 t190 _ ?side1 A16.out).mono ?_); (case side1 => exact Laid.below HLD.out (pE HB)); rintro e w19 ⟨rfl, hb⟩; refine ⟨_, rfl, ?_⟩; replace BK187 := (pB BK187 hb); replace HB := (pS HB hb); (try clear hb); obtain ⟨hcz20_0, hcz20_1, hcz20_2, hcz20_3, hfz20_0, hfz20_1, hfz20_2, hfz20_3⟩ := pC4 BK187))
       go_loopg [5, 7] kj5 (fun kq v5 v7 w' => ∃ (x5_3 : ByteArray) (x7_3 : Int), v5 = .string x5_3 ∧ v7 = .int .i64 x7_3 ∧ Aside0 (prefix_Zone.l0 kq x4_1 x5_3 x7_3 a0_0 a0_1 a0_2 a0_3 = some (r1, r2)) ∧ Aside0 (kq ≤ kj5) ∧ Aside0 (w'.heap[gb187]? = some (.cells #[.bool a0_0, .int .u64 a0_1, .int .u64 a0_2, .int .i64 a0_3] 26 (0, 0))) ∧ Aside0 (Below w.heap.size w w'))
       case atStart => exact ⟨(t189), (a0_3), pT, pT, H', ⟨Nat.le_refl _⟩, ⟨pM BK187⟩, ⟨pE HB⟩⟩
       case round =>
        clear H'
        try clear c15
        try clear c17
        try clear c17b0
        try clear c17b1
        try clear hcz18_0 hcz18_1 hcz18_2 hcz18_3
        try clear hcz20_0 hcz20_1 hcz20_2 hcz20_3
        try clear hcz4_0 hcz4_1 hcz4_2 hcz4_3
        try clear hfz18_0 hfz18_1 hfz18_2 hfz18_3
        try clear hfz20_0 hfz20_1 hfz20_2 hfz20_3
        try clear hfz4_0 hfz4_1 hfz4_2 hfz4_3
        obtain ⟨x5_3, x7_3, rfl, rfl, HA, HK3, BK187, HB⟩ := hrel
        cases gk with
        | zero => exact absurd HA.out (by simp [prefix_Zone.l0])
        | succ k3 =>
         have H := HA.out
         clear HA
         simp only [prefix_Zone.l0] at H
         replace H := Option.bind_eq_some_iff.mp H
         obtain ⟨t191, A210, H⟩ := H
         have A21 := Aside0.mk A210
         clear A210
         by_cases c22 : x7_3 < t191
         ·
          rw [if_pos c22] at H
          have c22b0 := decide_eq_true c22
          clear c22
          replace H := Option.bind_eq_some_iff.mp H
          obtain ⟨⟨t192, t193, t194⟩, A230, H⟩ := H
          replace H : (prefix_Zone.l0 k3 x4_1 t193 (wrap64 (x7_3 + x4_1)) a0_0 a0_1 a0_2 a0_3) = some (r1, r2) := H
          have A23 := Aside0.mk A230
          clear A230
          have H' := Aside0.mk H
          clear H
          obtain ⟨hcz24_0, hcz24_1, hcz24_2, hcz24_3, hfz24_0, hfz24_1, hfz24_2, hfz24_3⟩ := pC4 BK187
          go_wp2_with (first | ((with_reducible refine gate_callee (f := 46) rfl ?_); refine goesA (some 34) Tryz.func46 #[.agg #[.bool a0_0, .int .u64 a0_1, .int .u64 a0_2]] ?_; (with_reducible refine (prefix_length.calls a0_0 a0_1 a0_2 t191 _ A21.out).mono ?_); rintro e w25 ⟨rfl, hb⟩; refine ⟨_, rfl, ?_⟩; replace BK187 := (pB BK187 hb); replace HB := (pS HB hb); (try clear hb)) | ((with_reducible refine gate_callee (f := 36) rfl ?_); refine goesA (some 41) Tryz.func36 #[.string x5_3, .string (⟨#[46]⟩ : ByteArray)] ?_; (with_reducible refine (strings_Cut.calls x5_3 (⟨#[46]⟩ : ByteArray) t192 t193 t194 _ ?side1 A23.out).mono ?_); (case side1 => exact Laid.below HLD.out (pE HB)); rintro e w' ⟨rfl, ⟨nd, rfl⟩⟩; refine ⟨_, rfl, ?_⟩))
          go_roundg k3
          case measure => have := HJ1.out; have := HJ5.out; have := HK3.out; omega
          case rel => exact ⟨(t193), (wrap64 (x7_3 + x4_1)), pT, pT, H', ⟨by have := HJ1.out; have := HJ5.out; have := HK3.out; omega⟩, ⟨pM BK187⟩, ⟨pE HB⟩⟩
         ·
          rw [if_neg c22] at H
          have c22b0 := decide_eq_false c22
          clear c22
          simp only [Option.some.injEq, Prod.mk.injEq] at H
          obtain ⟨rfl, rfl⟩ := H
          obtain ⟨hcz26_0, hcz26_1, hcz26_2, hcz26_3, hfz26_0, hfz26_1, hfz26_2, hfz26_3⟩ := pC4 BK187
          go_wp2_with (first | ((with_reducible refine gate_callee (f := 46) rfl ?_); refine goesA (some 34) Tryz.func46 #[.agg #[.bool a0_0, .int .u64 a0_1, .int .u64 a0_2]] ?_; (with_reducible refine (prefix_length.calls a0_0 a0_1 a0_2 t191 _ A21.out).mono ?_); rintro e w27 ⟨rfl, hb⟩; refine ⟨_, rfl, ?_⟩; replace BK187 := (pB BK187 hb); replace HB := (pS HB hb); (try clear hb)))
          go_ret2
          exact pR (pE HB)
      ·
       rw [if_neg c17] at H
       have c17b0 : (t190 == 0) = false := beq_eq_false_iff_ne.mpr c17
       have c17b1 : (t190 != 0) = true := bne_iff_ne.mpr c17
       simp only [Option.some.injEq, Prod.mk.injEq] at H
       obtain ⟨rfl, rfl⟩ := H
       obtain ⟨hcz28_0, hcz28_1, hcz28_2, hcz28_3, hfz28_0, hfz28_1, hfz28_2, hfz28_3⟩ := pC4 BK187
       go_wp2_with (first | ((with_reducible refine gate_callee (f := 47) rfl ?_); refine goesA (some 24) Tryz.func47 #[.agg #[.bool a0_0, .int .u64 a0_1, .int .u64 a0_2]] ?_; (with_reducible refine (addr_Reverse.calls kj5 a0_0 a0_1 a0_2 t189 t190 _ ?side1 A16.out).mono ?_); (case side1 => exact Laid.below HLD.out (pE HB)); rintro e w29 ⟨rfl, hb⟩; refine ⟨_, rfl, ?_⟩; replace BK187 := (pB BK187 hb); replace HB := (pS HB hb); (try clear hb)))
       go_ret2
       exact pR (pE HB)

/-! ### prefix_Bounds: function 10 -/
def prefix_Bounds.f (a0_0 : Bool) (a0_1 : Int) (a0_2 : Int) (a0_3 : Int) : Option (Bool × Int × Int × Bool × Int × Int × Bool) := (prefix_Valid.f a0_0 a0_1 a0_2 a0_3).bind fun t197 => (if t197 = true then ((prefix_later.f a0_0 a0_3).bind fun bt198 => (some (a0_0, a0_1, a0_2, a0_0, Go.bits .or .u64 a0_1 bt198.1, Go.bits .or .u64 a0_2 bt198.2, true))) else (some (false, 0, 0, false, 0, 0, false)))
set_option maxHeartbeats 40000000 in
set_option maxRecDepth 100000 in
theorem prefix_Bounds.calls (a0_0 : Bool) (a0_1 : Int) (a0_2 : Int) (a0_3 : Int) (r1 : Bool) (r2 : Int) (r3 : Int) (r4 : Bool) (r5 : Int) (r6 : Int) (r7 : Bool) (w : World) (h : prefix_Bounds.f a0_0 a0_1 a0_2 a0_3 = some (r1, r2, r3, r4, r5, r6, r7)) :
 Calls Tryz.prog 10 #[.agg #[.bool a0_0, .int .u64 a0_1, .int .u64 a0_2, .int .i64 a0_3]] w fun e w' => e = .returned (.tuple #[.agg #[.bool r1, .int .u64 r2, .int .u64 r3, .bool r4, .int .u64 r5, .int .u64 r6], .bool r7]) ∧ Below w.heap.size w w' := by
 have hbl10 : Tryz.prog.built 33 [] = some #[(.bool false), (.int .u64 0), (.int .u64 0), (.bool false), (.int .u64 0), (.int .u64 0)] := by kernel_rfl
 have hbl35 : ∀ (x1_ : Bool) (x2_ : Int) (x3_ : Int) (x4_ : Bool) (x5_ : Int) (x6_ : Int), Tryz.prog.built 33 [(0, (.agg #[(.bool x1_), (.int .u64 x2_), (.int .u64 x3_)])), (1, (.agg #[(.bool x4_), (.int .u64 x5_), (.int .u64 x6_)]))] = some #[(.bool x1_), (.int .u64 x2_), (.int .u64 x3_), (.bool x4_), (.int .u64 x5_), (.int .u64 x6_)] := by intros; kernel_rfl
 have hu26 := Tryz.underlying26
 have hu33 := Tryz.underlying33
 have hu24 := Tryz.underlying24
 have HB := Aside0.mk (Below.refl w.heap.size w)
 have H : ((prefix_Valid.f a0_0 a0_1 a0_2 a0_3).bind fun t197 => (if t197 = true then ((prefix_later.f a0_0 a0_3).bind fun bt198 => (some (a0_0, a0_1, a0_2, a0_0, Go.bits .or .u64 a0_1 bt198.1, Go.bits .or .u64 a0_2 bt198.2, true))) else (some (false, 0, 0, false, 0, 0, false)))) = some (r1, r2, r3, r4, r5, r6, r7) := h
 clear h
 replace H := Option.bind_eq_some_iff.mp H
 obtain ⟨t197, A20, H⟩ := H
 have A2 := Aside0.mk A20
 clear A20
 by_cases c3 : t197 = true
 ·
  subst c3
  have H1 : ((prefix_later.f a0_0 a0_3).bind fun bt198 => (some (a0_0, a0_1, a0_2, a0_0, Go.bits .or .u64 a0_1 bt198.1, Go.bits .or .u64 a0_2 bt198.2, true))) = some (r1, r2, r3, r4, r5, r6, r7) := by rw [if_pos rfl] at H; exact H
  clear H
  have H := H1
  clear H1
  replace H := Option.bind_eq_some_iff.mp H
  obtain ⟨⟨t198, t199⟩, A40, H⟩ := H
  replace H : (some (a0_0, a0_1, a0_2, a0_0, Go.bits .or .u64 a0_1 t198, Go.bits .or .u64 a0_2 t199, true)) = some (r1, r2, r3, r4, r5, r6, r7) := H
  have A4 := Aside0.mk A40
  clear A40
  simp only [Option.some.injEq, Prod.mk.injEq] at H
  obtain ⟨rfl, rfl, rfl, rfl, rfl, rfl, rfl⟩ := H
  go_enter Tryz.func10, Tryz.ntmps10
  go_wp2_with (first | ((with_reducible refine gate_dst (N := 10) rfl ?_); refine Ext.wpList_buildC ?hgd 33 _ ?ho ?hb ?_; (case hgd => rfl); (case ho => rfl); (case hb => ((try go_simp); exact hbl10))) | ((with_reducible refine gate_dst (N := 35) rfl ?_); refine Ext.wpList_buildC ?hgd 33 _ ?ho ?hb ?_; (case hgd => rfl); (case ho => rfl); (case hb => ((try go_simp); exact hbl35 _ _ _ _ _ _))) | ((with_reducible refine gate_dst (N := 1) rfl ?_); refine boxA (N := 1) (cs := #[.bool a0_0, .int .u64 a0_1, .int .u64 a0_2, .int .i64 a0_3]) (t := 26) ?_; intro gb195 hg w5 hbox hb; have BK195 := Aside0.mk (hbox); have GE195 := (pZ HB hg); replace HB := (pS HB hb); clear hb hbox hg) | ((with_reducible refine gate_dst (N := 2) rfl ?_); refine boxA (N := 2) (cs := #[.bool false, .int .u64 0, .int .u64 0, .bool false, .int .u64 0, .int .u64 0]) (t := 33) ?_; intro gb196 hg w6 hbox hb; have BK196 := Aside0.mk (hbox); have GE196 := (pZ HB hg); have NB195_196 := (pL BK195 hg); have NB196_195 := (pG BK195 hg); replace BK195 := (pB BK195 hb); replace HB := (pS HB hb); clear hb hbox hg; have hnb7 := NB195_196.out; have hnc7 := NB196_195.out; obtain ⟨hcz8_0, hcz8_1, hcz8_2, hcz8_3, hfz8_0, hfz8_1, hfz8_2, hfz8_3⟩ := pC4 BK195) | ((with_reducible refine gate_callee (f := 26) rfl ?_); refine goesA (some 8) Tryz.func26 #[.agg #[.bool a0_0, .int .u64 a0_1, .int .u64 a0_2, .int .i64 a0_3]] ?_; (with_reducible refine (prefix_Valid.calls a0_0 a0_1 a0_2 a0_3 true _ A2.out).mono ?_); rintro e w9 ⟨rfl, hb⟩; refine ⟨_, rfl, ?_⟩; replace BK195 := (pB BK195 hb); replace BK196 := (pB BK196 hb); replace HB := (pS HB hb); (try clear hb); obtain ⟨hcz10_0, hcz10_1, hcz10_2, hcz10_3, hfz10_0, hfz10_1, hfz10_2, hfz10_3⟩ := pC4 BK195) | ((with_reducible refine gate_callee (f := 43) rfl ?_); refine goesA (some 17) Tryz.func43 #[.bool a0_0, .int .i64 a0_3] ?_; (with_reducible refine (prefix_later.calls a0_0 a0_3 t198 t199 _ A4.out).mono ?_); rintro e w' ⟨rfl, ⟨nd, rfl⟩⟩; refine ⟨_, rfl, ?_⟩; (try (rw [drewN_self w9]; generalize hq_ : World.drewN w9 _ = w9; replace BK195 : Aside0 (w9.heap[gb195]? = some (.cells #[.bool a0_0, .int .u64 a0_1, .int .u64 a0_2, .int .i64 a0_3] 26 (0, 0))) := ⟨by rw [← hq_]; exact (pM BK195)⟩; replace BK196 : Aside0 (w9.heap[gb196]? = some (.cells #[.bool false, .int .u64 0, .int .u64 0, .bool false, .int .u64 0, .int .u64 0] 33 (0, 0))) := ⟨by rw [← hq_]; exact (pM BK196)⟩; replace HB : Aside0 (Below w.heap.size w w9) := ⟨by rw [← hq_]; exact (by repeat (first | (with_reducible first | exact HB.out | apply below_alloc | apply pw_below_drewN | apply below_drew1 | refine below_set ?_ GE195.out | refine below_set ?_ GE196.out) | exact HB.out))⟩; clear hq_)); obtain ⟨hcz11_0, hcz11_1, hcz11_2, hcz11_3, hfz11_0, hfz11_1, hfz11_2, hfz11_3⟩ := pC4 BK195) | ((with_reducible refine gate_dst (N := 6) rfl ?_); refine boxA (N := 6) (cs := #[.bool false, .int .u64 0, .int .u64 0]) (t := 24) ?_; intro gb200 hg w12 hbox hb; have BK200 := Aside0.mk (hbox); have GE200 := (pZ HB hg); have NB195_200 := (pL BK195 hg); have NB200_195 := (pG BK195 hg); have NB196_200 := (pL BK196 hg); have NB200_196 := (pG BK196 hg); replace BK195 := (pB BK195 hb); replace BK196 := (pB BK196 hb); replace HB := (pS HB hb); clear hb hbox hg; have hnb13 := NB200_195.out; have hnc13 := NB195_200.out; have hnb14 := NB200_196.out; have hnc14 := NB196_200.out; obtain ⟨hcz15_0, hcz15_1, hcz15_2, hfz15_0, hfz15_1, hfz15_2⟩ := pC3 BK200; obtain ⟨hcz16_0, hcz16_1, hcz16_2, hcz16_3, hfz16_0, hfz16_1, hfz16_2, hfz16_3⟩ := pC4 BK195; obtain ⟨hcz17_0, hcz17_1, hcz17_2, hcz17_3, hcz17_4, hcz17_5, hfz17_0, hfz17_1, hfz17_2, hfz17_3, hfz17_4, hfz17_5⟩ := pC6 BK196) | ((with_reducible refine gate_store (t := 33) (p := 2) rfl ?_); refine store_event (t := 33) (p := 2) (v := ?vo_w18) (w1 := (((((((((((w12.setCell ⟨gb200, 0, none⟩ (.bool a0_0)).setCell ⟨gb200, 1, none⟩ (.int .u64 a0_1)).setCell ⟨gb200, 2, none⟩ (.int .u64 a0_2)).setCell ⟨gb200, 1, none⟩ (.int .u64 (Go.bits .or .u64 a0_1 t198))).setCell ⟨gb200, 2, none⟩ (.int .u64 (Go.bits .or .u64 a0_2 t199))).setCell ⟨gb196, 0, none⟩ (.bool a0_0)).setCell ⟨gb196, 1, none⟩ (.int .u64 a0_1)).setCell ⟨gb196, 2, none⟩ (.int .u64 a0_2)).setCell ⟨gb196, 3, none⟩ (.bool a0_0)).setCell ⟨gb196, 4, none⟩ (.int .u64 (Go.bits .or .u64 a0_1 t198))).setCell ⟨gb196, 5, none⟩ (.int .u64 (Go.bits .or .u64 a0_2 t199)))) ?hg ?ho ?hn ?hr ?_; (case ho => rfl); (case hg => rfl); (case hn => rfl); (case hr => first | (exact Ext.run_store_chain 33 _ _ rfl _ _ _ _ rfl rfl (pK NB196_200 (pK NB196_200 (pK NB196_200 (pK NB196_200 (pK NB196_200 (pM BK196)))))) (by kernel_rfl) rfl rfl rfl) | (go_simp; done) | (go_simp; rfl)); intro w18 hw; replace BK195 : Aside0 (w18.heap[gb195]? = some (.cells #[.bool a0_0, .int .u64 a0_1, .int .u64 a0_2, .int .i64 a0_3] 26 (0, 0))) := (pW hw (pK NB195_196 (pK NB195_196 (pK NB195_196 (pK NB195_196 (pK NB195_196 (pK NB195_196 (pK NB195_200 (pK NB195_200 (pK NB195_200 (pK NB195_200 (pK NB195_200 (pM BK195))))))))))))); replace BK196 : Aside0 (w18.heap[gb196]? = some (.cells #[.bool a0_0, .int .u64 a0_1, .int .u64 a0_2, .bool a0_0, .int .u64 (Go.bits .or .u64 a0_1 t198), .int .u64 (Go.bits .or .u64 a0_2 t199)] 33 (0, 0))) := (pW hw (pP (pP (pP (pP (pP (pP (pK NB196_200 (pK NB196_200 (pK NB196_200 (pK NB196_200 (pK NB196_200 (pM BK196))))))))))))); replace BK200 : Aside0 (w18.heap[gb200]? = some (.cells #[.bool a0_0, .int .u64 (Go.bits .or .u64 a0_1 t198), .int .u64 (Go.bits .or .u64 a0_2 t199)] 24 (0, 0))) := (pW hw (pK NB200_196 (pK NB200_196 (pK NB200_196 (pK NB200_196 (pK NB200_196 (pK NB200_196 (pP (pP (pP (pP (pP (pM BK200))))))))))))); replace HB : Aside0 (Below w.heap.size w w18) := ⟨(by rw [hw]; exact (by repeat (first | (with_reducible first | exact HB.out | apply below_alloc | apply pw_below_drewN | apply below_drew1 | refine below_set ?_ GE195.out | refine below_set ?_ GE196.out | refine below_set ?_ GE200.out) | exact HB.out)))⟩; clear hw))
  refine bodyPost_ret (results_ct rfl _ _ gb196 33 #[.bool a0_0, .int .u64 a0_1, .int .u64 a0_2, .bool a0_0, .int .u64 (Go.bits .or .u64 a0_1 t198), .int .u64 (Go.bits .or .u64 a0_2 t199)] (0, 0) _ rfl (pM BK196) Tryz.underlying33 rfl (by kernel_rfl)) rfl ?_
  exact pR (pE HB)
 ·
  replace c3 := Bool.eq_false_iff.mpr c3
  subst c3
  rw [if_neg (show ¬ (false = true) by decide)] at H
  simp only [Option.some.injEq, Prod.mk.injEq] at H
  obtain ⟨rfl, rfl, rfl, rfl, rfl, rfl, rfl⟩ := H
  go_enter Tryz.func10, Tryz.ntmps10
  go_wp2_with (first | ((with_reducible refine gate_dst (N := 10) rfl ?_); refine Ext.wpList_buildC ?hgd 33 _ ?ho ?hb ?_; (case hgd => rfl); (case ho => rfl); (case hb => ((try go_simp); exact hbl10))) | ((with_reducible refine gate_dst (N := 35) rfl ?_); refine Ext.wpList_buildC ?hgd 33 _ ?ho ?hb ?_; (case hgd => rfl); (case ho => rfl); (case hb => ((try go_simp); exact hbl35 _ _ _ _ _ _))) | ((with_reducible refine gate_dst (N := 1) rfl ?_); refine boxA (N := 1) (cs := #[.bool a0_0, .int .u64 a0_1, .int .u64 a0_2, .int .i64 a0_3]) (t := 26) ?_; intro gb195 hg w19 hbox hb; have BK195 := Aside0.mk (hbox); have GE195 := (pZ HB hg); replace HB := (pS HB hb); clear hb hbox hg) | ((with_reducible refine gate_dst (N := 2) rfl ?_); refine boxA (N := 2) (cs := #[.bool false, .int .u64 0, .int .u64 0, .bool false, .int .u64 0, .int .u64 0]) (t := 33) ?_; intro gb196 hg w20 hbox hb; have BK196 := Aside0.mk (hbox); have GE196 := (pZ HB hg); have NB195_196 := (pL BK195 hg); have NB196_195 := (pG BK195 hg); replace BK195 := (pB BK195 hb); replace HB := (pS HB hb); clear hb hbox hg; have hnb21 := NB195_196.out; have hnc21 := NB196_195.out; obtain ⟨hcz22_0, hcz22_1, hcz22_2, hcz22_3, hfz22_0, hfz22_1, hfz22_2, hfz22_3⟩ := pC4 BK195) | ((with_reducible refine gate_callee (f := 26) rfl ?_); refine goesA (some 8) Tryz.func26 #[.agg #[.bool a0_0, .int .u64 a0_1, .int .u64 a0_2, .int .i64 a0_3]] ?_; (with_reducible refine (prefix_Valid.calls a0_0 a0_1 a0_2 a0_3 false _ A2.out).mono ?_); rintro e w23 ⟨rfl, hb⟩; refine ⟨_, rfl, ?_⟩; replace BK195 := (pB BK195 hb); replace BK196 := (pB BK196 hb); replace HB := (pS HB hb); (try clear hb); obtain ⟨hcz24_0, hcz24_1, hcz24_2, hcz24_3, hcz24_4, hcz24_5, hfz24_0, hfz24_1, hfz24_2, hfz24_3, hfz24_4, hfz24_5⟩ := pC6 BK196) | ((with_reducible refine gate_store (t := 33) (p := 2) rfl ?_); refine store_event (t := 33) (p := 2) (v := ?vo_w25) (w1 := ((((((w23.setCell ⟨gb196, 0, none⟩ (.bool false)).setCell ⟨gb196, 1, none⟩ (.int .u64 0)).setCell ⟨gb196, 2, none⟩ (.int .u64 0)).setCell ⟨gb196, 3, none⟩ (.bool false)).setCell ⟨gb196, 4, none⟩ (.int .u64 0)).setCell ⟨gb196, 5, none⟩ (.int .u64 0))) ?hg ?ho ?hn ?hr ?_; (case ho => rfl); (case hg => rfl); (case hn => rfl); (case hr => first | (exact Ext.run_store_chain 33 _ _ rfl _ _ _ _ rfl rfl (pM BK196) (by kernel_rfl) rfl rfl rfl) | (go_simp; done) | (go_simp; rfl)); intro w25 hw; replace BK195 : Aside0 (w25.heap[gb195]? = some (.cells #[.bool a0_0, .int .u64 a0_1, .int .u64 a0_2, .int .i64 a0_3] 26 (0, 0))) := (pW hw (pK NB195_196 (pK NB195_196 (pK NB195_196 (pK NB195_196 (pK NB195_196 (pK NB195_196 (pM BK195)))))))); replace BK196 : Aside0 (w25.heap[gb196]? = some (.cells #[.bool false, .int .u64 0, .int .u64 0, .bool false, .int .u64 0, .int .u64 0] 33 (0, 0))) := (pW hw (pP (pP (pP (pP (pP (pP (pM BK196)))))))); replace HB : Aside0 (Below w.heap.size w w25) := ⟨(by rw [hw]; exact (by repeat (first | (with_reducible first | exact HB.out | apply below_alloc | apply pw_below_drewN | apply below_drew1 | refine below_set ?_ GE195.out | refine below_set ?_ GE196.out) | exact HB.out)))⟩; clear hw))
  refine bodyPost_ret (results_ct rfl _ _ gb196 33 #[.bool false, .int .u64 0, .int .u64 0, .bool false, .int .u64 0, .int .u64 0] (0, 0) _ rfl (pM BK196) Tryz.underlying33 rfl (by kernel_rfl)) rfl ?_
  exact pR (pE HB)

/-! ### addr_number: function 74 -/
def addr_number.f (a0 : Int) (a1 : Int) : Option (Int) := if a0 < a1 then (some (-1)) else (if a0 > a1 then (some 1) else (some 0))
set_option maxHeartbeats 40000000 in
set_option maxRecDepth 100000 in
theorem addr_number.calls (a0 : Int) (a1 : Int) (r : Int) (w : World) (h : addr_number.f a0 a1 = some r) :
 Calls Tryz.prog 74 #[.int .u64 a0, .int .u64 a1] w fun e w' => e = .returned (.int .i64 r) ∧ Drawn0 w w' := by
 have H : (if a0 < a1 then (some (-1)) else (if a0 > a1 then (some 1) else (some 0))) = some r := h
 clear h
 by_cases c3 : a0 < a1
 ·
  rw [if_pos c3] at H
  have c3b0 := decide_eq_true c3
  clear c3
  obtain rfl := Option.some.inj H
  go_enter Tryz.func74, Tryz.ntmps74
  go_wp2
  go_ret
  exact pV
 ·
  rw [if_neg c3] at H
  have c3b0 := decide_eq_false c3
  clear c3
  by_cases c4 : a0 > a1
  ·
   rw [if_pos c4] at H
   have c4b0 := decide_eq_true c4
   clear c4
   obtain rfl := Option.some.inj H
   go_enter Tryz.func74, Tryz.ntmps74
   go_wp2
   go_ret
   exact pV
  ·
   rw [if_neg c4] at H
   have c4b0 := decide_eq_false c4
   clear c4
   obtain rfl := Option.some.inj H
   go_enter Tryz.func74, Tryz.ntmps74
   go_wp2
   go_ret
   exact pV

/-! ### addr_Compare: function 51 -/
def addr_Compare.j0 : Nat → Bool → Bool → Int → Int → Bool → Int → Int → Option (Int)
 | 0, _, _, _, _, _, _, _ => none
 | k + 1, x5, x202000, x202001, x202002, x203000, x203001, x203002 => if x5 = true then (some (-1)) else (if (x202000 != x203000) = true then (some 1) else (if x202001 = x203001 then ((addr_number.f x202002 x203002).bind fun t203 => (some t203)) else ((addr_number.f x202001 x203001).bind fun t204 => (some t204))))
def addr_Compare.f (k : Nat) (a0_0 : Bool) (a0_1 : Int) (a0_2 : Int) (a1_0 : Bool) (a1_1 : Int) (a1_2 : Int) : Option (Int) := if (a0_0 != a1_0) = true then (addr_Compare.j0 k a1_0 a0_0 a0_1 a0_2 a1_0 a1_1 a1_2) else (addr_Compare.j0 k false a0_0 a0_1 a0_2 a1_0 a1_1 a1_2)
theorem addr_Compare.mono_l : ∀ k, (∀ y0 y1 y2 y3 y4 y5 y6, LeO (addr_Compare.j0 k y0 y1 y2 y3 y4 y5 y6) (addr_Compare.j0 (k + 1) y0 y1 y2 y3 y4 y5 y6))
 | 0 => fun _ _ _ _ _ _ _ r h => by simp [addr_Compare.j0] at h
 | k + 1 => by
  have ih0 := addr_Compare.mono_l k
  ·
   intro y0 y1 y2 y3 y4 y5 y6
   unfold addr_Compare.j0
   repeat' with_reducible first | exact ih0 _ _ _ _ _ _ _ | exact LeO.refl _ | exact LeO.none _ | refine LeO.ite ?_ ?_ | refine LeO.bind ?_ (fun _ => ?_)
theorem addr_Compare.mono : ∀ a0 a1 a2 a3 a4 a5 k, LeO (addr_Compare.f k a0 a1 a2 a3 a4 a5) (addr_Compare.f (k + 1) a0 a1 a2 a3 a4 a5) := by
 intro a0 a1 a2 a3 a4 a5 k
 have ih0 := addr_Compare.mono_l k
 unfold addr_Compare.f
 repeat' with_reducible first | exact ih0 _ _ _ _ _ _ _ | exact LeO.refl _ | exact LeO.none _ | refine LeO.ite ?_ ?_ | refine LeO.bind ?_ (fun _ => ?_)
set_option maxHeartbeats 40000000 in
set_option maxRecDepth 100000 in
theorem addr_Compare.calls (k : Nat) (a0_0 : Bool) (a0_1 : Int) (a0_2 : Int) (a1_0 : Bool) (a1_1 : Int) (a1_2 : Int) (r : Int) (w : World) (h : addr_Compare.f k a0_0 a0_1 a0_2 a1_0 a1_1 a1_2 = some r) :
 Calls Tryz.prog 51 #[.agg #[.bool a0_0, .int .u64 a0_1, .int .u64 a0_2], .agg #[.bool a1_0, .int .u64 a1_1, .int .u64 a1_2]] w fun e w' => e = .returned (.int .i64 r) ∧ Below w.heap.size w w' := by
 have hu24 := Tryz.underlying24
 have HB := Aside0.mk (Below.refl w.heap.size w)
 have H : (if (a0_0 != a1_0) = true then (addr_Compare.j0 k a1_0 a0_0 a0_1 a0_2 a1_0 a1_1 a1_2) else (addr_Compare.j0 k false a0_0 a0_1 a0_2 a1_0 a1_1 a1_2)) = some r := h
 clear h
 have HC3 := Aside0.mk H
 clear H
 go_enter Tryz.func51, Tryz.ntmps51
 go_upto_region 1 with (first | ((with_reducible refine gate_dst (N := 2) rfl ?_); refine boxA (N := 2) (cs := #[.bool a0_0, .int .u64 a0_1, .int .u64 a0_2]) (t := 24) ?_; intro gb201 hg w4 hbox hb; have BK201 := Aside0.mk (hbox); have GE201 := (pZ HB hg); replace HB := (pS HB hb); clear hb hbox hg) | ((with_reducible refine gate_dst (N := 3) rfl ?_); refine boxA (N := 3) (cs := #[.bool a1_0, .int .u64 a1_1, .int .u64 a1_2]) (t := 24) ?_; intro gb202 hg w5 hbox hb; have BK202 := Aside0.mk (hbox); have GE202 := (pZ HB hg); have NB201_202 := (pL BK201 hg); have NB202_201 := (pG BK201 hg); replace BK201 := (pB BK201 hb); replace HB := (pS HB hb); clear hb hbox hg))
 (try simp only [Act.put, List.setIfInBounds_toArray, List.set_cons_zero, List.set_cons_succ])
 go_cut [5] (fun v5 wc => ∃ (kq : Nat) (x5_2 : Bool), v5 = .bool x5_2 ∧ Aside0 (addr_Compare.j0 kq x5_2 a0_0 a0_1 a0_2 a1_0 a1_1 a1_2 = some r) ∧ Aside0 (kq ≤ k) ∧ Aside0 (wc.heap[gb201]? = some (.cells #[.bool a0_0, .int .u64 a0_1, .int .u64 a0_2] 24 (0, 0))) ∧ Aside0 (wc.heap[gb202]? = some (.cells #[.bool a1_0, .int .u64 a1_1, .int .u64 a1_2] 24 (0, 0))) ∧ Aside0 (Below w.heap.size w wc))
 case first =>
  have H := HC3.out
  clear HC3
  by_cases c6 : (a0_0 != a1_0) = true
  ·
   rw [if_pos c6] at H
   have c6b0 : (a0_0 != a1_0) = true := c6
   (try (have c6b1 : decide (a0_0 = a1_0) = false := by simpa using c6))
   (try (have c6b2 : (a0_0 == a1_0) = false := by simpa using c6))
   (try (have c6b3 : ¬ (a0_0 = a1_0) := by simpa using c6))
   clear c6
   (first | rw [c6b0] | (simp only [i64_w, i32_w]; rw [c6b0]) | skip)
   have H' := Aside0.mk H
   clear H
   have hnb7 := NB201_202.out
   have hnc7 := NB202_201.out
   obtain ⟨hcz8_0, hcz8_1, hcz8_2, hfz8_0, hfz8_1, hfz8_2⟩ := pC3 BK201
   obtain ⟨hcz9_0, hcz9_1, hcz9_2, hfz9_0, hfz9_1, hfz9_2⟩ := pC3 BK202
   go_wp2
   refine Met.intro ?_
   go_step
   (repeat apply Exists.intro)
   refine ⟨?rel, ?heq_⟩
   case heq_ => first | rfl | (rw [c6b0]) | (simp only [c6b0])
   case rel => exact ⟨_, (a1_0), pT, H', ⟨by first | omega | exact Nat.le_refl _⟩, ⟨pM BK201⟩, ⟨pM BK202⟩, ⟨pE HB⟩⟩
  ·
   rw [if_neg c6] at H
   have c6b0 : (a0_0 != a1_0) = false := by simpa using c6
   (try (have c6b1 : decide (a0_0 = a1_0) = true := by simpa using c6))
   (try (have c6b2 : (a0_0 == a1_0) = true := by simpa using c6))
   clear c6
   (first | rw [c6b0] | (simp only [i64_w, i32_w]; rw [c6b0]) | skip)
   have H' := Aside0.mk H
   clear H
   have hnb10 := NB201_202.out
   have hnc10 := NB202_201.out
   obtain ⟨hcz11_0, hcz11_1, hcz11_2, hfz11_0, hfz11_1, hfz11_2⟩ := pC3 BK201
   obtain ⟨hcz12_0, hcz12_1, hcz12_2, hfz12_0, hfz12_1, hfz12_2⟩ := pC3 BK202
   go_wp2
   refine Met.intro ?_
   go_step
   (repeat apply Exists.intro)
   refine ⟨?rel, ?heq_⟩
   case heq_ => first | rfl | (rw [c6b0]) | (simp only [c6b0])
   case rel => exact ⟨_, (false), pT, H', ⟨by first | omega | exact Nat.le_refl _⟩, ⟨pM BK201⟩, ⟨pM BK202⟩, ⟨pE HB⟩⟩
 case rest =>
  clear HC3
  obtain ⟨kq, x5_2, rfl, HA, HJ2, BK201, BK202, HB⟩ := hcut
  cases kq with
  | zero => exact absurd HA.out (by simp [addr_Compare.j0])
  | succ kj2 =>
   have H := HA.out
   clear HA
   simp only [addr_Compare.j0] at H
   by_cases c13 : x5_2 = true
   ·
    subst c13
    rw [if_pos rfl] at H
    obtain rfl := Option.some.inj H
    go_wp2
    go_ret
    exact pR (pE HB)
   ·
    replace c13 := Bool.eq_false_iff.mpr c13
    subst c13
    rw [if_neg (show ¬ (false = true) by decide)] at H
    by_cases c14 : (a0_0 != a1_0) = true
    ·
     rw [if_pos c14] at H
     have c14b0 : (a0_0 != a1_0) = true := c14
     (try (have c14b1 : decide (a0_0 = a1_0) = false := by simpa using c14))
     (try (have c14b2 : (a0_0 == a1_0) = false := by simpa using c14))
     (try (have c14b3 : ¬ (a0_0 = a1_0) := by simpa using c14))
     clear c14
     obtain rfl := Option.some.inj H
     have hnb15 := NB201_202.out
     have hnc15 := NB202_201.out
     obtain ⟨hcz16_0, hcz16_1, hcz16_2, hfz16_0, hfz16_1, hfz16_2⟩ := pC3 BK201
     obtain ⟨hcz17_0, hcz17_1, hcz17_2, hfz17_0, hfz17_1, hfz17_2⟩ := pC3 BK202
     go_wp2
     go_ret
     exact pR (pE HB)
    ·
     rw [if_neg c14] at H
     have c14b0 : (a0_0 != a1_0) = false := by simpa using c14
     (try (have c14b1 : decide (a0_0 = a1_0) = true := by simpa using c14))
     (try (have c14b2 : (a0_0 == a1_0) = true := by simpa using c14))
     clear c14
     by_cases c18 : a0_1 = a1_1
     ·
      rw [if_pos c18] at H
      have c18b0 : (a0_1 == a1_1) = true := beq_iff_eq.mpr c18
      have c18b1 : (a0_1 != a1_1) = false := bne_eq_false_iff_eq.mpr c18
      clear c18
      replace H := Option.bind_eq_some_iff.mp H
      obtain ⟨t203, A190, H⟩ := H
      have A19 := Aside0.mk A190
      clear A190
      obtain rfl := Option.some.inj H
      have hnb20 := NB201_202.out
      have hnc20 := NB202_201.out
      obtain ⟨hcz21_0, hcz21_1, hcz21_2, hfz21_0, hfz21_1, hfz21_2⟩ := pC3 BK201
      obtain ⟨hcz22_0, hcz22_1, hcz22_2, hfz22_0, hfz22_1, hfz22_2⟩ := pC3 BK202
      go_wp2_with (first | ((with_reducible refine gate_callee (f := 74) rfl ?_); refine goesA (some 36) Tryz.func74 #[.int .u64 a0_2, .int .u64 a1_2] ?_; (with_reducible refine (addr_number.calls a0_2 a1_2 t203 _ A19.out).mono ?_); rintro e w' ⟨rfl, ⟨nd, rfl⟩⟩; refine ⟨_, rfl, ?_⟩))
      go_ret
      exact pR (pE HB)
     ·
      rw [if_neg c18] at H
      have c18b0 : (a0_1 == a1_1) = false := beq_eq_false_iff_ne.mpr c18
      have c18b1 : (a0_1 != a1_1) = true := bne_iff_ne.mpr c18
      replace H := Option.bind_eq_some_iff.mp H
      obtain ⟨t204, A230, H⟩ := H
      have A23 := Aside0.mk A230
      clear A230
      obtain rfl := Option.some.inj H
      have hnb24 := NB201_202.out
      have hnc24 := NB202_201.out
      obtain ⟨hcz25_0, hcz25_1, hcz25_2, hfz25_0, hfz25_1, hfz25_2⟩ := pC3 BK201
      obtain ⟨hcz26_0, hcz26_1, hcz26_2, hfz26_0, hfz26_1, hfz26_2⟩ := pC3 BK202
      go_wp2_with (first | ((with_reducible refine gate_callee (f := 74) rfl ?_); refine goesA (some 31) Tryz.func74 #[.int .u64 a0_1, .int .u64 a1_1] ?_; (with_reducible refine (addr_number.calls a0_1 a1_1 t204 _ A23.out).mono ?_); rintro e w' ⟨rfl, ⟨nd, rfl⟩⟩; refine ⟨_, rfl, ?_⟩))
      go_ret
      exact pR (pE HB)

/-! ### prefix_value: function 75 -/
def prefix_value.f (a0_0 : Bool) (a0_1 : Int) (a0_2 : Int) : Option (Int × Int) := some (a0_1, a0_2)
set_option maxHeartbeats 40000000 in
set_option maxRecDepth 100000 in
theorem prefix_value.calls (a0_0 : Bool) (a0_1 : Int) (a0_2 : Int) (r1 : Int) (r2 : Int) (w : World) (h : prefix_value.f a0_0 a0_1 a0_2 = some (r1, r2)) :
 Calls Tryz.prog 75 #[.agg #[.bool a0_0, .int .u64 a0_1, .int .u64 a0_2]] w fun e w' => e = .returned (.tuple #[.int .u64 r1, .int .u64 r2]) ∧ Below w.heap.size w w' := by
 have hu24 := Tryz.underlying24
 have HB := Aside0.mk (Below.refl w.heap.size w)
 have H : (some (a0_1, a0_2)) = some (r1, r2) := h
 clear h
 simp only [Option.some.injEq, Prod.mk.injEq] at H
 obtain ⟨rfl, rfl⟩ := H
 go_enter Tryz.func75, Tryz.ntmps75
 go_wp2_with (first | ((with_reducible refine gate_dst (N := 1) rfl ?_); refine boxA (N := 1) (cs := #[.bool a0_0, .int .u64 a0_1, .int .u64 a0_2]) (t := 24) ?_; intro gb205 hg w2 hbox hb; have BK205 := Aside0.mk (hbox); have GE205 := (pZ HB hg); replace HB := (pS HB hb); clear hb hbox hg; obtain ⟨hcz3_0, hcz3_1, hcz3_2, hfz3_0, hfz3_1, hfz3_2⟩ := pC3 BK205))
 repeat (go_quiet (first | ((with_reducible refine gate_dst (N := 1) rfl ?_); refine boxA (N := 1) (cs := #[.bool a0_0, .int .u64 a0_1, .int .u64 a0_2]) (t := 24) ?_; intro gb205 hg w2 hbox hb; have BK205 := Aside0.mk (hbox); have GE205 := (pZ HB hg); replace HB := (pS HB hb); clear hb hbox hg; obtain ⟨hcz3_0, hcz3_1, hcz3_2, hfz3_0, hfz3_1, hfz3_2⟩ := pC3 BK205)); try go_wp2_with (first | ((with_reducible refine gate_dst (N := 1) rfl ?_); refine boxA (N := 1) (cs := #[.bool a0_0, .int .u64 a0_1, .int .u64 a0_2]) (t := 24) ?_; intro gb205 hg w2 hbox hb; have BK205 := Aside0.mk (hbox); have GE205 := (pZ HB hg); replace HB := (pS HB hb); clear hb hbox hg; obtain ⟨hcz3_0, hcz3_1, hcz3_2, hfz3_0, hfz3_1, hfz3_2⟩ := pC3 BK205)))
 go_ret2
 exact pR (pE HB)

/-! ### bits_TrailingZeros64: function 76 (given) -/
def bits_TrailingZeros64.f (a0 : Int) : Option Int := if 0 ≤ a0 ∧ a0 < 18446744073709551616 then some ((Lib.ctz 64 a0.toNat : Nat) : Int) else none
theorem tzg_and (a b : Nat) (ha : a < 18446744073709551616) (hb : b < 18446744073709551616) : bits .and .u64 (a : Int) (b : Int) = ((a &&& b : Nat) : Int) := bits_and_u64_nat a b ha hb
theorem tzg_key (x a : Nat) (hx : x < 18446744073709551616) (hx0 : x ≠ 0) (hlow : x &&& (18446744073709551616 - x) = a) :
    IntKind.u64.wrap (bits BinOp.and IntKind.u64 (x : Int) (IntKind.u64.wrap (-(x : Int))) * 285870213051353865) / 288230376151711744 = ((a * 285870213051353865 % 18446744073709551616 / 288230376151711744 : Nat) : Int) := by
  have e1 : IntKind.u64.wrap (-(x : Int)) = ((18446744073709551616 - x : Nat) : Int) := by rw [IntKind.wrap_u64]; omega
  rw [e1, tzg_and x _ hx (by omega), hlow, IntKind.wrap_u64]
  omega
theorem tzg_core (x k idx : Nat) (w : World) (hx0 : ((x : Int) == 0) = false)
    (key : IntKind.u64.wrap (bits BinOp.and IntKind.u64 (x : Int) (IntKind.u64.wrap (-(x : Int))) * 285870213051353865) / 288230376151711744 = (idx : Int))
    (hi : idx < 64) (hk : k < 64) (hcell : w.cell? ⟨0, idx, none⟩ = some (.int .u8 k)) :
    Calls Tryz.prog 76 #[.int .u64 x] w fun e w' => e = .returned (.int .i64 k) ∧ w' = w := by
  go_enter Tryz.func76, Tryz.ntmps76
  go_wp2_with (simp only [key])
  go_ret
  exact ⟨rfl, rfl⟩
theorem tzg_zero (w : World) : Calls Tryz.prog 76 #[.int .u64 0] w fun e w' => e = .returned (.int .i64 64) ∧ w' = w := by
  go_enter Tryz.func76, Tryz.ntmps76
  go_wp2
  go_ret
  exact ⟨rfl, rfl⟩
theorem bits_TrailingZeros64.calls (a0 : Int) (r : Int) (w : World) (hLD : Laid w) (h : bits_TrailingZeros64.f a0 = some r) :
    Calls Tryz.prog 76 #[.int .u64 a0] w fun e w' => e = .returned (.int .i64 r) ∧ Below w.heap.size w w' := by
  unfold bits_TrailingZeros64.f at h
  by_cases hb : 0 ≤ a0 ∧ a0 < 18446744073709551616
  · rw [if_pos hb] at h
    obtain rfl := Option.some.inj h
    obtain ⟨x, rfl⟩ : ∃ x : Nat, a0 = x := ⟨a0.toNat, by omega⟩
    rw [Int.toNat_natCast]
    have hx : x < 18446744073709551616 := by omega
    by_cases h0 : x = 0
    · subst h0
      refine (tzg_zero w).mono ?_
      rintro e w' ⟨rfl, rfl⟩
      exact ⟨rfl, Below.refl _ _⟩
    · obtain ⟨hlow, hk⟩ := Lib.lowest_bit 64 x h0 hx
      obtain ⟨hi, htab⟩ := Lib.deBruijn64_at _ hk
      have hcell : w.cell? ⟨0, 2 ^ Lib.ctz 64 x * 285870213051353865 % 18446744073709551616 / 288230376151711744, none⟩ = some (.int .u8 ((Lib.ctz 64 x : Nat) : Int)) := by
        rw [hLD.bruijn.cell (show Tryz.prog.globalNamed "math/bits.deBruijn64tab" = some 0 by kernel_rfl) _ (by rw [List.length_map]; exact hi)]
        have e : (Lib.deBruijn64tab.map fun n : Nat => (n : Int)).getD (2 ^ Lib.ctz 64 x * 285870213051353865 % 18446744073709551616 / 288230376151711744) 0 = ((Lib.deBruijn64tab.getD (2 ^ Lib.ctz 64 x * 285870213051353865 % 18446744073709551616 / 288230376151711744) 0 : Nat) : Int) := by
          rw [List.getD_eq_getElem?_getD, List.getD_eq_getElem?_getD, List.getElem?_map]
          cases Lib.deBruijn64tab[2 ^ Lib.ctz 64 x * 285870213051353865 % 18446744073709551616 / 288230376151711744]? <;> rfl
        rw [e, htab]
      refine (tzg_core x _ _ w (by simp; omega) (tzg_key x _ hx h0 hlow) hi hk hcell).mono ?_
      rintro e w' ⟨rfl, rfl⟩
      exact ⟨rfl, Below.refl _ _⟩
  · rw [if_neg hb] at h; cases h
end Go.Proofs.YteflcmmandlknaaGreatDoor.PA
