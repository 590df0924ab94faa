/-
  Words for walks by hand: what a call leaves of older blocks; data of records as a value. Conditions: each theorem's own.
-/
import Derived.Test.YtaehonmfoanloaaDoorProg
import Derived.Test.YtaehonmfoanloaaDoorRdB
import Derived.WalkKit
import Derived.Handy
import Derived.RegionTactic
import Derived.ChangeAlike
import Derived.BigRegion
import Derived.Laws.StructEq
namespace Go.Proofs.YtaehonmfoanloaaDoor.Hand
open Go.RowKit Go.Proofs.YtaehonmfoanloaaDoorW.PrintWords Go.Proofs.YtaehonmfoanloaaDoor.RdW Go.Proofs.YtaehonmfoanloaaDoor.Str
set_option linter.all false

theorem al {w W : World} (h : Below w.heap.size w W) (o : Obj) : Below w.heap.size w (W.alloc o) := h.alloc h.size o
theorem dr {w W : World} (h : Below w.heap.size w W) : Below w.heap.size w W.drew := h.drew
theorem bl_mono {B B' : Nat} {w w' : World} (h : Below B w w') (hb : B' ≤ B) : Below B' w w' := h.mono hb
theorem bl_call {B : Nat} {w W w1 : World} (h : Below B w W) (hb : Below W.heap.size W w1) (hB : B ≤ W.heap.size) : Below B w w1 := h.trans (hb.mono hB)
/-- A block that lay before a call reads as it did. -/
theorem keep {W w1 : World} (hb : Below W.heap.size W w1) {b : Nat} (hlt : b < W.heap.size) : (∀ o, w1.cell? ⟨b, o, none⟩ = W.cell? ⟨b, o, none⟩) ∧ (∀ o, w1.frozen? ⟨b, o, none⟩ = W.frozen? ⟨b, o, none⟩) :=
  ⟨fun o => hb.cell (p := ⟨b, o, none⟩) hlt, fun o => hb.frozen (p := ⟨b, o, none⟩) hlt⟩

/-- The walk's own first block, and what was there before it. -/
structure Own (w W : World) (cs : Array Value) (T : TypeId) : Prop where
  below : Below w.heap.size w W
  blk : W.heap[w.heap.size]? = some (.cells cs T (0, 0))
theorem Own.new (w : World) (cs : Array Value) (T : TypeId) : Own w (w.alloc (.cells cs T)) cs T := ⟨al (Below.refl _ _) _, by show (w.heap.push _)[w.heap.size]? = _; simp⟩
theorem Own.drew {w W : World} {cs : Array Value} {T : TypeId} (h : Own w W cs T) : Own w W.drew cs T := ⟨dr h.below, h.blk⟩
theorem Own.lt {w W : World} {cs : Array Value} {T : TypeId} (h : Own w W cs T) : w.heap.size < W.heap.size := by
  rcases Nat.lt_or_ge w.heap.size W.heap.size with g | g
  · exact g
  · have := h.blk; rw [Array.getElem?_eq_none g] at this; cases this
theorem Own.call {w W w1 : World} {cs : Array Value} {T : TypeId} (h : Own w W cs T) (hb : Below W.heap.size W w1) : Own w w1 cs T :=
  ⟨h.below.trans (hb.mono h.below.size), (hb.block _ h.lt).trans h.blk⟩
theorem Own.cells {w W : World} {cs : Array Value} {T : TypeId} (h : Own w W cs T) : (∀ o, W.cell? ⟨w.heap.size, o, none⟩ = cs[o]?) ∧ (∀ o, W.frozen? ⟨w.heap.size, o, none⟩ = false) := by
  constructor
  · intro o; unfold World.cell?; simp only [h.blk]; rfl
  · intro o; unfold World.frozen?; simp only [h.blk]; simp
theorem Own.s {w W : World} {cs : Array Value} {T : TypeId} (h : Own w W cs T) : (∀ o, W.cell? ⟨w.heap.size, o, none⟩ = cs[o]?) ∧ Own w W cs T := ⟨h.cells.1, h⟩
/-- Two blocks of the walk's own, and what was there before them. -/
structure Own2 (w W : World) (cs : Array Value) (T : TypeId) (g : Nat) (cs' : Array Value) (T' : TypeId) : Prop where
  own : Own w W cs T
  blk : W.heap[g]? = some (.cells cs' T' (0, 0))
theorem lt_of_blk {W : World} {g : Nat} {o : Obj} (h : W.heap[g]? = some o) : g < W.heap.size := by
  rcases Nat.lt_or_ge g W.heap.size with k | k
  · exact k
  · rw [Array.getElem?_eq_none k] at h; cases h
theorem cells_of_blk {W : World} {g : Nat} {cs : Array Value} {T : TypeId} (h : W.heap[g]? = some (.cells cs T (0, 0))) : (∀ o, W.cell? ⟨g, o, none⟩ = cs[o]?) ∧ (∀ o, W.frozen? ⟨g, o, none⟩ = false) := by
  constructor
  · intro o; unfold World.cell?; simp only [h]; rfl
  · intro o; unfold World.frozen?; simp only [h]; simp
theorem Own2.call {w W w1 : World} {cs cs' : Array Value} {T T' : TypeId} {g : Nat} (h : Own2 w W cs T g cs' T') (hb : Below W.heap.size W w1) : Own2 w w1 cs T g cs' T' :=
  ⟨h.own.call hb, (hb.block _ (lt_of_blk h.blk)).trans h.blk⟩
theorem Own2.alloc {w W : World} {cs cs' : Array Value} {T T' : TypeId} {g : Nat} (h : Own2 w W cs T g cs' T') (o : Obj) : Own2 w (W.alloc o) cs T g cs' T' := h.call (al (Below.refl _ _) o)
theorem Own2.new {w W : World} {cs : Array Value} {T : TypeId} (h : Own w W cs T) (cs' : Array Value) (T' : TypeId) : Own2 w (W.alloc (.cells cs' T')) cs T W.heap.size cs' T' :=
  ⟨h.call (al (Below.refl _ _) _), by show (W.heap.push _)[W.heap.size]? = _; simp⟩
/-! ### structs are compared field by field -/
section
variable {P : Program} {d : Nat} {xs ys : Array Value} {f : Field} {fs : List Field} {a b : Value} {r s : Bool} {w : World}
theorem eqf_cons (hn : (f.name == "_") = false) (ha : (part f.type xs f.offset).run P w = .ok a w) (hb : (part f.type ys f.offset).run P w = .ok b w) (he : (Op.equalIn d f.type a b).run P w = .ok r w) (hr : (Op.eqFields d xs ys fs).run P w = .ok s w) : (Op.eqFields d xs ys (f :: fs)).run P w = .ok (r && s) w := by
  rw [Op.eqFields]
  simp only [if_pos (show f.name ≠ "_" by simpa using hn), Sem.run_bind, ha, hb, he, Result.andThen_ok]
  cases r
  · simp
  · simpa using hr
theorem eqf_last (hn : (f.name == "_") = false) (ha : (part f.type xs f.offset).run P w = .ok a w) (hb : (part f.type ys f.offset).run P w = .ok b w) (he : (Op.equalIn d f.type a b).run P w = .ok r w) : (Op.eqFields d xs ys [f]).run P w = .ok r w := by
  have h := eqf_cons (fs := []) (s := true) hn ha hb he (by simp [Op.eqFields])
  rwa [Bool.and_true] at h
theorem eqA_of {t : TypeId} {fs : Array Field} (hu : P.underlying t = some (.struct fs)) (hp : P.stoodInHeld t = false) (h : (Op.eqFields d xs ys fs.toList).run P w = .ok r w) : (Op.equalIn (d + 1) t (.agg xs) (.agg ys)).run P w = .ok r w := by
  have hf : P.fieldsOf t = fs := by simp [Program.fieldsOf, hu]
  rw [run_equalIn_struct (P := P) w d t xs ys (by rw [hf]; exact hu) hp, hf]
  exact h
end
theorem eqA24 (d : Nat) (w : World) (x0 y0 : Bool) (x1 y1 : Int) (x2 y2 : Int) :
    (Op.equalIn (d + 2) 24 (.agg #[.bool x0, .int .u64 x1, .int .u64 x2]) (.agg #[.bool y0, .int .u64 y1, .int .u64 y2])).run Tryd.prog w = .ok (x0 == y0 && (x1 == y1 && (x2 == y2))) w := by
  refine eqA_of Tryd.underlying24 (by kernel_rfl) ?_
  refine eqf_cons (by rfl) (by go_simp; rfl) (by go_simp; rfl) (by go_simp) ?_
  refine eqf_cons (by rfl) (by go_simp; rfl) (by go_simp; rfl) (by go_simp) ?_
  exact eqf_last (by rfl) (by go_simp; rfl) (by go_simp; rfl) (by go_simp)
theorem eqA26 (d : Nat) (w : World) (x0 y0 : Bool) (x1 y1 : Int) (x2 y2 : Int) (x3 y3 : ByteArray) (x4 y4 : ByteArray) (x5 y5 : ByteArray) (x6 y6 : Int) (x7 y7 : Int) (x8 y8 : Int) (x9 y9 : Int) (x10 y10 : Int) (x11 y11 : Int) (x12 y12 : Int) :
    (Op.equalIn (d + 3) 26 (.agg #[.bool x0, .int .u64 x1, .int .u64 x2, .string x3, .string x4, .string x5, .int .i64 x6, .int .i64 x7, .int .i64 x8, .int .i64 x9, .int .i64 x10, .int .i64 x11, .int .u64 x12]) (.agg #[.bool y0, .int .u64 y1, .int .u64 y2, .string y3, .string y4, .string y5, .int .i64 y6, .int .i64 y7, .int .i64 y8, .int .i64 y9, .int .i64 y10, .int .i64 y11, .int .u64 y12])).run Tryd.prog w = .ok ((x0 == y0 && (x1 == y1 && (x2 == y2))) && (x3.toList == y3.toList && (x4.toList == y4.toList && (x5.toList == y5.toList && (x6 == y6 && (x7 == y7 && (x8 == y8 && (x9 == y9 && (x10 == y10 && (x11 == y11 && (x12 == y12))))))))))) w := by
  refine eqA_of Tryd.underlying26 (by kernel_rfl) ?_
  refine eqf_cons (by rfl) (by go_simp) (by go_simp) (eqA24 (d + 0) w _ _ _ _ _ _) ?_
  refine eqf_cons (by rfl) (by go_simp; rfl) (by go_simp; rfl) (by go_simp) ?_
  refine eqf_cons (by rfl) (by go_simp; rfl) (by go_simp; rfl) (by go_simp) ?_
  refine eqf_cons (by rfl) (by go_simp; rfl) (by go_simp; rfl) (by go_simp) ?_
  refine eqf_cons (by rfl) (by go_simp; rfl) (by go_simp; rfl) (by go_simp) ?_
  refine eqf_cons (by rfl) (by go_simp; rfl) (by go_simp; rfl) (by go_simp) ?_
  refine eqf_cons (by rfl) (by go_simp; rfl) (by go_simp; rfl) (by go_simp) ?_
  refine eqf_cons (by rfl) (by go_simp; rfl) (by go_simp; rfl) (by go_simp) ?_
  refine eqf_cons (by rfl) (by go_simp; rfl) (by go_simp; rfl) (by go_simp) ?_
  refine eqf_cons (by rfl) (by go_simp; rfl) (by go_simp; rfl) (by go_simp) ?_
  exact eqf_last (by rfl) (by go_simp; rfl) (by go_simp; rfl) (by go_simp)
/-- The data of a record. -/
structure D where
  v6 : Bool
  hi : Int
  lo : Int
  host : ByteArray
  mail : ByteArray
  text : ByteArray
  a : Int
  b : Int
  c : Int
  d : Int
  e : Int
  f : Int
  bits : Int
def D.cells (x : D) : Array Value := #[.bool x.v6, .int .u64 x.hi, .int .u64 x.lo, .string x.host, .string x.mail, .string x.text, .int .i64 x.a, .int .i64 x.b, .int .i64 x.c, .int .i64 x.d, .int .i64 x.e, .int .i64 x.f, .int .u64 x.bits]
def D.v (x : D) : Value := .agg x.cells
def nil : ByteArray := ⟨#[]⟩
def D.z : D := ⟨false, 0, 0, ⟨#[]⟩, ⟨#[]⟩, ⟨#[]⟩, 0, 0, 0, 0, 0, 0, 0⟩
/-- The known types. -/
def KT (t : Int) : Prop := t = 1 ∨ t = 2 ∨ t = 5 ∨ t = 6 ∨ t = 12 ∨ t = 15 ∨ t = 16 ∨ t = 28 ∨ t = 33 ∨ t = 39 ∨ t = 43 ∨ t = 46 ∨ t = 47 ∨ t = 48
/-- What a type uses of the data. -/
def usedD (t : Int) (x : D) : D :=
  if t = 1 ∨ t = 28 then { D.z with v6 := x.v6, hi := x.hi, lo := x.lo } else
  if t = 6 then { D.z with host := x.host, mail := x.mail, a := x.a, b := x.b, c := x.c, d := x.d, e := x.e } else
  if t = 15 then { D.z with a := x.a, host := x.host } else
  if t = 16 then { D.z with text := x.text } else
  if t = 33 then { D.z with a := x.a, b := x.b, c := x.c, host := x.host } else
  if t = 43 ∨ t = 48 then { D.z with a := x.a, b := x.b, c := x.c, text := x.text } else
  if t = 46 then { D.z with a := x.a, b := x.b, c := x.c, d := x.d, e := x.e, f := x.f, host := x.host, text := x.text } else
  if t = 47 then { D.z with host := x.host, bits := x.bits } else { D.z with host := x.host }
/-- Data are equal. -/
def D.eqb (x y : D) : Bool := (x.v6 == y.v6 && (x.hi == y.hi && x.lo == y.lo)) && (x.host.toList == y.host.toList && (x.mail.toList == y.mail.toList && (x.text.toList == y.text.toList && (x.a == y.a && (x.b == y.b && (x.c == y.c && (x.d == y.d && (x.e == y.e && (x.f == y.f && x.bits == y.bits)))))))))
theorem eqD (d : Nat) (w : World) (x0 y0 : Bool) (x1 y1 : Int) (x2 y2 : Int) (x3 y3 : ByteArray) (x4 y4 : ByteArray) (x5 y5 : ByteArray) (x6 y6 : Int) (x7 y7 : Int) (x8 y8 : Int) (x9 y9 : Int) (x10 y10 : Int) (x11 y11 : Int) (x12 y12 : Int) :
    (Op.equalIn (d + 3) 26 (.agg #[.bool x0, .int .u64 x1, .int .u64 x2, .string x3, .string x4, .string x5, .int .i64 x6, .int .i64 x7, .int .i64 x8, .int .i64 x9, .int .i64 x10, .int .i64 x11, .int .u64 x12]) (.agg #[.bool y0, .int .u64 y1, .int .u64 y2, .string y3, .string y4, .string y5, .int .i64 y6, .int .i64 y7, .int .i64 y8, .int .i64 y9, .int .i64 y10, .int .i64 y11, .int .u64 y12])).run Tryd.prog w = .ok (D.eqb ⟨x0, x1, x2, x3, x4, x5, x6, x7, x8, x9, x10, x11, x12⟩ ⟨y0, y1, y2, y3, y4, y5, y6, y7, y8, y9, y10, y11, y12⟩) w := eqA26 d w x0 y0 x1 y1 x2 y2 x3 y3 x4 y4 x5 y5 x6 y6 x7 y7 x8 y8 x9 y9 x10 y10 x11 y11 x12 y12
theorem D.eqb_iff (x y : D) : x.eqb y = true ↔ x = y := by
  obtain ⟨x0, x1, x2, x3, x4, x5, x6, x7, x8, x9, x10, x11, x12⟩ := x
  obtain ⟨y0, y1, y2, y3, y4, y5, y6, y7, y8, y9, y10, y11, y12⟩ := y
  simp only [D.eqb, Bool.and_eq_true, beq_iff_eq, D.mk.injEq, ByteArray.toList_eq, Array.toList_inj, and_assoc]
  have h : ∀ a b : ByteArray, a.data = b.data ↔ a = b := fun a b => ⟨ByteArray.ext, fun e => by rw [e]⟩
  simp only [h]
theorem D.eqb_comm (x y : D) : x.eqb y = y.eqb x := by
  rw [Bool.eq_iff_iff, D.eqb_iff, D.eqb_iff]; exact eq_comm
/-! ### what data are valid -/
def nameB (n : ByteArray) : Bool := (labelsN n.data.toList).isSome
def hostB (n : ByteArray) : Bool := nameB n && !(n.data.toList.head? == some 42)
def inB (x m : Int) : Bool := decide (0 ≤ x) && decide (x ≤ m)
def longB (s : ByteArray) : Bool := decide (1 ≤ s.size) && decide (s.size ≤ 255)
def addrB (v6 : Bool) (hi lo : Int) : Bool := v6 || (hi == 0 && decide (lo ≤ 4294967295))
def setB (s : Int) : Bool := onlyT s.toNat
def knownB (t : Int) : Bool := [1, 2, 5, 6, 12, 15, 16, 28, 33, 39, 43, 46, 47, 48].contains t
theorem knownB_iff (t : Int) : knownB t = true ↔ KT t := by unfold knownB KT; simp
def fieldsOk (t : Int) (x : D) : Bool :=
  if t = 1 then addrB x.v6 x.hi x.lo && !x.v6 else if t = 28 then x.v6 else
  if t = 6 then hostB x.host && (hostB x.mail && (inB x.a 4294967295 && (inB x.b 2147483647 && (inB x.c 2147483647 && (inB x.d 2147483647 && inB x.e 2147483647))))) else
  if t = 15 then hostB x.host && inB x.a 65535 else
  if t = 16 then decide (x.text.size ≤ 255) else
  if t = 33 then hostB x.host && (inB x.a 65535 && (inB x.b 65535 && inB x.c 65535)) else
  if t = 43 then longB x.text && (inB x.a 65535 && (inB x.b 255 && inB x.c 255)) else
  if t = 46 then longB x.text && (hostB x.host && (knownB x.a && ((x.a != 46) && (inB x.b 127 && (inB x.c 2147483647 && (inB x.d 4294967295 && (inB x.e 4294967295 && inB x.f 65535))))))) else
  if t = 47 then nameB x.host && ((x.bits != 0) && setB x.bits) else
  if t = 48 then longB x.text && ((x.a == 256 || x.a == 257) && ((x.b == 3) && inB x.c 255)) else hostB x.host
def validS (t : Int) (x : D) : Bool := knownB t && ((usedD t x).eqb x && fieldsOk t x)
/-! ### data as bytes -/
def strOf (l : List UInt8) : ByteArray := ⟨l.toArray⟩
def flds (t : Int) : List UInt8 :=
  if t = 1 then [52] else if t = 2 then [104] else if t = 5 then [104] else if t = 6 then [104, 109, 118, 119, 120, 121, 122] else if t = 12 then [104] else if t = 15 then [65, 104] else if t = 16 then [116] else
  if t = 28 then [54] else if t = 33 then [65, 66, 67, 104] else if t = 39 then [104] else if t = 43 then [65, 98, 99, 114] else if t = 46 then [65, 115, 98, 120, 121, 122, 70, 104, 114] else if t = 47 then [104, 110] else if t = 48 then [65, 98, 99, 114] else []
/-- The number with a letter. -/
def numOf (c : UInt8) (x : D) : Int × Nat :=
  if c = 65 then (x.a, 2) else if c = 66 then (x.b, 2) else if c = 67 then (x.c, 2) else if c = 70 then (x.f, 2) else if c = 98 then (x.b, 1) else if c = 99 then (x.c, 1) else
  if c = 118 then (x.a, 4) else if c = 119 then (x.b, 4) else if c = 120 then (x.c, 4) else if c = 121 then (x.d, 4) else (x.e, 4)
def addrW (x : D) : List UInt8 := if x.v6 then be 8 x.hi.toNat ++ be 8 x.lo.toNat else be 4 x.lo.toNat
/-- The bytes of a field. -/
def piece (c : UInt8) (x : D) : List UInt8 :=
  if c = 104 then wireN x.host.data.toList else if c = 109 then wireN x.mail.data.toList else if c = 52 ∨ c = 54 then addrW x else
  if c = 116 then UInt8.ofNat x.text.size :: x.text.data.toList else if c = 114 then x.text.data.toList else if c = 115 then [253] else
  if c = 110 then wireB x.bits.toNat else be (numOf c x).2 (numOf c x).1.toNat
def wireF (fs : List UInt8) (x : D) : List UInt8 := (fs.map fun c => piece c x).flatten
/-- The bytes of data, or the error. -/
def wireS (t : Int) (x : D) : List UInt8 × Int := if knownB t then (if validS t x then (wireF (flds t) x, 0) else ([], 5)) else ([], 4)
theorem wireN_len (n : List UInt8) : (wireN n).length ≤ n.length + 1 := by
  unfold wireN
  cases hl : labelsN n with
  | none => simp [wireL]
  | some ls =>
    have hw : ∀ ls : List (List UInt8), (wireL ls).length = (nameOf ls).length + 1 := by
      intro ls
      induction ls with
      | nil => simp [wireL, nameOf]
      | cons x xs ih => rw [wireL_cons, nameOf_cons]; simp only [List.length_append, List.length_cons, List.length_nil]; omega
    rw [Option.getD_some, hw]
    unfold labelsN at hl
    split at hl
    · injection hl with hl; subst hl; simp [nameOf]
    · split at hl
      · rename_i h
        injection hl with hl
        subst hl
        have hj : ∀ l : List UInt8, (nameOf (splitC 46 l)).length = l.length + 1 := by
          intro l
          induction l with
          | nil => simp [splitC, nameOf]
          | cons c r ih =>
            unfold splitC
            split
            · rw [nameOf_cons]; simp only [List.length_append, List.length_cons, List.length_nil]; omega
            · cases hs : splitC 46 r with
              | nil => exact absurd hs (splitC_ne 46 r)
              | cons p ps => rw [hs] at ih; rw [nameOf_cons] at ih ⊢; simp only [List.length_append, List.length_cons, List.length_nil] at ih ⊢; omega
        have hn : 0 < n.length := by
          cases n with
          | nil => simp at h
          | cons c r => simp
        have h2 := hj n.dropLast
        rw [List.length_dropLast] at h2
        show (nameOf (splitC 46 n.dropLast)).length + 1 ≤ n.length + 1
        omega
      · cases hl
theorem piece_len (c : UInt8) (x : D) (h1 : x.host.size ≤ 100000) (h2 : x.mail.size ≤ 100000) (h3 : x.text.size ≤ 100000) : (piece c x).length ≤ 100010 := by
  have e1 : x.host.data.toList.length = x.host.size := by rw [Array.length_toList]; rfl
  have e2 : x.mail.data.toList.length = x.mail.size := by rw [Array.length_toList]; rfl
  have e3 : x.text.data.toList.length = x.text.size := by rw [Array.length_toList]; rfl
  have n1 := wireN_len x.host.data.toList
  have n2 := wireN_len x.mail.data.toList
  unfold piece
  split
  · omega
  split
  · omega
  split
  · unfold addrW; split <;> simp [be_length]
  split
  · simp only [List.length_cons]; omega
  split
  · omega
  split
  · simp
  split
  · have := trimZ_len (RdW.bytesOf 8 x.bits.toNat)
    rw [RdW.bytesOf_length] at this
    unfold wireB bitmapS
    simp only [List.length_cons]; omega
  · rw [be_length]
    unfold numOf
    repeat' split
    all_goals simp
theorem strOf_size (l : List UInt8) : (strOf l).size = l.length := rfl
theorem strOf_app (l m : List UInt8) : strOf l ++ strOf m = strOf (l ++ m) := by
  apply ByteArray.ext
  apply Array.toList_inj.1
  simp [strOf]
theorem strOf_data (s : ByteArray) : strOf s.data.toList = s := rfl
theorem strOf_get (l : List UInt8) (i : Nat) (h : i < l.length) : (strOf l)[i]'h = l[i] := rfl
def letters : List UInt8 := [104, 109, 52, 54, 116, 114, 115, 110, 65, 66, 67, 70, 98, 99, 118, 119, 120, 121, 122]
theorem flds_ok (t : Int) (h : knownB t = true) : (flds t).length ≤ 9 ∧ (flds t).all (fun c => letters.contains c) = true := by
  rw [knownB_iff] at h
  rcases h with rfl | rfl | rfl | rfl | rfl | rfl | rfl | rfl | rfl | rfl | rfl | rfl | rfl | rfl <;> decide +kernel
theorem ret_bool {a b : Bool} (h : a = b) : Ending.returned (.bool a) = .returned (.bool b) := by rw [h]
end Go.Proofs.YtaehonmfoanloaaDoor.Hand
