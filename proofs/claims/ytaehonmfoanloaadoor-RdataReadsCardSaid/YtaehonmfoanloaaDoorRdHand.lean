/-
  What the program's reader of data comes to, as functions of lists of bytes. Conditions: none.
  Words for the walks of the program's reader: the block that a function writes, what is read of the bytes that are left. Conditions: each theorem's own.
  The program's reader: take, byte, form, letter, number, walked. Conditions: each theorem's own.
  The program's reader: number, walked. Conditions: at most 4 bytes.
  The program's place (the address of a number in data), walked. Conditions: a letter that stands in a type's fields.
-/
import Derived.Test.YtaehonmfoanloaaDoorHand
import Derived.Deep.QuietTactic
import Derived.BigQuiet
import Derived.WalkLawsBesides
namespace Go.Proofs.YtaehonmfoanloaaDoor.Hand
open Go.RowKit Go.Proofs.YtaehonmfoanloaaDoorW.PrintWords Go.Proofs.YtaehonmfoanloaaDoor.RdW
set_option linter.all false
def mapR {α : Type} (r : Rs α) (f : α → D) : Rs D := match r with
  | .ok (a, rest) => .ok (f a, rest)
  | .error n => .error n
/-- What a field is read as. -/
def rField (c : UInt8) (r : List UInt8) (x : D) : Rs D :=
  if c = 104 then mapR (readName r) fun l => { x with host := strOf l } else
  if c = 109 then mapR (readName r) fun l => { x with mail := strOf l } else
  if c = 52 then mapR (rTake 4 r) fun l => { x with v6 := false, hi := 0, lo := val l 0 } else
  if c = 54 then mapR (rTake 16 r) fun l => { x with v6 := true, hi := val (l.take 8) 0, lo := val (l.drop 8) 0 } else
  if c = 116 then (match rByte r with
    | .error n => .error n
    | .ok (b, r') => mapR (rTake b.toNat r') fun l => { x with text := strOf l }) else
  if c = 114 then .ok ({ x with text := strOf r }, []) else
  if c = 115 then (match rByte r with
    | .error n => .error n
    | .ok (b, r') => if b = 253 then .ok (x, r') else .error 7) else
  if c = 110 then mapR (rBits r) fun b => { x with bits := b } else
  if c = 65 then mapR (rNum 2 0 r) fun n => { x with a := n } else
  if c = 66 then mapR (rNum 2 0 r) fun n => { x with b := n } else
  if c = 67 then mapR (rNum 2 0 r) fun n => { x with c := n } else
  if c = 70 then mapR (rNum 2 0 r) fun n => { x with f := n } else
  if c = 98 then mapR (rNum 1 0 r) fun n => { x with b := n } else
  if c = 99 then mapR (rNum 1 0 r) fun n => { x with c := n } else
  if c = 118 then mapR (rNum 4 0 r) fun n => { x with a := n } else
  if c = 119 then mapR (rNum 4 0 r) fun n => { x with b := n } else
  if c = 120 then mapR (rNum 4 0 r) fun n => { x with c := n } else
  if c = 121 then mapR (rNum 4 0 r) fun n => { x with d := n } else mapR (rNum 4 0 r) fun n => { x with e := n }
/-- The fields with these letters, one after another. -/
def readF (fs : List UInt8) (r : List UInt8) (x : D) : Rs D := match fs with
  | [] => .ok (x, r)
  | c :: cs => match rField c r x with
    | .error n => .error n
    | .ok (y, q) => readF cs q y
/-- What Read returns. -/
def readS (t : Int) (l : List UInt8) : D × Int := if knownB t then (match readF (flds t) l D.z with
    | .error n => (D.z, n)
    | .ok (x, rest) => if rest = [] then (if validS t x then (x, 0) else (D.z, 5)) else (D.z, 8)) else (D.z, 4)
end Go.Proofs.YtaehonmfoanloaaDoor.Hand
namespace Go.Proofs.YtaehonmfoanloaaDoor.Hand
open Go.RowKit Go.Proofs.YtaehonmfoanloaaDoorW.PrintWords Go.Proofs.YtaehonmfoanloaaDoor.RdW
set_option linter.all false

/-- Outside of block g, w' is as w was, as far as w went. -/
structure But (g : Nat) (w w' : World) : Prop where
  os : w'.os = w.os
  tape : w'.tape = w.tape
  output : w'.output = w.output
  size : w.heap.size ≤ w'.heap.size
  block : ∀ k, k < w.heap.size → k ≠ g → w'.heap[k]? = w.heap[k]?
theorem But.refl (g : Nat) (w : World) : But g w w := ⟨rfl, rfl, rfl, Nat.le_refl _, fun _ _ _ => rfl⟩
theorem But.trans {g : Nat} {a b c : World} (h : But g a b) (k : But g b c) : But g a c :=
  ⟨k.os.trans h.os, k.tape.trans h.tape, k.output.trans h.output, Nat.le_trans h.size k.size, fun i hi hg => (k.block i (Nat.lt_of_lt_of_le hi h.size) hg).trans (h.block i hi hg)⟩
theorem But.below {g : Nat} {a b c : World} (h : But g a b) (k : Below b.heap.size b c) : But g a c :=
  h.trans ⟨k.os, k.tape, k.output, k.size, fun i hi _ => k.block i hi⟩
theorem But.drew {g : Nat} {a w : World} (h : But g a w) : But g a w.drew := ⟨h.os, h.tape, h.output, h.size, h.block⟩
theorem But.drewN {g : Nat} {a w : World} (h : But g a w) (n : Nat) : But g a (w.drewN n) := by
  induction n with
  | zero => exact h
  | succ n ih => exact ih.drew
theorem But.alloc {g : Nat} {a w : World} (h : But g a w) (o : Obj) : But g a (w.alloc o) := h.below (al (Below.refl _ _) o)
theorem But.set {g : Nat} {a w : World} (h : But g a w) (o : Nat) (u : Value) : But g a (w.setCell ⟨g, o, none⟩ u) :=
  h.trans ⟨rfl, rfl, rfl, by simp [World.setCell], fun k _ hg => Below.heap_setCell _ _ _ _ hg⟩
theorem But.setNew {g : Nat} {a w : World} (h : But g a w) {b : Nat} (hb : a.heap.size ≤ b) (o : Nat) (u : Value) : But g a (w.setCell ⟨b, o, none⟩ u) :=
  ⟨h.os, h.tape, h.output, by have := h.size; simpa [World.setCell] using this, fun k hk hg => (Below.heap_setCell _ _ _ _ (by show k ≠ b; omega)).trans (h.block k hk hg)⟩
/-- The block of a reader: its bytes, and how many of them were read. -/
def Rb (w : World) (g : Nat) (s : ByteArray) (p : Int) : Prop := w.heap[g]? = some (.cells #[.string s, .int .i64 p] 64 (0, 0))
theorem Rb.lt {w : World} {g : Nat} {s : ByteArray} {p : Int} (h : Rb w g s p) : g < w.heap.size := by
  rcases Nat.lt_or_ge g w.heap.size with k | k
  · exact k
  · unfold Rb at h; rw [Array.getElem?_eq_none k] at h; cases h
theorem Rb.cells {w : World} {g : Nat} {s : ByteArray} {p : Int} (h : Rb w g s p) : w.cell? ⟨g, 0, none⟩ = some (.string s) ∧ w.cell? ⟨g, 1, none⟩ = some (.int .i64 p) ∧ w.frozen? ⟨g, 0, none⟩ = false ∧ w.frozen? ⟨g, 1, none⟩ = false := by
  unfold Rb at h
  refine ⟨?_, ?_, ?_, ?_⟩
  · unfold World.cell?; simp [h]
  · unfold World.cell?; simp [h]
  · unfold World.frozen?; simp [h]
  · unfold World.frozen?; simp [h]
theorem Rb.drew {w : World} {g : Nat} {s : ByteArray} {p : Int} (h : Rb w g s p) : Rb w.drew g s p := h
theorem Rb.drewN {w : World} {g : Nat} {s : ByteArray} {p : Int} (h : Rb w g s p) (n : Nat) : Rb (w.drewN n) g s p := by
  induction n with
  | zero => exact h
  | succ n ih => exact ih.drew
theorem Rb.below {w w' : World} {g : Nat} {s : ByteArray} {p : Int} (h : Rb w g s p) (hb : Below w.heap.size w w') : Rb w' g s p := (hb.block _ h.lt).trans h
theorem Rb.alloc {w : World} {g : Nat} {s : ByteArray} {p : Int} (h : Rb w g s p) (o : Obj) : Rb (w.alloc o) g s p := h.below (al (Below.refl _ _) o)
theorem Rb.set {w : World} {g : Nat} {s : ByteArray} {p : Int} (h : Rb w g s p) (q : Int) : Rb (w.setCell ⟨g, 1, none⟩ (.int .i64 q)) g s q := by
  unfold Rb at h ⊢
  show (w.heap.modify g _)[g]? = _
  rw [Array.getElem?_modify, if_pos rfl, h]
  rfl
theorem Rb.far {w : World} {g : Nat} {s : ByteArray} {p : Int} (h : Rb w g s p) {b : Nat} (hb : g ≠ b) (o : Nat) (u : Value) : Rb (w.setCell ⟨b, o, none⟩ u) g s p := (Below.heap_setCell _ _ _ _ (by show g ≠ b; exact hb)).trans h
/-- The bytes that are left. -/
def rem (s : ByteArray) (p : Nat) : List UInt8 := s.data.toList.drop p
theorem rem_len (s : ByteArray) (p : Nat) : (rem s p).length = s.size - p := by
  unfold rem; rw [List.length_drop, Array.length_toList]; rfl
def died (n : Int) : Ending := .panicked [{ v := .iface 34 (.int .i64 n), recovered := false }]
/-- What a function of the reader comes to: what was read, or the first error. -/
def Got {α : Type} (g : Nat) (s : ByteArray) (r : Rs α) (V : α → Value) (w : World) (e : Ending) (w' : World) : Prop :=
  But g w w' ∧ match r with
  | .ok (a, rest) => e = .returned (V a) ∧ Rb w' g s ((s.size - rest.length : Nat) : Int)
  | .error n => e = died n ∧ ∃ q, Rb w' g s q
theorem got_ok {α : Type} {g : Nat} {s : ByteArray} {r : Rs α} {V : α → Value} {w w' : World} {e : Ending} {a : α} {rest : List UInt8} (hr : r = .ok (a, rest)) (he : e = .returned (V a)) (hf : But g w w') (hb : Rb w' g s ((s.size - rest.length : Nat) : Int)) : Got g s r V w e w' := by
  subst hr; exact ⟨hf, he, hb⟩
theorem got_at {α : Type} {g : Nat} {s : ByteArray} {r : Rs α} {V : α → Value} {w w' : World} {e : Ending} {a : α} {rest : List UInt8} {q : Int} (hr : r = .ok (a, rest)) (he : e = .returned (V a)) (hf : But g w w') (hb : Rb w' g s q) (hq : q = ((s.size - rest.length : Nat) : Int)) : Got g s r V w e w' := by
  subst hr; subst hq; exact ⟨hf, he, hb⟩
theorem rem_at (s : ByteArray) (p : Nat) (h : p ≤ s.size) : s.size - (rem s p).length = p := by rw [rem_len]; omega
theorem rem_drop (s : ByteArray) (p n : Nat) : (rem s p).drop n = rem s (p + n) := by unfold rem; rw [List.drop_drop]
theorem got_err {α : Type} {g : Nat} {s : ByteArray} {r : Rs α} {V : α → Value} {w w' : World} {e : Ending} {n : Int} (hr : r = .error n) (he : e = died n) (hf : But g w w') {q : Int} (hb : Rb w' g s q) : Got g s r V w e w' := by
  subst hr; exact ⟨hf, he, q, hb⟩
theorem got_cases {α : Type} {g : Nat} {s : ByteArray} {r : Rs α} {V : α → Value} {w w' : World} {e : Ending} (h : Got g s r V w e w') :
    (∃ a rest, Hid (r = .ok (a, rest)) ∧ e = .returned (V a) ∧ Aside0 (But g w w') ∧ Aside0 (Rb w' g s ((s.size - rest.length : Nat) : Int))) ∨ (∃ n, Hid (r = .error n) ∧ e = .panicked [{ v := .iface 34 (.int .i64 n), recovered := false }] ∧ Aside0 (But g w w') ∧ ∃ q, Aside0 (Rb w' g s q)) := by
  obtain ⟨hf, h⟩ := h
  cases hr : r with
  | ok x => obtain ⟨a, rest⟩ := x; subst hr; exact .inl ⟨a, rest, rfl, h.1, ⟨hf⟩, ⟨h.2⟩⟩
  | error n => subst hr; obtain ⟨h1, q, h2⟩ := h; exact .inr ⟨n, rfl, h1, ⟨hf⟩, q, ⟨h2⟩⟩
theorem extract_rem (s : ByteArray) (p n : Nat) (h : p + n ≤ s.size) : s.extract p (p + n) = strOf ((rem s p).take n) := by
  apply ByteArray.ext
  apply Array.toList_inj.1
  unfold strOf rem
  simp
theorem rByte_rem {s : ByteArray} {p : Nat} {b : UInt8} {rest : List UInt8} (h : rByte (rem s p) = .ok (b, rest)) : rem s p = b :: rest ∧ p + 1 ≤ s.size ∧ rest = rem s (p + 1) := by
  cases hc : rem s p with
  | nil => rw [hc] at h; cases h
  | cons x xs =>
    rw [hc] at h
    simp only [rByte, Except.ok.injEq, Prod.mk.injEq] at h
    have hl := congrArg List.length hc
    rw [rem_len, List.length_cons] at hl
    refine ⟨by rw [h.1, h.2], by omega, ?_⟩
    rw [← rem_drop, hc, ← h.2]; rfl
end Go.Proofs.YtaehonmfoanloaaDoor.Hand
namespace Go.Proofs.YtaehonmfoanloaaDoor.Hand
open Go.RowKit Go.Proofs.YtaehonmfoanloaaDoorW.PrintWords Go.Proofs.YtaehonmfoanloaaDoor.RdW
set_option maxHeartbeats 4000000
set_option maxRecDepth 100000
set_option linter.all false

theorem take_sp (g : Nat) (s : ByteArray) (p n : Nat) (hp : p ≤ s.size) (hs : s.size ≤ 1000000) (hn : n ≤ 1000000) (w : World) (hR : Rb w g s p) :
    Calls Tryd.prog 66 #[.pointer (some ⟨g, 0, none⟩), .int .i64 n] w (Got g s (rTake n (rem s p)) (fun l => .string (strOf l)) w) := by
  obtain ⟨c0, c1, f0, f1⟩ := hR.cells
  have HR := Aside0.mk hR
  clear hR
  have hw1 : wrap64 ((s.size : Int) - (p : Int)) = (s.size : Int) - p := by unfold wrap64; omega
  have hw2 : wrap64 ((p : Int) + (n : Int)) = (p : Int) + n := by unfold wrap64; omega
  have hw3 : wrap64 ((p : Int) + (n : Int) - n) = (p : Int) := by unfold wrap64; omega
  by_cases h : n ≤ s.size - p
  · have h1 : ¬ ((s.size : Int) - p < n) := by omega
    have k1 : 0 ≤ (p : Int) := by omega
    have k2 : (p : Int) ≤ (p : Int) + n := by omega
    have k3 : (p : Int) + (n : Int) ≤ s.size := by omega
    have HH := Aside0.mk h
    clear h
    go_enter Tryd.func66, Tryd.ntmps66
    go_wp2
    go_quiet (fail)
    go_wp2
    go_quiet (fail)
    go_wp2
    go_ret
    refine got_at (a := (rem s p).take n) (rest := (rem s p).drop n) (q := (p : Int) + n) ?_ ?_ ((((But.refl g w).drewN _).set _ _).drewN _) (((HR.out.drewN _).set _).drewN _) ?_
    · unfold rTake; rw [rem_len, if_pos HH.out]
    · rw [extract_rem s p n (by have := HH.out; omega)]; rfl
    · rw [rem_drop, rem_at _ _ (by have := HH.out; omega)]; rfl
  · have h1 : (s.size : Int) - p < n := by omega
    have HH := Aside0.mk h
    clear h
    go_enter Tryd.func66, Tryd.ntmps66
    go_wp2
    go_quiet (fail)
    go_wp2
    exact ⟨rfl, got_err (n := 6) (show rTake n (rem s p) = _ by unfold rTake; rw [rem_len, if_neg HH.out]) rfl ((But.refl g w).drewN _) (HR.out.drewN _)⟩
theorem byte_sp (g : Nat) (s : ByteArray) (p : Nat) (hp : p ≤ s.size) (hs : s.size ≤ 1000000) (w : World) (hR : Rb w g s p) :
    Calls Tryd.prog 67 #[.pointer (some ⟨g, 0, none⟩)] w (Got g s (rByte (rem s p)) (fun b => .int .i64 (b.toNat : Int)) w) := by
  go_enter Tryd.func67, Tryd.ntmps67
  go_wp2_with fail
  refine (take_sp g s p 1 hp hs (by omega) w hR).mono ?_
  intro e w1 hG
  rcases got_cases hG with ⟨l, rest, hr, rfl, hF, hB⟩ | ⟨n, hr, rfl, hF, q, hB⟩
  · obtain ⟨b, hb⟩ : ∃ b, rem s p = b :: rest ∧ l = [b] := by
      have h := hr.out
      unfold rTake at h
      split at h
      · rename_i hl
        simp only [Except.ok.injEq, Prod.mk.injEq] at h
        cases hc : rem s p with
        | nil => rw [hc] at hl; simp at hl
        | cons x xs => rw [hc] at h; simp at h; exact ⟨x, by rw [h.2], h.1.symm⟩
      · cases h
    obtain ⟨hb1, rfl⟩ := hb
    have HB1 := Aside0.mk hb1
    clear hr hb1 hG
    have hsz : (strOf [b]).size = 1 := rfl
    have hidx : (strOf [b])[0] = b := rfl
    have hw : wrap64 (b.toNat : Int) = b.toNat := by have := b.toNat_lt; unfold wrap64; omega
    go_wp2
    go_ret
    exact got_ok (a := b) (rest := rest) (by rw [HB1.out]; rfl) (by show Ending.returned (.int .i64 (wrap64 _)) = _; rw [hw]) hF.out hB.out
  · have h : rByte (rem s p) = .error n := by
      have h := hr.out
      unfold rTake at h
      split at h
      · cases h
      · rename_i hl
        cases hc : rem s p with
        | nil => simp at h; rw [← h]; rfl
        | cons x xs => rw [hc] at hl; simp at hl
    have HH := Aside0.mk h
    clear hr h hG
    go_wp2
    exact ⟨rfl, got_err HH.out rfl hF.out hB.out⟩
theorem form_yes (w : World) : Calls Tryd.prog 68 #[.bool true] w fun e w' => e = .returned (.tuple #[]) ∧ w = w' := by
  go_enter Tryd.func68, Tryd.ntmps68
  go_wp2
  go_end0
  exact ⟨rfl, rfl⟩
theorem form_no (w : World) : Calls Tryd.prog 68 #[.bool false] w fun e w' => e = .panicked [{ v := .iface 34 (.int .i64 7), recovered := false }] ∧ w = w' := by
  go_enter Tryd.func68, Tryd.ntmps68
  go_wp2
  exact ⟨rfl, rfl, rfl⟩
theorem form_of (b r : Bool) (h : b = r) (w : World) : Calls Tryd.prog 68 #[.bool b] w fun e w' => w = w' ∧ e = (if r = true then .returned (.tuple #[]) else .panicked [{ v := .iface 34 (.int .i64 7), recovered := false }]) := by
  subst h
  cases b
  · exact (form_no w).mono (fun e w' h => ⟨h.2, h.1⟩)
  · exact (form_yes w).mono (fun e w' h => ⟨h.2, h.1⟩)
theorem okc_int : ∀ c : UInt8, okc c = ((decide (97 ≤ (c.toNat : Int)) && decide ((c.toNat : Int) ≤ 122)) || (decide (48 ≤ (c.toNat : Int)) && decide ((c.toNat : Int) ≤ 57)) || ((c.toNat : Int) == 45) || ((c.toNat : Int) == 95)) :=
  byte_all (p := fun c => okc c = ((decide (97 ≤ (c.toNat : Int)) && decide ((c.toNat : Int) ≤ 122)) || (decide (48 ≤ (c.toNat : Int)) && decide ((c.toNat : Int) ≤ 57)) || ((c.toNat : Int) == 45) || ((c.toNat : Int) == 95))) (by decide +kernel)
theorem cap_low : ∀ c : UInt8, 65 ≤ (c.toNat : Int) → (c.toNat : Int) ≤ 90 → okc (low c) = true ∧ ((low c).toNat : Int) = c.toNat + 32 :=
  byte_all (p := fun c => 65 ≤ (c.toNat : Int) → (c.toNat : Int) ≤ 90 → okc (low c) = true ∧ ((low c).toNat : Int) = c.toNat + 32) (by decide +kernel)
theorem nocap_low : ∀ c : UInt8, ¬ (65 ≤ (c.toNat : Int) ∧ (c.toNat : Int) ≤ 90) → low c = c :=
  byte_all (p := fun c => ¬ (65 ≤ (c.toNat : Int) ∧ (c.toNat : Int) ≤ 90) → low c = c) (by decide +kernel)
theorem letter_cap (c : UInt8) (h0 : 65 ≤ (c.toNat : Int)) (h1 : (c.toNat : Int) ≤ 90) (w : World) : Calls Tryd.prog 97 #[.int .u8 c.toNat] w fun e w' => w = w' ∧ e = .returned (.int .u8 (c.toNat + 32)) := by
  go_enter Tryd.func97, Tryd.ntmps97
  go_wp2_with fail
  all_goals
    refine (form_of _ true (by first | rfl | (simp; omega)) w).mono ?_
    rintro e w' ⟨rfl, rfl⟩
    go_wp2
    go_ret
    exact ⟨rfl, rfl⟩
theorem letter_small (c : UInt8) (h : ¬ (65 ≤ (c.toNat : Int) ∧ (c.toNat : Int) ≤ 90)) (w : World) : Calls Tryd.prog 97 #[.int .u8 c.toNat] w fun e w' => w = w' ∧ e = (if okc c = true then .returned (.int .u8 c.toNat) else .panicked [{ v := .iface 34 (.int .i64 7), recovered := false }]) := by
  have hb : c.toNat < 256 := c.toNat_lt
  have hO := Aside0.mk (okc_int c)
  obtain ⟨o, ho⟩ : ∃ o, okc c = o := ⟨_, rfl⟩
  rw [ho] at hO ⊢
  clear ho
  have hO := hO
  rcases (by omega : (c.toNat : Int) < 65 ∨ 90 < (c.toNat : Int)) with h0 | h0
  all_goals
    clear h
    go_enter Tryd.func97, Tryd.ntmps97
    go_wp2_with fail
    all_goals
      refine (form_of _ o (by rw [hO.out, Bool.eq_iff_iff]; first | (simp only [Bool.or_eq_true, Bool.and_eq_true, decide_eq_true_eq, beq_iff_eq, true_iff]; omega) | (simp; omega)) w).mono ?_
      rintro e w' ⟨rfl, rfl⟩
      cases o
      · go_wp2
        exact ⟨rfl, rfl, rfl⟩
      · go_wp2
        go_ret
        exact ⟨rfl, rfl⟩
end Go.Proofs.YtaehonmfoanloaaDoor.Hand
namespace Go.Proofs.YtaehonmfoanloaaDoor.Hand
open Go.RowKit Go.Proofs.YtaehonmfoanloaaDoorW.PrintWords Go.Proofs.YtaehonmfoanloaaDoor.RdW
set_option maxHeartbeats 4000000
set_option maxRecDepth 100000
set_option linter.all false
theorem number_sp (g : Nat) (s : ByteArray) (p n : Nat) (hp : p ≤ s.size) (hs : s.size ≤ 1000000) (hn : n ≤ 4) (w : World) (hR : Rb w g s p) :
    Calls Tryd.prog 70 #[.pointer (some ⟨g, 0, none⟩), .int .i64 n] w (Got g s (rNum n 0 (rem s p)) (fun x => .int .i64 (x : Int)) w) := by
  have HR := Aside0.mk hR
  clear hR
  go_enter Tryd.func70, Tryd.ntmps70
  go_wp2_with fail
  go_loopw [5, 7] (fun va vi wr => ∃ (i acc q : Nat), va = .int .i64 (acc : Int) ∧ vi = .int .i64 (i : Int) ∧ Aside0 (i ≤ n) ∧ Aside0 (acc < 256 ^ i) ∧ Aside0 (q ≤ s.size) ∧ Aside0 (rNum (n - i) acc (rem s q) = rNum n 0 (rem s p)) ∧ Aside0 (But g w wr) ∧ Aside0 (Rb wr g s q)) (fun _ vi _ => n - (RowKit.intOf vi).toNat)
  case atStart => exact ⟨0, 0, p, rfl, rfl, ⟨Nat.zero_le _⟩, ⟨by decide⟩, ⟨hp⟩, ⟨rfl⟩, ⟨But.refl _ _⟩, HR⟩
  case round =>
    obtain ⟨i, acc, q, rfl, rfl, HI, HA, HQ, HN, HF, HB⟩ := hrel
    clear HR
    by_cases hlt : i < n
    · have hltI : (i : Int) < (n : Int) := by omega
      go_wp2_with fail
      refine (byte_sp g s q HQ.out hs _ HB.out).mono ?_
      intro e w1 hG
      rcases got_cases hG with ⟨b, rest, hr, rfl, hF, hB⟩ | ⟨n', hr, rfl, hF, q', hB⟩
      · obtain ⟨hq, hq1, hrest⟩ := rByte_rem hr.out
        have hN1 : rNum (n - (i + 1)) (acc * 256 + b.toNat) (rem s (q + 1)) = rNum n 0 (rem s p) := by
          rw [← HN.out, hq, show n - i = (n - (i + 1)) + 1 by omega, rNum, hrest]
        have hB' : Rb w1 g s ((q + 1 : Nat) : Int) := by have h := hB.out; rw [hrest, rem_at _ _ hq1] at h; exact h
        have HN1 := Aside0.mk hN1
        have HB1 := Aside0.mk hB'
        have HF1 := Aside0.mk (HF.out.trans hF.out)
        have HQ1 := Aside0.mk hq1
        have HAA := HA.out
        clear hN1 hB' hq hq1 hrest hr hG hB hF HN HB HF
        have hb := b.toNat_lt
        have hi3 : i ≤ 3 := by omega
        have hacc : acc < 16777216 := Nat.lt_of_lt_of_le HAA (Nat.pow_le_pow_right (by omega) hi3)
        have hacc1 : acc * 256 + b.toNat < 256 ^ (i + 1) := by rw [Nat.pow_succ]; omega
        have HA1 := Aside0.mk hacc1
        clear hacc1 HAA HA
        have hw1 : wrap64 ((acc : Int) * 256) = (acc : Int) * 256 := by unfold wrap64; omega
        have hor : Go.bits .or .i64 ((acc : Int) * 256) (b.toNat : Int) = ((acc * 256 + b.toNat : Nat) : Int) := by
          rw [bits_join .i64 63 (by decide) (fun n h0 h1 => by rw [IntKind.wrap_i64]; omega) 8 _ _ (by omega) (by omega) (by omega) (by omega) (by omega) (by omega)]; omega
        go_wp2
        go_roundw
        case rel => exact ⟨i + 1, acc * 256 + b.toNat, q + 1, by go_num, by go_num, ⟨by omega⟩, HA1, HQ1, HN1, HF1, HB1⟩
        case measure => simp [RowKit.intOf]; omega
      · have hN1 : rNum n 0 (rem s p) = .error n' := by
          have h := hr.out
          rw [← HN.out, show n - i = (n - (i + 1)) + 1 by omega]
          cases hc : rem s q with
          | nil => rw [hc] at h; simp only [rByte, Except.error.injEq] at h; rw [← h]; rfl
          | cons x xs => rw [hc] at h; cases h
        have HN1 := Aside0.mk hN1
        clear hN1 hr hG HN
        go_wp2
        exact ⟨rfl, got_err HN1.out rfl (HF.out.trans hF.out) hB.out⟩
    · have hltI : ¬ (i : Int) < (n : Int) := by omega
      have hin : i = n := by have := HI.out; omega
      have hN := HN.out
      rw [hin, Nat.sub_self, rNum] at hN
      have HN1 := Aside0.mk hN
      clear hN hin HN
      go_wp2
      go_ret
      refine got_at HN1.out.symm rfl HF.out HB.out (by rw [rem_at _ _ HQ.out])
end Go.Proofs.YtaehonmfoanloaaDoor.Hand
namespace Go.Proofs.YtaehonmfoanloaaDoor.Hand
open Go.RowKit Go.Proofs.YtaehonmfoanloaaDoorW.PrintWords Go.Proofs.YtaehonmfoanloaaDoor.RdW
set_option maxHeartbeats 4000000
set_option maxRecDepth 100000
set_option linter.all false
/-- The cell and the size of the number with a letter. -/
def cellOf (c : Int) : Nat × Nat :=
  if 65 ≤ c ∧ c ≤ 70 then ((c - 65).toNat, 2) else if 97 ≤ c ∧ c ≤ 102 then ((c - 97).toNat, 1) else ((c - 118).toNat, 4)
theorem place_sp (c : Int) (hc : c = 65 ∨ c = 66 ∨ c = 67 ∨ c = 70 ∨ c = 98 ∨ c = 99 ∨ c = 118 ∨ c = 119 ∨ c = 120 ∨ c = 121 ∨ c = 122) (g : Nat) (w : World) :
    Calls Tryd.prog 42 #[.pointer (some ⟨g, 0, none⟩), .int .u8 c] w fun e w' => e = .returned (.tuple #[.pointer (some ⟨g, 6 + (cellOf c).1, none⟩), .int .i64 ((cellOf c).2 : Int)]) ∧ Below w.heap.size w w' := by
  have hu := Tryd.underlying26
  rcases hc with rfl | rfl | rfl | rfl | rfl | rfl | rfl | rfl | rfl | rfl | rfl
  all_goals
    go_enter Tryd.func42, Tryd.ntmps42
    go_wp2
    go_region
    go_wp2
    go_ret2
    exact ⟨rfl, al (dr (Below.refl _ _)) _⟩
end Go.Proofs.YtaehonmfoanloaaDoor.Hand
