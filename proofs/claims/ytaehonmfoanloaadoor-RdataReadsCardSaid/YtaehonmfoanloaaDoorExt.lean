/-
  The runs of math/bits.Add64 and Sub64, for which the model stands in, as equations in closed words.
  Conditions: the carry that is handed in is at most 1.
-/
import Derived.Laws.Externs
import Derived.WalkKit
import Derived.Laws.Tables
import Derived.Laws.CopyRow
import Derived.Laws.Rows
namespace Go.Proofs.YtaehonmfoanloaaDoor.Ext
open Go.RowKit

/-- The sum's low word. -/
def add64s (x y c : Int) : Int := (((x.toNat + y.toNat + c.toNat) % 18446744073709551616 : Nat) : Int)
/-- The sum's carry. -/
def add64c (x y c : Int) : Int := (((x.toNat + y.toNat + c.toNat) / 18446744073709551616 : Nat) : Int)
/-- The difference's low word. -/
def sub64s (x y b : Int) : Int := (((x.toNat + 18446744073709551616 - y.toNat - b.toNat) % 18446744073709551616 : Nat) : Int)
/-- The difference's borrow. -/
def sub64b (x y b : Int) : Int := ((if x.toNat < y.toNat + b.toNat then 1 else 0 : Nat) : Int)

def add64E : Array Value → Sem Value := fun args => do
  let (x, y, c) ← Extern.MathBitsCarry.three "Add64" args
  pure (Extern.MathBitsCarry.pair ((x + y + c) % Extern.MathBitsCarry.m64) ((x + y + c) / Extern.MathBitsCarry.m64))
def sub64E : Array Value → Sem Value := fun args => do
  let (x, y, b) ← Extern.MathBitsCarry.three "Sub64" args
  pure (Extern.MathBitsCarry.pair ((x + Extern.MathBitsCarry.m64 - y - b) % Extern.MathBitsCarry.m64) (if x < y + b then 1 else 0))

theorem run_add64E {P : Program} (x y c : Int) (hc : c ≤ 1) (w : World) :
    (add64E #[.int .u64 x, .int .u64 y, .int .u64 c]).run P w = .ok (.tuple #[.int .u64 (add64s x y c), .int .u64 (add64c x y c)]) w := by
  match c, hc with
  | .ofNat 0, _ => rfl
  | .ofNat 1, _ => rfl
  | .negSucc _, _ => rfl
  | .ofNat (n + 2), h => exact absurd h (by simp only [Int.ofNat_eq_natCast]; omega)
theorem run_sub64E {P : Program} (x y c : Int) (hc : c ≤ 1) (w : World) :
    (sub64E #[.int .u64 x, .int .u64 y, .int .u64 c]).run P w = .ok (.tuple #[.int .u64 (sub64s x y c), .int .u64 (sub64b x y c)]) w := by
  match c, hc with
  | .ofNat 0, _ => rfl
  | .ofNat 1, _ => rfl
  | .negSucc _, _ => rfl
  | .ofNat (n + 2), h => exact absurd h (by simp only [Int.ofNat_eq_natCast]; omega)
theorem run_add64 {P : Program} {f : FuncId} {fn : Func} (hf : P.funcs[f]? = some fn) (hname : (fn.name == "runtime.NumGoroutine") = false) (hb : fn.body.isNone = true) (hn : Extern.findNext fn = none) (he : Extern.find fn = some add64E) (x y c : Int) (hc : c ≤ 1) (w : World) :
    (callFunc f #[.int .u64 x, .int .u64 y, .int .u64 c]).run P w = .ok (.value (.tuple #[.int .u64 (add64s x y c), .int .u64 (add64c x y c)])) w := by
  rw [run_callFunc_extern hf hname hb hn he, run_add64E x y c hc]
  rfl
theorem run_sub64 {P : Program} {f : FuncId} {fn : Func} (hf : P.funcs[f]? = some fn) (hname : (fn.name == "runtime.NumGoroutine") = false) (hb : fn.body.isNone = true) (hn : Extern.findNext fn = none) (he : Extern.find fn = some sub64E) (x y c : Int) (hc : c ≤ 1) (w : World) :
    (callFunc f #[.int .u64 x, .int .u64 y, .int .u64 c]).run P w = .ok (.value (.tuple #[.int .u64 (sub64s x y c), .int .u64 (sub64b x y c)])) w := by
  rw [run_callFunc_extern hf hname hb hn he, run_sub64E x y c hc]
  rfl
/-- A store changes no cell's being there: for the side condition of a load behind a second store to one cell. -/
theorem isSome_setCell (w : World) (p q : Addr) (v : Value) : ((w.setCell p v).cell? q).isSome = (w.cell? q).isSome := by
  cases h : w.cell? q with
  | some u => obtain ⟨v', hv⟩ := cell?_setCell_some (w := w) (p := p) (x := v) h; rw [hv]; rfl
  | none =>
    by_cases e : p = q
    · subst e
      unfold World.cell? at h
      unfold World.setCell World.cell?
      simp only [Array.getElem?_modify, if_true]
      cases hh : w.heap[p.block]? with
      | none => simp
      | some o =>
        rw [hh] at h
        cases o with
        | cells c elem fr =>
          simp only [Option.map_some] at h ⊢
          by_cases g : p.spot.isSome = true
          · simp [g]
          · simp only [g] at h ⊢
            simp at h ⊢
            omega
        | _ => simp
    · rw [World.cell?_setCell_other (h := e), h]
/-- A wide row's values, each of one cell. -/
def rowOk : List Value → Bool
  | [] => true
  | v :: vs => v.oneCell' && rowOk vs
theorem rowOk_mem : ∀ {l : List Value}, rowOk l = true → ∀ v ∈ l, v.oneCell' = true
  | [], _, v, hv => by simp at hv
  | x :: xs, h, v, hv => by
    simp only [rowOk, Bool.and_eq_true] at h
    rcases List.mem_cons.1 hv with rfl | hv
    · exact h.1
    · exact rowOk_mem h.2 v hv
/-- A whole row's stores, one cell behind the other. -/
def storeChain (W : World) (g : Nat) : Nat → List Value → World
  | _, [] => W
  | i, v :: vs => storeChain (W.setCell ⟨g, i, none⟩ v) g (i + 1) vs
theorem storeChain_eq (g : Nat) (t : TypeId) (fr : Nat × Nat) : ∀ (vs : List Value) (i : Nat) (cur : Array Value) (W : World), W.heap[g]? = some (.cells cur t fr) → i + vs.length = cur.size →
    storeChain W g i vs = W.setRow g (cur.toList.take i ++ vs).toArray
  | [], i, cur, W, hg, hl => by
    have h0 : cur.toList.take i = cur.toList := List.take_of_length_le (by simp at hl ⊢; omega)
    simp only [storeChain, List.append_nil, h0, Array.toArray_toList]
    exact (setRow_self W g cur t fr hg).symm
  | v :: rest, i, cur, W, hg, hl => by
    have hi : i < cur.size := by simp at hl; omega
    have hs := setCell_eq_setRow W g i cur t fr v hg
    have hg' := setRow_heap W g cur (cur.setIfInBounds i v) t fr hg
    have ih := storeChain_eq g t fr rest (i + 1) (cur.setIfInBounds i v) (W.setRow g (cur.setIfInBounds i v)) hg' (by simp at hl ⊢; omega)
    simp only [storeChain, hs, ih, setRow_setRow]
    congr 2
    apply List.ext_getElem?
    intro k
    simp only [Array.toList_setIfInBounds, List.getElem?_append, List.length_take, List.length_set, Array.length_toList]
    by_cases hk : k < i
    · simp [hk, show k < i + 1 by omega, show min (i + 1) cur.size = i + 1 by omega, show min i cur.size = i by omega, show i ≠ k by omega]
    · by_cases hk2 : k = i
      · subst hk2
        simp [show min (k + 1) cur.size = k + 1 by omega, show min k cur.size = k by omega]
      · simp [hk, show ¬ k < i + 1 by omega, show min (i + 1) cur.size = i + 1 by omega, show min i cur.size = i by omega, show k - i = (k - (i + 1)) + 1 by omega]
/-- A whole row's store, as the chain of its cells' stores. -/
theorem run_store_chain {P : Program} {o : Oper} {a : Act} {W w1 : World} (ty : TypeId) (x y : Operand) (ho : o.op = .store ty x y) (g : Nat) (cells old : Array Value) (t : TypeId)
    (hx : a.eval x = .pointer (some ⟨g, 0, none⟩)) (hy : a.eval y = .agg cells) (hg : W.heap[g]? = some (.cells old t (0, 0))) (hi : (P.info? ty).map (·.size) = some cells.size)
    (hold : old.size = cells.size) (h1 : rowOk cells.toList = true) (hw : storeChain W g 0 cells.toList = w1) : (execOp a.eval o).run P W = .ok .skip w1 := by
  have hc : storeChain W g 0 cells.toList = W.setRow g cells := by
    rw [storeChain_eq g t (0, 0) cells.toList 0 old W hg (by simp [hold])]
    simp
  rw [← hw, hc]
  unfold execOp
  simp only [ho, hx, hy, Instr.storeAt, Instr.sureAddr, Sem.run_bind, Sem.run_pure, Result.andThen_ok, run_storeVar_row W g t ty old cells hg hi hold (Array.all_eq_true_iff_forall_mem.2 (fun v hv => rowOk_mem h1 v (by simpa using hv)))]
/-- A wide value is built: its cells told at once. -/
theorem wpList_buildC {P : Program} {ops : Array Oper} {rest : List Oper} {o : Oper} {a : Act} {w : World} {Q : Exit → Act → World → Prop} (hg : o.guard = none) (t : TypeId) (parts : Array (Nat × Operand)) (ho : o.op = .build t parts) {cells : Array Value}
    (hf : P.built t (parts.map fun (i, x) => (i, a.eval x)).toList = some cells) (h : wpList P ops Q rest (a.put o.dst (.agg cells)) w) : wpList P ops Q (o :: rest) a w :=
  wpList_build hg t parts ho (by rw [hf]; rfl) (by rw [hf]; exact h)
/-- What the cells of a row hold, one behind the other. -/
def cellsAre (w : World) (g : Nat) : Nat → List Value → Prop
  | _, [] => True
  | i, v :: vs => w.cell? ⟨g, i, none⟩ = some v ∧ cellsAre w g (i + 1) vs
theorem cellsAre_get (w : World) (g : Nat) : ∀ (l : List Value) (i j : Nat) (v : Value), cellsAre w g i l → l[j]? = some v → w.cell? ⟨g, i + j, none⟩ = some v
  | [], _, _, _, _, h => by simp at h
  | x :: xs, i, 0, v, hc, h => by
    simp only [List.getElem?_cons_zero, Option.some.injEq] at h
    subst h
    exact hc.1
  | x :: xs, i, j + 1, v, hc, h => by
    have := cellsAre_get w g xs (i + 1) j v hc.2 (by simpa using h)
    rwa [show i + 1 + j = i + (j + 1) by omega] at this
/-- A whole value is read from its cells. -/
theorem run_load_wide {P : Program} {o : Oper} {a : Act} {w : World} (ty : TypeId) (x : Operand) (ho : o.op = .load ty x) (g : Nat) (cs : Array Value) (d : TypeDesc)
    (hx : a.eval x = .pointer (some ⟨g, 0, none⟩)) (hu : P.underlying ty = some d) (hd : (match d with | .struct _ | .array _ _ => true | _ => false) = true) (hi : (P.info? ty).map (·.size) = some cs.size)
    (hc : cellsAre w g 0 cs.toList) : (execOp a.eval o).run P w = .ok (.value (.agg cs)) w := by
  have hl : (loadCells ⟨g, 0, none⟩ cs.toList.length).run P w = .ok cs.toList.toArray w :=
    run_loadCells_list (P := P) w ⟨g, 0, none⟩ cs.toList (fun j v hv => by
      have hadd : (⟨g, 0, none⟩ : Addr).add j = ⟨g, j, none⟩ := by unfold Addr.add; split <;> simp_all
      rw [hadd]
      have := cellsAre_get w g cs.toList 0 j v hc hv
      rwa [Nat.zero_add] at this)
  have hload : (loadVar ty ⟨g, 0, none⟩).run P w = .ok (.agg cs) w := by
    cases hq : P.info? ty with
    | none => simp [hq] at hi
    | some i =>
      have hs : i.size = cs.size := by simpa [hq] using hi
      have hagg : (isAgg ty).run P w = .ok true w := by
        unfold isAgg
        rw [Sem.run_bind, run_underlying hu w]
        cases d <;> simp_all
      simp only [Array.length_toList, Array.toArray_toList] at hl
      simp [loadVar, Sem.run_bind, hagg, sizeOf, typeInfo, hq, hs, hl]
  unfold execOp
  simp only [ho, hx, Instr.loadAt, Instr.sureAddr, Sem.run_bind, Sem.run_pure, Result.andThen_ok, hload]
/-- A byte's quotient, told as an uint64. -/
theorem u64_u8 (y : Int) : IntKind.u64.wrap (IntKind.u8.wrap y) = y % 256 := by rw [IntKind.wrap_u8, IntKind.wrap_u64]; omega
end Go.Proofs.YtaehonmfoanloaaDoor.Ext
