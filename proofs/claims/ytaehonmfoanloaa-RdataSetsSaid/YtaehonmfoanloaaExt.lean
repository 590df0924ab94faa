/-
  The runs of math/bits.Add64 and Sub64, for which the model stands in, as equations in closed words.
  Conditions: the carry that is handed in is at most 1.
-/
import Derived.Laws.Externs
import Derived.WalkKit
namespace Go.Proofs.Ytaehonmfoanloaa.Ext
open Go.RowKit

/-- The sum's low word. -/
def add64s (x y c : Int) : Int := (((x.toNat + y.toNat + c.toNat) % 18446744073709551616 : Nat) : Int)
/-- The sum's carry. -/
def add64c (x y c : Int) : Int := (((x.toNat + y.toNat + c.toNat) / 18446744073709551616 : Nat) : Int)
/-- The difference's low word. -/
def sub64s (x y b : Int) : Int := (((x.toNat + 18446744073709551616 - y.toNat - b.toNat) % 18446744073709551616 : Nat) : Int)
/-- The difference's borrow. -/
def sub64b (x y b : Int) : Int := ((if x.toNat < y.toNat + b.toNat then 1 else 0 : Nat) : Int)

def add64E : Array Value → Sem Value := fun args => do
  let (x, y, c) ← Extern.MathBitsCarry.three "Add64" args
  pure (Extern.MathBitsCarry.pair ((x + y + c) % Extern.MathBitsCarry.m64) ((x + y + c) / Extern.MathBitsCarry.m64))
def sub64E : Array Value → Sem Value := fun args => do
  let (x, y, b) ← Extern.MathBitsCarry.three "Sub64" args
  pure (Extern.MathBitsCarry.pair ((x + Extern.MathBitsCarry.m64 - y - b) % Extern.MathBitsCarry.m64) (if x < y + b then 1 else 0))

theorem run_add64E {P : Program} (x y c : Int) (hc : c ≤ 1) (w : World) :
    (add64E #[.int .u64 x, .int .u64 y, .int .u64 c]).run P w = .ok (.tuple #[.int .u64 (add64s x y c), .int .u64 (add64c x y c)]) w := by
  match c, hc with
  | .ofNat 0, _ => rfl
  | .ofNat 1, _ => rfl
  | .negSucc _, _ => rfl
  | .ofNat (n + 2), h => exact absurd h (by simp only [Int.ofNat_eq_natCast]; omega)
theorem run_sub64E {P : Program} (x y c : Int) (hc : c ≤ 1) (w : World) :
    (sub64E #[.int .u64 x, .int .u64 y, .int .u64 c]).run P w = .ok (.tuple #[.int .u64 (sub64s x y c), .int .u64 (sub64b x y c)]) w := by
  match c, hc with
  | .ofNat 0, _ => rfl
  | .ofNat 1, _ => rfl
  | .negSucc _, _ => rfl
  | .ofNat (n + 2), h => exact absurd h (by simp only [Int.ofNat_eq_natCast]; omega)
theorem run_add64 {P : Program} {f : FuncId} {fn : Func} (hf : P.funcs[f]? = some fn) (hname : (fn.name == "runtime.NumGoroutine") = false) (hb : fn.body.isNone = true) (hn : Extern.findNext fn = none) (he : Extern.find fn = some add64E) (x y c : Int) (hc : c ≤ 1) (w : World) :
    (callFunc f #[.int .u64 x, .int .u64 y, .int .u64 c]).run P w = .ok (.value (.tuple #[.int .u64 (add64s x y c), .int .u64 (add64c x y c)])) w := by
  rw [run_callFunc_extern hf hname hb hn he, run_add64E x y c hc]
  rfl
theorem run_sub64 {P : Program} {f : FuncId} {fn : Func} (hf : P.funcs[f]? = some fn) (hname : (fn.name == "runtime.NumGoroutine") = false) (hb : fn.body.isNone = true) (hn : Extern.findNext fn = none) (he : Extern.find fn = some sub64E) (x y c : Int) (hc : c ≤ 1) (w : World) :
    (callFunc f #[.int .u64 x, .int .u64 y, .int .u64 c]).run P w = .ok (.value (.tuple #[.int .u64 (sub64s x y c), .int .u64 (sub64b x y c)])) w := by
  rw [run_callFunc_extern hf hname hb hn he, run_sub64E x y c hc]
  rfl
/-- A store changes no cell's being there: for the side condition of a load behind a second store to one cell. -/
theorem isSome_setCell (w : World) (p q : Addr) (v : Value) : ((w.setCell p v).cell? q).isSome = (w.cell? q).isSome := by
  cases h : w.cell? q with
  | some u => obtain ⟨v', hv⟩ := cell?_setCell_some (w := w) (p := p) (x := v) h; rw [hv]; rfl
  | none =>
    by_cases e : p = q
    · subst e
      unfold World.cell? at h
      unfold World.setCell World.cell?
      simp only [Array.getElem?_modify, if_true]
      cases hh : w.heap[p.block]? with
      | none => simp
      | some o =>
        rw [hh] at h
        cases o with
        | cells c elem fr =>
          simp only [Option.map_some] at h ⊢
          by_cases g : p.spot.isSome = true
          · simp [g]
          · simp only [g] at h ⊢
            simp at h ⊢
            omega
        | _ => simp
    · rw [World.cell?_setCell_other (h := e), h]
end Go.Proofs.Ytaehonmfoanloaa.Ext
