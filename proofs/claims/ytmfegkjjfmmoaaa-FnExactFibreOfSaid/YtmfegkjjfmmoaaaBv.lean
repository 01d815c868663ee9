/- The walk's own words, continued: variables of a struct type of one field. Over any program. -/
import Derived.Test.YtmfegkjjfmmoaaaHl
namespace Go.Mem
open Go.RowKit

/-- t is a struct type of one field, a slice: its zero -/
class ZeroBox (P : Program) (t : TypeId) : Prop where
  zero : ∀ w, (zeroValue t).run P w = .ok (.agg #[.slice none 0 0]) w
/-- p is a variable that the call owns, of the struct type T; its field holds u -/
structure Bx (w : World) (B : Nat) (p : Addr) (T : TypeId) (u : Value) : Prop where
  spot : p.spot = none
  off : p.off = 0
  low : B ≤ p.block
  row : w.heap[p.block]? = some (.cells #[u] T (0, 0))
theorem cells_one {u : Value} (h : u.oneCell' = true) : (Value.agg #[u]).cells = #[u] := by
  cases u <;> first | rfl | simp [Value.oneCell'] at h
section
variable {w w' : World} {B : Nat} {p : Addr} {T : TypeId} {u : Value}
theorem Bx.cell (h : Bx w B p T u) : w.cell? p = some u := by
  have h1 := h.spot
  have h2 := h.off
  simp [World.cell?, h.row, h1, h2]
theorem Bx.lt (h : Bx w B p T u) : p.block < w.heap.size := (Array.getElem?_eq_some_iff.1 h.row).1
theorem Bx.below (h : Bx w B p T u) (hb : Below w.heap.size w w') : Bx w' B p T u := ⟨h.spot, h.off, h.low, by rw [hb.block _ h.lt]; exact h.row⟩
theorem Bx.kept {row : Option Nat} (h : Bx w B p T u) (hg : w.grownBy w' row) (hne : row ≠ some p.block) : Bx w' B p T u :=
  ⟨h.spot, h.off, h.low, by rw [hg.block _ h.lt (fun e => hne e.symm)]; exact h.row⟩
theorem Bx.below_of (h : Bx w B p T u) (hg : w.grownBy w' (some p.block)) (hB : B ≤ w.heap.size) : Below B w w' :=
  grownBy_below hg hB (fun k hk => by cases hk; exact h.low)
end
section steps
variable {P : Program} {ops : Array Oper} {Q : Exit → Fm → World → Prop} {n : Nat} {f : Fm} {w : World} {rest : List Oper} {ty : TypeId} {pos : String} {after : Array Edge} {g : Option (Nat × Bool)} {d : Nat}
theorem s_alloc {B : Nat} {t : TypeId} [hz : ZeroBox P t]
    (hw : Wants ⟨some d, .alloc t, ty, pos, after, g⟩ ops n f) (hd : Nat.ble (d + 1) n = true) (hB : B ≤ w.heap.size)
    (k : ∀ w' p, Bx w' B p t (.slice none 0 0) → w.grownBy w' none → p.block = w.heap.size → WL P ops Q rest n (.upd f d (.pointer (some p))) w') :
    WL P ops Q (⟨some d, .alloc t, ty, pos, after, g⟩ :: rest) n f w := by
  refine s_val hw hd (v := .pointer (some ⟨w.heap.size, 0, none⟩)) (w' := w.alloc (.cells #[.slice none 0 0] t)) ?_ (k _ ⟨w.heap.size, 0, none⟩ ⟨rfl, rfl, hB, heap_alloc_new w _⟩ (World.grownBy_alloc w _ none) rfl)
  have hc : (Value.agg #[.slice none 0 0]).cells = #[.slice none 0 0] := rfl
  simp [execOp, Instr.alloc, newVar, newRow, hz.zero, hc]
theorem setCell_row {w : World} {p : Addr} {T : TypeId} {u0 u : Value} (h1 : p.spot = none) (h2 : p.off = 0) (hr : w.heap[p.block]? = some (.cells #[u0] T (0, 0))) :
    (w.setCell p u).heap[p.block]? = some (.cells #[u] T (0, 0)) := by
  simp [World.setCell, Array.getElem?_modify, hr, h2, h1]
/-- a struct is stored whole -/
theorem s_storeBox {B : Nat} {t : TypeId} [hb : BoxTy P t] {x y : Operand} {p : Addr} {T : TypeId} {u0 u : Value}
    (hw : Wants ⟨none, .store t x y, ty, pos, after, g⟩ ops n f)
    (hx : lk n f x = some (.pointer (some p))) (hy : lk n f y = some (.agg #[u])) (hu : u.oneCell' = true) (hv : Bx w B p T u0)
    (k : ∀ w', Bx w' B p T u → w.grownBy w' (some p.block) → WL P ops Q rest n f w') :
    WL P ops Q (⟨none, .store t x y, ty, pos, after, g⟩ :: rest) n f w := by
  replace hx := lk_evo hx
  replace hy := lk_evo hy
  have hf : w.frozen? p = false := frozen?_in_block hv.row
  have hst := run_store P w p u .plain hu
  simp only [hv.cell, hf] at hst
  refine s_unit hw (w' := w.setCell p u) ?_ (k _ ⟨hv.spot, hv.off, hv.low, setCell_row hv.spot hv.off hv.row⟩ ⟨rfl, rfl, rfl, by simp, fun k _ hk => Below.heap_setCell _ _ _ _ (fun e => hk (by rw [e]))⟩)
  simp [execOp, Instr.storeAt, Instr.sureAddr, storeVar, hx, hy, hb.size, cells_one hu, storeCells, Addr.add_zero', hst]
/-- the field is stored -/
theorem s_storeFld {B : Nat} {e : TypeId} {z : Value} {bytes : Nat} [he : CellTy P e z bytes] {x y : Operand} {p : Addr} {T : TypeId} {u0 u : Value}
    (hw : Wants ⟨none, .store e x y, ty, pos, after, g⟩ ops n f)
    (hx : lk n f x = some (.pointer (some p))) (hy : lk n f y = some u) (hu : u.oneCell' = true) (hv : Bx w B p T u0)
    (k : ∀ w', Bx w' B p T u → w.grownBy w' (some p.block) → WL P ops Q rest n f w') :
    WL P ops Q (⟨none, .store e x y, ty, pos, after, g⟩ :: rest) n f w := by
  replace hx := lk_evo hx
  replace hy := lk_evo hy
  have hf : w.frozen? p = false := frozen?_in_block hv.row
  have hst := storeVar_run (P := P) (e := e) hu hv.cell hf
  refine s_unit hw (w' := w.setCell p u) ?_ (k _ ⟨hv.spot, hv.off, hv.low, setCell_row hv.spot hv.off hv.row⟩ ⟨rfl, rfl, rfl, by simp, fun k _ hk => Below.heap_setCell _ _ _ _ (fun e => hk (by rw [e]))⟩)
  simp [execOp, Instr.storeAt, Instr.sureAddr, hx, hy, hst]
end steps
/-- a result that lies in a variable -/
theorem end_cell {P : Program} {fn : Func} {R : Value → World → Prop} {n t : Nat} {f : Fm} {w : World} {ty : TypeId} {p : Addr} {u : Value} [hb : BoxTy P ty] (h : fn.results = #[.cell t ty])
    (hv : lk n f (.tmp t) = some (.pointer (some p))) (hc : w.cell? p = some u) (hR : R (.agg #[u]) w) : endPost P fn n R .ret f w := by
  have e : (act n f.fn).tmps[t]?.getD undef = evo n f (.tmp t) := by rw [← act_eval]; simp [Act.eval]
  refine ⟨.agg #[u], ?_, hR⟩
  simp [results, h, e, lk_evo hv, asAddr, loadVar, hb.agg, hb.size, loadCells, loadCellsFrom, Addr.add_zero', hc]
end Go.Mem
