/- Texts laid together: Hl Bv Cl. -/
import Derived.Test.YtkknhcpjiehgiaaDoorWA
/- The walk's own words, continued: a region that draws its order and in which calls give memory: what only looks is taken first, by its number; then the one call that is ready. Over any program. -/
namespace Go.Mem
open Go.RowKit

/-- What is left of such a region: 'listed' says what has come up. S holds of every world that the region meets. -/
structure WH (P : Program) (ops : Array Oper) (S : World → Prop) (Q : Exit → Fm → World → Prop) (fuel : Nat) (listed : Array Bool) (n : Nat) (f : Fm) (w : World) : Prop where
  out : wpAnyH P .any ops (lift n Q) S fuel listed (act n f.fn) w

section
variable {P : Program} {ops : Array Oper} {Q : Exit → Fm → World → Prop} {n : Nat} {f : Fm} {w w0 : World} {S : World → Prop} {fuel : Nat} {listed : Array Bool}

theorem region_hS {id : Nat} (S : World → Prop) (hm : P.follows .mixedOrders = true)
    (h : ∀ w', Below w.heap.size w w' → WH P ops S Q ops.size (Array.replicate ops.size false) n f w') : WC P (.region id ops true) Q n f w :=
  ⟨wp_region_held (S := S) hm (h _ (Below.refl _ _).drew).out⟩
theorem region_h {id : Nat} (hm : P.follows .mixedOrders = true)
    (h : ∀ w', Below w.heap.size w w' → WH P ops (fun w' => Below w.heap.size w w') Q ops.size (Array.replicate ops.size false) n f w') : WC P (.region id ops true) Q n f w :=
  region_hS _ hm h

theorem h_nil (h : Q .normal f w) (hr : Region.ready .any ops listed = [] := by kernel_rfl) : WH P ops S Q fuel listed n f w := ⟨wpAnyH_done hr ⟨nofun, f, rfl, h⟩ fuel⟩

theorem h_p (i : Nat) {d : Nat} {op : Op} {ty : TypeId} {pos : String} {after : Array Edge} {g : Option (Nat × Bool)} {v : Value}
    (hb : S w)
    (k : WH P ops S Q fuel (listed.setIfInBounds i true) n (.upd f d v) w)
    (hi : ops[i]? = some ⟨some d, op, ty, pos, after, g⟩ := by rfl) (hs : Region.noSelect ops = true := by kernel_rfl)
    (hf : Region.free .any ops listed i = true := by kernel_rfl) (hr : (Region.ready .any ops listed).contains i = true := by kernel_rfl)
    (hw : Wants ⟨some d, op, ty, pos, after, g⟩ ops n f := by first | exact wn rfl | exact wy rfl rfl rfl rfl rfl known)
    (hd : Nat.ble (d + 1) n = true := by rfl)
    (hrun : ∀ w, S w → Yld P (evo n f) ⟨some d, op, ty, pos, after, g⟩ w v := by exact qyl) : WH P ops S Q (fuel + 1) listed n f w := by
  refine ⟨wpAnyH_take hi hs hf hr (v := v) (fun c a w h => absurd rfl (h.1 c)) (.inl ⟨hw, fun w hw => by rw [act_eval]; exact (hrun w hw).out⟩) hb ?_⟩
  rw [act_put f v (Nat.le_of_ble_eq_true hd)]
  exact k.out

theorem h_no (i : Nat) {d : Nat} {op : Op} {ty : TypeId} {pos : String} {after : Array Edge} {g : Option (Nat × Bool)}
    (hb : S w)
    (k : WH P ops S Q fuel (listed.setIfInBounds i true) n (.upd f d undef) w)
    (hi : ops[i]? = some ⟨some d, op, ty, pos, after, g⟩ := by rfl) (hs : Region.noSelect ops = true := by kernel_rfl)
    (hf : Region.free .any ops listed i = true := by kernel_rfl) (hr : (Region.ready .any ops listed).contains i = true := by kernel_rfl)
    (hw : Idle ⟨some d, op, ty, pos, after, g⟩ ops n f := by exact wx rfl rfl rfl rfl rfl known)
    (hd : Nat.ble (d + 1) n = true := by rfl) : WH P ops S Q (fuel + 1) listed n f w := by
  refine ⟨wpAnyH_take hi hs hf hr (v := undef) (fun c a w h => absurd rfl (h.1 c)) (.inr ⟨hw, rfl⟩) hb ?_⟩
  rw [act_put f undef (Nat.le_of_ble_eq_true hd)]
  exact k.out

theorem wp_exits {o : Oper} {a : Act} {w : World} {K K' : Act → World → Prop} {Q1 Q2 : Exit → Act → World → Prop} (h : ∀ a w, K a w → K' a w) (hp : ∀ c a w, Q1 (.panic c) a w → Q2 (.panic c) a w)
    (hg : ∀ a w, Q1 .outgrown a w → Q2 .outgrown a w) (hh : o.wp P a w K Q1) : o.wp P a w K' Q2 := by
  unfold Oper.wp at *
  generalize (execOp a.eval o).run P w = r at *
  have hl : LetsOut Q1 → LetsOut Q2 := fun ⟨a, w, h⟩ => ⟨a, w, hg a w h⟩
  cases r with
  | ok n w' =>
    cases n <;> simp only [Oper.upon] at hh ⊢ <;>
      first
        | exact h _ _ hh
        | exact Calls.mono hh (fun e w'' he => by cases e <;> first | exact h _ _ he | exact hp _ _ _ he | exact hl he)
        | exact Rows.mono hh (fun _ _ he => h _ _ he)
  | halt x w' => cases x <;> simp only [Oper.upon] at hh ⊢ <;> first | exact hp _ _ _ hh | exact hh

/-- What stands alone comes up now, as it would in an ordered region. -/
theorem h_one (i : Nat) {o : Oper}
    (k : WL P ops (seqP (fun f' w' => S w' ∧ WH P ops S Q fuel (listed.setIfInBounds i true) n f' w') Q) [o] n f w)
    (hi : ops[i]? = some o := by rfl) (hr : Region.ready .any ops listed = [i] := by kernel_rfl) : WH P ops S Q (fuel + 1) listed n f w := by
  refine ⟨wpAnyH_all hr (by simp) fun j hj => ?_⟩
  obtain rfl : j = i := by simpa using hj
  have hk := k.out
  unfold wpList at hk
  have hnext : ∀ a w, wpList P ops (lift n (seqP (fun f' w' => S w' ∧ WH P ops S Q fuel (listed.setIfInBounds j true) n f' w') Q)) [] a w →
      S w ∧ wpAnyH P .any ops (lift n Q) S fuel (listed.setIfInBounds j true) a w := by
    rintro a w ⟨_, f', rfl, hb, hw⟩
    exact ⟨hb, hw.out⟩
  unfold wpOp
  simp only [hi]
  split
  · rename_i hw
    rw [if_pos hw] at hk
    rcases hk with hk | ⟨h1, a, w, h2⟩
    · exact .inl (wp_exits hnext (fun c a w h => absurd rfl (h.1 c)) (fun a w h => h) hk)
    · exact .inr ⟨h1, a, w, h2⟩
  · rename_i hw
    rw [if_neg hw] at hk
    exact hnext _ _ hk

/-- the call's end: the region goes on -/
theorem h_on {K : Fm → World → Prop} (h : K f w) : seqP K Q .normal f w := h
end
end Go.Mem

/- The walk's own words, continued: variables of a struct type of one field. Over any program. -/
namespace Go.Mem
open Go.RowKit

/-- t is a struct type of one field, a slice: its zero -/
class ZeroBox (P : Program) (t : TypeId) : Prop where
  zero : ∀ w, (zeroValue t).run P w = .ok (.agg #[.slice none 0 0]) w
/-- p is a variable that the call owns, of the struct type T; its field holds u -/
structure Bx (w : World) (B : Nat) (p : Addr) (T : TypeId) (u : Value) : Prop where
  spot : p.spot = none
  off : p.off = 0
  low : B ≤ p.block
  row : w.heap[p.block]? = some (.cells #[u] T (0, 0))
theorem cells_one {u : Value} (h : u.oneCell' = true) : (Value.agg #[u]).cells = #[u] := by
  cases u <;> first | rfl | simp [Value.oneCell'] at h
section
variable {w w' : World} {B : Nat} {p : Addr} {T : TypeId} {u : Value}
theorem Bx.cell (h : Bx w B p T u) : w.cell? p = some u := by
  have h1 := h.spot
  have h2 := h.off
  simp [World.cell?, h.row, h1, h2]
theorem Bx.lt (h : Bx w B p T u) : p.block < w.heap.size := (Array.getElem?_eq_some_iff.1 h.row).1
theorem Bx.below (h : Bx w B p T u) (hb : Below w.heap.size w w') : Bx w' B p T u := ⟨h.spot, h.off, h.low, by rw [hb.block _ h.lt]; exact h.row⟩
theorem Bx.kept {row : Option Nat} (h : Bx w B p T u) (hg : w.grownBy w' row) (hne : row ≠ some p.block) : Bx w' B p T u :=
  ⟨h.spot, h.off, h.low, by rw [hg.block _ h.lt (fun e => hne e.symm)]; exact h.row⟩
theorem Bx.below_of (h : Bx w B p T u) (hg : w.grownBy w' (some p.block)) (hB : B ≤ w.heap.size) : Below B w w' :=
  grownBy_below hg hB (fun k hk => by cases hk; exact h.low)
end
section steps
variable {P : Program} {ops : Array Oper} {Q : Exit → Fm → World → Prop} {n : Nat} {f : Fm} {w : World} {rest : List Oper} {ty : TypeId} {pos : String} {after : Array Edge} {g : Option (Nat × Bool)} {d : Nat}
theorem s_alloc {B : Nat} {t : TypeId} [hz : ZeroBox P t]
    (hw : Wants ⟨some d, .alloc t, ty, pos, after, g⟩ ops n f) (hd : Nat.ble (d + 1) n = true) (hB : B ≤ w.heap.size)
    (k : ∀ w' p, Bx w' B p t (.slice none 0 0) → w.grownBy w' none → p.block = w.heap.size → WL P ops Q rest n (.upd f d (.pointer (some p))) w') :
    WL P ops Q (⟨some d, .alloc t, ty, pos, after, g⟩ :: rest) n f w := by
  refine s_val hw hd (v := .pointer (some ⟨w.heap.size, 0, none⟩)) (w' := w.alloc (.cells #[.slice none 0 0] t)) ?_ (k _ ⟨w.heap.size, 0, none⟩ ⟨rfl, rfl, hB, heap_alloc_new w _⟩ (World.grownBy_alloc w _ none) rfl)
  have hc : (Value.agg #[.slice none 0 0]).cells = #[.slice none 0 0] := rfl
  simp [execOp, Instr.alloc, newVar, newRow, hz.zero, hc]
theorem setCell_row {w : World} {p : Addr} {T : TypeId} {u0 u : Value} (h1 : p.spot = none) (h2 : p.off = 0) (hr : w.heap[p.block]? = some (.cells #[u0] T (0, 0))) :
    (w.setCell p u).heap[p.block]? = some (.cells #[u] T (0, 0)) := by
  simp [World.setCell, Array.getElem?_modify, hr, h2, h1]
/-- a struct is stored whole -/
theorem s_storeBox {B : Nat} {t : TypeId} [hb : BoxTy P t] {x y : Operand} {p : Addr} {T : TypeId} {u0 u : Value}
    (hw : Wants ⟨none, .store t x y, ty, pos, after, g⟩ ops n f)
    (hx : lk n f x = some (.pointer (some p))) (hy : lk n f y = some (.agg #[u])) (hu : u.oneCell' = true) (hv : Bx w B p T u0)
    (k : ∀ w', Bx w' B p T u → w.grownBy w' (some p.block) → WL P ops Q rest n f w') :
    WL P ops Q (⟨none, .store t x y, ty, pos, after, g⟩ :: rest) n f w := by
  replace hx := lk_evo hx
  replace hy := lk_evo hy
  have hf : w.frozen? p = false := frozen?_in_block hv.row
  have hst := run_store P w p u .plain hu
  simp only [hv.cell, hf] at hst
  refine s_unit hw (w' := w.setCell p u) ?_ (k _ ⟨hv.spot, hv.off, hv.low, setCell_row hv.spot hv.off hv.row⟩ ⟨rfl, rfl, rfl, by simp, fun k _ hk => Below.heap_setCell _ _ _ _ (fun e => hk (by rw [e]))⟩)
  simp [execOp, Instr.storeAt, Instr.sureAddr, storeVar, hx, hy, hb.size, cells_one hu, storeCells, Addr.add_zero', hst]
/-- the field is stored -/
theorem s_storeFld {B : Nat} {e : TypeId} {z : Value} {bytes : Nat} [he : CellTy P e z bytes] {x y : Operand} {p : Addr} {T : TypeId} {u0 u : Value}
    (hw : Wants ⟨none, .store e x y, ty, pos, after, g⟩ ops n f)
    (hx : lk n f x = some (.pointer (some p))) (hy : lk n f y = some u) (hu : u.oneCell' = true) (hv : Bx w B p T u0)
    (k : ∀ w', Bx w' B p T u → w.grownBy w' (some p.block) → WL P ops Q rest n f w') :
    WL P ops Q (⟨none, .store e x y, ty, pos, after, g⟩ :: rest) n f w := by
  replace hx := lk_evo hx
  replace hy := lk_evo hy
  have hf : w.frozen? p = false := frozen?_in_block hv.row
  have hst := storeVar_run (P := P) (e := e) hu hv.cell hf
  refine s_unit hw (w' := w.setCell p u) ?_ (k _ ⟨hv.spot, hv.off, hv.low, setCell_row hv.spot hv.off hv.row⟩ ⟨rfl, rfl, rfl, by simp, fun k _ hk => Below.heap_setCell _ _ _ _ (fun e => hk (by rw [e]))⟩)
  simp [execOp, Instr.storeAt, Instr.sureAddr, hx, hy, hst]
end steps
/-- a result that lies in a variable -/
theorem end_cell {P : Program} {fn : Func} {R : Value → World → Prop} {n t : Nat} {f : Fm} {w : World} {ty : TypeId} {p : Addr} {u : Value} [hb : BoxTy P ty] (h : fn.results = #[.cell t ty])
    (hv : lk n f (.tmp t) = some (.pointer (some p))) (hc : w.cell? p = some u) (hR : R (.agg #[u]) w) : endPost P fn n R .ret f w := by
  have e : (act n f.fn).tmps[t]?.getD undef = evo n f (.tmp t) := by rw [← act_eval]; simp [Act.eval]
  refine ⟨.agg #[u], ?_, hR⟩
  simp [results, h, e, lk_evo hv, asAddr, loadVar, hb.agg, hb.size, loadCells, loadCellsFrom, Addr.add_zero', hc]
end Go.Mem

/- The walk's own words, continued: functions that hold variables of their maker (closures): made, and called. Over any program. -/
namespace Go.Mem
open Go.RowKit
section
variable {P : Program} {ops : Array Oper} {Q : Exit → Fm → World → Prop} {n : Nat} {f : Fm} {w : World} {dst : Option Tmp} {rest : List Oper} {ty : TypeId} {pos : String} {after : Array Edge} {g : Option (Nat × Bool)} {d : Nat}
theorem y_fn0 {k : Fn} : Yld P (evo n f) ⟨dst, .makeFunc k #[] #[], ty, pos, after, g⟩ w (.func k #[] #[]) := by
  constructor; simp [execOp, Instr.makeFunc]
theorem y_fn1 {k : Fn} {x : Operand} {a : Value} (hx : lk n f x = some a) : Yld P (evo n f) ⟨dst, .makeFunc k #[] #[x], ty, pos, after, g⟩ w (.func k #[] #[a]) := by
  replace hx := lk_evo hx
  constructor; simp [execOp, Instr.makeFunc, hx]
theorem y_fn2 {k : Fn} {x y : Operand} {a b : Value} (hx : lk n f x = some a) (hy : lk n f y = some b) : Yld P (evo n f) ⟨dst, .makeFunc k #[] #[x, y], ty, pos, after, g⟩ w (.func k #[] #[a, b]) := by
  replace hx := lk_evo hx
  replace hy := lk_evo hy
  constructor; simp [execOp, Instr.makeFunc, hx, hy]
theorem y_fn3 {k : Fn} {x y z : Operand} {a b c : Value} (hx : lk n f x = some a) (hy : lk n f y = some b) (hz : lk n f z = some c) : Yld P (evo n f) ⟨dst, .makeFunc k #[] #[x, y, z], ty, pos, after, g⟩ w (.func k #[] #[a, b, c]) := by
  replace hx := lk_evo hx
  replace hy := lk_evo hy
  replace hz := lk_evo hz
  constructor; simp [execOp, Instr.makeFunc, hx, hy, hz]

/-- A call of a function that lies in a slot. -/
theorem s_callV {fn : FuncId} {c : Tmp} {xs : Array Operand} {ats : Array TypeId} {args caps : Array Value} {R : Value → World → Prop} [hf : FunTy P fn]
    (hw : Wants ⟨some d, .call ⟨.value (.tmp c), xs, ats⟩, ty, pos, after, g⟩ ops n f) (hd : Nat.ble (d + 1) n = true)
    (hcv : lk n f (.tmp c) = some (.func (.func fn) #[] caps)) (hxs : xs.toList.map (evo n f) = args.toList) (hc : Ret P fn (args ++ caps) w R)
    (k : ∀ v w', R v w' → WL P ops Q rest n (.upd f d v) w') :
    WL P ops Q (⟨some d, .call ⟨.value (.tmp c), xs, ats⟩, ty, pos, after, g⟩ :: rest) n f w := by
  replace hcv := lk_evo hcv
  unfold Wants at hw
  refine ⟨wpList_step fun K hK => ?_⟩
  rw [if_pos hw]
  unfold Oper.wp
  have hargs : xs.map (evo n f) = args := by apply Array.ext'; simpa using hxs
  have hrun : (execOp (evo n f) ⟨some d, .call ⟨.value (.tmp c), xs, ats⟩, ty, pos, after, g⟩).run P w = .ok (.enter fn (args ++ caps)) w := by
    have := hf.enters (#[] ++ args ++ caps) w
    simp only [Array.empty_append] at this
    rw [← this, ← hargs]
    simp [execOp, resolve, hcv, Deferred.ofValue, invoke]
  rw [act_eval, hrun, Oper.upon_enter]
  refine Calls.mono hc ?_
  rintro e w' ⟨v, rfl, hR⟩
  show K _ w'
  rw [act_put f v (Nat.le_of_ble_eq_true hd)]
  exact hK _ _ (k v w' hR).out
theorem s_callV1 {fn : FuncId} {c : Tmp} {x : Operand} {ats : Array TypeId} {a : Value} {caps : Array Value} {R : Value → World → Prop} [hf : FunTy P fn]
    (hw : Wants ⟨some d, .call ⟨.value (.tmp c), #[x], ats⟩, ty, pos, after, g⟩ ops n f) (hd : Nat.ble (d + 1) n = true)
    (hcv : lk n f (.tmp c) = some (.func (.func fn) #[] caps)) (hx : lk n f x = some a) (hc : Ret P fn (#[a] ++ caps) w R)
    (k : ∀ v w', R v w' → WL P ops Q rest n (.upd f d v) w') :
    WL P ops Q (⟨some d, .call ⟨.value (.tmp c), #[x], ats⟩, ty, pos, after, g⟩ :: rest) n f w := s_callV hw hd hcv (by simp [lk_evo hx]) hc k
theorem s_callV2 {fn : FuncId} {c : Tmp} {x y : Operand} {ats : Array TypeId} {a b : Value} {caps : Array Value} {R : Value → World → Prop} [hf : FunTy P fn]
    (hw : Wants ⟨some d, .call ⟨.value (.tmp c), #[x, y], ats⟩, ty, pos, after, g⟩ ops n f) (hd : Nat.ble (d + 1) n = true)
    (hcv : lk n f (.tmp c) = some (.func (.func fn) #[] caps)) (hx : lk n f x = some a) (hy : lk n f y = some b) (hc : Ret P fn (#[a, b] ++ caps) w R)
    (k : ∀ v w', R v w' → WL P ops Q rest n (.upd f d v) w') :
    WL P ops Q (⟨some d, .call ⟨.value (.tmp c), #[x, y], ats⟩, ty, pos, after, g⟩ :: rest) n f w := s_callV hw hd hcv (by simp [lk_evo hx, lk_evo hy]) hc k
end
end Go.Mem
