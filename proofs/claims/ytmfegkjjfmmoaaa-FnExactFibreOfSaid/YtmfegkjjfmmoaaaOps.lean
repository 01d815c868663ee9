/- The walk's own words, continued: the operations. Over any program. -/
import Derived.Test.YtmfegkjjfmmoaaaWk
import Derived.Deep.Quiet
namespace Go.Mem
open Go.RowKit

theorem split {p G : Prop} [Decidable p] (h1 : p → G) (h2 : ¬ p → G) : G := if h : p then h1 h else h2 h
theorem nb_t {b : Bool} (h : b = false) : (!b) = true := by simp [h]
theorem nb_f {b : Bool} (h : b = true) : (!b) = false := by simp [h]
theorem splitb {G : Prop} (b : Bool) (h1 : b = true → G) (h2 : b = false → G) : G := by cases b; exact h2 rfl; exact h1 rfl

/-- t is a slice type with elements of type e -/
class SliceTy (P : Program) (t : TypeId) (e : outParam TypeId) : Prop where
  under : P.underlying t = some (.slice e)
/-- e is a type of one cell, no struct and no array -/
class CellTy (P : Program) (e : TypeId) (z : outParam Value) (bytes : outParam Nat) : Prop where
  info : ∃ i, P.info? e = some i ∧ i.zero = some z ∧ i.size = 1 ∧ i.bytes = bytes
  agg : ∀ w, (isAgg e).run P w = .ok false w
  one : z.oneCell' = true
  small : bytes ≤ 24
/-- s is a struct type of one field, at the place 0 -/
class BoxTy (P : Program) (s : TypeId) : Prop where
  field : ∀ (a : Addr) w, (Instr.fieldAt s (.pointer (some a)) 0).run P w = .ok (.pointer (some a)) w
  agg : ∀ w, (isAgg s).run P w = .ok true w
  size : ∀ w, (sizeOf s).run P w = .ok 1 w

section
variable {P : Program} {ops : Array Oper} {Q : Exit → Fm → World → Prop} {n : Nat} {f : Fm} {w w' : World} {rest : List Oper}

/-- The operation o of the region is carried out; is passed over. -/
def Wants (o : Oper) (ops : Array Oper) (n : Nat) (f : Fm) : Prop := Region.wanted o (yielded ops (act n f.fn).tmps) = true
def Idle (o : Oper) (ops : Array Oper) (n : Nat) (f : Fm) : Prop := Region.wanted o (yielded ops (act n f.fn).tmps) = false
theorem wn {o : Oper} (hg : o.guard = none) : Wants o ops n f := by simp [Wants, Region.wanted, hg]
/-- The Bool that a value is. -/
def boolOf : Value → Option Bool
  | .bool b => some b
  | _ => none
theorem yielded_eq {j d : Nat} {oj : Oper} {v : Value} (hj : ops[j]? = some oj) (hd : oj.dst = some d) (hn : Nat.ble (d + 1) n = true) (hf : evo n f (.tmp d) = v) :
    yielded ops (act n f.fn).tmps j = boolOf v := by
  have hn' : d < n := Nat.le_of_ble_eq_true hn
  have e : (act n f.fn).tmps[d]? = some v := by
    rw [← hf]
    simp [act, hn', evo]
  simp only [yielded, hj, hd, Option.bind_some, e]
  cases v <;> rfl
theorem wy {o oj : Oper} {j d : Nat} {want b : Bool} (hg : o.guard = some (j, want)) (hj : ops[j]? = some oj) (hd : oj.dst = some d) (hn : Nat.ble (d + 1) n = true) (hf : lk n f (.tmp d) = some (.bool b)) (hb : b = want) :
    Wants o ops n f := by
  replace hf := lk_evo hf
  simp [Wants, Region.wanted, hg, yielded_eq hj hd hn hf, boolOf, hb]
theorem wx {o oj : Oper} {j d : Nat} {want b : Bool} (hg : o.guard = some (j, want)) (hj : ops[j]? = some oj) (hd : oj.dst = some d) (hn : Nat.ble (d + 1) n = true) (hf : lk n f (.tmp d) = some (.bool b)) (hb : b = !want) :
    Idle o ops n f := by
  replace hf := lk_evo hf
  subst hb
  simp [Idle, Region.wanted, hg, yielded_eq hj hd hn hf, boolOf]
/-- A guard whose guarding operation was itself passed over. -/
theorem wu {o oj : Oper} {j d : Nat} {want : Bool} (hg : o.guard = some (j, want)) (hj : ops[j]? = some oj) (hd : oj.dst = some d) (hn : Nat.ble (d + 1) n = true) (hf : evo n f (.tmp d) = undef) :
    Idle o ops n f := by
  simp [Idle, Region.wanted, hg, yielded_eq hj hd hn hf, boolOf, undef]

/-- The operation o, its operands read by ρ, yields v in w and leaves w as it is. -/
structure Yld (P : Program) (ρ : Operand → Value) (o : Oper) (w : World) (v : Value) : Prop where
  out : (execOp ρ o).run P w = .ok (.value v) w

theorem s_val {d : Nat} {op : Op} {ty : TypeId} {pos : String} {after : Array Edge} {g : Option (Nat × Bool)} {v : Value}
    (hw : Wants ⟨some d, op, ty, pos, after, g⟩ ops n f) (hd : Nat.ble (d + 1) n = true)
    (hrun : (execOp (evo n f) ⟨some d, op, ty, pos, after, g⟩).run P w = .ok (.value v) w') (k : WL P ops Q rest n (.upd f d v) w') :
    WL P ops Q (⟨some d, op, ty, pos, after, g⟩ :: rest) n f w := by
  unfold Wants at hw
  refine ⟨wpList_step fun K hK => ?_⟩
  rw [if_pos hw]
  unfold Oper.wp
  rw [act_eval, hrun, Oper.upon_value, act_put f v (Nat.le_of_ble_eq_true hd)]
  exact hK _ _ k.out

theorem s_p {d : Nat} {op : Op} {ty : TypeId} {pos : String} {after : Array Edge} {g : Option (Nat × Bool)} {v : Value}
    (hw : Wants ⟨some d, op, ty, pos, after, g⟩ ops n f) (hd : Nat.ble (d + 1) n = true)
    (hrun : Yld P (evo n f) ⟨some d, op, ty, pos, after, g⟩ w v) (k : WL P ops Q rest n (.upd f d v) w) :
    WL P ops Q (⟨some d, op, ty, pos, after, g⟩ :: rest) n f w := s_val hw hd hrun.out k

theorem s_no {d : Nat} {op : Op} {ty : TypeId} {pos : String} {after : Array Edge} {g : Option (Nat × Bool)}
    (hw : Idle ⟨some d, op, ty, pos, after, g⟩ ops n f) (hd : Nat.ble (d + 1) n = true)
    (k : WL P ops Q rest n (.upd f d undef) w) :
    WL P ops Q (⟨some d, op, ty, pos, after, g⟩ :: rest) n f w := by
  unfold Idle at hw
  refine ⟨wpList_step fun K hK => ?_⟩
  simp only [hw]
  rw [act_put f undef (Nat.le_of_ble_eq_true hd)]
  exact hK _ _ k.out

theorem s_unit {op : Op} {ty : TypeId} {pos : String} {after : Array Edge} {g : Option (Nat × Bool)}
    (hw : Wants ⟨none, op, ty, pos, after, g⟩ ops n f)
    (hrun : (execOp (evo n f) ⟨none, op, ty, pos, after, g⟩).run P w = .ok .skip w') (k : WL P ops Q rest n f w') :
    WL P ops Q (⟨none, op, ty, pos, after, g⟩ :: rest) n f w := by
  unfold Wants at hw
  refine ⟨wpList_step fun K hK => ?_⟩
  rw [if_pos hw]
  unfold Oper.wp
  rw [act_eval, hrun, Oper.upon_skip]
  exact hK _ _ k.out

/-! ### In a region that draws its order, and whose operations leave all that was there -/
structure WQ (P : Program) (ops : Array Oper) (w0 : World) (Q : Exit → Fm → World → Prop) (l : List Oper) (n : Nat) (f : Fm) : Prop where
  out : wpQuiet P ops (fun w' => Below w0.heap.size w0 w') (fun a' => ∀ w', Below w0.heap.size w0 w' → lift n Q .normal a' w') l (act n f.fn)
theorem q_p {w0 : World} {d : Nat} {op : Op} {ty : TypeId} {pos : String} {after : Array Edge} {g : Option (Nat × Bool)} {v : Value}
    (hw : Wants ⟨some d, op, ty, pos, after, g⟩ ops n f) (hd : Nat.ble (d + 1) n = true)
    (hrun : ∀ w, Below w0.heap.size w0 w → Yld P (evo n f) ⟨some d, op, ty, pos, after, g⟩ w v) (k : WQ P ops w0 Q rest n (.upd f d v)) :
    WQ P ops w0 Q (⟨some d, op, ty, pos, after, g⟩ :: rest) n f := by
  unfold Wants at hw
  refine ⟨wpQuiet_step fun K hK => ?_⟩
  rw [if_pos hw]
  refine ⟨v, fun w hw => ?_, ?_⟩
  · unfold Oper.quietAt
    have := (hrun w hw).out
    rw [act_eval, this]
    exact ⟨rfl, rfl⟩
  · rw [act_put f v (Nat.le_of_ble_eq_true hd)]
    exact hK _ k.out
theorem q_no {w0 : World} {d : Nat} {op : Op} {ty : TypeId} {pos : String} {after : Array Edge} {g : Option (Nat × Bool)}
    (hw : Idle ⟨some d, op, ty, pos, after, g⟩ ops n f) (hd : Nat.ble (d + 1) n = true)
    (k : WQ P ops w0 Q rest n (.upd f d undef)) :
    WQ P ops w0 Q (⟨some d, op, ty, pos, after, g⟩ :: rest) n f := by
  unfold Idle at hw
  refine ⟨wpQuiet_step fun K hK => ?_⟩
  simp only [hw]
  rw [act_put f undef (Nat.le_of_ble_eq_true hd)]
  exact hK _ k.out
theorem q_nil {w0 : World} (h : ∀ w', Below w0.heap.size w0 w' → Q .normal f w') : WQ P ops w0 Q [] n f :=
  ⟨wpQuiet_nil fun w' hw' => ⟨nofun, f, rfl, h w' hw'⟩⟩
theorem region_q {id : Nat} {l : List Oper} (hm : P.follows .mixedOrders = true) (hB : Region.lexB .any l.toArray = true)
    (h : WQ P l.toArray w Q l n f) : WC P (.region id l.toArray true) Q n f w :=
  ⟨wp_region_quiet (C := fun w' => Below w.heap.size w w') hm hB (Below.refl _ _).drew (by simpa using h.out)⟩
end

/-! ### The operations that leave the world as it is -/
section
variable {P : Program} {n : Nat} {f : Fm} {w : World} {dst : Option Tmp} {ty : TypeId} {pos : String} {after : Array Edge} {g : Option (Nat × Bool)}

theorem y_move {x : Operand} {v : Value} (hx : lk n f x = some v) : Yld P (evo n f) ⟨dst, .move x, ty, pos, after, g⟩ w v := by replace hx := lk_evo hx; subst hx; exact ⟨rfl⟩
theorem y_assign {x : Operand} {v : Value} (hx : lk n f x = some v) : Yld P (evo n f) ⟨dst, .assign x, ty, pos, after, g⟩ w v := by replace hx := lk_evo hx; subst hx; exact ⟨rfl⟩

theorem y_len {x : Operand} {t e : TypeId} {v : Value} {vs : List Value} [h : SliceTy P t e] (hx : lk n f x = some v) (hv : Rd w v vs) :
    Yld P (evo n f) ⟨dst, .call ⟨.builtin .len, #[x], #[t]⟩, ty, pos, after, g⟩ w (.int .i64 vs.length) := by
  replace hx := lk_evo hx
  obtain ⟨a, cap, rfl, h1, h2⟩ := hv
  constructor
  simp [execOp, resolve, invoke, builtin, Builtin.len_, run_underlying h.under, goInt, hx]

theorem y_idx {x i : Operand} {t e : TypeId} {v : Value} {vs : List Value} {k : IntKind} {j : Int} {z : Value} {bytes : Nat} [h : SliceTy P t e] [he : CellTy P e z bytes]
    (hx : lk n f x = some v) (hi : lk n f i = some (.int k j)) (hv : Rd w v vs) (h0 : 0 ≤ j) (hj : j < vs.length) :
    Yld P (evo n f) ⟨dst, .indexAddr t x i, ty, pos, after, g⟩ w (.pointer (some (addrOf v j.toNat))) := by
  replace hx := lk_evo hx
  replace hi := lk_evo hi
  obtain ⟨ti, hti, _, hs, _⟩ := he.info
  have := hv.idx t e ti h.under hti hs w k j h0 hj
  constructor
  simp [execOp, hx, hi, this]

theorem y_ld {x : Operand} {e : TypeId} {v u : Value} {vs : List Value} {j : Nat} {z : Value} {bytes : Nat} [he : CellTy P e z bytes]
    (hx : lk n f x = some (.pointer (some (addrOf v j)))) (hv : Rd w v vs) (hu : vs[j]? = some u) :
    Yld P (evo n f) ⟨dst, .load e x, ty, pos, after, g⟩ w u := by
  replace hx := lk_evo hx
  have := hv.cell hu
  constructor
  simp [execOp, Instr.loadAt, Instr.sureAddr, loadVar, hx, he.agg, this]

/-- A load through a pointer whose cell is known. -/
theorem y_ldc {x : Operand} {e : TypeId} {u : Value} {a : Addr} {z : Value} {bytes : Nat} [he : CellTy P e z bytes]
    (hx : lk n f x = some (.pointer (some a))) (hu : w.cell? a = some u) :
    Yld P (evo n f) ⟨dst, .load e x, ty, pos, after, g⟩ w u := by
  replace hx := lk_evo hx
  constructor
  simp [execOp, Instr.loadAt, Instr.sureAddr, loadVar, hx, he.agg, hu]
/-- A struct of one field, loaded whole. -/
theorem y_ldbox {x : Operand} {e : TypeId} {u : Value} {a : Addr} [he : BoxTy P e]
    (hx : lk n f x = some (.pointer (some a))) (hu : w.cell? a = some u) :
    Yld P (evo n f) ⟨dst, .load e x, ty, pos, after, g⟩ w (.agg #[u]) := by
  replace hx := lk_evo hx
  constructor
  simp [execOp, Instr.loadAt, Instr.sureAddr, loadVar, hx, he.agg, he.size, loadCells, loadCellsFrom, Addr.add_zero', hu]
theorem y_field {x : Operand} {s : TypeId} {a : Addr} [he : BoxTy P s] (hx : lk n f x = some (.pointer (some a))) :
    Yld P (evo n f) ⟨dst, .fieldAddr s x 0, ty, pos, after, g⟩ w (.pointer (some a)) := by
  replace hx := lk_evo hx
  constructor
  simp [execOp, hx, he.field]

theorem wrap_id {a : Int} (h : -9223372036854775808 ≤ a ∧ a ≤ 9223372036854775807) : IntKind.i64.wrap a = a := by
  rw [IntKind.wrap_i64]; omega

section bin
variable {x y : Operand} {tx ty' : TypeId} {a b : Int}
theorem y_add (hx : lk n f x = some (.int .i64 a)) (hy : lk n f y = some (.int .i64 b)) (h : -9223372036854775808 ≤ a + b ∧ a + b ≤ 9223372036854775807) :
    Yld P (evo n f) ⟨dst, .binOp .add tx x y ty', ty, pos, after, g⟩ w (.int .i64 (a + b)) := by
  replace hx := lk_evo hx
  replace hy := lk_evo hy
  constructor; simp [execOp, hx, hy, eqGuard, binOp, Op.intArith, wrap_id h]
theorem y_sub (hx : lk n f x = some (.int .i64 a)) (hy : lk n f y = some (.int .i64 b)) (h : -9223372036854775808 ≤ a - b ∧ a - b ≤ 9223372036854775807) :
    Yld P (evo n f) ⟨dst, .binOp .sub tx x y ty', ty, pos, after, g⟩ w (.int .i64 (a - b)) := by
  replace hx := lk_evo hx
  replace hy := lk_evo hy
  constructor; simp [execOp, hx, hy, eqGuard, binOp, Op.intArith, wrap_id h]
theorem y_mul (hx : lk n f x = some (.int .i64 a)) (hy : lk n f y = some (.int .i64 b)) (h : -9223372036854775808 ≤ a * b ∧ a * b ≤ 9223372036854775807) :
    Yld P (evo n f) ⟨dst, .binOp .mul tx x y ty', ty, pos, after, g⟩ w (.int .i64 (a * b)) := by
  replace hx := lk_evo hx
  replace hy := lk_evo hy
  constructor; simp [execOp, hx, hy, eqGuard, binOp, Op.intArith, wrap_id h]
theorem y_quo (hx : lk n f x = some (.int .i64 a)) (hy : lk n f y = some (.int .i64 b)) (h0 : 0 ≤ a) (h1 : 1 ≤ b) (h2 : a ≤ 9223372036854775807) :
    Yld P (evo n f) ⟨dst, .binOp .quo tx x y ty', ty, pos, after, g⟩ w (.int .i64 (a / b)) := by
  replace hx := lk_evo hx
  replace hy := lk_evo hy
  have hb : b ≠ 0 := by omega
  have e : a.tdiv b = a / b := Int.tdiv_eq_ediv_of_nonneg h0
  have hle : a / b ≤ a := Int.ediv_le_self _ h0
  have h0' : 0 ≤ a / b := Int.ediv_nonneg h0 (by omega)
  constructor; simp [execOp, hx, hy, eqGuard, binOp, Op.intDiv, hb, e, wrap_id (a := a / b) (by omega)]
theorem y_rem (hx : lk n f x = some (.int .i64 a)) (hy : lk n f y = some (.int .i64 b)) (h0 : 0 ≤ a) (h1 : 1 ≤ b) :
    Yld P (evo n f) ⟨dst, .binOp .rem tx x y ty', ty, pos, after, g⟩ w (.int .i64 (a % b)) := by
  replace hx := lk_evo hx
  replace hy := lk_evo hy
  have hb : b ≠ 0 := by omega
  have e : a.tmod b = a % b := Int.tmod_eq_emod_of_nonneg h0
  constructor; simp [execOp, hx, hy, eqGuard, binOp, Op.intDiv, hb, e]
theorem y_lss (hx : lk n f x = some (.int .i64 a)) (hy : lk n f y = some (.int .i64 b)) :
    Yld P (evo n f) ⟨dst, .binOp .lss tx x y ty', ty, pos, after, g⟩ w (.bool (decide (a < b))) := by
  replace hx := lk_evo hx
  replace hy := lk_evo hy
  constructor; simp [execOp, hx, hy, eqGuard, binOp, Op.intCmp]
theorem y_leq (hx : lk n f x = some (.int .i64 a)) (hy : lk n f y = some (.int .i64 b)) :
    Yld P (evo n f) ⟨dst, .binOp .leq tx x y ty', ty, pos, after, g⟩ w (.bool (decide (a ≤ b))) := by
  replace hx := lk_evo hx
  replace hy := lk_evo hy
  constructor; simp [execOp, hx, hy, eqGuard, binOp, Op.intCmp]
theorem y_gtr (hx : lk n f x = some (.int .i64 a)) (hy : lk n f y = some (.int .i64 b)) :
    Yld P (evo n f) ⟨dst, .binOp .gtr tx x y ty', ty, pos, after, g⟩ w (.bool (decide (b < a))) := by
  replace hx := lk_evo hx
  replace hy := lk_evo hy
  constructor; simp [execOp, hx, hy, eqGuard, binOp, Op.intCmp]
theorem y_geq (hx : lk n f x = some (.int .i64 a)) (hy : lk n f y = some (.int .i64 b)) :
    Yld P (evo n f) ⟨dst, .binOp .geq tx x y ty', ty, pos, after, g⟩ w (.bool (decide (b ≤ a))) := by
  replace hx := lk_evo hx
  replace hy := lk_evo hy
  constructor; simp [execOp, hx, hy, eqGuard, binOp, Op.intCmp]
theorem y_eql (hx : lk n f x = some (.int .i64 a)) (hy : lk n f y = some (.int .i64 b)) :
    Yld P (evo n f) ⟨dst, .binOp .eql tx x y ty', ty, pos, after, g⟩ w (.bool (decide (a = b))) := by
  replace hx := lk_evo hx
  replace hy := lk_evo hy
  constructor
  simp [execOp, hx, hy, eqGuard, binOp, Op.intCmp]
  by_cases h : a = b <;> simp [h]
theorem y_neq (hx : lk n f x = some (.int .i64 a)) (hy : lk n f y = some (.int .i64 b)) :
    Yld P (evo n f) ⟨dst, .binOp .neq tx x y ty', ty, pos, after, g⟩ w (.bool (decide (a ≠ b))) := by
  replace hx := lk_evo hx
  replace hy := lk_evo hy
  constructor
  simp [execOp, hx, hy, eqGuard, binOp, Op.intCmp]
  by_cases h : a = b <;> simp [h]
end bin
theorem y_not {x : Operand} {t : TypeId} {b : Bool} (hx : lk n f x = some (.bool b)) : Yld P (evo n f) ⟨dst, .unOp .not t x, ty, pos, after, g⟩ w (.bool (!b)) := by
  replace hx := lk_evo hx
  constructor; simp [execOp, hx, Op.unary]
theorem y_pick_true {c x y : Operand} {b : Bool} {v : Value} (hc : lk n f c = some (.bool b)) (hb : b = true) (hv : lk n f x = some v) : Yld P (evo n f) ⟨dst, .pick c x y, ty, pos, after, g⟩ w v := by
  replace hc := lk_evo hc
  replace hv := lk_evo hv
  constructor; simp [execOp, hc, hb, hv, asBool]
theorem y_pick_false {c x y : Operand} {b : Bool} {v : Value} (hc : lk n f c = some (.bool b)) (hb : b = false) (hv : lk n f y = some v) : Yld P (evo n f) ⟨dst, .pick c x y, ty, pos, after, g⟩ w v := by
  replace hc := lk_evo hc
  replace hv := lk_evo hv
  constructor; simp [execOp, hc, hb, hv, asBool]

theorem y_nil {x : Operand} {a : Addr} (hx : lk n f x = some (.pointer (some a))) : Yld P (evo n f) ⟨dst, .nilCheck x, ty, pos, after, g⟩ w (.pointer (some a)) := by
  replace hx := lk_evo hx
  constructor; simp [execOp, hx]

/-- The operations that only look at slots. -/
noncomputable def pop (n : Nat) (F : Fm) : Op → Option Value
  | .move x | .assign x => lk n F x
  | .binOp .lss _ x y _ => match lk n F x, lk n F y with
    | some (.int .i64 a), some (.int .i64 b) => some (.bool (decide (a < b)))
    | _, _ => none
  | .binOp .leq _ x y _ => match lk n F x, lk n F y with
    | some (.int .i64 a), some (.int .i64 b) => some (.bool (decide (a ≤ b)))
    | _, _ => none
  | .binOp .gtr _ x y _ => match lk n F x, lk n F y with
    | some (.int .i64 a), some (.int .i64 b) => some (.bool (decide (b < a)))
    | _, _ => none
  | .binOp .geq _ x y _ => match lk n F x, lk n F y with
    | some (.int .i64 a), some (.int .i64 b) => some (.bool (decide (b ≤ a)))
    | _, _ => none
  | .binOp .eql _ x y _ => match lk n F x, lk n F y with
    | some (.int .i64 a), some (.int .i64 b) => some (.bool (decide (a = b)))
    | _, _ => none
  | .binOp .neq _ x y _ => match lk n F x, lk n F y with
    | some (.int .i64 a), some (.int .i64 b) => some (.bool (decide (a ≠ b)))
    | _, _ => none
  | .nilCheck x => match lk n F x with
    | some (.pointer (some a)) => some (.pointer (some a))
    | _ => none
  | .unOp .not _ x => match lk n F x with
    | some (.bool b) => some (.bool (!b))
    | _ => none
  | .pick c x y => match lk n F c with
    | some (.bool true) => lk n F x
    | some (.bool false) => lk n F y
    | _ => none
  | _ => none
theorem y_pop {op : Op} {v : Value} (h : pop n f op = some v) : Yld P (evo n f) ⟨dst, op, ty, pos, after, g⟩ w v := by
  unfold pop at h
  split at h
  · exact y_move h
  · exact y_assign h
  · split at h
    · rename_i hx hy; cases h; exact y_lss hx hy
    · cases h
  · split at h
    · rename_i hx hy; cases h; exact y_leq hx hy
    · cases h
  · split at h
    · rename_i hx hy; cases h; exact y_gtr hx hy
    · cases h
  · split at h
    · rename_i hx hy; cases h; exact y_geq hx hy
    · cases h
  · split at h
    · rename_i hx hy; cases h; exact y_eql hx hy
    · cases h
  · split at h
    · rename_i hx hy; cases h; exact y_neq hx hy
    · cases h
  · split at h
    · rename_i hx; cases h; exact y_nil hx
    · cases h
  · split at h
    · rename_i hx; cases h; exact y_not hx
    · cases h
  · split at h
    · rename_i hx; exact y_pick_true hx rfl h
    · rename_i hx; exact y_pick_false hx rfl h
    · cases h
  · cases h
end
end Go.Mem
