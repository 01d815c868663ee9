/- The walk's own words, continued: reslicing, boxes, calls of Go functions. Over any program. -/
import Derived.Test.YtmfegkjjfmmoaaaOwn
import Derived.DataReads
import Derived.OrdersHeld
namespace Go.Mem
open Go.RowKit

/-- g is a function with a body -/
class FunTy (P : Program) (g : FuncId) : Prop where
  enters : ∀ (args : Array Value) (w : World), (callFunc g args).run P w = .ok (.enter g args) w

theorem FunTy.of {P : Program} {g : FuncId} {fn : Func} {c : Code} (hf : P.funcs[g]? = some fn) (hname : (fn.name == "runtime.NumGoroutine") = false) (hb : fn.body = some c) : FunTy P g := by
  have h : ¬ fn.name = "runtime.NumGoroutine" := by simpa using hname
  exact ⟨fun args w => by simp [callFunc, hf, h, hb]⟩

section slice
variable {P : Program} {w : World} {B : Nat} {T : TypeId} {v : Value} {vs : List Value}

/-- v[l:h] as a value -/
def cut (v : Value) (l h : Nat) : Value :=
  match v with
  | .slice a _ cap => .slice (if cap = l then a else a.map (·.add l)) (h - l) (cap - l)
  | v => v

theorem cut_block (v : Value) (l h : Nat) : (cut v l h).ownBlock = v.ownBlock := by
  cases v <;> try rfl
  rename_i a n cap
  cases a with
  | none => by_cases h : cap = l <;> simp [cut, h, Value.ownBlock]
  | some a =>
    by_cases h : cap = l
    · simp [cut, h, Value.ownBlock]
    · by_cases h0 : l = 0 <;> simp [cut, h, Value.ownBlock, Addr.add, h0]

theorem addrOf_cut {a : Addr} {n cap l h i : Nat} (hc : cap ≠ l) (hs : a.spot = none) : addrOf (cut (.slice (some a) n cap) l h) i = addrOf (.slice (some a) n cap) (l + i) := by
  obtain ⟨b, o, s⟩ := a
  simp only at hs
  subst hs
  by_cases h0 : l = 0 <;> by_cases hi : i = 0 <;> simp [cut, hc, addrOf, Addr.add, h0, hi, Nat.add_assoc]

theorem Rd.cut (h : Rd w v vs) {l r : Nat} (hl : l ≤ r) (hr : r ≤ vs.length) : Rd w (Mem.cut v l r) ((vs.take r).drop l) := by
  obtain ⟨a, cap, rfl, h1, h2, h3⟩ := h
  have hlen : ((vs.take r).drop l).length = r - l := by simp; omega
  refine ⟨_, _, by rw [hlen]; rfl, ?_, by omega, ?_⟩
  · intro hne
    have hvs : vs ≠ [] := by intro e; subst e; simp at hne
    have ha := h1 hvs
    cases a with
    | none => exact absurd rfl ha
    | some a => split <;> simp
  · intro i u hu
    rw [List.getElem?_drop, List.getElem?_take] at hu
    split at hu
    · rename_i hlt
      have hin := (List.getElem?_eq_some_iff.1 hu).1
      cases a with
      | none => exact absurd rfl (h1 (by intro e; subst e; simp at hu))
      | some a =>
        have h0 := h3 0 (vs[0]'(by omega)) (by simp)
        have hsp : a.spot = none := World.cell?_spot (a := a) (by simpa [addrOf, Addr.add] using h0)
        rw [addrOf_cut (by omega) hsp]
        exact h3 _ _ hu
    · simp at hu

theorem Own.cut (h : Own w B T v vs) {l r : Nat} (hl : l ≤ r) (hr : r ≤ vs.length) : Own w B T (Mem.cut v l r) ((vs.take r).drop l) := by
  rcases h with ⟨rfl, rfl⟩ | ⟨g, off, cap, cur, rfl, hb, hg, hlc, hc, hs, hx⟩
  · simp at hr
    subst hr
    have : l = 0 := by omega
    subst this
    exact .inl ⟨rfl, by simp⟩
  · have hlen : ((vs.take r).drop l).length = r - l := by simp; omega
    by_cases hcl : cap = l
    · have hrl : r = l := by omega
      refine .inr ⟨g, off, cap - l, cur, by simp [Mem.cut, hcl, hlen], hb, hg, by omega, by omega, by omega, ?_⟩
      intro i u hu
      have := (List.getElem?_eq_some_iff.1 hu).1
      omega
    · refine .inr ⟨g, off + l, cap - l, cur, by simp [Mem.cut, hcl, hlen, Addr.add_lit], hb, hg, by omega, by omega, by omega, ?_⟩
      intro i u hu
      rw [List.getElem?_drop, List.getElem?_take] at hu
      split at hu
      · rw [Nat.add_assoc]; exact hx _ _ hu
      · simp at hu

theorem cut_run {t e : TypeId} {z : Value} {bytes : Nat} [ht : SliceTy P t e] [he : CellTy P e z bytes] (h : Rd w v vs) {kl kh : IntKind} {l r : Int} (h0 : 0 ≤ l) (hl : l ≤ r) (hr : r ≤ vs.length) :
    (Instr.sliceAt t v (some (.int kl l)) (some (.int kh r)) none).run P w = .ok (cut v l.toNat r.toNat) w := by
  obtain ⟨a, cap, rfl, _, ⟨_, hcap⟩, _⟩ := h
  obtain ⟨i, hi, hz, hsz, hby⟩ := he.info
  have h0r : 0 ≤ r := by omega
  have hrc : r ≤ cap := by omega
  have hlr : l ≤ max r 0 := by omega
  simp [Instr.sliceAt, Instr.slice, run_underlying ht.under, Instr.sliceBounds, Instr.sliceBound, asIntOf, h0, h0r, hrc, hlr, sizeOf, typeInfo, hi, hsz, cut]
theorem cut_run_lo {t e : TypeId} {z : Value} {bytes : Nat} [ht : SliceTy P t e] [he : CellTy P e z bytes] (h : Rd w v vs) {kl : IntKind} {l : Int} (h0 : 0 ≤ l) (hl : l ≤ vs.length) :
    (Instr.sliceAt t v (some (.int kl l)) none none).run P w = .ok (cut v l.toNat vs.length) w := by
  obtain ⟨a, cap, rfl, _, ⟨_, hcap⟩, _⟩ := h
  obtain ⟨i, hi, hz, hsz, hby⟩ := he.info
  simp [Instr.sliceAt, Instr.slice, run_underlying ht.under, Instr.sliceBounds, Instr.sliceBound, asIntOf, h0, hl, sizeOf, typeInfo, hi, hsz, cut]
theorem cut_run_hi {t e : TypeId} {z : Value} {bytes : Nat} [ht : SliceTy P t e] [he : CellTy P e z bytes] (h : Rd w v vs) {kh : IntKind} {r : Int} (h0 : 0 ≤ r) (hr : r ≤ vs.length) :
    (Instr.sliceAt t v none (some (.int kh r)) none).run P w = .ok (cut v 0 r.toNat) w := by
  obtain ⟨a, cap, rfl, _, ⟨_, hcap⟩, _⟩ := h
  obtain ⟨i, hi, hz, hsz, hby⟩ := he.info
  have hrc : r ≤ cap := by omega
  simp [Instr.sliceAt, Instr.slice, run_underlying ht.under, Instr.sliceBounds, Instr.sliceBound, asIntOf, h0, hrc, sizeOf, typeInfo, hi, cut]
end slice

section
variable {P : Program} {n : Nat} {f : Fm} {w : World} {dst : Option Tmp} {ty : TypeId} {pos : String} {after : Array Edge} {g : Option (Nat × Bool)}
theorem y_cut {x lo hi : Operand} {t e : TypeId} {z : Value} {bytes : Nat} [ht : SliceTy P t e] [he : CellTy P e z bytes] {v : Value} {vs : List Value} {kl kh : IntKind} {l r : Int}
    (hx : lk n f x = some v) (hlo : lk n f lo = some (.int kl l)) (hhi : lk n f hi = some (.int kh r)) (h : Rd w v vs) (h0 : 0 ≤ l) (hl : l ≤ r) (hr : r ≤ vs.length) :
    Yld P (evo n f) ⟨dst, .slice t x (some lo) (some hi) none, ty, pos, after, g⟩ w (cut v l.toNat r.toNat) := by
  replace hx := lk_evo hx
  replace hlo := lk_evo hlo
  replace hhi := lk_evo hhi
  constructor; simp [execOp, hx, hlo, hhi, cut_run h h0 hl hr]
theorem y_cut_lo {x lo : Operand} {t e : TypeId} {z : Value} {bytes : Nat} [ht : SliceTy P t e] [he : CellTy P e z bytes] {v : Value} {vs : List Value} {kl : IntKind} {l : Int}
    (hx : lk n f x = some v) (hlo : lk n f lo = some (.int kl l)) (h : Rd w v vs) (h0 : 0 ≤ l) (hl : l ≤ vs.length) :
    Yld P (evo n f) ⟨dst, .slice t x (some lo) none none, ty, pos, after, g⟩ w (cut v l.toNat vs.length) := by
  replace hx := lk_evo hx
  replace hlo := lk_evo hlo
  constructor; simp [execOp, hx, hlo, cut_run_lo h h0 hl]
theorem y_cut_hi {x hi : Operand} {t e : TypeId} {z : Value} {bytes : Nat} [ht : SliceTy P t e] [he : CellTy P e z bytes] {v : Value} {vs : List Value} {kh : IntKind} {r : Int}
    (hx : lk n f x = some v) (hhi : lk n f hi = some (.int kh r)) (h : Rd w v vs) (h0 : 0 ≤ r) (hr : r ≤ vs.length) :
    Yld P (evo n f) ⟨dst, .slice t x none (some hi) none, ty, pos, after, g⟩ w (cut v 0 r.toNat) := by
  replace hx := lk_evo hx
  replace hhi := lk_evo hhi
  constructor; simp [execOp, hx, hhi, cut_run_hi h h0 hr]
end

section steps
variable {P : Program} {ops : Array Oper} {Q : Exit → Fm → World → Prop} {n : Nat} {f : Fm} {w : World} {rest : List Oper} {ty : TypeId} {pos : String} {after : Array Edge} {g : Option (Nat × Bool)} {d : Nat}

/-- A value of one cell (a number, a slice, a struct of one field) gets a place of its own. -/
theorem s_box {e : TypeId} {x : Operand} {v u : Value}
    (hw : Wants ⟨some d, .box e x, ty, pos, after, g⟩ ops n f) (hd : Nat.ble (d + 1) n = true)
    (hx : lk n f x = some v) (hc : v.cells = #[u])
    (k : ∀ w', w'.cell? ⟨w.heap.size, 0, none⟩ = some u → w'.frozen? ⟨w.heap.size, 0, none⟩ = false → w.heap.size < w'.heap.size → w.grownBy w' none → WL P ops Q rest n (.upd f d (.pointer (some ⟨w.heap.size, 0, none⟩))) w') :
    WL P ops Q (⟨some d, .box e x, ty, pos, after, g⟩ :: rest) n f w := by
  replace hx := lk_evo hx
  refine s_val hw hd (v := .pointer (some ⟨w.heap.size, 0, none⟩)) (w' := w.alloc (.cells #[u] e)) ?_ (k (w.alloc (.cells #[u] e)) ?_ ?_ (by simp) (World.grownBy_alloc w _ none))
  · simp [execOp, Instr.box, newVar, newRow, hx, hc]
  · simp
  · simp

theorem s_call {fn : FuncId} {xs : Array Operand} {ats : Array TypeId} {args : Array Value} {R : Value → World → Prop} [hf : FunTy P fn]
    (hw : Wants ⟨some d, .call ⟨.value (.func fn), xs, ats⟩, ty, pos, after, g⟩ ops n f) (hd : Nat.ble (d + 1) n = true)
    (hxs : xs.toList.map (evo n f) = args.toList) (hc : Ret P fn args w R)
    (k : ∀ v w', R v w' → WL P ops Q rest n (.upd f d v) w') :
    WL P ops Q (⟨some d, .call ⟨.value (.func fn), xs, ats⟩, ty, pos, after, g⟩ :: rest) n f w := by
  unfold Wants at hw
  refine ⟨wpList_step fun K hK => ?_⟩
  rw [if_pos hw]
  unfold Oper.wp
  have hargs : xs.map (evo n f) = args := by apply Array.ext'; simpa using hxs
  have hrun : (execOp (evo n f) ⟨some d, .call ⟨.value (.func fn), xs, ats⟩, ty, pos, after, g⟩).run P w = .ok (.enter fn args) w := by
    have := hf.enters (#[] ++ args ++ #[]) w
    simp only [Array.empty_append, Array.append_empty] at this
    rw [← this, ← hargs]
    simp [execOp, resolve, evo, Deferred.ofValue, invoke]
  rw [act_eval, hrun, Oper.upon_enter]
  refine Calls.mono hc ?_
  rintro e w' ⟨v, rfl, hR⟩
  show K _ w'
  rw [act_put f v (Nat.le_of_ble_eq_true hd)]
  exact hK _ _ (k v w' hR).out

theorem s_call0 {fn : FuncId} {ats : Array TypeId} {R : Value → World → Prop} [hf : FunTy P fn]
    (hw : Wants ⟨some d, .call ⟨.value (.func fn), #[], ats⟩, ty, pos, after, g⟩ ops n f) (hd : Nat.ble (d + 1) n = true)
    (hc : Ret P fn #[] w R) (k : ∀ v w', R v w' → WL P ops Q rest n (.upd f d v) w') :
    WL P ops Q (⟨some d, .call ⟨.value (.func fn), #[], ats⟩, ty, pos, after, g⟩ :: rest) n f w := s_call hw hd (by simp) hc k
theorem s_call1 {fn : FuncId} {x : Operand} {ats : Array TypeId} {a : Value} {R : Value → World → Prop} [hf : FunTy P fn]
    (hw : Wants ⟨some d, .call ⟨.value (.func fn), #[x], ats⟩, ty, pos, after, g⟩ ops n f) (hd : Nat.ble (d + 1) n = true)
    (hx : lk n f x = some a) (hc : Ret P fn #[a] w R) (k : ∀ v w', R v w' → WL P ops Q rest n (.upd f d v) w') :
    WL P ops Q (⟨some d, .call ⟨.value (.func fn), #[x], ats⟩, ty, pos, after, g⟩ :: rest) n f w := s_call hw hd (by simp [lk_evo hx]) hc k
theorem s_call2 {fn : FuncId} {x y : Operand} {ats : Array TypeId} {a b : Value} {R : Value → World → Prop} [hf : FunTy P fn]
    (hw : Wants ⟨some d, .call ⟨.value (.func fn), #[x, y], ats⟩, ty, pos, after, g⟩ ops n f) (hd : Nat.ble (d + 1) n = true)
    (hx : lk n f x = some a) (hy : lk n f y = some b) (hc : Ret P fn #[a, b] w R) (k : ∀ v w', R v w' → WL P ops Q rest n (.upd f d v) w') :
    WL P ops Q (⟨some d, .call ⟨.value (.func fn), #[x, y], ats⟩, ty, pos, after, g⟩ :: rest) n f w := s_call hw hd (by simp [lk_evo hx, lk_evo hy]) hc k
theorem s_call3 {fn : FuncId} {x y z : Operand} {ats : Array TypeId} {a b c : Value} {R : Value → World → Prop} [hf : FunTy P fn]
    (hw : Wants ⟨some d, .call ⟨.value (.func fn), #[x, y, z], ats⟩, ty, pos, after, g⟩ ops n f) (hd : Nat.ble (d + 1) n = true)
    (hx : lk n f x = some a) (hy : lk n f y = some b) (hz : lk n f z = some c) (hc : Ret P fn #[a, b, c] w R) (k : ∀ v w', R v w' → WL P ops Q rest n (.upd f d v) w') :
    WL P ops Q (⟨some d, .call ⟨.value (.func fn), #[x, y, z], ats⟩, ty, pos, after, g⟩ :: rest) n f w := s_call hw hd (by simp [lk_evo hx, lk_evo hy, lk_evo hz]) hc k
theorem s_call4 {fn : FuncId} {x y z u : Operand} {ats : Array TypeId} {a b c e : Value} {R : Value → World → Prop} [hf : FunTy P fn]
    (hw : Wants ⟨some d, .call ⟨.value (.func fn), #[x, y, z, u], ats⟩, ty, pos, after, g⟩ ops n f) (hd : Nat.ble (d + 1) n = true)
    (hx : lk n f x = some a) (hy : lk n f y = some b) (hz : lk n f z = some c) (hu : lk n f u = some e) (hc : Ret P fn #[a, b, c, e] w R) (k : ∀ v w', R v w' → WL P ops Q rest n (.upd f d v) w') :
    WL P ops Q (⟨some d, .call ⟨.value (.func fn), #[x, y, z, u], ats⟩, ty, pos, after, g⟩ :: rest) n f w := s_call hw hd (by simp [lk_evo hx, lk_evo hy, lk_evo hz, lk_evo hu]) hc k

/-- A call in a region that draws its order: ONE value, in every world that keeps what was there. -/
theorem q_call {fn : FuncId} {xs : Array Operand} {ats : Array TypeId} {args : Array Value} {v : Value} [hf : FunTy P fn] {w0 : World}
    (hw : Wants ⟨some d, .call ⟨.value (.func fn), xs, ats⟩, ty, pos, after, g⟩ ops n f) (hd : Nat.ble (d + 1) n = true)
    (hxs : xs.toList.map (evo n f) = args.toList) (hc : ∀ w, Below w0.heap.size w0 w → Ret P fn args w fun r w' => r = v ∧ Below w0.heap.size w0 w')
    (k : WQ P ops w0 Q rest n (.upd f d v)) :
    WQ P ops w0 Q (⟨some d, .call ⟨.value (.func fn), xs, ats⟩, ty, pos, after, g⟩ :: rest) n f := by
  unfold Wants at hw
  refine ⟨wpQuiet_step fun K hK => ?_⟩
  rw [if_pos hw]
  refine ⟨v, fun w hw => ?_, ?_⟩
  · unfold Oper.quietAt
    have hargs : xs.map (evo n f) = args := by apply Array.ext'; simpa using hxs
    have hrun : (execOp (evo n f) ⟨some d, .call ⟨.value (.func fn), xs, ats⟩, ty, pos, after, g⟩).run P w = .ok (.enter fn args) w := by
      have := hf.enters (#[] ++ args ++ #[]) w
      simp only [Array.empty_append, Array.append_empty] at this
      rw [← this, ← hargs]
      simp [execOp, resolve, evo, Deferred.ofValue, invoke]
    rw [act_eval, hrun]
    refine ⟨rfl, Calls.mono (hc w hw) ?_⟩
    rintro e w' ⟨_, rfl, rfl, hb⟩
    exact ⟨rfl, hb⟩
  · rw [act_put f v (Nat.le_of_ble_eq_true hd)]
    exact hK _ k.out
end steps
end Go.Mem
