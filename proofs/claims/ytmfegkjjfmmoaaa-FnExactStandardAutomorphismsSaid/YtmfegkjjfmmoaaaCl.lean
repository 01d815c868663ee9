/- The walk's own words, continued: functions that hold variables of their maker (closures): made, and called. Over any program. -/
import Derived.Test.YtmfegkjjfmmoaaaHl
namespace Go.Mem
open Go.RowKit
section
variable {P : Program} {ops : Array Oper} {Q : Exit → Fm → World → Prop} {n : Nat} {f : Fm} {w : World} {dst : Option Tmp} {rest : List Oper} {ty : TypeId} {pos : String} {after : Array Edge} {g : Option (Nat × Bool)} {d : Nat}
theorem y_fn0 {k : Fn} : Yld P (evo n f) ⟨dst, .makeFunc k #[] #[], ty, pos, after, g⟩ w (.func k #[] #[]) := by
  constructor; simp [execOp, Instr.makeFunc]
theorem y_fn1 {k : Fn} {x : Operand} {a : Value} (hx : lk n f x = some a) : Yld P (evo n f) ⟨dst, .makeFunc k #[] #[x], ty, pos, after, g⟩ w (.func k #[] #[a]) := by
  replace hx := lk_evo hx
  constructor; simp [execOp, Instr.makeFunc, hx]
theorem y_fn2 {k : Fn} {x y : Operand} {a b : Value} (hx : lk n f x = some a) (hy : lk n f y = some b) : Yld P (evo n f) ⟨dst, .makeFunc k #[] #[x, y], ty, pos, after, g⟩ w (.func k #[] #[a, b]) := by
  replace hx := lk_evo hx
  replace hy := lk_evo hy
  constructor; simp [execOp, Instr.makeFunc, hx, hy]
theorem y_fn3 {k : Fn} {x y z : Operand} {a b c : Value} (hx : lk n f x = some a) (hy : lk n f y = some b) (hz : lk n f z = some c) : Yld P (evo n f) ⟨dst, .makeFunc k #[] #[x, y, z], ty, pos, after, g⟩ w (.func k #[] #[a, b, c]) := by
  replace hx := lk_evo hx
  replace hy := lk_evo hy
  replace hz := lk_evo hz
  constructor; simp [execOp, Instr.makeFunc, hx, hy, hz]

/-- A call of a function that lies in a slot. -/
theorem s_callV {fn : FuncId} {c : Tmp} {xs : Array Operand} {ats : Array TypeId} {args caps : Array Value} {R : Value → World → Prop} [hf : FunTy P fn]
    (hw : Wants ⟨some d, .call ⟨.value (.tmp c), xs, ats⟩, ty, pos, after, g⟩ ops n f) (hd : Nat.ble (d + 1) n = true)
    (hcv : lk n f (.tmp c) = some (.func (.func fn) #[] caps)) (hxs : xs.toList.map (evo n f) = args.toList) (hc : Ret P fn (args ++ caps) w R)
    (k : ∀ v w', R v w' → WL P ops Q rest n (.upd f d v) w') :
    WL P ops Q (⟨some d, .call ⟨.value (.tmp c), xs, ats⟩, ty, pos, after, g⟩ :: rest) n f w := by
  replace hcv := lk_evo hcv
  unfold Wants at hw
  refine ⟨wpList_step fun K hK => ?_⟩
  rw [if_pos hw]
  unfold Oper.wp
  have hargs : xs.map (evo n f) = args := by apply Array.ext'; simpa using hxs
  have hrun : (execOp (evo n f) ⟨some d, .call ⟨.value (.tmp c), xs, ats⟩, ty, pos, after, g⟩).run P w = .ok (.enter fn (args ++ caps)) w := by
    have := hf.enters (#[] ++ args ++ caps) w
    simp only [Array.empty_append] at this
    rw [← this, ← hargs]
    simp [execOp, resolve, hcv, Deferred.ofValue, invoke]
  rw [act_eval, hrun, Oper.upon_enter]
  refine Calls.mono hc ?_
  rintro e w' ⟨v, rfl, hR⟩
  show K _ w'
  rw [act_put f v (Nat.le_of_ble_eq_true hd)]
  exact hK _ _ (k v w' hR).out
theorem s_callV1 {fn : FuncId} {c : Tmp} {x : Operand} {ats : Array TypeId} {a : Value} {caps : Array Value} {R : Value → World → Prop} [hf : FunTy P fn]
    (hw : Wants ⟨some d, .call ⟨.value (.tmp c), #[x], ats⟩, ty, pos, after, g⟩ ops n f) (hd : Nat.ble (d + 1) n = true)
    (hcv : lk n f (.tmp c) = some (.func (.func fn) #[] caps)) (hx : lk n f x = some a) (hc : Ret P fn (#[a] ++ caps) w R)
    (k : ∀ v w', R v w' → WL P ops Q rest n (.upd f d v) w') :
    WL P ops Q (⟨some d, .call ⟨.value (.tmp c), #[x], ats⟩, ty, pos, after, g⟩ :: rest) n f w := s_callV hw hd hcv (by simp [lk_evo hx]) hc k
theorem s_callV2 {fn : FuncId} {c : Tmp} {x y : Operand} {ats : Array TypeId} {a b : Value} {caps : Array Value} {R : Value → World → Prop} [hf : FunTy P fn]
    (hw : Wants ⟨some d, .call ⟨.value (.tmp c), #[x, y], ats⟩, ty, pos, after, g⟩ ops n f) (hd : Nat.ble (d + 1) n = true)
    (hcv : lk n f (.tmp c) = some (.func (.func fn) #[] caps)) (hx : lk n f x = some a) (hy : lk n f y = some b) (hc : Ret P fn (#[a, b] ++ caps) w R)
    (k : ∀ v w', R v w' → WL P ops Q rest n (.upd f d v) w') :
    WL P ops Q (⟨some d, .call ⟨.value (.tmp c), #[x, y], ats⟩, ty, pos, after, g⟩ :: rest) n f w := s_callV hw hd hcv (by simp [lk_evo hx, lk_evo hy]) hc k
end
end Go.Mem
