/- Struct values of one field: built, and as a result beside another. By program. -/
import Derived.Test.YtablpijnjkncfaaGreatTy
import Derived.Test.YtablpijnjkncfaaGreatWC
namespace Go.Mem
open Go.RowKit
set_option linter.unusedVariables false
/-- a struct type of one field, built -/
class BldTy (P : Program) (t : TypeId) : Prop where
  zero : ∀ w, (Instr.build t #[]).run P w = .ok (.agg #[.slice none 0 0]) w
  one : ∀ u w, u.oneCell' = true → (Instr.build t #[(0, u)]).run P w = .ok (.agg #[u]) w
section
variable {P : Program} {n : Nat} {f : Fm} {w : World} {dst : Option Tmp} {ty : TypeId} {pos : String} {after : Array Edge} {g : Option (Nat × Bool)}
theorem y_bld0 {t : TypeId} [h : BldTy P t] : Yld P (evo n f) ⟨dst, .build t #[], ty, pos, after, g⟩ w (.agg #[.slice none 0 0]) := by
  constructor; simp [execOp, h.zero]
theorem y_bld1 {t : TypeId} [h : BldTy P t] {x : Operand} {u : Value} (hx : lk n f x = some u) (hu : u.oneCell' = true) : Yld P (evo n f) ⟨dst, .build t #[(0, x)], ty, pos, after, g⟩ w (.agg #[u]) := by
  replace hx := lk_evo hx
  constructor; simp [execOp, hx, h.one u w hu]
end
/-- two results, the first of which lies in a variable -/
theorem end_cellT {P : Program} {fn : Func} {R : Value → World → Prop} {n t s : Nat} {f : Fm} {w : World} {ty : TypeId} {p : Addr} {u v : Value} [hb : BoxTy P ty] (h : fn.results = #[.cell t ty, .tmp s])
    (hv : lk n f (.tmp t) = some (.pointer (some p))) (hs : lk n f (.tmp s) = some v) (hc : w.cell? p = some u) (hR : R (.tuple #[.agg #[u], v]) w) : endPost P fn n R .ret f w := by
  have e : (act n f.fn).tmps[t]?.getD undef = evo n f (.tmp t) := by rw [← act_eval]; simp [Act.eval]
  have e2 : (act n f.fn).tmps[s]?.getD undef = evo n f (.tmp s) := by rw [← act_eval]; simp [Act.eval]
  refine ⟨.tuple #[.agg #[u], v], ?_, hR⟩
  simp [results, h, e, e2, lk_evo hv, lk_evo hs, asAddr, loadVar, hb.agg, hb.size, loadCells, loadCellsFrom, Addr.add_zero', hc]
end Go.Mem
namespace Go.Proofs.YtablpijnjkncfaaGreat
open Go.Mem
theorem bld_one : ∀ (u : Value) (w : World), u.oneCell' = true → (Instr.build 26 #[(0, u)]).run Tryz.prog w = .ok (.agg #[u]) w := by
  intro u w h
  cases u <;> first | (simp [Value.oneCell'] at h; done) | kernel_rfl
instance : BldTy Tryz.prog 26 := ⟨fun _ => by kernel_rfl, bld_one⟩
end Go.Proofs.YtablpijnjkncfaaGreat
