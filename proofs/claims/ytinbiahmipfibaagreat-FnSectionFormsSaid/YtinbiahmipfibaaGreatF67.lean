/- Contracts: l01Count, the draw of a face; numbers of faces. -/
import Derived.Test.YtinbiahmipfibaaGreatF65
import Derived.Test.YtinbiahmipfibaaGreatFG
import Derived.Test.YtinbiahmipfibaaGreatPE
namespace Go.Mem
/-- the numbers of faces -/
def facN (ms : List (List Int)) : List Int := (List.range ms.length).map fun i : Nat => facC ms i
theorem facN_len (ms : List (List Int)) : (facN ms).length = ms.length := by simp [facN]
theorem gi_facN {ms : List (List Int)} {i : Int} (h0 : 0 ≤ i) (hi : i < ms.length) : gi (facN ms) i = facC ms i := by
  unfold facN
  rw [gi_range_map h0 hi, show ((i.toNat : Nat) : Int) = i by omega]
theorem facN_succ (ms : List (List Int)) (i : Nat) : (List.range (i + 1)).map (fun i : Nat => facC ms i) = (List.range i).map (fun i : Nat => facC ms i) ++ [facC ms i] := by simp [List.range_succ]
section
open Go.RowKit
theorem y_x30 {P : Program} {n : Nat} {f : Fm} {w : World} {dst : Option Tmp} {ty : TypeId} {pos : String} {after : Array Edge} {g : Option (Nat × Bool)} {x : Operand} {a b c : Value} (hx : lk n f x = some (.tuple #[a, b, c])) : Yld P (evo n f) ⟨dst, .extract x 0, ty, pos, after, g⟩ w a := by
  replace hx := lk_evo hx
  constructor; simp [execOp, Instr.extract, hx]
theorem y_x31 {P : Program} {n : Nat} {f : Fm} {w : World} {dst : Option Tmp} {ty : TypeId} {pos : String} {after : Array Edge} {g : Option (Nat × Bool)} {x : Operand} {a b c : Value} (hx : lk n f x = some (.tuple #[a, b, c])) : Yld P (evo n f) ⟨dst, .extract x 1, ty, pos, after, g⟩ w b := by
  replace hx := lk_evo hx
  constructor; simp [execOp, Instr.extract, hx]
theorem y_x32 {P : Program} {n : Nat} {f : Fm} {w : World} {dst : Option Tmp} {ty : TypeId} {pos : String} {after : Array Edge} {g : Option (Nat × Bool)} {x : Operand} {a b c : Value} (hx : lk n f x = some (.tuple #[a, b, c])) : Yld P (evo n f) ⟨dst, .extract x 2, ty, pos, after, g⟩ w c := by
  replace hx := lk_evo hx
  constructor; simp [execOp, Instr.extract, hx]
/-- three results, the first of which lies in a variable -/
theorem end_cell3 {P : Program} {fn : Func} {R : Value → World → Prop} {n t s q : Nat} {f : Fm} {w : World} {ty : TypeId} {p : Addr} {u v v2 : Value} [hb : BoxTy P ty] (h : fn.results = #[.cell t ty, .tmp s, .tmp q])
    (hv : lk n f (.tmp t) = some (.pointer (some p))) (hs : lk n f (.tmp s) = some v) (hq : lk n f (.tmp q) = some v2) (hc : w.cell? p = some u) (hR : R (.tuple #[.agg #[u], v, v2]) w) : endPost P fn n R .ret f w := by
  have e (t : Nat) : (act n f.fn).tmps[t]?.getD undef = evo n f (.tmp t) := by rw [← act_eval]; simp [Act.eval]
  refine ⟨.tuple #[.agg #[u], v, v2], ?_, hR⟩
  simp [results, h, e, lk_evo hv, lk_evo hs, lk_evo hq, asAddr, loadVar, hb.agg, hb.size, loadCells, loadCellsFrom, Addr.add_zero', hc]
end
end Go.Mem
namespace Go.Proofs.YtinbiahmipfibaaGreat
open Go.Mem Go.RowKit
set_option linter.unusedVariables false
set_option linter.unusedSimpArgs false
end Go.Proofs.YtinbiahmipfibaaGreat
