/- Worlds that have drawn and have got new blocks, and nothing else: what the kit's sort by a function asks of that function. Over any program. -/
import Derived.Test.YtkknhcpjiehgiaaDoorWB
import Derived.Test.YtkknhcpjiehgiaaDoorSb
namespace Go.Mem
open Go.RowKit Go.Sort
set_option linter.unusedVariables false
def Gr (w w' : World) : Prop := ∃ (q : Nat) (os : Array Obj), w' = grow (Sort.ahead w q) os
theorem Gr.refl (w : World) : Gr w w := ⟨0, #[], by simp⟩
theorem Gr.trans {a b c : World} (h : Gr a b) (k : Gr b c) : Gr a c := by
  obtain ⟨q, os, rfl⟩ := h
  obtain ⟨q2, os2, rfl⟩ := k
  exact ⟨q + q2, os ++ os2, by rw [ahead_grow, ahead_ahead, grow_grow]⟩
theorem Gr.drew (w : World) : Gr w w.drew := ⟨1, #[], by simp [drew_eq_ahead]⟩
theorem Gr.alloc (w : World) (o : Obj) : Gr w (w.alloc o) := ⟨0, #[o], by rw [ahead_zero, alloc_eq_grow]⟩
theorem Gr.below {w w' : World} (h : Gr w w') : Below w.heap.size w w' := by
  obtain ⟨q, os, rfl⟩ := h
  exact ⟨rfl, rfl, rfl, by simp, fun k hk => by rw [heap_grow_old _ os (by simpa using hk)]; rfl⟩
section
variable {P : Program} {ops : Array Oper} {Q : Exit → Fm → World → Prop} {n : Nat} {f : Fm} {w : World} {rest : List Oper} {d : Nat} {ty : TypeId} {pos : String} {after : Array Edge} {g : Option (Nat × Bool)}
theorem s_boxG {e : TypeId} {x : Operand} {v u : Value}
    (hw : Wants ⟨some d, .box e x, ty, pos, after, g⟩ ops n f) (hd : Nat.ble (d + 1) n = true)
    (hx : lk n f x = some v) (hc : v.cells = #[u])
    (k : ∀ w' p, w'.cell? p = some u → Gr w w' → p.block = w.heap.size → WL P ops Q rest n (.upd f d (.pointer (some p))) w') :
    WL P ops Q (⟨some d, .box e x, ty, pos, after, g⟩ :: rest) n f w := by
  have key : ∀ w', w' = w.alloc (.cells #[u] e) → w'.cell? ⟨w.heap.size, 0, none⟩ = some u → WL P ops Q rest n (.upd f d (.pointer (some ⟨w.heap.size, 0, none⟩))) w' := fun w' e2 hcell => k w' _ hcell (e2 ▸ Gr.alloc w _) rfl
  replace hx := lk_evo hx
  refine s_val hw hd (v := .pointer (some ⟨w.heap.size, 0, none⟩)) (w' := w.alloc (.cells #[u] e)) ?_ (key _ rfl ?_)
  · simp [execOp, Instr.box, newVar, newRow, hx, hc]
  · simp
/-- a region that draws its order: the very world -/
theorem region_hG {id : Nat} (S : World → Prop) (hm : P.follows .mixedOrders = true)
    (h : ∀ w', Gr w w' → WH P ops S Q ops.size (Array.replicate ops.size false) n f w') : WC P (.region id ops true) Q n f w :=
  ⟨wp_region_held (S := S) hm (h _ (Gr.drew w)).out⟩
end
end Go.Mem
