/- Texts laid together: F10 F12 F14 F17. -/
import Derived.Test.YtinbiahmipfibaaGreatFA
import Derived.Test.YtinbiahmipfibaaGreatPA
/- Contracts: the laws' own helpers. -/
namespace Go.Proofs.YtinbiahmipfibaaGreat
open Go.Mem Go.RowKit
theorem q_call2 {P : Program} {ops : Array Oper} {Q : Exit → Fm → World → Prop} {n : Nat} {f : Fm} {rest : List Oper} {ty : TypeId} {pos : String} {after : Array Edge} {g : Option (Nat × Bool)} {d : Nat}
    {fn : FuncId} {x y : Operand} {ats : Array TypeId} {a b v : Value} [hf : FunTy P fn] {w0 : World}
    (hw : Wants ⟨some d, .call ⟨.value (.func fn), #[x, y], ats⟩, ty, pos, after, g⟩ ops n f) (hd : Nat.ble (d + 1) n = true)
    (hx : lk n f x = some a) (hy : lk n f y = some b) (hc : ∀ w, Below w0.heap.size w0 w → Ret P fn #[a, b] w fun r w' => r = v ∧ Below w.heap.size w w')
    (k : WQ P ops w0 Q rest n (.upd f d v)) :
    WQ P ops w0 Q (⟨some d, .call ⟨.value (.func fn), #[x, y], ats⟩, ty, pos, after, g⟩ :: rest) n f :=
  q_call hw hd (by simp [lk_evo hx, lk_evo hy]) (fun w hb => (hc w hb).mono fun _ _ h => ⟨h.1, hb.trans (h.2.mono hb.size)⟩) k

end Go.Proofs.YtinbiahmipfibaaGreat

/- Contracts: coverings and isomorphisms of two maniplexes. -/
namespace Go.Proofs.YtinbiahmipfibaaGreat
open Go.Mem Go.RowKit
end Go.Proofs.YtinbiahmipfibaaGreat

/- Contracts: the laws' marks. -/
namespace Go.Proofs.YtinbiahmipfibaaGreat
open Go.Mem Go.RowKit
end Go.Proofs.YtinbiahmipfibaaGreat

/- Contracts: what the laws' marks hold, for rows; a variable's cell beside what is marked. -/
namespace Go.Proofs.YtinbiahmipfibaaGreat
open Go.Mem Go.RowKit

theorem cell_btw {B E : Nat} {w w' : World} {a : Addr} {u : Value} (h : w.cell? a = some u) (hb : Btw B E w w') (ha : a.block < B ∨ E ≤ a.block) : w'.cell? a = some u := by
  rw [World.cell?_of_block (w := w) (hb.block _ (World.block_lt_of_cell? w a h) ha)]; exact h

end Go.Proofs.YtinbiahmipfibaaGreat
