/- Texts laid together: F10 F12 F14 F17. -/
import Derived.Test.YtablpijnjkncfaaGreatFA
import Derived.Test.YtablpijnjkncfaaGreatPA
/- Contracts: the laws' own helpers. -/
namespace Go.Proofs.YtablpijnjkncfaaGreat
open Go.Mem Go.RowKit
theorem q_call2 {P : Program} {ops : Array Oper} {Q : Exit → Fm → World → Prop} {n : Nat} {f : Fm} {rest : List Oper} {ty : TypeId} {pos : String} {after : Array Edge} {g : Option (Nat × Bool)} {d : Nat}
    {fn : FuncId} {x y : Operand} {ats : Array TypeId} {a b v : Value} [hf : FunTy P fn] {w0 : World}
    (hw : Wants ⟨some d, .call ⟨.value (.func fn), #[x, y], ats⟩, ty, pos, after, g⟩ ops n f) (hd : Nat.ble (d + 1) n = true)
    (hx : lk n f x = some a) (hy : lk n f y = some b) (hc : ∀ w, Below w0.heap.size w0 w → Ret P fn #[a, b] w fun r w' => r = v ∧ Below w.heap.size w w')
    (k : WQ P ops w0 Q rest n (.upd f d v)) :
    WQ P ops w0 Q (⟨some d, .call ⟨.value (.func fn), #[x, y], ats⟩, ty, pos, after, g⟩ :: rest) n f :=
  q_call hw hd (by simp [lk_evo hx, lk_evo hy]) (fun w hb => (hc w hb).mono fun _ _ h => ⟨h.1, hb.trans (h.2.mono hb.size)⟩) k

end Go.Proofs.YtablpijnjkncfaaGreat

/- Contracts: coverings and isomorphisms of two maniplexes. -/
namespace Go.Proofs.YtablpijnjkncfaaGreat
open Go.Mem Go.RowKit

set_option maxRecDepth 100000 in
theorem l07Cover_any (v v2 : Value) (ms ks : List (List Int)) (flag : Int) (w : World) (hv : RL w v ms) (hv2 : RL w v2 ks) (hm : IsMan ms) (hk : IsMan ks) (hf : 0 ≤ flag ∧ flag < nf ks) :
    Ret Tryz.prog 117 #[.agg #[v], .agg #[v2], .int .i64 flag] w fun r w' => ∃ x, r = .tuple #[x, .bool (mapT ms ks flag).isSome] ∧ MapR w' w.heap.size 2 x (mapT ms ks flag) ∧ Below w.heap.size w w' := by
  have sv := hv.sv
  have sv2 := hv2.sv
  refine enter3 26 Tryz.func117 rfl Tryz.ntmps117 rfl (fun fr => ?_)
  refine go ?_
  refine s_box (wn rfl) rfl rfl (agg_cells sv) (fun w1 hbx _ hp1 hg => ?_)
  have hb := below_of_grownBy hg
  have hv := hv.below hb
  have hv2 := hv2.below hb
  generalize hpe : (⟨w.heap.size, 0, none⟩ : Addr) = p at *
  refine s_box (wn rfl) rfl rfl (agg_cells sv2) (fun w2 hbx2 _ hp2 hg2 => ?_)
  have hb2 := below_of_grownBy hg2
  have hbx := cell_below hbx hb2
  have hv := hv.below hb2
  have hv2 := hv2.below hb2
  have hb := hb.trans (hb2.mono hb.size)
  clear hb2 hg hg2 hp1 hp2
  generalize (⟨w1.heap.size, 0, none⟩ : Addr) = p2 at *
  refine split (p := (ms.length : Int) ≠ ks.length) (fun hne => ?_) (fun hl => ?_)
  · refine go ?_
    have e : mapT ms ks flag = none := by unfold mapT; rw [if_neg (by omega)]
    exact end_two Tryz.results117 rfl rfl ⟨_, by rw [e]; rfl, by rw [e]; rfl, hb⟩
  · have e : mapT ms ks flag = mapTo ms ks flag := by unfold mapT; rw [if_pos (by omega)]
    rw [e]
    refine go ?_
    refine s_call3 (wn rfl) rfl rfl rfl rfl (l06Map_any _ _ _ _ _ _ hv hv2 hm hk (by omega) hf) ?_
    rintro _ w3 ⟨x, rfl, hx, hb3⟩
    refine go ?_
    refine end_two Tryz.results117 rfl rfl ⟨x, rfl, ?_, hb.trans (hb3.mono hb.size)⟩
    cases h : mapTo ms ks flag with
    | none => rw [h] at hx; exact hx
    | some xs => rw [h] at hx; exact ⟨hx.1.mono hb.size, hx.2⟩

end Go.Proofs.YtablpijnjkncfaaGreat

/- Contracts: the laws' marks. -/
namespace Go.Proofs.YtablpijnjkncfaaGreat
open Go.Mem Go.RowKit
end Go.Proofs.YtablpijnjkncfaaGreat

/- Contracts: what the laws' marks hold, for rows; a variable's cell beside what is marked. -/
namespace Go.Proofs.YtablpijnjkncfaaGreat
open Go.Mem Go.RowKit

theorem cell_btw {B E : Nat} {w w' : World} {a : Addr} {u : Value} (h : w.cell? a = some u) (hb : Btw B E w w') (ha : a.block < B ∨ E ≤ a.block) : w'.cell? a = some u := by
  rw [World.cell?_of_block (w := w) (hb.block _ (World.block_lt_of_cell? w a h) ha)]; exact h

end Go.Proofs.YtablpijnjkncfaaGreat
