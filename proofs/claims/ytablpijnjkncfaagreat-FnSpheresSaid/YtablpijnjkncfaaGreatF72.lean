/- Contracts: inverses, renumbering, least forms for the laws, the draw of two maniplexes. -/
import Derived.Test.YtablpijnjkncfaaGreatF65
import Derived.Test.YtablpijnjkncfaaGreatFE
import Derived.Test.YtablpijnjkncfaaGreatPF
namespace Go.Mem
open Go.RowKit
/-- two results that lie in variables -/
theorem end_cellC {P : Program} {fn : Func} {R : Value → World → Prop} {n t s : Nat} {f : Fm} {w : World} {ty ty2 : TypeId} {p p2 : Addr} {u v : Value} [hb : BoxTy P ty] [hb2 : BoxTy P ty2] (h : fn.results = #[.cell t ty, .cell s ty2])
    (hv : lk n f (.tmp t) = some (.pointer (some p))) (hs : lk n f (.tmp s) = some (.pointer (some p2))) (hc : w.cell? p = some u) (hc2 : w.cell? p2 = some v) (hR : R (.tuple #[.agg #[u], .agg #[v]]) w) : endPost P fn n R .ret f w := by
  have e : (act n f.fn).tmps[t]?.getD undef = evo n f (.tmp t) := by rw [← act_eval]; simp [Act.eval]
  have e2 : (act n f.fn).tmps[s]?.getD undef = evo n f (.tmp s) := by rw [← act_eval]; simp [Act.eval]
  refine ⟨.tuple #[.agg #[u], .agg #[v]], ?_, hR⟩
  simp [results, h, e, e2, lk_evo hv, lk_evo hs, asAddr, loadVar, hb.agg, hb.size, hb2.agg, hb2.size, loadCells, loadCellsFrom, Addr.add_zero', hc, hc2]
end Go.Mem
namespace Go.Proofs.YtablpijnjkncfaaGreat
open Go.Mem Go.RowKit
set_option linter.unusedVariables false
set_option linter.unusedSimpArgs false
set_option maxHeartbeats 8000000 in
set_option maxRecDepth 100000 in
theorem LeastForm_good (v : Value) (ms : List (List Int)) (w : World) (hv : RL w v ms) (hm : IsMan ms) :
    Ret Tryz.prog 19 #[.agg #[v]] w fun r w' => ∃ x, r = .tuple #[.agg #[x], .int .i64 0] ∧ OM w' w.heap.size w'.heap.size 32 2 x (lst ms) ∧ Below w.heap.size w w' := by
  have shv := hv.sv
  have hb := Below.refl w.heap.size w
  refine enter1 10 Tryz.func19 rfl Tryz.ntmps19 rfl (fun fr => ?_)
  have d1 := decide_eq_true hm
  refine go ?_
  refine s_box (wn rfl) rfl rfl (agg_cells shv) (fun w1 hbx _ hp hg => ?_)
  have hb1 := below_of_grownBy hg
  have sw1 := hb1.size
  replace hv := hv.below hb1
  replace hb := hb.trans (hb1.mono hb.size)
  clear hg hp hb1
  generalize (⟨w.heap.size, 0, none⟩ : Addr) = p at *
  have sz0 := hb.size
  refine go ?_
  refine s_alloc (B := w.heap.size) (wn rfl) rfl (by first | exact Nat.le_refl _ | omega) (fun w2 p4 hx4 hg2 hpp4 => ?_)
  have hb2 := below_of_grownBy hg2
  have sw2 := hb2.size
  replace hv := hv.below hb2
  replace hbx := cell_below hbx hb2
  replace hb := hb.trans (hb2.mono hb.size)
  have hlt_hx4 := hx4.lt
  have sz1 := hb.size
  refine go ?_
  refine s_call1 (wn rfl) rfl rfl (isManiplex_any _ _ _ hv) ?_
  rintro _ w3 ⟨rfl, hb3⟩
  have sw3 := hb3.size
  replace hv := hv.below hb3
  replace hbx := cell_below hbx hb3
  replace hx4 := hx4.below hb3
  replace hb := hb.trans (hb3.mono hb.size)
  rw [d1]
  have sz2 := hb.size
  refine go ?_
  refine s_call1 (wn rfl) rfl rfl (leastForm_any _ _ _ hv hm) ?_
  rintro _ w4 ⟨ob, rfl, hx, hb4⟩
  have sw4 := hb4.size
  replace hv := hv.below hb4
  replace hbx := cell_below hbx hb4
  replace hx4 := hx4.below hb4
  replace hb := hb.trans (hb4.mono hb.size)
  have hbY := hb
  refine go ?_
  refine s_storeBox (wn rfl) rfl rfl hx.sv.one hx4 (fun w5 hxz hgz => ?_)
  have hbz := hbY.trans (hx4.below_of hgz hbY.size)
  have hxN := hx.kept hgz (by omega)
  refine go ?_
  exact end_cellT Tryz.results19 rfl rfl hxz.cell ⟨ob, rfl, (hxN.mono (by omega)).top, hbz⟩

set_option maxHeartbeats 8000000 in
set_option maxRecDepth 100000 in
theorem like5_any (v : Value) (v2 : Value) (ms : List (List Int)) (ks : List (List Int)) (w : World) (hv : RL w v ms) (hv2 : RL w v2 ks) :
    Ret Tryz.prog 9 #[.agg #[v], .agg #[v2]] w fun r w' => r = .bool (decide (ms = ks)) ∧ Below w.heap.size w w' := by
  have shv := hv.sv
  have shv2 := hv2.sv
  have hb := Below.refl w.heap.size w
  refine enter2 10 Tryz.func9 rfl Tryz.ntmps9 rfl (fun fr => ?_)
  refine go ?_
  refine s_box (wn rfl) rfl rfl (agg_cells shv) (fun w1 hbx _ hp hg => ?_)
  have hb1 := below_of_grownBy hg
  have sw1 := hb1.size
  replace hv := hv.below hb1
  replace hv2 := hv2.below hb1
  replace hb := hb.trans (hb1.mono hb.size)
  clear hg hp hb1
  generalize (⟨w.heap.size, 0, none⟩ : Addr) = p at *
  refine go ?_
  refine s_box (wn rfl) rfl rfl (agg_cells shv2) (fun w2 hbx2 _ hp hg => ?_)
  have hb2 := below_of_grownBy hg
  have sw2 := hb2.size
  replace hv := hv.below hb2
  replace hv2 := hv2.below hb2
  replace hbx := cell_below hbx hb2
  replace hb := hb.trans (hb2.mono hb.size)
  clear hg hp hb2
  generalize (⟨w1.heap.size, 0, none⟩ : Addr) = p2 at *
  refine go ?_
  refine s_call2 (wn rfl) rfl rfl rfl (likeRows5_any _ _ _ _ _ hv hv2) ?_
  rintro _ w3 ⟨rfl, hb3⟩
  have sw3 := hb3.size
  replace hv := hv.below hb3
  replace hv2 := hv2.below hb3
  replace hbx := cell_below hbx hb3
  replace hbx2 := cell_below hbx2 hb3
  replace hb := hb.trans (hb3.mono hb.size)
  refine go ?_
  exact end_one Tryz.results9 rfl ⟨rfl, hb⟩

end Go.Proofs.YtablpijnjkncfaaGreat
