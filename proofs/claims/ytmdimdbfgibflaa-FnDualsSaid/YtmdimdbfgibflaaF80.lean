/- Contracts: forms, facets, vertex figures and orientability, where the argument is a maniplex. -/
import Derived.Test.YtmdimdbfgibflaaF72
import Derived.Test.YtmdimdbfgibflaaF39
import Derived.Test.YtmdimdbfgibflaaPF
namespace Go.Mem
open Go.RowKit
section
variable {P : Program} {n : Nat} {f : Fm} {w : World} {dst : Option Tmp} {ty : TypeId} {pos : String} {after : Array Edge} {g : Option (Nat × Bool)}
theorem y_cutR_hi {x hi : Operand} {t e : TypeId} {z : Value} {bytes : Nat} [ht : SliceTy P t e] [he : CellTy P e z bytes] {v : Value} {xss : List (List Int)} {kh : IntKind} {r : Int}
    (hx : lk n f x = some v) (hhi : lk n f hi = some (.int kh r)) (h : RL w v xss) (h0 : 0 ≤ r) (hr : r ≤ xss.length) :
    Yld P (evo n f) ⟨dst, .slice t x none (some hi) none, ty, pos, after, g⟩ w (cut v 0 r.toNat) := by
  obtain ⟨vs, h1, h2, _⟩ := h.out
  exact y_cut_hi hx hhi h1 h0 (by omega)
end
end Go.Mem
namespace Go.Proofs.Ytmdimdbfgibflaa
open Go.Mem Go.RowKit
set_option linter.unusedVariables false
set_option linter.unusedSimpArgs false

set_option maxHeartbeats 8000000 in
set_option maxRecDepth 100000 in
theorem IsManiplex_any (v : Value) (ms : List (List Int)) (w : World) (hv : RL w v ms) :
    Ret Try.prog 15 #[.agg #[v]] w fun r w' => r = .bool (decide (IsMan ms)) ∧ Below w.heap.size w w' := by
  have shv := hv.sv
  have hb := Below.refl w.heap.size w
  refine enter1 5 Try.func15 rfl Try.ntmps15 rfl (fun fr => ?_)
  refine go ?_
  refine s_box (wn rfl) rfl rfl (agg_cells shv) (fun w1 hbx _ hp hg => ?_)
  have hb1 := below_of_grownBy hg
  have sw1 := hb1.size
  replace hv := hv.below hb1
  replace hb := hb.trans (hb1.mono hb.size)
  clear hg hp hb1
  generalize (⟨w.heap.size, 0, none⟩ : Addr) = p at *
  refine go ?_
  refine s_call1 (wn rfl) rfl rfl (isManiplex_any _ _ _ hv) ?_
  rintro _ w2 ⟨rfl, hb2⟩
  have sw2 := hb2.size
  replace hv := hv.below hb2
  replace hbx := cell_below hbx hb2
  replace hb := hb.trans (hb2.mono hb.size)
  refine go ?_
  exact end_one Try.results15 rfl ⟨rfl, hb⟩

set_option maxHeartbeats 8000000 in
set_option maxRecDepth 100000 in
theorem IsOrientable_good (v : Value) (ms : List (List Int)) (w : World) (hv : RL w v ms) (hm : IsMan ms) :
    Ret Try.prog 25 #[.agg #[v]] w fun r w' => r = .tuple #[.bool (decide (Ori ms)), .int .i64 0] ∧ Below w.heap.size w w' := by
  have shv := hv.sv
  have hb := Below.refl w.heap.size w
  refine enter1 14 Try.func25 rfl Try.ntmps25 rfl (fun fr => ?_)
  have d1 := decide_eq_true hm
  refine go ?_
  refine s_box (wn rfl) rfl rfl (agg_cells shv) (fun w1 hbx _ hp hg => ?_)
  have hb1 := below_of_grownBy hg
  have sw1 := hb1.size
  replace hv := hv.below hb1
  replace hb := hb.trans (hb1.mono hb.size)
  clear hg hp hb1
  generalize (⟨w.heap.size, 0, none⟩ : Addr) = p at *
  refine go ?_
  refine s_call1 (wn rfl) rfl rfl (isManiplex_any _ _ _ hv) ?_
  rintro _ w2 ⟨rfl, hb2⟩
  have sw2 := hb2.size
  replace hv := hv.below hb2
  replace hbx := cell_below hbx hb2
  replace hb := hb.trans (hb2.mono hb.size)
  rw [d1]
  refine go ?_
  refine s_call1 (wn rfl) rfl rfl (colouring_any _ _ _ _ hv hbx hm) ?_
  rintro _ w3 ⟨lb, L, rfl, hl, hb3⟩
  have sw3 := hb3.size
  replace hv := hv.below hb3
  replace hbx := cell_below hbx hb3
  replace hb := hb.trans (hb3.mono hb.size)
  refine go ?_
  exact end_two Try.results25 rfl rfl ⟨rfl, hb⟩

set_option maxHeartbeats 8000000 in
set_option maxRecDepth 100000 in
theorem FormFrom_good (v : Value) (ms : List (List Int)) (fl : Int) (w : World) (hv : RL w v ms) (hm : IsMan ms) (hf : 0 ≤ fl ∧ fl < nf ms) :
    Ret Try.prog 17 #[.agg #[v], .int .i64 fl] w fun r w' => ∃ x, r = .tuple #[.agg #[x], .int .i64 0] ∧ OM w' w.heap.size w'.heap.size 34 2 x (frm (nf ms) ms fl) ∧ Below w.heap.size w w' := by
  have shv := hv.sv
  have hb := Below.refl w.heap.size w
  refine enter2 20 Try.func17 rfl Try.ntmps17 rfl (fun fr => ?_)
  have hvE := hv
  have r1 := hm.m0.r1
  have r5 := hm.m0.r5
  have f4 := hm.m0.f400
  have d1 := decide_eq_true hm
  have d2 := decide_eq_true hf
  refine go ?_
  refine s_box (wn rfl) rfl rfl (agg_cells shv) (fun w1 hbx _ hp hg => ?_)
  have hb1 := below_of_grownBy hg
  have sw1 := hb1.size
  replace hv := hv.below hb1
  replace hb := hb.trans (hb1.mono hb.size)
  clear hg hp hb1
  generalize (⟨w.heap.size, 0, none⟩ : Addr) = p at *
  have sz0 := hb.size
  have hplt := World.block_lt_of_cell? _ _ hbx
  refine go ?_
  refine s_alloc (B := w.heap.size) (wn rfl) rfl (by first | exact Nat.le_refl _ | omega) (fun w2 p4 hx4 hg2 hpp4 => ?_)
  have hb2 := below_of_grownBy hg2
  have sw2 := hb2.size
  replace hv := hv.below hb2
  replace hbx := cell_below hbx hb2
  replace hb := hb.trans (hb2.mono hb.size)
  have hlt_hx4 := hx4.lt
  have sz1 := hb.size
  refine go ?_
  refine s_call1 (wn rfl) rfl rfl (isManiplex_any _ _ _ hv) ?_
  rintro _ w3 ⟨rfl, hb3⟩
  have sw3 := hb3.size
  replace hv := hv.below hb3
  replace hbx := cell_below hbx hb3
  replace hx4 := hx4.below hb3
  replace hb := hb.trans (hb3.mono hb.size)
  rw [d1]
  refine go ?_
  refine s_call2 (wn rfl) rfl rfl rfl (hasFlag_any _ _ _ fl _ hv hbx r1 f4) ?_
  rintro _ _ ⟨rfl, rfl⟩
  rw [d2]
  have sz2 := hb.size
  refine go ?_
  refine s_call2 (wn rfl) rfl rfl rfl (formFrom_any _ _ (nf ms) fl _ hv hm.syst hf r1 (by omega) (by omega)) ?_
  rintro _ w4 ⟨ob, rfl, hx, hb4⟩
  have sw4 := hb4.size
  replace hv := hv.below hb4
  replace hbx := cell_below hbx hb4
  replace hx4 := hx4.below hb4
  replace hb := hb.trans (hb4.mono hb.size)
  have hbY := hb
  refine go ?_
  refine s_storeBox (wn rfl) rfl rfl hx.sv.one hx4 (fun w5 hxz hgz => ?_)
  have hbz := hbY.trans (hx4.below_of hgz hbY.size)
  have hxN := hx.kept hgz (by omega)
  refine go ?_
  exact end_cellT Try.results17 rfl rfl hxz.cell ⟨ob, rfl, (hxN.mono (by omega)).top, hbz⟩

set_option maxHeartbeats 8000000 in
set_option maxRecDepth 100000 in
theorem VertexFigureAt_good (v : Value) (ms : List (List Int)) (fl : Int) (w : World) (hv : RL w v ms) (hm : IsMan ms) (hf : 0 ≤ fl ∧ fl < nf ms) (h2 : 2 ≤ ms.length) :
    Ret Try.prog 34 #[.agg #[v], .int .i64 fl] w fun r w' => ∃ x, r = .tuple #[.agg #[x], .int .i64 0] ∧ OM w' w.heap.size w'.heap.size 34 2 x (frm (nf ms) (ms.drop 1) fl) ∧ Below w.heap.size w w' := by
  have shv := hv.sv
  have hb := Below.refl w.heap.size w
  refine enter2 25 Try.func34 rfl Try.ntmps34 rfl (fun fr => ?_)
  have hvE := hv
  have r1 := hm.m0.r1
  have r5 := hm.m0.r5
  have f4 := hm.m0.f400
  have d1 := decide_eq_true hm
  have d2 := decide_eq_true hf
  refine go ?_
  refine s_box (wn rfl) rfl rfl (agg_cells shv) (fun w1 hbx _ hp hg => ?_)
  have hb1 := below_of_grownBy hg
  have sw1 := hb1.size
  replace hv := hv.below hb1
  replace hb := hb.trans (hb1.mono hb.size)
  clear hg hp hb1
  generalize (⟨w.heap.size, 0, none⟩ : Addr) = p at *
  have sz0 := hb.size
  have hplt := World.block_lt_of_cell? _ _ hbx
  refine go ?_
  refine s_alloc (B := w.heap.size) (wn rfl) rfl (by first | exact Nat.le_refl _ | omega) (fun w2 p4 hx4 hg2 hpp4 => ?_)
  have hb2 := below_of_grownBy hg2
  have sw2 := hb2.size
  replace hv := hv.below hb2
  replace hbx := cell_below hbx hb2
  replace hb := hb.trans (hb2.mono hb.size)
  have hlt_hx4 := hx4.lt
  have sz1 := hb.size
  refine go ?_
  refine s_call1 (wn rfl) rfl rfl (isManiplex_any _ _ _ hv) ?_
  rintro _ w3 ⟨rfl, hb3⟩
  have sw3 := hb3.size
  replace hv := hv.below hb3
  replace hbx := cell_below hbx hb3
  replace hx4 := hx4.below hb3
  replace hb := hb.trans (hb3.mono hb.size)
  rw [d1]
  refine go ?_
  refine s_call2 (wn rfl) rfl rfl rfl (hasFlag_any _ _ _ fl _ hv hbx r1 f4) ?_
  rintro _ _ ⟨rfl, rfl⟩
  rw [d2]
  refine go ?_
  refine s_call1 (wn rfl) rfl rfl (rank_any _ _ _ _ hbx shv) ?_
  rintro _ _ ⟨rfl, rfl⟩
  have k1 : ¬ ((ms.length : Int) = 1) := by omega
  refine go ?_
  have hcut := hv.cut (l := 1) (r := ms.length) (by omega) (by omega)
  rw [show (ms.take ms.length).drop 1 = ms.drop 1 by rw [List.take_length]] at hcut
  have hcl : (ms.drop 1).length = ms.length - 1 := by simp
  have hcs : Syst (nf ms) (ms.drop 1) := fun m h => hm.syst m (List.mem_of_mem_drop h)
  have scut := hcut.sv
  have sz2 := hb.size
  refine go ?_
  refine s_call2 (wn rfl) rfl rfl rfl (formFrom_any _ _ (nf ms) fl _ hcut hcs hf (by omega) (by omega) (by omega)) ?_
  rintro _ w4 ⟨ob, rfl, hx, hb4⟩
  have sw4 := hb4.size
  replace hv := hv.below hb4
  replace hbx := cell_below hbx hb4
  replace hx4 := hx4.below hb4
  replace hb := hb.trans (hb4.mono hb.size)
  have hbY := hb
  refine go ?_
  refine s_storeBox (wn rfl) rfl rfl hx.sv.one hx4 (fun w5 hxz hgz => ?_)
  have hbz := hbY.trans (hx4.below_of hgz hbY.size)
  have hxN := hx.kept hgz (by omega)
  refine go ?_
  exact end_cellT Try.results34 rfl rfl hxz.cell ⟨ob, rfl, (hxN.mono (by omega)).top, hbz⟩

set_option maxHeartbeats 8000000 in
set_option maxRecDepth 100000 in
theorem FacetAt_good (v : Value) (ms : List (List Int)) (fl : Int) (w : World) (hv : RL w v ms) (hm : IsMan ms) (hf : 0 ≤ fl ∧ fl < nf ms) (h2 : 2 ≤ ms.length) :
    Ret Try.prog 33 #[.agg #[v], .int .i64 fl] w fun r w' => ∃ x, r = .tuple #[.agg #[x], .int .i64 0] ∧ OM w' w.heap.size w'.heap.size 34 2 x (frm (nf ms) (ms.take (ms.length - 1)) fl) ∧ Below w.heap.size w w' := by
  have shv := hv.sv
  have hb := Below.refl w.heap.size w
  refine enter2 27 Try.func33 rfl Try.ntmps33 rfl (fun fr => ?_)
  have hvE := hv
  have r1 := hm.m0.r1
  have r5 := hm.m0.r5
  have f4 := hm.m0.f400
  have d1 := decide_eq_true hm
  have d2 := decide_eq_true hf
  refine go ?_
  refine s_box (wn rfl) rfl rfl (agg_cells shv) (fun w1 hbx _ hp hg => ?_)
  have hb1 := below_of_grownBy hg
  have sw1 := hb1.size
  replace hv := hv.below hb1
  replace hb := hb.trans (hb1.mono hb.size)
  clear hg hp hb1
  generalize (⟨w.heap.size, 0, none⟩ : Addr) = p at *
  have sz0 := hb.size
  have hplt := World.block_lt_of_cell? _ _ hbx
  refine go ?_
  refine s_alloc (B := w.heap.size) (wn rfl) rfl (by first | exact Nat.le_refl _ | omega) (fun w2 p4 hx4 hg2 hpp4 => ?_)
  have hb2 := below_of_grownBy hg2
  have sw2 := hb2.size
  replace hv := hv.below hb2
  replace hbx := cell_below hbx hb2
  replace hb := hb.trans (hb2.mono hb.size)
  have hlt_hx4 := hx4.lt
  have sz1 := hb.size
  refine go ?_
  refine s_call1 (wn rfl) rfl rfl (isManiplex_any _ _ _ hv) ?_
  rintro _ w3 ⟨rfl, hb3⟩
  have sw3 := hb3.size
  replace hv := hv.below hb3
  replace hbx := cell_below hbx hb3
  replace hx4 := hx4.below hb3
  replace hb := hb.trans (hb3.mono hb.size)
  rw [d1]
  refine go ?_
  refine s_call2 (wn rfl) rfl rfl rfl (hasFlag_any _ _ _ fl _ hv hbx r1 f4) ?_
  rintro _ _ ⟨rfl, rfl⟩
  rw [d2]
  refine go ?_
  refine s_call1 (wn rfl) rfl rfl (rank_any _ _ _ _ hbx shv) ?_
  rintro _ _ ⟨rfl, rfl⟩
  have k1 : ¬ ((ms.length : Int) = 1) := by omega
  have e1 : (((ms.length : Int) - 1)).toNat = ms.length - 1 := by omega
  refine go ?_
  have hcl : (ms.take (ms.length - 1)).length = ms.length - 1 := by rw [List.length_take]; omega
  have hcs : Syst (nf ms) (ms.take (ms.length - 1)) := fun m h => hm.syst m (List.mem_of_mem_take h)
  refine region_hS (fun w' => w'.cell? p = some v ∧ RL w' v ms) mixed (fun w4 cr => ?_)
  have sw4 := cr.size
  replace hv := hv.below cr
  replace hbx := cell_below hbx cr
  replace hx4 := hx4.below cr
  replace hb := hb.trans (cr.mono hb.size)
  refine h_p 0 ⟨hbx, hv⟩ ?_ (hrun := fun w' h => by obtain ⟨h1, h2⟩ := h; exact yl)
  refine h_p 1 ⟨hbx, hv⟩ ?_ (hrun := fun w' h => by obtain ⟨h1, h2⟩ := h; exact yl)
  refine h_p 5 ⟨hbx, hv⟩ ?_ (hrun := fun w' h => by obtain ⟨h1, h2⟩ := h; exact yl)
  refine h_one 2 ?_
  refine s_call1 (wn rfl) rfl rfl (rank_any _ _ _ _ hbx shv) ?_
  rintro _ _ ⟨rfl, rfl⟩
  refine w_nil ?_
  refine h_on ⟨⟨hbx, hv⟩, ?_⟩
  refine h_p 3 ⟨hbx, hv⟩ ?_ (hrun := fun w' h => by obtain ⟨h1, h2⟩ := h; exact yl)
  refine h_p 4 ⟨hbx, hv⟩ ?_ (hrun := fun w' h => y_cutR_hi rfl rfl h.2 (by omega) (by omega))
  rw [e1]
  have hcut := hv.cut (l := 0) (r := ms.length - 1) (by omega) (by omega)
  rw [show (ms.take (ms.length - 1)).drop 0 = ms.take (ms.length - 1) from rfl] at hcut
  have scut := hcut.sv
  have sz2 := hb.size
  refine h_one 6 ?_
  refine s_call2 (wn rfl) rfl rfl rfl (formFrom_any _ _ (nf ms) fl _ hcut hcs hf (by omega) (by omega) (by omega)) ?_
  rintro _ w5 ⟨ob, rfl, hx, hb5⟩
  have sw5 := hb5.size
  replace hv := hv.below hb5
  replace hbx := cell_below hbx hb5
  replace hx4 := hx4.below hb5
  replace hb := hb.trans (hb5.mono hb.size)
  refine w_nil ?_
  refine h_on ⟨⟨hbx, hv⟩, ?_⟩
  refine h_one 7 ?_
  have hbY := hb
  refine s_storeBox (wn rfl) rfl rfl hx.sv.one hx4 (fun w6 hxz hgz => ?_)
  have hbz := hbY.trans (hx4.below_of hgz hbY.size)
  have hxN := hx.kept hgz (by omega)
  have hvz := hvE.below hbz
  have hbxz := cell_kept hbx hgz (by intro e; have := Option.some.inj e; have := hpp4; omega)
  refine w_nil ?_
  refine h_on ⟨⟨hbxz, hvz⟩, ?_⟩
  refine h_p 8 ⟨hbxz, hvz⟩ ?_ (hrun := fun w' h => yl)
  refine h_nil ?_
  refine go ?_
  exact end_cellT Try.results33 rfl rfl hxz.cell ⟨ob, rfl, (hxN.mono (by omega)).top, hbz⟩

end Go.Proofs.Ytmdimdbfgibflaa
