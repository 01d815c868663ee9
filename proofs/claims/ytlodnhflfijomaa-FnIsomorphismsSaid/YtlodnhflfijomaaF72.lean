/- Contracts: inverses, renumbering, least forms for the laws, the draw of two maniplexes. -/
import Derived.Test.YtlodnhflfijomaaF65
import Derived.Test.YtlodnhflfijomaaFE
import Derived.Test.YtlodnhflfijomaaP32
namespace Go.Mem
open Go.RowKit
/-- two results that lie in variables -/
theorem end_cellC {P : Program} {fn : Func} {R : Value → World → Prop} {n t s : Nat} {f : Fm} {w : World} {ty ty2 : TypeId} {p p2 : Addr} {u v : Value} [hb : BoxTy P ty] [hb2 : BoxTy P ty2] (h : fn.results = #[.cell t ty, .cell s ty2])
    (hv : lk n f (.tmp t) = some (.pointer (some p))) (hs : lk n f (.tmp s) = some (.pointer (some p2))) (hc : w.cell? p = some u) (hc2 : w.cell? p2 = some v) (hR : R (.tuple #[.agg #[u], .agg #[v]]) w) : endPost P fn n R .ret f w := by
  have e : (act n f.fn).tmps[t]?.getD undef = evo n f (.tmp t) := by rw [← act_eval]; simp [Act.eval]
  have e2 : (act n f.fn).tmps[s]?.getD undef = evo n f (.tmp s) := by rw [← act_eval]; simp [Act.eval]
  refine ⟨.tuple #[.agg #[u], .agg #[v]], ?_, hR⟩
  simp [results, h, e, e2, lk_evo hv, lk_evo hs, asAddr, loadVar, hb.agg, hb.size, hb2.agg, hb2.size, loadCells, loadCellsFrom, Addr.add_zero', hc, hc2]
end Go.Mem
namespace Go.Proofs.Ytlodnhflfijomaa
open Go.Mem Go.RowKit
set_option linter.unusedVariables false
set_option linter.unusedSimpArgs false

set_option maxHeartbeats 8000000 in
set_option maxRecDepth 100000 in
theorem inverse_any (v : Value) (xs : List Int) (w : World) (hv : IL w v xs) (hr : ∀ x ∈ xs, 0 ≤ x ∧ x < xs.length) (hl : xs.length ≤ 1000) :
    Ret Try.prog 114 #[v] w fun r w' => OI w' w.heap.size 2 r (numIn xs.length xs) ∧ Below w.heap.size w w' := by
  have shv := hv.sv
  have hb := Below.refl w.heap.size w
  refine enter1 22 Try.func114 rfl Try.ntmps114 rfl (fun fr => ?_)
  have sbs1 := hb.size
  have hv_b1 := hv
  have hbB1 := Below.refl w.heap.size w
  refine go ?_
  have szq1 := hbB1.size
  refine s_makeI (B := w.heap.size) (wn rfl) rfl rfl rfl (by omega) (by omega) szq1 (fun rb w1 ho soho hg1 _ => ?_)
  have hb1 := below_of_grownBy hg1
  have sw1 := hb1.size
  replace hv := hv.below hb1
  replace hbB1 := hbB1.trans (hb1.mono hbB1.size)
  have el : ((xs.length : Int)).toNat = xs.length := by omega
  rw [el] at ho
  refine go ?_
  refine w_loop (fun kk fr w' => ∃ (i : Nat), kk = xs.length - i ∧ i ≤ xs.length ∧ fr 3 = rb ∧ fr 9 = v ∧ fr 10 = .int .i64 xs.length ∧ fr 11 = .int .i64 i ∧ (OI w' w.heap.size 2 rb (laidTo xs.length xs (fun k : Nat => (k : Int)) i)) ∧ Below w.heap.size w w') (xs.length)
    ⟨0, rfl, Nat.zero_le _, rfl, rfl, rfl, rfl, ho, hbB1⟩ ?_
  rintro kk fr w2 ⟨i, rfl, hi, f3, f9, f10, f11, ho, hbB1⟩
  have sw2 := hbB1.size
  have hv := hv_b1.below hbB1
  have sho := ho.sv
  refine know (t := 3) f3 ?_; refine know (t := 9) f9 ?_; refine know (t := 10) f10 ?_; refine know (t := 11) f11 ?_
  refine go ?_
  have hll := length_laidTo xs.length xs (fun k : Nat => (k : Int)) i
  refine cond_dec rfl (fun hlt => ?_) (fun hge => ?_)
  · have hx := hr _ (gi_in (xs := xs) (j := i) (by omega))
    refine go ?_
    have szq3 := hbB1.size
    refine s_storeI (wn rfl) rfl rfl ho (by omega) (by omega) (fun w3 hoN hgN => ?_)
    replace hbB1 := hbB1.trans (ho.below_of hgN szq3)
    have sw3 := hgN.size
    replace ho := hoN
    clear hoN
    replace hv := hv_b1.below hbB1
    refine go ?_
    refine ⟨xs.length - (i + 1), by omega, i + 1, rfl, by omega, rfl, rfl, rfl, rfl, ho, hbB1⟩
  obtain rfl : i = xs.length := by omega
  refine go ?_
  exact end_one Try.results114 rfl ⟨ho, (hb.trans (hbB1.mono hb.size))⟩

set_option maxHeartbeats 8000000 in
set_option maxRecDepth 100000 in
theorem RenumberFlags_good (v : Value) (v2 : Value) (ms : List (List Int)) (ps : List Int) (w : World) (hv : RL w v ms) (hv2 : IL w v2 ps) (hm : IsMan ms) (hp : IsPerm ps) (hpl : ps.length = nf ms) :
    Ret Try.prog 51 #[.agg #[v], v2] w fun r w' => ∃ x, r = .tuple #[.agg #[x], .int .i64 0] ∧ OM w' w.heap.size w'.heap.size 40 2 x (rnm ms ps) ∧ Below w.heap.size w w' := by
  have shv := hv.sv
  have shv2 := hv2.sv
  have hb := Below.refl w.heap.size w
  refine enter2 45 Try.func51 rfl Try.ntmps51 rfl (fun fr => ?_)
  have r1 := hm.m0.r1
  have r5 := hm.m0.r5
  have f4 := hm.m0.f400
  have d1 := decide_eq_true hm
  have d2 := decide_eq_true hp
  have k1 : ¬ ((ps.length : Int) ≠ nf ms) := by omega
  unfold rnm
  refine go ?_
  refine s_box (wn rfl) rfl rfl (agg_cells shv) (fun w1 hbx _ hp hg => ?_)
  have hb1 := below_of_grownBy hg
  have sw1 := hb1.size
  replace hv := hv.below hb1
  replace hv2 := hv2.below hb1
  replace hb := hb.trans (hb1.mono hb.size)
  clear hg hp hb1
  generalize (⟨w.heap.size, 0, none⟩ : Addr) = p at *
  have sz0 := hb.size
  refine go ?_
  refine s_alloc (B := w.heap.size) (wn rfl) rfl (by first | exact Nat.le_refl _ | omega) (fun w2 p4 hx4 hg2 hpp4 => ?_)
  have hb2 := below_of_grownBy hg2
  have sw2 := hb2.size
  replace hv := hv.below hb2
  replace hv2 := hv2.below hb2
  replace hbx := cell_below hbx hb2
  replace hb := hb.trans (hb2.mono hb.size)
  have hlt_hx4 := hx4.lt
  have sz1 := hb.size
  refine go ?_
  refine s_call1 (wn rfl) rfl rfl (isManiplex_any _ _ _ hv) ?_
  rintro _ w3 ⟨rfl, hb3⟩
  have sw3 := hb3.size
  replace hv := hv.below hb3
  replace hv2 := hv2.below hb3
  replace hbx := cell_below hbx hb3
  replace hx4 := hx4.below hb3
  replace hb := hb.trans (hb3.mono hb.size)
  rw [d1]
  refine go ?_
  refine s_call1 (wn rfl) rfl rfl (isPermutation_any _ _ _ hv2) ?_
  rintro _ w4 ⟨rfl, hb4⟩
  have sw4 := hb4.size
  replace hv := hv.below hb4
  replace hv2 := hv2.below hb4
  replace hbx := cell_below hbx hb4
  replace hx4 := hx4.below hb4
  replace hb := hb.trans (hb4.mono hb.size)
  rw [d2]
  refine go ?_
  refine s_call1 (wy rfl rfl rfl rfl rfl known) rfl rfl (size_any _ _ _ shv2) ?_
  rintro _ _ ⟨rfl, rfl⟩
  refine go ?_
  refine s_call1 (wy rfl rfl rfl rfl rfl known) rfl rfl (flags_any _ _ _ _ hbx hv r1) ?_
  rintro _ _ ⟨rfl, rfl⟩
  have sbs1 := hb.size
  have hv_b1 := hv
  have hv2_b1 := hv2
  have hbx_b1 := hbx
  have hx4_b1 := hx4
  have hbB1 := Below.refl w4.heap.size w4
  refine go ?_
  refine s_alloc (B := w4.heap.size) (wn rfl) rfl (by first | exact Nat.le_refl _ | omega) (fun w5 p6 hx6 hg5 hpp6 => ?_)
  have hb5 := below_of_grownBy hg5
  have sw5 := hb5.size
  replace hv := hv.below hb5
  replace hv2 := hv2.below hb5
  replace hbx := cell_below hbx hb5
  replace hx4 := hx4.below hb5
  replace hbB1 := hbB1.trans (hb5.mono hbB1.size)
  have hlt_hx6 := hx6.lt
  refine go ?_
  refine w_loop (fun kk fr w' => ∃ (i : Nat) (ob : Value), kk = ms.length - i ∧ i ≤ ms.length ∧ fr 1 = v2 ∧ fr 4 = .pointer (some p4) ∧ fr 5 = .int .i64 0 ∧ fr 6 = .pointer (some p6) ∧ fr 26 = v ∧ fr 27 = .int .i64 ms.length ∧ fr 28 = .int .i64 i ∧ (Bx w' w4.heap.size p6 28 ob) ∧ (OM w' w5.heap.size w'.heap.size 40 2 ob ((ms.take i).map (fun m => aft (aft (numIn ps.length ps) m) ps))) ∧ (w5.heap.size ≤ w'.heap.size) ∧ Below w4.heap.size w4 w') (ms.length)
    ⟨0, _, rfl, Nat.zero_le _, rfl, rfl, rfl, rfl, rfl, rfl, rfl, hx6, OM.nil _ _ _ _ _, Nat.le_refl _, hbB1⟩ ?_
  rintro kk fr w6 ⟨i, ob, rfl, hi, f1, f4, f5, f6, f26, f27, f28, hx6, ho, hge6, hbB1⟩
  have sw6 := hbB1.size
  have hv := hv_b1.below hbB1
  have hv2 := hv2_b1.below hbB1
  have hbx := cell_below hbx_b1 hbB1
  have hx4 := hx4_b1.below hbB1
  have sho := ho.sv
  refine know (t := 1) f1 ?_; refine know (t := 4) f4 ?_; refine know (t := 5) f5 ?_; refine know (t := 6) f6 ?_; refine know (t := 26) f26 ?_; refine know (t := 27) f27 ?_; refine know (t := 28) f28 ?_
  refine go ?_
  refine cond_dec rfl (fun hlt => ?_) (fun hge => ?_)
  · have hrow := (hm.syst.row (j := (i : Int)) (by omega) (by omega)).1
    have hn1 : ∀ x ∈ numIn ps.length ps, 0 ≤ x ∧ x < ((gr ms i).length : Int) := fun x hx => by
      rw [hrow]
      exact laidTo_rng (R := fun x => 0 ≤ x ∧ x < (nf ms : Int)) ⟨by omega, by have := hm.m0.f2; omega⟩ (fun j hj => ⟨by omega, by omega⟩) ps.length (Nat.le_refl _) x hx
    have hn2 : ∀ x ∈ aft (numIn ps.length ps) (gr ms i), 0 ≤ x ∧ x < (ps.length : Int) := fun x hx => by
      obtain ⟨y, hy, rfl⟩ := List.mem_map.1 hx
      have h := hn1 y hy
      rw [hrow] at h
      have := hm.syst.at (j := (i : Int)) (x := y) (by omega) (by omega) h
      omega
    have hnl := length_numIn ps.length ps
    have hal : (aft (numIn ps.length ps) (gr ms i)).length = ps.length := by simp [aft, hnl]
    obtain ⟨u, hu, hcu⟩ := hv.row (j := (i : Int)) (by omega) hlt
    have su := hu.sv
    have hc6 := hx6.cell
    refine go ?_
    refine region_xS (fun w' => w'.cell? p6 = some ob) 11 mixed (fun w7 cr => ?_)
    have sw7 := cr.size
    replace hv := hv.below cr
    replace hv2 := hv2.below cr
    replace hbx := cell_below hbx cr
    replace hx4 := hx4.below cr
    replace ho := ho.below cr
    replace hx6 := hx6.below cr
    replace hu := hu.below cr
    replace hcu := cell_below hcu cr
    replace hc6 := cell_below hc6 cr
    replace hbB1 := hbB1.trans (cr.mono hbB1.size)
    refine x_p 0 hc6 ?_ (hrun := fun w' h => yl)
    refine x_p 1 hc6 ?_ (hrun := fun w' h => yl)
    refine x_p 2 hc6 ?_ (hrun := fun w' h => yl)
    refine x_p 4 hc6 ?_ (hrun := fun w' h => yl)
    refine x_p 6 hc6 ?_ (hrun := fun w' h => yl)
    refine x_one 3 ?_
    refine s_call1 (wn rfl) rfl rfl (inverse_any _ _ _ hv2 hp.2.1 (by omega)) ?_
    rintro iv w8 ⟨hi, hb8⟩
    have sw8 := hb8.size
    replace hv := hv.below hb8
    replace hv2 := hv2.below hb8
    replace hbx := cell_below hbx hb8
    replace hx4 := hx4.below hb8
    replace ho := ho.below hb8
    replace hx6 := hx6.below hb8
    replace hu := hu.below hb8
    replace hcu := cell_below hcu hb8
    replace hc6 := cell_below hc6 hb8
    replace hbB1 := hbB1.trans (hb8.mono hbB1.size)
    refine w_nil ?_
    refine x_end ⟨fun _ => hc6, ?_⟩
    refine x_one 5 ?_
    refine s_call2 (wn rfl) rfl rfl rfl (then_any _ _ _ _ _ hi.il hu hn1 (by omega)) ?_
    rintro av w9 ⟨ha, hb9⟩
    have sw9 := hb9.size
    replace hv := hv.below hb9
    replace hv2 := hv2.below hb9
    replace hbx := cell_below hbx hb9
    replace hx4 := hx4.below hb9
    replace ho := ho.below hb9
    replace hx6 := hx6.below hb9
    replace hu := hu.below hb9
    replace hcu := cell_below hcu hb9
    replace hc6 := cell_below hc6 hb9
    replace hi := hi.below hb9
    replace hbB1 := hbB1.trans (hb9.mono hbB1.size)
    refine w_nil ?_
    refine x_end ⟨fun _ => hc6, ?_⟩
    refine x_one 7 ?_
    refine s_call2 (wn rfl) rfl rfl rfl (then_any _ _ _ _ _ ha.il hv2 hn2 (by omega)) ?_
    rintro cv w10 ⟨hr, hb10⟩
    have sw10 := hb10.size
    replace hv := hv.below hb10
    replace hv2 := hv2.below hb10
    replace hbx := cell_below hbx hb10
    replace hx4 := hx4.below hb10
    replace ho := ho.below hb10
    replace hx6 := hx6.below hb10
    replace hu := hu.below hb10
    replace hcu := cell_below hcu hb10
    replace hc6 := cell_below hc6 hb10
    replace hi := hi.below hb10
    replace ha := ha.below hb10
    replace hbB1 := hbB1.trans (hb10.mono hbB1.size)
    refine w_nil ?_
    refine x_end ⟨fun _ => hc6, ?_⟩
    refine x_one 8 ?_
    have szq11 := hbB1.size
    refine s_build1V (B := w4.heap.size) (wn rfl) rfl rfl hr.sv.one szq11 (fun tb w11 ht st hg11 _ => ?_)
    have hb11 := below_of_grownBy hg11
    have sw11 := hb11.size
    replace hv := hv.below hb11
    replace hv2 := hv2.below hb11
    replace hbx := cell_below hbx hb11
    replace hx4 := hx4.below hb11
    replace ho := ho.below hb11
    replace hx6 := hx6.below hb11
    replace hu := hu.below hb11
    replace hcu := cell_below hcu hb11
    replace hc6 := cell_below hc6 hb11
    replace hi := hi.below hb11
    replace ha := ha.below hb11
    replace hr := hr.below hb11
    replace hbB1 := hbB1.trans (hb11.mono hbB1.size)
    refine w_nil ?_
    refine x_end ⟨fun _ => hc6, ?_⟩
    refine x_one 9 ?_
    have szq12 := hbB1.size
    refine s_appendM (wn rfl) rfl rfl rfl ho ht.rd (hr.mono (by omega)) (by omega) (by decide) (by simp; omega) (by omega) (fun ob' w12 hoN so hgN => ?_)
    have sw12 := hgN.size
    replace hbB1 := hbB1.trans ((ho.below_of hgN (by omega)).mono (by omega))
    replace hx6 := hx6.kept hgN (by intro e; have := (ho.ownlt _ e).1; omega)
    have hc6 := hx6.cell
    replace ho := hoN
    clear hoN
    replace hv := hv_b1.below hbB1
    replace hv2 := hv2_b1.below hbB1
    replace hbx := cell_below hbx_b1 hbB1
    replace hx4 := hx4_b1.below hbB1
    refine w_nil ?_
    refine x_end ⟨fun _ => hc6, ?_⟩
    refine x_p 10 hc6 ?_ (hrun := fun w' h => yl)
    refine x_one 11 ?_
    refine s_storeFld (wn rfl) rfl rfl so.one hx6 (fun w13 hxN hgN => ?_)
    have sw13 := hgN.size
    replace hbB1 := hbB1.trans (hx6.below_of hgN (by omega))
    replace ho := (ho.kept hgN (by omega)).top
    replace hx6 := hxN
    clear hxN
    replace hv := hv_b1.below hbB1
    replace hv2 := hv2_b1.below hbB1
    replace hbx := cell_below hbx_b1 hbB1
    replace hx4 := hx4_b1.below hbB1
    refine w_nil ?_
    refine x_end ⟨fun h => absurd rfl h, ?_⟩
    refine x_nil ?_
    refine go ?_
    refine ⟨ms.length - (i + 1), by omega, i + 1, ob', rfl, by omega, rfl, rfl, rfl, rfl, rfl, rfl, rfl, hx6, by rw [frm_take (by omega)]; exact ho, by omega, hbB1⟩
  obtain rfl : i = ms.length := by omega
  rw [List.take_length] at ho
  have hcx := hx6.cell
  have hx := ho
  refine go ?_
  have hbY := (hb.trans (hbB1.mono hb.size))
  refine go ?_
  refine s_storeBox (wn rfl) rfl rfl hx.sv.one hx4 (fun w14 hxz hgz => ?_)
  have hbz := hbY.trans (hx4.below_of hgz hbY.size)
  have hxN := hx.kept hgz (by omega)
  refine go ?_
  exact end_cellT Try.results51 rfl rfl hxz.cell ⟨ob, rfl, (hxN.mono (by omega)).top, hbz⟩

set_option maxHeartbeats 8000000 in
set_option maxRecDepth 100000 in
theorem LeastForm_good (v : Value) (ms : List (List Int)) (w : World) (hv : RL w v ms) (hm : IsMan ms) :
    Ret Try.prog 111 #[.agg #[v]] w fun r w' => ∃ x, r = .tuple #[.agg #[x], .int .i64 0] ∧ OM w' w.heap.size w'.heap.size 40 2 x (lst ms) ∧ Below w.heap.size w w' := by
  have shv := hv.sv
  have hb := Below.refl w.heap.size w
  refine enter1 10 Try.func111 rfl Try.ntmps111 rfl (fun fr => ?_)
  have d1 := decide_eq_true hm
  refine go ?_
  refine s_box (wn rfl) rfl rfl (agg_cells shv) (fun w1 hbx _ hp hg => ?_)
  have hb1 := below_of_grownBy hg
  have sw1 := hb1.size
  replace hv := hv.below hb1
  replace hb := hb.trans (hb1.mono hb.size)
  clear hg hp hb1
  generalize (⟨w.heap.size, 0, none⟩ : Addr) = p at *
  have sz0 := hb.size
  refine go ?_
  refine s_alloc (B := w.heap.size) (wn rfl) rfl (by first | exact Nat.le_refl _ | omega) (fun w2 p4 hx4 hg2 hpp4 => ?_)
  have hb2 := below_of_grownBy hg2
  have sw2 := hb2.size
  replace hv := hv.below hb2
  replace hbx := cell_below hbx hb2
  replace hb := hb.trans (hb2.mono hb.size)
  have hlt_hx4 := hx4.lt
  have sz1 := hb.size
  refine go ?_
  refine s_call1 (wn rfl) rfl rfl (isManiplex_any _ _ _ hv) ?_
  rintro _ w3 ⟨rfl, hb3⟩
  have sw3 := hb3.size
  replace hv := hv.below hb3
  replace hbx := cell_below hbx hb3
  replace hx4 := hx4.below hb3
  replace hb := hb.trans (hb3.mono hb.size)
  rw [d1]
  have sz2 := hb.size
  refine go ?_
  refine s_call1 (wn rfl) rfl rfl (leastForm_any _ _ _ hv hm) ?_
  rintro _ w4 ⟨ob, rfl, hx, hb4⟩
  have sw4 := hb4.size
  replace hv := hv.below hb4
  replace hbx := cell_below hbx hb4
  replace hx4 := hx4.below hb4
  replace hb := hb.trans (hb4.mono hb.size)
  have hbY := hb
  refine go ?_
  refine s_storeBox (wn rfl) rfl rfl hx.sv.one hx4 (fun w5 hxz hgz => ?_)
  have hbz := hbY.trans (hx4.below_of hgz hbY.size)
  have hxN := hx.kept hgz (by omega)
  refine go ?_
  exact end_cellT Try.results111 rfl rfl hxz.cell ⟨ob, rfl, (hxN.mono (by omega)).top, hbz⟩

set_option maxHeartbeats 8000000 in
set_option maxRecDepth 100000 in
theorem like5_any (v : Value) (v2 : Value) (ms : List (List Int)) (ks : List (List Int)) (w : World) (hv : RL w v ms) (hv2 : RL w v2 ks) :
    Ret Try.prog 52 #[.agg #[v], .agg #[v2]] w fun r w' => r = .bool (decide (ms = ks)) ∧ Below w.heap.size w w' := by
  have shv := hv.sv
  have shv2 := hv2.sv
  have hb := Below.refl w.heap.size w
  refine enter2 10 Try.func52 rfl Try.ntmps52 rfl (fun fr => ?_)
  refine go ?_
  refine s_box (wn rfl) rfl rfl (agg_cells shv) (fun w1 hbx _ hp hg => ?_)
  have hb1 := below_of_grownBy hg
  have sw1 := hb1.size
  replace hv := hv.below hb1
  replace hv2 := hv2.below hb1
  replace hb := hb.trans (hb1.mono hb.size)
  clear hg hp hb1
  generalize (⟨w.heap.size, 0, none⟩ : Addr) = p at *
  refine go ?_
  refine s_box (wn rfl) rfl rfl (agg_cells shv2) (fun w2 hbx2 _ hp hg => ?_)
  have hb2 := below_of_grownBy hg
  have sw2 := hb2.size
  replace hv := hv.below hb2
  replace hv2 := hv2.below hb2
  replace hbx := cell_below hbx hb2
  replace hb := hb.trans (hb2.mono hb.size)
  clear hg hp hb2
  generalize (⟨w1.heap.size, 0, none⟩ : Addr) = p2 at *
  refine go ?_
  refine s_call2 (wn rfl) rfl rfl rfl (likeRows5_any _ _ _ _ _ hv hv2) ?_
  rintro _ w3 ⟨rfl, hb3⟩
  have sw3 := hb3.size
  replace hv := hv.below hb3
  replace hv2 := hv2.below hb3
  replace hbx := cell_below hbx hb3
  replace hbx2 := cell_below hbx2 hb3
  replace hb := hb.trans (hb3.mono hb.size)
  refine go ?_
  exact end_one Try.results52 rfl ⟨rfl, hb⟩

set_option maxHeartbeats 8000000 in
set_option maxRecDepth 100000 in
theorem least5_good (v : Value) (v2 : Value) (ms : List (List Int)) (ks : List (List Int)) (w : World) (hv : RL w v ms) (hv2 : RL w v2 ks) (hm : IsMan ms) (hk : IsMan ks) :
    Ret Try.prog 50 #[.agg #[v], .agg #[v2]] w fun r w' => r = .bool (decide (lst ms = lst ks)) ∧ Below w.heap.size w w' := by
  have shv := hv.sv
  have shv2 := hv2.sv
  have hb := Below.refl w.heap.size w
  refine enter2 30 Try.func50 rfl Try.ntmps50 rfl (fun fr => ?_)
  have k0 : decide ((0 : Int) = 0) = true := decide_eq_true rfl
  refine go ?_
  refine s_box (wn rfl) rfl rfl (agg_cells shv) (fun w1 hbx _ hp hg => ?_)
  have hb1 := below_of_grownBy hg
  have sw1 := hb1.size
  replace hv := hv.below hb1
  replace hv2 := hv2.below hb1
  replace hb := hb.trans (hb1.mono hb.size)
  clear hg hp hb1
  generalize (⟨w.heap.size, 0, none⟩ : Addr) = p at *
  refine go ?_
  refine s_box (wn rfl) rfl rfl (agg_cells shv2) (fun w2 hbx2 _ hp hg => ?_)
  have hb2 := below_of_grownBy hg
  have sw2 := hb2.size
  replace hv := hv.below hb2
  replace hv2 := hv2.below hb2
  replace hbx := cell_below hbx hb2
  replace hb := hb.trans (hb2.mono hb.size)
  clear hg hp hb2
  generalize (⟨w1.heap.size, 0, none⟩ : Addr) = p2 at *
  refine go ?_
  refine s_call1 (wn rfl) rfl rfl (LeastForm_good _ _ _ hv hm) ?_
  rintro _ w3 ⟨x, rfl, hA, hb3⟩
  have sw3 := hb3.size
  replace hv := hv.below hb3
  replace hv2 := hv2.below hb3
  replace hbx := cell_below hbx hb3
  replace hbx2 := cell_below hbx2 hb3
  replace hb := hb.trans (hb3.mono hb.size)
  refine go ?_
  refine s_alloc (B := w3.heap.size) (wn rfl) rfl (Nat.le_refl _) (fun w4 p5 hx5 hg4 hpp5 => ?_)
  have hb4 := below_of_grownBy hg4
  refine go ?_
  refine s_storeBox (wn rfl) rfl rfl hA.sv.one hx5 (fun w5 hx5b hg5 => ?_)
  have hbq5 := hb4.trans (hx5.below_of hg5 hb4.size)
  have sw5 := hbq5.size
  replace hv := hv.below hbq5
  replace hv2 := hv2.below hbq5
  replace hbx := cell_below hbx hbq5
  replace hbx2 := cell_below hbx2 hbq5
  replace hA := hA.below hbq5
  replace hb := hb.trans (hbq5.mono hb.size)
  have hc5 := hx5b.cell
  refine go ?_
  refine s_call1 (wn rfl) rfl rfl (LeastForm_good _ _ _ hv2 hk) ?_
  rintro _ w6 ⟨y, rfl, hE, hb6⟩
  have sw6 := hb6.size
  replace hv := hv.below hb6
  replace hv2 := hv2.below hb6
  replace hbx := cell_below hbx hb6
  replace hbx2 := cell_below hbx2 hb6
  replace hA := hA.below hb6
  replace hc5 := cell_below hc5 hb6
  replace hb := hb.trans (hb6.mono hb.size)
  refine go ?_
  refine s_alloc (B := w6.heap.size) (wn rfl) rfl (Nat.le_refl _) (fun w7 p7 hx7 hg7 hpp7 => ?_)
  have hb7 := below_of_grownBy hg7
  refine go ?_
  refine s_storeBox (wn rfl) rfl rfl hE.sv.one hx7 (fun w8 hx7b hg7 => ?_)
  have hbq7 := hb7.trans (hx7.below_of hg7 hb7.size)
  have sw8 := hbq7.size
  replace hv := hv.below hbq7
  replace hv2 := hv2.below hbq7
  replace hbx := cell_below hbx hbq7
  replace hbx2 := cell_below hbx2 hbq7
  replace hA := hA.below hbq7
  replace hc5 := cell_below hc5 hbq7
  replace hE := hE.below hbq7
  replace hb := hb.trans (hbq7.mono hb.size)
  have hc7 := hx7b.cell
  refine go ?_
  refine s_call2 (wy rfl rfl rfl rfl rfl known) rfl rfl rfl (like5_any _ _ _ _ _ hA.rl hE.rl) ?_
  rintro _ w9 ⟨rfl, hb9⟩
  have sw9 := hb9.size
  replace hv := hv.below hb9
  replace hv2 := hv2.below hb9
  replace hbx := cell_below hbx hb9
  replace hbx2 := cell_below hbx2 hb9
  replace hA := hA.below hb9
  replace hc5 := cell_below hc5 hb9
  replace hE := hE.below hb9
  replace hc7 := cell_below hc7 hb9
  replace hb := hb.trans (hb9.mono hb.size)
  refine go ?_
  exact end_one Try.results50 rfl ⟨rfl, hb⟩

set_option maxHeartbeats 8000000 in
set_option maxRecDepth 100000 in
theorem DrawIsomorphismOf_any (c : Value) (bs : List Int) (w : World) (hcl : CL w c bs) :
    Ret Try.prog 46 #[c] w fun r w' => ∃ x y xss yss, r = .tuple #[.agg #[x], .agg #[y]] ∧ RL w' x xss ∧ RL w' y yss ∧ Below w.heap.size w w' := by
  have sc := hcl.sv
  refine enter1 35 Try.func46 rfl Try.ntmps46 rfl (fun fr => ?_)
  refine go2 ?_
  refine s_alloc (B := w.heap.size) (wn rfl) rfl (Nat.le_refl _) (fun w0 p2 hx2 hg0 hp2 => ?_)
  have hb0 := below_of_grownBy hg0
  have z0 := hb0.size
  have hlt2 := hx2.lt
  refine go2 ?_
  refine s_alloc (B := w.heap.size) (wn rfl) rfl z0 (fun w00 p3 hx3 hg00 hp3 => ?_)
  have hb00 := below_of_grownBy hg00
  have z00 := hb00.size
  have hlt3 := hx3.lt
  replace hx2 := hx2.below hb00
  replace hb0 := hb0.trans (hb00.mono z0)
  refine go2 ?_
  refine s_call1 (wn rfl) rfl rfl (l01From_any c bs _ (hcl.below hb0)) ?_
  rintro _ v0 ⟨q, rfl, hs, hbf⟩
  have zf := hbf.size
  have hql := hs.lt
  have hq1 := hs.low
  replace hx2 := hx2.below hbf
  replace hx3 := hx3.below hbf
  obtain ⟨B, hBe⟩ : ∃ B, B = w00.heap.size := ⟨_, rfl⟩
  rw [← hBe] at hs
  have hB1 := hb0.trans (hbf.mono (by omega))
  refine go2 ?_
  refine s_call1 (wn rfl) rfl rfl (l06Even_any q B c bs _ hs) ?_
  rintro _ v1 ⟨x, xss, rfl, hm, hxl, hxr, hs', hgq⟩
  have zv1 := hgq.size
  replace hs := hs'
  replace hx2 := hx2.kept hgq (by intro e; have := Option.some.inj e; omega)
  replace hx3 := hx3.kept hgq (by intro e; have := Option.some.inj e; omega)
  have hg := hgq
  clear hgq
  refine go2 ?_
  refine s_alloc (B := v0.heap.size) (wn rfl) rfl (by first | exact Nat.le_refl _ | omega) (fun v2 p5 hx5 hga hpp5 => ?_)
  have hba := below_of_grownBy hga
  have zv2 := hba.size
  replace hs := hs.below hba
  replace hx2 := hx2.below hba
  replace hx3 := hx3.below hba
  replace hm := hm.below hba
  replace hg := gr_step hg (grownBy_of_below hba none) (fun k hk => by cases hk)
  clear hba hga
  have hltp5 := hx5.lt
  refine go2 ?_
  refine s_storeBox (wn rfl) rfl rfl hm.sv.one hx5 (fun v3 hxN hgp => ?_)
  have zv3 := hgp.size
  replace hs := hs.kept hgp (fun k hk => by cases hk; exact ⟨by have := hs.low; omega, by omega⟩)
  replace hx2 := hx2.kept hgp (by intro e; have := Option.some.inj e; omega)
  replace hx3 := hx3.kept hgp (by intro e; have := Option.some.inj e; omega)
  replace hm := hm.box hx5 (by decide) (by decide) hgp
  replace hx5 := hxN
  replace hg := gr_step hg hgp (fun k hk => by cases hk; omega)
  clear hgp
  have hlow5 := hx5.low
  have hc5 := hx5.cell
  refine go2 ?_
  refine s_call1 (wn rfl) rfl rfl (l02Is_any _ _ _ hm.rl) ?_
  rintro _ v4 ⟨rfl, hbq⟩
  have zv4 := hbq.size
  replace hs := hs.below hbq
  replace hx2 := hx2.below hbq
  replace hx3 := hx3.below hbq
  replace hm := hm.below hbq
  replace hx5 := hx5.below hbq
  replace hc5 := cell_below hc5 hbq
  replace hg := gr_step hg (grownBy_of_below hbq none) (fun k hk => by cases hk)
  clear hbq
  refine splitb (decide (IsMan xss)) (fun hdm => ?_) (fun hdm => ?_)
  rotate_left
  · refine go2 ?_
    refine region_hS (fun w' => w'.cell? p5 = some x) mixed (fun v5 cr => ?_)
    have zv5 := cr.size
    replace hs := hs.below cr
    replace hx2 := hx2.below cr
    replace hx3 := hx3.below cr
    replace hm := hm.below cr
    replace hx5 := hx5.below cr
    replace hc5 := cell_below hc5 cr
    replace hg := gr_step hg (grownBy_of_below cr none) (fun k hk => by cases hk)
    refine h_p 0 hc5 ?_ (hrun := fun w' h => yl)
    refine h_p 1 hc5 ?_ (hrun := fun w' h => yl)
    refine h_one 2 ?_
    refine s_call1 (wn rfl) rfl rfl (l06Even_any q B c bs _ hs) ?_
    rintro _ v6 ⟨y, yss, rfl, hk, _, _, hs', hgq⟩
    have zv6 := hgq.size
    replace hs := hs'
    replace hx2 := hx2.kept hgq (by intro e; have := Option.some.inj e; omega)
    replace hx3 := hx3.kept hgq (by intro e; have := Option.some.inj e; omega)
    replace hm := hm.kept hgq (by omega)
    replace hx5 := hx5.kept hgq (by intro e; have := Option.some.inj e; omega)
    replace hc5 := cell_kept hc5 hgq (by intro e; have := Option.some.inj e; omega)
    replace hg := grownBy_trans hg hgq
    clear hgq
    refine w_nil ?_
    refine h_on ⟨hc5, ?_⟩
    refine h_one 3 ?_
    have hB2 := hB1.trans (gr_below hg hB1.size (by omega))
    refine s_storeBox (wn rfl) rfl rfl hm.sv.one hx2 (fun v7 hxz hgz => ?_)
    have zz := hgz.size
    have hm2 := hm.box hx2 (by decide) (by decide) hgz
    have hk2 := hk.box hx2 (by decide) (by decide) hgz
    have hB3 := hB2.trans (hx2.below_of hgz hB2.size)
    have hx3z := hx3.kept hgz (by intro e; have := Option.some.inj e; omega)
    have hc5 := cell_kept hc5 hgz (by intro e; have := Option.some.inj e; omega)
    refine w_nil ?_
    refine h_on ⟨hc5, ?_⟩
    refine h_one 4 ?_
    refine s_storeBox (wn rfl) rfl rfl hk2.sv.one hx3z (fun v8 hx3n hgz2 => ?_)
    have hm3 := hm2.box hx3z (by decide) (by decide) hgz2
    have hk3 := hk2.box hx3z (by decide) (by decide) hgz2
    have hB4 := hB3.trans (hx3z.below_of hgz2 hB3.size)
    have hx2n := hxz.kept hgz2 (by intro e; have := Option.some.inj e; omega)
    have hc5 := cell_kept hc5 hgz2 (by intro e; have := Option.some.inj e; omega)
    refine w_nil ?_
    refine h_on ⟨hc5, ?_⟩
    refine h_nil ?_
    refine go2 ?_
    exact end_cellC Try.results46 rfl rfl hx2n.cell hx3n.cell ⟨x, y, _, _, rfl, hm3.rl, hk3.rl, hB4⟩
  have hman := of_decide_eq_true hdm
  have r1 := hman.m0.r1
  have r5 := hman.m0.r5
  have f4 := hman.m0.f400
  have f2 := hman.m0.f2
  have hy0 := hman.syst
  refine go2 ?_
  refine s_call2 (wy rfl rfl rfl rfl rfl known) rfl rfl rfl (l01Next_any q 5 B c bs _ hs (by omega)) ?_
  rintro _ v9 ⟨k, rfl, hk0, hk, hs', hgq⟩
  have zv9 := hgq.size
  replace hs := hs'
  replace hx2 := hx2.kept hgq (by intro e; have := Option.some.inj e; omega)
  replace hx3 := hx3.kept hgq (by intro e; have := Option.some.inj e; omega)
  replace hm := hm.kept hgq (by omega)
  replace hx5 := hx5.kept hgq (by intro e; have := Option.some.inj e; omega)
  replace hc5 := cell_kept hc5 hgq (by intro e; have := Option.some.inj e; omega)
  replace hg := grownBy_trans hg hgq
  clear hgq hk hk0
  refine go2 ?_
  refine cond_dec rfl (fun e0 => ?_) (fun e0 => ?_)
  · refine go2 ?_
    refine region_hS (fun w' => w'.cell? p5 = some x) mixed (fun v10 cr => ?_)
    have zv10 := cr.size
    replace hs := hs.below cr
    replace hx2 := hx2.below cr
    replace hx3 := hx3.below cr
    replace hm := hm.below cr
    replace hx5 := hx5.below cr
    replace hc5 := cell_below hc5 cr
    replace hg := gr_step hg (grownBy_of_below cr none) (fun k hk => by cases hk)
    refine h_p 0 hc5 ?_ (hrun := fun w' h => yl)
    refine h_p 1 hc5 ?_ (hrun := fun w' h => yl)
    refine h_one 2 ?_
    refine s_call1 (wn rfl) rfl rfl (l06Even_any q B c bs _ hs) ?_
    rintro _ v11 ⟨y, yss, rfl, hk, _, _, hs', hgq⟩
    have zv11 := hgq.size
    replace hs := hs'
    replace hx2 := hx2.kept hgq (by intro e; have := Option.some.inj e; omega)
    replace hx3 := hx3.kept hgq (by intro e; have := Option.some.inj e; omega)
    replace hm := hm.kept hgq (by omega)
    replace hx5 := hx5.kept hgq (by intro e; have := Option.some.inj e; omega)
    replace hc5 := cell_kept hc5 hgq (by intro e; have := Option.some.inj e; omega)
    replace hg := grownBy_trans hg hgq
    clear hgq
    refine w_nil ?_
    refine h_on ⟨hc5, ?_⟩
    refine h_one 3 ?_
    have hB2 := hB1.trans (gr_below hg hB1.size (by omega))
    refine s_storeBox (wn rfl) rfl rfl hm.sv.one hx2 (fun v12 hxz hgz => ?_)
    have zz := hgz.size
    have hm2 := hm.box hx2 (by decide) (by decide) hgz
    have hk2 := hk.box hx2 (by decide) (by decide) hgz
    have hB3 := hB2.trans (hx2.below_of hgz hB2.size)
    have hx3z := hx3.kept hgz (by intro e; have := Option.some.inj e; omega)
    have hc5 := cell_kept hc5 hgz (by intro e; have := Option.some.inj e; omega)
    refine w_nil ?_
    refine h_on ⟨hc5, ?_⟩
    refine h_one 4 ?_
    refine s_storeBox (wn rfl) rfl rfl hk2.sv.one hx3z (fun v13 hx3n hgz2 => ?_)
    have hm3 := hm2.box hx3z (by decide) (by decide) hgz2
    have hk3 := hk2.box hx3z (by decide) (by decide) hgz2
    have hB4 := hB3.trans (hx3z.below_of hgz2 hB3.size)
    have hx2n := hxz.kept hgz2 (by intro e; have := Option.some.inj e; omega)
    have hc5 := cell_kept hc5 hgz2 (by intro e; have := Option.some.inj e; omega)
    refine w_nil ?_
    refine h_on ⟨hc5, ?_⟩
    refine h_nil ?_
    refine go2 ?_
    exact end_cellC Try.results46 rfl rfl hx2n.cell hx3n.cell ⟨x, y, _, _, rfl, hm3.rl, hk3.rl, hB4⟩
  refine go2 ?_
  replace hm := (hm.mono (B' := v0.heap.size) (by omega)).top
  refine meet (fun r w' => ∃ (p6 : Addr) (y : Value) (yss : List (List Int)), p5.block < p6.block ∧ yss.length = xss.length ∧ Syst (nf xss) yss ∧ r 2 = .pointer (some p2) ∧ r 3 = .pointer (some p3) ∧ r 4 = .pointer (some ⟨q, 0, none⟩) ∧ r 5 = .pointer (some p5) ∧ r 6 = .pointer (some p6) ∧ Bx w' v0.heap.size p6 28 y ∧ Bx w' v0.heap.size p5 28 x ∧ Bx w' w.heap.size p2 28 (.slice none 0 0) ∧ Bx w' w.heap.size p3 28 (.slice none 0 0) ∧ OM w' v0.heap.size w'.heap.size 40 2 x xss ∧ OM w' v0.heap.size w'.heap.size 40 2 y yss ∧ Sr w' B q 140 c bs ∧ v0.grownBy w' (some q)) ?_ ?_
  · refine region_hS (fun w' => w'.cell? p5 = some x) mixed (fun v14 cr => ?_)
    have zv14 := cr.size
    replace hs := hs.below cr
    replace hx2 := hx2.below cr
    replace hx3 := hx3.below cr
    replace hm := hm.below cr
    replace hx5 := hx5.below cr
    replace hc5 := cell_below hc5 cr
    replace hg := gr_step hg (grownBy_of_below cr none) (fun k hk => by cases hk)
    refine h_p 0 hc5 ?_ (hrun := fun w' h => yl)
    refine h_p 1 hc5 ?_ (hrun := fun w' h => yl)
    refine h_p 2 hc5 ?_ (hrun := fun w' h => yl)
    refine h_two 3 6 ?_ ?_
    · refine s_call1 (wn rfl) rfl rfl (l02Flags_any _ _ _ hm.rl r1) ?_
      rintro _ v15 ⟨rfl, hbq⟩
      have zv15 := hbq.size
      replace hs := hs.below hbq
      replace hx2 := hx2.below hbq
      replace hx3 := hx3.below hbq
      replace hm := hm.below hbq
      replace hx5 := hx5.below hbq
      replace hc5 := cell_below hc5 hbq
      replace hg := gr_step hg (grownBy_of_below hbq none) (fun k hk => by cases hk)
      clear hbq
      refine w_nil ?_
      refine h_on ⟨hc5, ?_⟩
      refine h_two 4 6 ?_ ?_
      · refine s_call2 (wn rfl) rfl rfl rfl (l01Draw_any q B c bs (nf xss : Int) (nf xss) _ rfl (by omega) hs) ?_
        rintro pv v16 ⟨ps, hp, hpl, hpr, hs', hgq⟩
        have zv16 := hgq.size
        replace hs := hs'
        replace hx2 := hx2.kept hgq (by intro e; have := Option.some.inj e; omega)
        replace hx3 := hx3.kept hgq (by intro e; have := Option.some.inj e; omega)
        replace hm := hm.kept hgq (by omega)
        replace hx5 := hx5.kept hgq (by intro e; have := Option.some.inj e; omega)
        replace hc5 := cell_kept hc5 hgq (by intro e; have := Option.some.inj e; omega)
        replace hg := grownBy_trans hg hgq
        clear hgq
        refine w_nil ?_
        refine h_on ⟨hc5, ?_⟩
        refine h_two 5 6 ?_ ?_
        · refine s_call2 (wn rfl) rfl rfl rfl (l02RenumberS_any _ _ _ _ (nf xss) _ hm.rl hp.il hy0 r1 (by omega) (by omega) hpl (fun y h0 h2 => hpr _ (gi_mem h0 (by omega)))) ?_
          rintro _ v17 ⟨y, rfl, hd, hbq⟩
          have zv17 := hbq.size
          replace hs := hs.below hbq
          replace hx2 := hx2.below hbq
          replace hx3 := hx3.below hbq
          replace hm := hm.below hbq
          replace hx5 := hx5.below hbq
          replace hc5 := cell_below hc5 hbq
          replace hp := hp.below hbq
          replace hg := gr_step hg (grownBy_of_below hbq none) (fun k hk => by cases hk)
          clear hbq
          refine w_nil ?_
          refine h_on ⟨hc5, ?_⟩
          refine h_one 6 ?_
          refine s_alloc (B := v0.heap.size) (wn rfl) rfl (by omega) (fun v18 p6 hx6 hga hpp6 => ?_)
          have hba := below_of_grownBy hga
          have zv18 := hba.size
          replace hs := hs.below hba
          replace hx2 := hx2.below hba
          replace hx3 := hx3.below hba
          replace hm := hm.below hba
          replace hx5 := hx5.below hba
          replace hc5 := cell_below hc5 hba
          replace hp := hp.below hba
          replace hd := hd.below hba
          replace hg := gr_step hg (grownBy_of_below hba none) (fun k hk => by cases hk)
          clear hba hga
          have hlt6 := hx6.lt
          have hlow6 := hx6.low
          refine w_nil ?_
          refine h_on ⟨hc5, ?_⟩
          refine h_one 7 ?_
          refine s_storeBox (wn rfl) rfl rfl hd.sv.one hx6 (fun v19 hxN hgp => ?_)
          have zv19 := hgp.size
          replace hs := hs.kept hgp (fun k hk => by cases hk; exact ⟨by have := hs.low; omega, by omega⟩)
          replace hx2 := hx2.kept hgp (by intro e; have := Option.some.inj e; omega)
          replace hx3 := hx3.kept hgp (by intro e; have := Option.some.inj e; omega)
          replace hm := hm.box hx6 (by decide) (by decide) hgp
          replace hx5 := hx5.kept hgp (by intro e; have := Option.some.inj e; omega)
          replace hp := hp.kept hgp (.inr (hp.own.apart_box hx6 (by decide)))
          replace hd := hd.box hx6 (by decide) (by decide) hgp
          replace hx6 := hxN
          replace hg := gr_step hg hgp (fun k hk => by cases hk; omega)
          have hc5 := hx5.cell
          refine w_nil ?_
          refine h_on ⟨hc5, ?_⟩
          refine h_nil ?_
          refine go2 ?_
          exact ⟨p6, y, _, by omega, by unfold ren; rw [List.length_map], hy0.ren hpl hpr, rfl, rfl, rfl, rfl, rfl, hx6, hx5, hx2, hx3, hm.top, (hd.mono (B' := v0.heap.size) (by omega)).top, hs, hg⟩
        · refine s_alloc (B := v0.heap.size) (wn rfl) rfl (by omega) (fun v20 p6 hx6 hga hpp6 => ?_)
          have hba := below_of_grownBy hga
          have zv20 := hba.size
          replace hs := hs.below hba
          replace hx2 := hx2.below hba
          replace hx3 := hx3.below hba
          replace hm := hm.below hba
          replace hx5 := hx5.below hba
          replace hc5 := cell_below hc5 hba
          replace hp := hp.below hba
          replace hg := gr_step hg (grownBy_of_below hba none) (fun k hk => by cases hk)
          clear hba hga
          have hlt6 := hx6.lt
          have hlow6 := hx6.low
          refine w_nil ?_
          refine h_on ⟨hc5, ?_⟩
          refine h_one 5 ?_
          refine s_call2 (wn rfl) rfl rfl rfl (l02RenumberS_any _ _ _ _ (nf xss) _ hm.rl hp.il hy0 r1 (by omega) (by omega) hpl (fun y h0 h2 => hpr _ (gi_mem h0 (by omega)))) ?_
          rintro _ v21 ⟨y, rfl, hd, hbq⟩
          have zv21 := hbq.size
          replace hs := hs.below hbq
          replace hx2 := hx2.below hbq
          replace hx3 := hx3.below hbq
          replace hm := hm.below hbq
          replace hx5 := hx5.below hbq
          replace hc5 := cell_below hc5 hbq
          replace hp := hp.below hbq
          replace hx6 := hx6.below hbq
          replace hg := gr_step hg (grownBy_of_below hbq none) (fun k hk => by cases hk)
          clear hbq
          refine w_nil ?_
          refine h_on ⟨hc5, ?_⟩
          refine h_one 7 ?_
          refine s_storeBox (wn rfl) rfl rfl hd.sv.one hx6 (fun v22 hxN hgp => ?_)
          have zv22 := hgp.size
          replace hs := hs.kept hgp (fun k hk => by cases hk; exact ⟨by have := hs.low; omega, by omega⟩)
          replace hx2 := hx2.kept hgp (by intro e; have := Option.some.inj e; omega)
          replace hx3 := hx3.kept hgp (by intro e; have := Option.some.inj e; omega)
          replace hm := hm.box hx6 (by decide) (by decide) hgp
          replace hx5 := hx5.kept hgp (by intro e; have := Option.some.inj e; omega)
          replace hp := hp.kept hgp (.inr (hp.own.apart_box hx6 (by decide)))
          replace hd := hd.box hx6 (by decide) (by decide) hgp
          replace hx6 := hxN
          replace hg := gr_step hg hgp (fun k hk => by cases hk; omega)
          have hc5 := hx5.cell
          refine w_nil ?_
          refine h_on ⟨hc5, ?_⟩
          refine h_nil ?_
          refine go2 ?_
          exact ⟨p6, y, _, by omega, by unfold ren; rw [List.length_map], hy0.ren hpl hpr, rfl, rfl, rfl, rfl, rfl, hx6, hx5, hx2, hx3, hm.top, (hd.mono (B' := v0.heap.size) (by omega)).top, hs, hg⟩
      · refine s_alloc (B := v0.heap.size) (wn rfl) rfl (by omega) (fun v23 p6 hx6 hga hpp6 => ?_)
        have hba := below_of_grownBy hga
        have zv23 := hba.size
        replace hs := hs.below hba
        replace hx2 := hx2.below hba
        replace hx3 := hx3.below hba
        replace hm := hm.below hba
        replace hx5 := hx5.below hba
        replace hc5 := cell_below hc5 hba
        replace hg := gr_step hg (grownBy_of_below hba none) (fun k hk => by cases hk)
        clear hba hga
        have hlt6 := hx6.lt
        have hlow6 := hx6.low
        refine w_nil ?_
        refine h_on ⟨hc5, ?_⟩
        refine h_one 4 ?_
        refine s_call2 (wn rfl) rfl rfl rfl (l01Draw_any q B c bs (nf xss : Int) (nf xss) _ rfl (by omega) hs) ?_
        rintro pv v24 ⟨ps, hp, hpl, hpr, hs', hgq⟩
        have zv24 := hgq.size
        replace hs := hs'
        replace hx2 := hx2.kept hgq (by intro e; have := Option.some.inj e; omega)
        replace hx3 := hx3.kept hgq (by intro e; have := Option.some.inj e; omega)
        replace hm := hm.kept hgq (by omega)
        replace hx5 := hx5.kept hgq (by intro e; have := Option.some.inj e; omega)
        replace hc5 := cell_kept hc5 hgq (by intro e; have := Option.some.inj e; omega)
        replace hx6 := hx6.kept hgq (by intro e; have := Option.some.inj e; omega)
        replace hg := grownBy_trans hg hgq
        clear hgq
        refine w_nil ?_
        refine h_on ⟨hc5, ?_⟩
        refine h_one 5 ?_
        refine s_call2 (wn rfl) rfl rfl rfl (l02RenumberS_any _ _ _ _ (nf xss) _ hm.rl hp.il hy0 r1 (by omega) (by omega) hpl (fun y h0 h2 => hpr _ (gi_mem h0 (by omega)))) ?_
        rintro _ v25 ⟨y, rfl, hd, hbq⟩
        have zv25 := hbq.size
        replace hs := hs.below hbq
        replace hx2 := hx2.below hbq
        replace hx3 := hx3.below hbq
        replace hm := hm.below hbq
        replace hx5 := hx5.below hbq
        replace hc5 := cell_below hc5 hbq
        replace hx6 := hx6.below hbq
        replace hp := hp.below hbq
        replace hg := gr_step hg (grownBy_of_below hbq none) (fun k hk => by cases hk)
        clear hbq
        refine w_nil ?_
        refine h_on ⟨hc5, ?_⟩
        refine h_one 7 ?_
        refine s_storeBox (wn rfl) rfl rfl hd.sv.one hx6 (fun v26 hxN hgp => ?_)
        have zv26 := hgp.size
        replace hs := hs.kept hgp (fun k hk => by cases hk; exact ⟨by have := hs.low; omega, by omega⟩)
        replace hx2 := hx2.kept hgp (by intro e; have := Option.some.inj e; omega)
        replace hx3 := hx3.kept hgp (by intro e; have := Option.some.inj e; omega)
        replace hm := hm.box hx6 (by decide) (by decide) hgp
        replace hx5 := hx5.kept hgp (by intro e; have := Option.some.inj e; omega)
        replace hp := hp.kept hgp (.inr (hp.own.apart_box hx6 (by decide)))
        replace hd := hd.box hx6 (by decide) (by decide) hgp
        replace hx6 := hxN
        replace hg := gr_step hg hgp (fun k hk => by cases hk; omega)
        have hc5 := hx5.cell
        refine w_nil ?_
        refine h_on ⟨hc5, ?_⟩
        refine h_nil ?_
        refine go2 ?_
        exact ⟨p6, y, _, by omega, by unfold ren; rw [List.length_map], hy0.ren hpl hpr, rfl, rfl, rfl, rfl, rfl, hx6, hx5, hx2, hx3, hm.top, (hd.mono (B' := v0.heap.size) (by omega)).top, hs, hg⟩
    · refine s_alloc (B := v0.heap.size) (wn rfl) rfl (by omega) (fun v27 p6 hx6 hga hpp6 => ?_)
      have hba := below_of_grownBy hga
      have zv27 := hba.size
      replace hs := hs.below hba
      replace hx2 := hx2.below hba
      replace hx3 := hx3.below hba
      replace hm := hm.below hba
      replace hx5 := hx5.below hba
      replace hc5 := cell_below hc5 hba
      replace hg := gr_step hg (grownBy_of_below hba none) (fun k hk => by cases hk)
      clear hba hga
      have hlt6 := hx6.lt
      have hlow6 := hx6.low
      refine w_nil ?_
      refine h_on ⟨hc5, ?_⟩
      refine h_one 3 ?_
      refine s_call1 (wn rfl) rfl rfl (l02Flags_any _ _ _ hm.rl r1) ?_
      rintro _ v28 ⟨rfl, hbq⟩
      have zv28 := hbq.size
      replace hs := hs.below hbq
      replace hx2 := hx2.below hbq
      replace hx3 := hx3.below hbq
      replace hm := hm.below hbq
      replace hx5 := hx5.below hbq
      replace hc5 := cell_below hc5 hbq
      replace hx6 := hx6.below hbq
      replace hg := gr_step hg (grownBy_of_below hbq none) (fun k hk => by cases hk)
      clear hbq
      refine w_nil ?_
      refine h_on ⟨hc5, ?_⟩
      refine h_one 4 ?_
      refine s_call2 (wn rfl) rfl rfl rfl (l01Draw_any q B c bs (nf xss : Int) (nf xss) _ rfl (by omega) hs) ?_
      rintro pv v29 ⟨ps, hp, hpl, hpr, hs', hgq⟩
      have zv29 := hgq.size
      replace hs := hs'
      replace hx2 := hx2.kept hgq (by intro e; have := Option.some.inj e; omega)
      replace hx3 := hx3.kept hgq (by intro e; have := Option.some.inj e; omega)
      replace hm := hm.kept hgq (by omega)
      replace hx5 := hx5.kept hgq (by intro e; have := Option.some.inj e; omega)
      replace hc5 := cell_kept hc5 hgq (by intro e; have := Option.some.inj e; omega)
      replace hx6 := hx6.kept hgq (by intro e; have := Option.some.inj e; omega)
      replace hg := grownBy_trans hg hgq
      clear hgq
      refine w_nil ?_
      refine h_on ⟨hc5, ?_⟩
      refine h_one 5 ?_
      refine s_call2 (wn rfl) rfl rfl rfl (l02RenumberS_any _ _ _ _ (nf xss) _ hm.rl hp.il hy0 r1 (by omega) (by omega) hpl (fun y h0 h2 => hpr _ (gi_mem h0 (by omega)))) ?_
      rintro _ v30 ⟨y, rfl, hd, hbq⟩
      have zv30 := hbq.size
      replace hs := hs.below hbq
      replace hx2 := hx2.below hbq
      replace hx3 := hx3.below hbq
      replace hm := hm.below hbq
      replace hx5 := hx5.below hbq
      replace hc5 := cell_below hc5 hbq
      replace hx6 := hx6.below hbq
      replace hp := hp.below hbq
      replace hg := gr_step hg (grownBy_of_below hbq none) (fun k hk => by cases hk)
      clear hbq
      refine w_nil ?_
      refine h_on ⟨hc5, ?_⟩
      refine h_one 7 ?_
      refine s_storeBox (wn rfl) rfl rfl hd.sv.one hx6 (fun v31 hxN hgp => ?_)
      have zv31 := hgp.size
      replace hs := hs.kept hgp (fun k hk => by cases hk; exact ⟨by have := hs.low; omega, by omega⟩)
      replace hx2 := hx2.kept hgp (by intro e; have := Option.some.inj e; omega)
      replace hx3 := hx3.kept hgp (by intro e; have := Option.some.inj e; omega)
      replace hm := hm.box hx6 (by decide) (by decide) hgp
      replace hx5 := hx5.kept hgp (by intro e; have := Option.some.inj e; omega)
      replace hp := hp.kept hgp (.inr (hp.own.apart_box hx6 (by decide)))
      replace hd := hd.box hx6 (by decide) (by decide) hgp
      replace hx6 := hxN
      replace hg := gr_step hg hgp (fun k hk => by cases hk; omega)
      have hc5 := hx5.cell
      refine w_nil ?_
      refine h_on ⟨hc5, ?_⟩
      refine h_nil ?_
      refine go2 ?_
      exact ⟨p6, y, _, by omega, by unfold ren; rw [List.length_map], hy0.ren hpl hpr, rfl, rfl, rfl, rfl, rfl, hx6, hx5, hx2, hx3, hm.top, (hd.mono (B' := v0.heap.size) (by omega)).top, hs, hg⟩
  clear hs hg hx2 hx3 hx5 hc5 hm
  rintro r v32 ⟨p6, y, yss, h56, hyl, hys, r2, r3, r4, r5', r6, hx6, hx5, hx2, hx3, hm, hk, hs, hg⟩
  have zv32 := hg.size
  have hc5 := hx5.cell
  have hc6 := hx6.cell
  have hlt5 := hx5.lt
  have hlt6 := hx6.lt
  have hlow6 := hx6.low
  refine know (t := 2) r2 ?_; refine know (t := 3) r3 ?_; refine know (t := 4) r4 ?_; refine know (t := 5) r5' ?_; refine know (t := 6) r6 ?_
  refine w_seq ?_
  refine meet (fun r w' => ∃ (y : Value) (yss : List (List Int)), r 2 = .pointer (some p2) ∧ r 3 = .pointer (some p3) ∧ r 4 = .pointer (some ⟨q, 0, none⟩) ∧ r 5 = .pointer (some p5) ∧ r 6 = .pointer (some p6) ∧ Bx w' v0.heap.size p6 28 y ∧ Bx w' v0.heap.size p5 28 x ∧ Bx w' w.heap.size p2 28 (.slice none 0 0) ∧ Bx w' w.heap.size p3 28 (.slice none 0 0) ∧ OM w' v0.heap.size w'.heap.size 40 2 x xss ∧ OM w' v0.heap.size w'.heap.size 40 2 y yss ∧ Sr w' B q 140 c bs ∧ v0.grownBy w' (some q)) ?_ ?_
  · refine go2 ?_
    refine s_call2 (wn rfl) rfl rfl rfl (l01Next_any q 4 B c bs _ hs (by omega)) ?_
    rintro _ v33 ⟨k4, rfl, hk40, hk4, hs', hgq⟩
    have zv33 := hgq.size
    replace hs := hs'
    replace hx6 := hx6.kept hgq (by intro e; have := Option.some.inj e; omega)
    replace hx5 := hx5.kept hgq (by intro e; have := Option.some.inj e; omega)
    replace hx2 := hx2.kept hgq (by intro e; have := Option.some.inj e; omega)
    replace hx3 := hx3.kept hgq (by intro e; have := Option.some.inj e; omega)
    replace hm := hm.kept hgq (by omega)
    replace hk := hk.kept hgq (by omega)
    replace hc6 := cell_kept hc6 hgq (by intro e; have := Option.some.inj e; omega)
    replace hg := grownBy_trans hg hgq
    clear hgq
    refine go2 ?_
    refine cond_dec rfl (fun e1 => ?_) (fun e1 => ?_)
    · obtain ⟨hpm, hpn⟩ := PM.of hys (by omega) (by omega) (by omega) (by omega)
      refine go2 ?_
      refine s_call1 (wn rfl) rfl rfl (l05DualS_any _ _ _ hk.rl hpm) ?_
      rintro _ v34 ⟨y2, rfl, hd, hbq⟩
      have zv34 := hbq.size
      replace hs := hs.below hbq
      replace hx6 := hx6.below hbq
      replace hx5 := hx5.below hbq
      replace hx2 := hx2.below hbq
      replace hx3 := hx3.below hbq
      replace hm := hm.below hbq
      replace hk := hk.below hbq
      replace hc6 := cell_below hc6 hbq
      replace hg := gr_step hg (grownBy_of_below hbq none) (fun k hk => by cases hk)
      clear hbq
      replace hd := (hd.mono (B' := v0.heap.size) (by omega)).top
      refine go2 ?_
      refine s_storeBox (wn rfl) rfl rfl hd.sv.one hx6 (fun v35 hxN hgp => ?_)
      have zv35 := hgp.size
      replace hs := hs.kept hgp (fun k hk => by cases hk; exact ⟨by have := hs.low; omega, by omega⟩)
      replace hx5 := hx5.kept hgp (by intro e; have := Option.some.inj e; omega)
      replace hx2 := hx2.kept hgp (by intro e; have := Option.some.inj e; omega)
      replace hx3 := hx3.kept hgp (by intro e; have := Option.some.inj e; omega)
      replace hm := hm.box hx6 (by decide) (by decide) hgp
      replace hk := hk.box hx6 (by decide) (by decide) hgp
      replace hd := hd.box hx6 (by decide) (by decide) hgp
      replace hx6 := hxN
      replace hg := gr_step hg hgp (fun k hk => by cases hk; omega)
      clear hgp
      refine go2 ?_
      exact ⟨y2, _, rfl, rfl, rfl, rfl, rfl, hx6, hx5, hx2, hx3, hm.top, hd.top, hs, hg⟩
    refine go2 ?_
    exact ⟨y, yss, rfl, rfl, rfl, rfl, rfl, hx6, hx5, hx2, hx3, hm.top, hk.top, hs, hg⟩
  clear hs hg hx2 hx3 hx5 hx6 hc5 hc6 hm hk hys hyl
  rintro r v36 ⟨y, yss, r2, r3, r4, r5', r6, hx6, hx5, hx2, hx3, hm, hk, hs, hg⟩
  have zv36 := hg.size
  have hc5 := hx5.cell
  have hc6 := hx6.cell
  have hlt5 := hx5.lt
  have hlt6 := hx6.lt
  have hlow6 := hx6.low
  refine know (t := 2) r2 ?_; refine know (t := 3) r3 ?_; refine know (t := 4) r4 ?_; refine know (t := 5) r5' ?_; refine know (t := 6) r6 ?_
  refine go2 ?_
  refine region_hS (fun w' => w'.cell? p5 = some x ∧ w'.cell? p6 = some y) mixed (fun v37 cr => ?_)
  have zv37 := cr.size
  replace hs := hs.below cr
  replace hx6 := hx6.below cr
  replace hx5 := hx5.below cr
  replace hx2 := hx2.below cr
  replace hx3 := hx3.below cr
  replace hm := hm.below cr
  replace hk := hk.below cr
  replace hc5 := cell_below hc5 cr
  replace hc6 := cell_below hc6 cr
  replace hg := gr_step hg (grownBy_of_below cr none) (fun k hk => by cases hk)
  refine h_p 0 ⟨hc5, hc6⟩ ?_ (hrun := fun w' h => by obtain ⟨h1, h2⟩ := h; exact yl)
  refine h_p 1 ⟨hc5, hc6⟩ ?_ (hrun := fun w' h => by obtain ⟨h1, h2⟩ := h; exact yl)
  refine h_one 2 ?_
  have hB2 := hB1.trans (gr_below hg hB1.size (by omega))
  refine s_storeBox (wn rfl) rfl rfl hm.sv.one hx2 (fun v38 hxz hgz => ?_)
  have zz := hgz.size
  have hm2 := hm.box hx2 (by decide) (by decide) hgz
  have hk2 := hk.box hx2 (by decide) (by decide) hgz
  have hB3 := hB2.trans (hx2.below_of hgz hB2.size)
  have hx3z := hx3.kept hgz (by intro e; have := Option.some.inj e; omega)
  have hc5 := cell_kept hc5 hgz (by intro e; have := Option.some.inj e; omega)
  have hc6 := cell_kept hc6 hgz (by intro e; have := Option.some.inj e; omega)
  refine w_nil ?_
  refine h_on ⟨⟨hc5, hc6⟩, ?_⟩
  refine h_one 3 ?_
  refine s_storeBox (wn rfl) rfl rfl hk2.sv.one hx3z (fun v39 hx3n hgz2 => ?_)
  have hm3 := hm2.box hx3z (by decide) (by decide) hgz2
  have hk3 := hk2.box hx3z (by decide) (by decide) hgz2
  have hB4 := hB3.trans (hx3z.below_of hgz2 hB3.size)
  have hx2n := hxz.kept hgz2 (by intro e; have := Option.some.inj e; omega)
  have hc5 := cell_kept hc5 hgz2 (by intro e; have := Option.some.inj e; omega)
  have hc6 := cell_kept hc6 hgz2 (by intro e; have := Option.some.inj e; omega)
  refine w_nil ?_
  refine h_on ⟨⟨hc5, hc6⟩, ?_⟩
  refine h_nil ?_
  refine go2 ?_
  exact end_cellC Try.results46 rfl rfl hx2n.cell hx3n.cell ⟨x, y, _, _, rfl, hm3.rl, hk3.rl, hB4⟩

end Go.Proofs.Ytlodnhflfijomaa
