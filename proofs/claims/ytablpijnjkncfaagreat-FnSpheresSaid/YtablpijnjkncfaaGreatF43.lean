/- Contracts: renumbering, forms and least forms, on both sides. -/
import Derived.Test.YtablpijnjkncfaaGreatF36
import Derived.Test.YtablpijnjkncfaaGreatF42
import Derived.Test.YtablpijnjkncfaaGreatPD
import Derived.Test.YtablpijnjkncfaaGreatRp
namespace Go.Mem
open Go.RowKit
set_option linter.unusedVariables false
/-- owned rows whose blocks lie from b on, apart from the block blk -/
structure OMA (w : World) (b blk : Nat) (T U : TypeId) (v : Value) (xss : List (List Int)) : Prop where
  out : ∃ B1 E1, OM w B1 E1 T U v xss ∧ (∀ g, v.ownBlock = some g → g < E1) ∧ b ≤ B1 ∧ E1 ≤ w.heap.size ∧ (blk < B1 ∨ E1 ≤ blk)
section
variable {w w2 w3 : World} {b blk B : Nat} {T U : TypeId} {v : Value} {xss : List (List Int)}
theorem OMA.below (h : OMA w b blk T U v xss) (hb : Below w.heap.size w w2) : OMA w2 b blk T U v xss := by
  obtain ⟨B1, E1, h1, h2, h3, h4, h5⟩ := h.out
  exact ⟨B1, E1, h1.below hb, h2, h3, Nat.le_trans h4 hb.size, h5⟩
theorem OMA.rl (h : OMA w b blk T U v xss) : RL w v xss := by
  obtain ⟨B1, E1, h1, _⟩ := h.out
  exact h1.rl
theorem OMA.sv (h : OMA w b blk T U v xss) : SV v xss.length := h.rl.sv
theorem OMA.om (h : OMA w b blk T U v xss) : OM w b w.heap.size T U v xss := by
  obtain ⟨B1, E1, h1, h2, h3, h4, h5⟩ := h.out
  exact (h1.mono h3).top
theorem OMA.kept (h : OMA w b blk T U v xss) (hg : w.grownBy w2 (some blk)) : OMA w2 b blk T U v xss := by
  obtain ⟨B1, E1, h1, h2, h3, h4, h5⟩ := h.out
  exact ⟨B1, E1, h1.apart2 h2 hg (fun g e => by have := Option.some.inj e; omega), h2, h3, Nat.le_trans h4 hg.size, h5⟩
/-- a block that has come later is written -/
theorem OMA.later {k : Nat} (h : OMA w b blk T U v xss) (hb : Below w.heap.size w w2) (hg : w2.grownBy w3 (some k)) (hk : w.heap.size ≤ k) : OMA w3 b blk T U v xss := by
  obtain ⟨B1, E1, h1, h2, h3, h4, h5⟩ := h.out
  exact ⟨B1, E1, (h1.below hb).apart2 h2 hg (fun g e => by have := Option.some.inj e; omega), h2, h3, Nat.le_trans h4 (Nat.le_trans hb.size hg.size), h5⟩
theorem OM.oma (h : OM w B w.heap.size T U v xss) (hb : b ≤ B) (hk : blk < B ∨ w.heap.size ≤ blk) : OMA w b blk T U v xss :=
  ⟨B, w.heap.size, h, fun g hg => (h.ownlt g hg).2, hb, Nat.le_refl _, hk⟩
theorem OMA.elsewhere {k : Nat} (h : OMA w b blk T U v xss) (hg : w.grownBy w2 (some k)) (hk : k < b) : OMA w2 b blk T U v xss := by
  obtain ⟨B1, E1, h1, h2, h3, h4, h5⟩ := h.out
  exact ⟨B1, E1, h1.apart2 h2 hg (fun g e => by have := Option.some.inj e; omega), h2, h3, Nat.le_trans h4 hg.size, h5⟩
end
end Go.Mem
namespace Go.Proofs.YtablpijnjkncfaaGreat
open Go.Mem Go.RowKit
set_option linter.unusedVariables false
set_option linter.unusedSimpArgs false
set_option maxHeartbeats 8000000 in
set_option maxRecDepth 100000 in
theorem l02Renumber_any (v : Value) (v2 : Value) (ms : List (List Int)) (ps : List Int) (w : World) (hv : RL w v ms) (hv2 : IL w v2 ps) (hm : IsMan ms) (hpl : ps.length = nf ms) (hpr : ∀ x : Int, 0 ≤ x → x < nf ms → 0 ≤ gi ps x ∧ gi ps x < nf ms) :
    Ret Tryz.prog 72 #[.agg #[v], v2] w fun r w' => ∃ x, r = .agg #[x] ∧ OM w' w.heap.size w'.heap.size 32 2 x (ren ms ps) ∧ Below w.heap.size w w' := by
  have shv := hv.sv
  have shv2 := hv2.sv
  have hb := Below.refl w.heap.size w
  refine enter2 50 Tryz.func72 rfl Tryz.ntmps72 rfl (fun fr => ?_)
  have r5 := hm.m0.r5
  have r1 := hm.m0.r1
  have f4 := hm.m0.f400
  unfold ren
  refine go ?_
  refine s_box (wn rfl) rfl rfl (agg_cells shv) (fun w1 hbx _ hp hg => ?_)
  have hb1 := below_of_grownBy hg
  have sw1 := hb1.size
  replace hv := hv.below hb1
  replace hv2 := hv2.below hb1
  replace hb := hb.trans (hb1.mono hb.size)
  clear hg hp hb1
  generalize (⟨w.heap.size, 0, none⟩ : Addr) = p at *
  have sz0 := hb.size
  refine go ?_
  refine s_alloc (B := w.heap.size) (wn rfl) rfl (by first | exact Nat.le_refl _ | omega) (fun w2 p4 hx4 hg2 hpp4 => ?_)
  have hb2 := below_of_grownBy hg2
  have sw2 := hb2.size
  replace hv := hv.below hb2
  replace hv2 := hv2.below hb2
  replace hbx := cell_below hbx hb2
  replace hb := hb.trans (hb2.mono hb.size)
  have hlt_hx4 := hx4.lt
  have sz1 := hb.size
  have sbs1 := hb.size
  have hv_b1 := hv
  have hv2_b1 := hv2
  have hbx_b1 := hbx
  have hx4_b1 := hx4
  have hbB1 := Below.refl w2.heap.size w2
  refine go ?_
  refine s_p (wn rfl) rfl y_bld0 ?_
  refine go ?_
  refine s_alloc (B := w2.heap.size) (wn rfl) rfl (by first | exact Nat.le_refl _ | omega) (fun w3 p5 hx5 hg3 hpp5 => ?_)
  have hb3 := below_of_grownBy hg3
  have sw3 := hb3.size
  replace hv := hv.below hb3
  replace hv2 := hv2.below hb3
  replace hbx := cell_below hbx hb3
  replace hx4 := hx4.below hb3
  replace hbB1 := hbB1.trans (hb3.mono hbB1.size)
  have hlt_hx5 := hx5.lt
  refine go ?_
  refine s_storeBox (wn rfl) rfl rfl rfl hx5 (fun w4 hxN hgN => ?_)
  replace hbB1 := hbB1.trans (hx5.below_of hgN hbB1.size)
  have sw4 := hgN.size
  replace hx5 := hxN
  replace hv := hv_b1.below hbB1
  replace hv2 := hv2_b1.below hbB1
  replace hbx := cell_below hbx_b1 hbB1
  replace hx4 := hx4_b1.below hbB1
  refine go ?_
  refine w_loop (fun kk fr w' => ∃ (i : Nat) (ob : Value), kk = ms.length - i ∧ i ≤ ms.length ∧ fr 1 = v2 ∧ fr 2 = .pointer (some p) ∧ fr 4 = .pointer (some p4) ∧ fr 5 = .pointer (some p5) ∧ fr 6 = .int .i64 i ∧ (Bx w' w2.heap.size p5 26 ob) ∧ (OM w' w4.heap.size w'.heap.size 32 2 ob ((ms.take i).map (fun m => laidTo ps.length ps (fun f : Nat => gi ps (gi m f)) ps.length))) ∧ (w4.heap.size ≤ w'.heap.size) ∧ Below w2.heap.size w2 w') (ms.length)
    ⟨0, _, rfl, Nat.zero_le _, rfl, rfl, rfl, rfl, rfl, hx5, OM.nil _ _ _ _ _, Nat.le_refl _, hbB1⟩ ?_
  rintro kk fr w5 ⟨i, ob, rfl, hi, f1, f2, f4, f5, f6, hx5, ho, hge5, hbB1⟩
  have sw5 := hbB1.size
  have hv := hv_b1.below hbB1
  have hv2 := hv2_b1.below hbB1
  have hbx := cell_below hbx_b1 hbB1
  have hx4 := hx4_b1.below hbB1
  have sho := ho.sv
  refine know (t := 1) f1 ?_; refine know (t := 2) f2 ?_; refine know (t := 4) f4 ?_; refine know (t := 5) f5 ?_; refine know (t := 6) f6 ?_
  refine go ?_
  refine cond_dec rfl (fun hlt => ?_) (fun hge => ?_)
  · have hrow := (hm.syst.row (j := (i : Int)) (by omega) (by omega)).1
    have sbs2 := hbB1.size
    have hv_b2 := hv
    have hv2_b2 := hv2
    have hbx_b2 := hbx
    have hx4_b2 := hx4
    have ho_b2 := ho
    have hx5_b2 := hx5
    have hbB2 := Below.refl w5.heap.size w5
    obtain ⟨u, hu_b2, hcu_b2⟩ := hv_b2.row (j := (i : Int)) (by omega) hlt
    have su := hu_b2.sv
    rw [hrow] at su
    have hu := hu_b2.below hbB2
    have hcu := cell_below hcu_b2 hbB2
    refine go ?_
    have szq6 := hbB2.size
    refine s_makeI (B := w5.heap.size) (wn rfl) rfl rfl rfl (by omega) (by omega) szq6 (fun rb w6 hr sohr hg6 _ => ?_)
    have hb6 := below_of_grownBy hg6
    have sw6 := hb6.size
    replace hv := hv.below hb6
    replace hv2 := hv2.below hb6
    replace hbx := cell_below hbx hb6
    replace hx4 := hx4.below hb6
    replace ho := ho.below hb6
    replace hx5 := hx5.below hb6
    replace hu := hu.below hb6
    replace hcu := cell_below hcu hb6
    replace hbB2 := hbB2.trans (hb6.mono hbB2.size)
    have el : ((ps.length : Int)).toNat = ps.length := by omega
    rw [el] at hr
    refine go ?_
    refine w_loop (fun kk fr w' => ∃ (q : Nat), kk = ps.length - q ∧ q ≤ ps.length ∧ fr 1 = v2 ∧ fr 2 = .pointer (some p) ∧ fr 4 = .pointer (some p4) ∧ fr 5 = .pointer (some p5) ∧ fr 6 = .int .i64 i ∧ fr 7 = rb ∧ fr 8 = .int .i64 q ∧ (OI w' w5.heap.size 2 rb (laidTo ps.length ps (fun f : Nat => gi ps (gi (gr ms i) f)) q)) ∧ Below w5.heap.size w5 w') (ps.length)
      ⟨0, rfl, Nat.zero_le _, rfl, rfl, rfl, rfl, rfl, rfl, rfl, hr, hbB2⟩ ?_
    rintro kk fr w7 ⟨q, rfl, hq, f1, f2, f4, f5, f6, f7, f8, hr, hbB2⟩
    have sw7 := hbB2.size
    have hv := hv_b2.below hbB2
    have hv2 := hv2_b2.below hbB2
    have hbx := cell_below hbx_b2 hbB2
    have hx4 := hx4_b2.below hbB2
    have ho := ho_b2.below hbB2
    have hx5 := hx5_b2.below hbB2
    have hu := hu_b2.below hbB2
    have hcu := cell_below hcu_b2 hbB2
    have shr := hr.sv
    refine know (t := 1) f1 ?_; refine know (t := 2) f2 ?_; refine know (t := 4) f4 ?_; refine know (t := 5) f5 ?_; refine know (t := 6) f6 ?_; refine know (t := 7) f7 ?_; refine know (t := 8) f8 ?_
    refine go ?_
    refine cond_dec rfl (fun hlt2 => ?_) (fun hge2 => ?_)
    · have hyy := hm.syst.at (j := (i : Int)) (x := (q : Int)) (by omega) (by omega) (by omega)
      have hq1 := hpr q (by omega) (by omega)
      have hq2 := hpr _ hyy.1 hyy.2
      have hll2 := length_laidTo ps.length ps (fun f : Nat => gi ps (gi (gr ms i) f)) q
      refine go ?_
      refine region_hS (fun w' => Below w5.heap.size w5 w') mixed (fun w8 hb8 => ?_)
      have sw8 := hb8.size
      replace hv := hv.below hb8
      replace hv2 := hv2.below hb8
      replace hbx := cell_below hbx hb8
      replace hx4 := hx4.below hb8
      replace ho := ho.below hb8
      replace hx5 := hx5.below hb8
      replace hu := hu.below hb8
      replace hcu := cell_below hcu hb8
      replace hr := hr.below hb8
      replace hbB2 := hbB2.trans (hb8.mono hbB2.size)
      refine h_p 0 hbB2 ?_
      refine h_p 1 hbB2 ?_
      refine h_p 2 hbB2 ?_
      refine h_p 3 hbB2 ?_
      refine h_p 4 hbB2 ?_
      refine h_p 5 hbB2 ?_
      refine h_p 6 hbB2 ?_
      refine h_p 7 hbB2 ?_
      refine h_p 8 hbB2 ?_
      refine h_p 9 hbB2 ?_
      refine h_p 10 hbB2 ?_
      refine h_p 11 hbB2 ?_
      refine h_p 12 hbB2 ?_
      refine h_p 13 hbB2 ?_
      refine h_p 14 hbB2 ?_
      refine h_p 15 hbB2 ?_
      refine h_p 16 hbB2 ?_
      refine h_one 17 ?_
      have szq9 := hbB2.size
      refine s_storeI (wn rfl) rfl rfl hr (by omega) (by omega) (fun w9 hoN hgN => ?_)
      replace hbB2 := hbB2.trans (hr.below_of hgN szq9)
      have sw9 := hgN.size
      replace hr := hoN
      clear hoN
      replace hv := hv_b2.below hbB2
      replace hv2 := hv2_b2.below hbB2
      replace hbx := cell_below hbx_b2 hbB2
      replace hx4 := hx4_b2.below hbB2
      replace ho := ho_b2.below hbB2
      replace hx5 := hx5_b2.below hbB2
      replace hu := hu_b2.below hbB2
      replace hcu := cell_below hcu_b2 hbB2
      refine w_nil ?_
      refine h_on ⟨hbB2, ?_⟩
      refine h_nil ?_
      refine go ?_
      refine ⟨ps.length - (q + 1), by omega, q + 1, rfl, by omega, rfl, rfl, rfl, rfl, rfl, rfl, rfl, hr, hbB2⟩
    obtain rfl : q = ps.length := by omega
    replace hbB1 := hbB1.trans (hbB2.mono hbB1.size)
    have hc_hx5 := hx5.cell
    refine go ?_
    have szq10 := hbB1.size
    refine s_build1V (B := w2.heap.size) (wn rfl) rfl rfl hr.sv.one szq10 (fun tb w10 ht st hg10 _ => ?_)
    have hb10 := below_of_grownBy hg10
    have sw10 := hb10.size
    replace hv := hv.below hb10
    replace hv2 := hv2.below hb10
    replace hbx := cell_below hbx hb10
    replace hx4 := hx4.below hb10
    replace ho := ho.below hb10
    replace hx5 := hx5.below hb10
    replace hu := hu.below hb10
    replace hcu := cell_below hcu hb10
    replace hr := hr.below hb10
    replace hc_hx5 := cell_below hc_hx5 hb10
    replace hbB1 := hbB1.trans (hb10.mono hbB1.size)
    have szq11 := hbB1.size
    refine s_appendM (wn rfl) rfl rfl rfl ho ht.rd hr (by omega) (by decide) (by simp; omega) (by omega) (fun ob' w11 hoN so hgN => ?_)
    have sw11 := hgN.size
    replace hbB1 := hbB1.trans ((ho.below_of hgN (by omega)).mono (by omega))
    replace hx5 := hx5.kept hgN (by intro e; have := (ho.ownlt _ e).1; omega)
    replace ho := hoN
    clear hoN
    replace hv := hv_b1.below hbB1
    replace hv2 := hv2_b1.below hbB1
    replace hbx := cell_below hbx_b1 hbB1
    replace hx4 := hx4_b1.below hbB1
    refine go ?_
    refine s_storeFld (wn rfl) rfl rfl so.one hx5 (fun w12 hxN hgN => ?_)
    have sw12 := hgN.size
    replace hbB1 := hbB1.trans (hx5.below_of hgN (by omega))
    replace ho := (ho.kept hgN (by omega)).top
    replace hx5 := hxN
    clear hxN
    replace hv := hv_b1.below hbB1
    replace hv2 := hv2_b1.below hbB1
    replace hbx := cell_below hbx_b1 hbB1
    replace hx4 := hx4_b1.below hbB1
    refine go ?_
    refine ⟨ms.length - (i + 1), by omega, i + 1, ob', rfl, by omega, rfl, rfl, rfl, rfl, rfl, hx5, by rw [frm_take (by omega)]; exact ho, by omega, hbB1⟩
  obtain rfl : i = ms.length := by omega
  rw [List.take_length] at ho
  have hcx := hx5.cell
  have hx := ho
  refine go ?_
  have hbY := (hb.trans (hbB1.mono hb.size))
  refine go ?_
  refine s_storeBox (wn rfl) rfl rfl hx.sv.one hx4 (fun w13 hxz hgz => ?_)
  have hbz := hbY.trans (hx4.below_of hgz hbY.size)
  have hxN := hx.kept hgz (by omega)
  refine go ?_
  exact end_cell Tryz.results72 rfl hxz.cell ⟨ob, rfl, (hxN.mono (by omega)).top, hbz⟩

set_option maxHeartbeats 8000000 in
set_option maxRecDepth 100000 in
theorem leastForm_any (v : Value) (ms : List (List Int)) (w : World) (hv : RL w v ms) (hm : IsMan ms) :
    Ret Tryz.prog 57 #[.agg #[v]] w fun r w' => ∃ x, r = .agg #[x] ∧ OM w' w.heap.size w'.heap.size 32 2 x (lst ms) ∧ Below w.heap.size w w' := by
  have shv := hv.sv
  have hb := Below.refl w.heap.size w
  refine enter1 24 Tryz.func57 rfl Tryz.ntmps57 rfl (fun fr => ?_)
  have r5 := hm.m0.r5
  have r1 := hm.m0.r1
  have f4 := hm.m0.f400
  have f2 := hm.m0.f2
  refine go ?_
  refine s_box (wn rfl) rfl rfl (agg_cells shv) (fun w1 hbx _ hp hg => ?_)
  have hb1 := below_of_grownBy hg
  have sw1 := hb1.size
  replace hv := hv.below hb1
  replace hb := hb.trans (hb1.mono hb.size)
  clear hg hp hb1
  generalize (⟨w.heap.size, 0, none⟩ : Addr) = p at *
  have sz0 := hb.size
  refine go ?_
  refine s_alloc (B := w.heap.size) (wn rfl) rfl (by first | exact Nat.le_refl _ | omega) (fun w2 p2 hx2 hg2 hpp2 => ?_)
  have hb2 := below_of_grownBy hg2
  have sw2 := hb2.size
  replace hv := hv.below hb2
  replace hbx := cell_below hbx hb2
  replace hb := hb.trans (hb2.mono hb.size)
  have hlt_hx2 := hx2.lt
  have sz1 := hb.size
  refine go ?_
  refine s_call2 (wn rfl) rfl rfl rfl (formFrom_any _ _ (nf ms) 0 _ hv hm.syst ⟨by omega, by omega⟩ r1 (by omega) (by omega)) ?_
  rintro _ w3 ⟨x, rfl, hx, hb3⟩
  have sw3 := hb3.size
  replace hv := hv.below hb3
  replace hbx := cell_below hbx hb3
  replace hx2 := hx2.below hb3
  replace hb := hb.trans (hb3.mono hb.size)
  have sbs1 := hb.size
  have hv_b1 := hv
  have hbx_b1 := hbx
  have hx2_b1 := hx2
  have hx_b1 := hx
  have hbB1 := Below.refl w3.heap.size w3
  have hxa : OMA w3 w2.heap.size w3.heap.size 32 2 x (frm (nf ms) ms 0) := hx.oma (by omega) (.inr (Nat.le_refl _))
  refine go ?_
  refine s_alloc (B := w3.heap.size) (wn rfl) rfl (Nat.le_refl _) (fun w4 p3 hx3 hg4 hpp3 => ?_)
  have hb4 := below_of_grownBy hg4
  have sw4 := hb4.size
  replace hv := hv.below hb4
  replace hbx := cell_below hbx hb4
  replace hx2 := hx2.below hb4
  replace hxa := hxa.below hb4
  replace hbB1 := hbB1.trans (hb4.mono hbB1.size)
  have hlt3 := hx3.lt
  refine go ?_
  refine s_storeBox (wn rfl) rfl rfl hxa.sv.one hx3 (fun w5 hx3N hgN => ?_)
  rw [← hpp3] at hxa
  replace hxa := hxa.kept hgN
  replace hbB1 := hbB1.trans (hx3.below_of hgN hbB1.size)
  have sw5 := hgN.size
  replace hx3 := hx3N
  clear hx3N
  replace hv := hv_b1.below hbB1
  replace hbx := cell_below hbx_b1 hbB1
  replace hx2 := hx2_b1.below hbB1
  refine go ?_
  refine s_call1 (wn rfl) rfl rfl (flags_any _ _ _ _ hbx hv r1) ?_
  rintro _ _ ⟨rfl, rfl⟩
  refine go ?_
  refine w_loop (fun kk fr w' => ∃ (i : Nat) (lb : Value), kk = nf ms - i ∧ i ≤ nf ms ∧ fr 1 = .pointer (some p) ∧ fr 2 = .pointer (some p2) ∧ fr 3 = .pointer (some p3) ∧ fr 9 = .int .i64 (nf ms) ∧ fr 10 = .int .i64 i ∧ (OMA w' w2.heap.size p3.block 32 2 lb (lstTo ms i)) ∧ (Bx w' w3.heap.size p3 26 lb) ∧ (p3.block < w'.heap.size) ∧ Below w3.heap.size w3 w') (nf ms)
    ⟨0, x, rfl, Nat.zero_le _, rfl, rfl, rfl, rfl, rfl, hxa, hx3, hx3.lt, hbB1⟩ ?_
  rintro kk fr w6 ⟨i, lb, rfl, hi, f1, f2, f3, f9, f10, hxa, hx3, hge3, hbB1⟩
  have sw6 := hbB1.size
  have hv := hv_b1.below hbB1
  have hbx := cell_below hbx_b1 hbB1
  have hx2 := hx2_b1.below hbB1
  have hx := hx_b1.below hbB1
  have shxa := hxa.sv
  refine know (t := 1) f1 ?_; refine know (t := 2) f2 ?_; refine know (t := 3) f3 ?_; refine know (t := 9) f9 ?_; refine know (t := 10) f10 ?_
  refine go ?_
  refine cond_dec rfl (fun hlt => ?_) (fun hge => ?_)
  · refine go ?_
    refine s_call2 (wn rfl) rfl rfl rfl (formFrom_any _ _ (nf ms) (i : Int) _ hv hm.syst ⟨by omega, by omega⟩ r1 (by omega) (by omega)) ?_
    rintro _ w7 ⟨y, rfl, hy, hb7⟩
    have sw7 := hb7.size
    replace hv := hv.below hb7
    replace hbx := cell_below hbx hb7
    replace hx2 := hx2.below hb7
    replace hx := hx.below hb7
    replace hxa := hxa.below hb7
    replace hx3 := hx3.below hb7
    replace hbB1 := hbB1.trans (hb7.mono hbB1.size)
    have ek : (i : Int) = ((i : Nat) : Int) := by omega
    rw [ek] at hy
    have swy := hxa.sv
    have hya : OMA w7 w2.heap.size p3.block 32 2 y (frm (nf ms) ms ((i : Nat) : Int)) := hy.oma (by have := hbB1.size; omega) (.inl (by omega))
    refine go ?_
    refine s_alloc (B := w7.heap.size) (wn rfl) rfl (Nat.le_refl _) (fun w8 p5 hx5 hg8 hpp5 => ?_)
    have hb8 := below_of_grownBy hg8
    have hbC := hb8
    refine go ?_
    refine s_storeBox (wn rfl) rfl rfl hya.sv.one hx5 (fun w9 hx5N hgN => ?_)
    have hbD := hb8.trans (hx5.below_of hgN hb8.size)
    have swq := hbD.size
    have hya2 := hya.later hbC hgN (by omega)
    have hxa2 := hxa.later hbC hgN (by omega)
    clear hya hxa
    have sw9 := hbD.size
    replace hv := hv.below hbD
    replace hbx := cell_below hbx hbD
    replace hx2 := hx2.below hbD
    replace hx := hx.below hbD
    replace hx3 := hx3.below hbD
    replace hbB1 := hbB1.trans (hbD.mono hbB1.size)
    have hya := hya2
    have hxa := hxa2
    clear hya2 hxa2
    have hc5 := hx5N.cell
    have hc3 := hx3.cell
    refine go ?_
    refine s_call2 (wn rfl) rfl rfl rfl (compareManiplexes_any _ _ _ _ _ hya.rl hxa.rl) ?_
    rintro _ w10 ⟨rfl, hb10⟩
    have sw10 := hb10.size
    replace hv := hv.below hb10
    replace hbx := cell_below hbx hb10
    replace hx2 := hx2.below hb10
    replace hx := hx.below hb10
    replace hx3 := hx3.below hb10
    replace hya := hya.below hb10
    replace hxa := hxa.below hb10
    replace hc5 := cell_below hc5 hb10
    replace hc3 := cell_below hc3 hb10
    replace hbB1 := hbB1.trans (hb10.mono hbB1.size)
    have hcn : decide (cmpL lessL (frm (nf ms) ms ((i : Nat) : Int)) (lstTo ms i) < 0) = lessR (frm (nf ms) ms ((i : Nat) : Int)) (lstTo ms i) := cmpL_neg _ _
    refine go ?_
    refine cond_split rfl (fun hle => ?_) (fun hle => ?_)
    · rw [hcn] at hle
      refine go ?_
      refine s_storeBox (wn rfl) rfl rfl hya.sv.one hx3 (fun w11 hx3N hgN => ?_)
      replace hya := hya.kept hgN
      replace hbB1 := hbB1.trans (hx3.below_of hgN (by have := hbB1.size; omega))
      have swr := hgN.size
      rw [← lstTo_hit hle] at hya
      refine go ?_
      refine ⟨nf ms - (i + 1), by omega, i + 1, y, rfl, by omega, rfl, rfl, rfl, rfl, rfl, hya, hx3N, by omega, hbB1⟩
    rw [hcn] at hle
    rw [← lstTo_miss hle] at hxa
    refine go ?_
    refine ⟨nf ms - (i + 1), by omega, i + 1, lb, rfl, by omega, rfl, rfl, rfl, rfl, rfl, hxa, hx3, by omega, hbB1⟩
  obtain rfl : i = nf ms := by omega
  have hls : lstTo ms (nf ms) = lst ms := rfl
  rw [hls] at hxa
  have hx := hxa.om
  have hcx := hx3.cell
  refine go ?_
  have hbY := (hb.trans (hbB1.mono hb.size))
  refine go ?_
  refine s_storeBox (wn rfl) rfl rfl hx.sv.one hx2 (fun w12 hxz hgz => ?_)
  have hbz := hbY.trans (hx2.below_of hgz hbY.size)
  have hxN := hx.kept hgz (by omega)
  refine go ?_
  exact end_cell Tryz.results57 rfl hxz.cell ⟨lb, rfl, (hxN.mono (by omega)).top, hbz⟩

end Go.Proofs.YtablpijnjkncfaaGreat
