/- Contracts: quotients by automorphisms; QuotientBy, on both sides. -/
import Derived.Test.YtablpijnjkncfaaGreatF33
import Derived.Test.YtablpijnjkncfaaGreatF35
import Derived.Test.YtablpijnjkncfaaGreatPD
namespace Go.Proofs.YtablpijnjkncfaaGreat
open Go.Mem Go.RowKit
set_option linter.unusedVariables false
set_option linter.unusedSimpArgs false
theorem map_takeQ {g : List Int → List Int} {ms : List (List Int)} {i : Nat} (h : i < ms.length) : (ms.take (i + 1)).map g = (ms.take i).map g ++ [g (gr ms i)] := by
  rw [List.take_succ_eq_append_getElem h, List.map_append]
  simp [gr, List.getD, h]

set_option maxHeartbeats 8000000 in
set_option maxRecDepth 100000 in
theorem quotient_any (v : Value) (pv : Addr) (v2 : Value) (ms : List (List Int)) (aa : List (List Int)) (w : World) (hv : RL w v ms) (hxv : w.cell? pv = some v) (hv2 : RL w v2 aa) (hm : IsMan ms) (hA : ∀ p ∈ aa, Hom ms ms p) (hal : aa.length ≤ 1000) :
    Ret Tryz.prog 41 #[.pointer (some pv), v2] w fun r w' => ∃ x, r = .agg #[x] ∧ OM w' w.heap.size w'.heap.size 32 2 x (quoL ms aa) ∧ Below w.heap.size w w' := by
  have shv := hv.sv
  have shv2 := hv2.sv
  have hb := Below.refl w.heap.size w
  refine enter2 57 Tryz.func41 rfl Tryz.ntmps41 rfl (fun fr => ?_)
  have r5 := hm.m0.r5
  have r1 := hm.m0.r1
  have f4 := hm.m0.f400
  have f2 := hm.m0.f2
  have hsym := homs_sym hm hA
  have hL := labs_all hsym (by omega)
  have hc0 := hL.c0
  have hll := hL.len
  have hgre := gre_labs hsym (by omega)
  have hmem := hL.mem
  refine go ?_
  refine s_alloc (B := w.heap.size) (wn rfl) rfl (by first | exact Nat.le_refl _ | omega) (fun w1 p4 hx4 hg1 hpp4 => ?_)
  have hb1 := below_of_grownBy hg1
  have sw1 := hb1.size
  replace hv := hv.below hb1
  replace hxv := cell_below hxv hb1
  replace hv2 := hv2.below hb1
  replace hb := hb.trans (hb1.mono hb.size)
  have hlt_hx4 := hx4.lt
  have sz1 := hb.size
  refine go ?_
  refine s_call1 (wn rfl) rfl rfl (flags_any _ _ _ _ hxv hv r1) ?_
  rintro _ _ ⟨rfl, rfl⟩
  refine go ?_
  refine s_call2 (wn rfl) rfl rfl rfl (orbitLabels_any _ _ _ _ hv2 hsym (by omega) hal) ?_
  rintro _ w2 ⟨lb, rfl, hx, hb2⟩
  have sw2 := hb2.size
  replace hv := hv.below hb2
  replace hxv := cell_below hxv hb2
  replace hv2 := hv2.below hb2
  replace hx4 := hx4.below hb2
  replace hb := hb.trans (hb2.mono hb.size)
  have sx := hx.sv
  have sbs1 := hb.size
  have hv_b1 := hv
  have hxv_b1 := hxv
  have hv2_b1 := hv2
  have hx4_b1 := hx4
  have hx_b1 := hx
  have hbB1 := Below.refl w2.heap.size w2
  refine go ?_
  refine s_alloc (B := w2.heap.size) (wn rfl) rfl (by first | exact Nat.le_refl _ | omega) (fun w3 p7 hx7 hg3 hpp7 => ?_)
  have hb3 := below_of_grownBy hg3
  have sw3 := hb3.size
  replace hv := hv.below hb3
  replace hxv := cell_below hxv hb3
  replace hv2 := hv2.below hb3
  replace hx4 := hx4.below hb3
  replace hx := hx.below hb3
  replace hbB1 := hbB1.trans (hb3.mono hbB1.size)
  have hlt_hx7 := hx7.lt
  refine go ?_
  refine w_loop (fun kk fr w' => ∃ (i : Nat) (ob : Value), kk = ms.length - i ∧ i ≤ ms.length ∧ fr 4 = .pointer (some p4) ∧ fr 5 = lb ∧ fr 6 = .int .i64 (labc (nf ms) aa) ∧ fr 7 = .pointer (some p7) ∧ fr 23 = v ∧ fr 24 = .int .i64 ms.length ∧ fr 25 = .int .i64 i ∧ (Bx w' w2.heap.size p7 26 ob) ∧ (OM w' w3.heap.size w'.heap.size 32 2 ob ((ms.take i).map (symRow (labs (nf ms) aa) (labc (nf ms) aa).toNat))) ∧ (w3.heap.size ≤ w'.heap.size) ∧ Below w2.heap.size w2 w') (ms.length)
    ⟨0, _, rfl, Nat.zero_le _, rfl, rfl, rfl, rfl, rfl, rfl, rfl, hx7, OM.nil _ _ _ _ _, Nat.le_refl _, hbB1⟩ ?_
  rintro kk fr w4 ⟨i, ob, rfl, hi, f4, f5, f6, f7, f23, f24, f25, hx7, ho, hge7, hbB1⟩
  have sw4 := hbB1.size
  have hv := hv_b1.below hbB1
  have hxv := cell_below hxv_b1 hbB1
  have hv2 := hv2_b1.below hbB1
  have hx4 := hx4_b1.below hbB1
  have hx := hx_b1.below hbB1
  have sho := ho.sv
  refine know (t := 4) f4 ?_; refine know (t := 5) f5 ?_; refine know (t := 6) f6 ?_; refine know (t := 7) f7 ?_; refine know (t := 23) f23 ?_; refine know (t := 24) f24 ?_; refine know (t := 25) f25 ?_
  refine go ?_
  refine cond_dec rfl (fun hlt => ?_) (fun hge => ?_)
  · have hrow := (hm.syst.row (j := (i : Int)) (by omega) (by omega)).1
    have sbs2 := hbB1.size
    have hv_b2 := hv
    have hxv_b2 := hxv
    have hv2_b2 := hv2
    have hx4_b2 := hx4
    have hx_b2 := hx
    have ho_b2 := ho
    have hx7_b2 := hx7
    have hbB2 := Below.refl w4.heap.size w4
    obtain ⟨u, hu_b2, hcu_b2⟩ := hv_b2.row (j := (i : Int)) (by omega) hlt
    have su := hu_b2.sv
    rw [hrow] at su
    have hu := hu_b2.below hbB2
    have hcu := cell_below hcu_b2 hbB2
    refine go ?_
    have szq5 := hbB2.size
    refine s_makeI (B := w4.heap.size) (wn rfl) rfl rfl rfl (by omega) (by omega) szq5 (fun rb w5 hr sohr hg5 _ => ?_)
    have hb5 := below_of_grownBy hg5
    have sw5 := hb5.size
    replace hv := hv.below hb5
    replace hxv := cell_below hxv hb5
    replace hv2 := hv2.below hb5
    replace hx4 := hx4.below hb5
    replace hx := hx.below hb5
    replace ho := ho.below hb5
    replace hx7 := hx7.below hb5
    replace hu := hu.below hb5
    replace hcu := cell_below hcu hb5
    replace hbB2 := hbB2.trans (hb5.mono hbB2.size)
    refine go ?_
    refine w_loop (fun kk fr w' => ∃ (q : Nat), kk = nf ms - q ∧ q ≤ nf ms ∧ fr 4 = .pointer (some p4) ∧ fr 5 = lb ∧ fr 6 = .int .i64 (labc (nf ms) aa) ∧ fr 7 = .pointer (some p7) ∧ fr 23 = v ∧ fr 24 = .int .i64 ms.length ∧ fr 25 = .int .i64 i ∧ fr 10 = rb ∧ fr 31 = u ∧ fr 32 = .int .i64 (nf ms) ∧ fr 33 = .int .i64 q ∧ (OI w' w4.heap.size 2 rb (laidTo (labc (nf ms) aa).toNat (labs (nf ms) aa) (fun f : Nat => gi (labs (nf ms) aa) (gi (gr ms i) f)) q)) ∧ Below w4.heap.size w4 w') (nf ms)
      ⟨0, rfl, Nat.zero_le _, rfl, rfl, rfl, rfl, rfl, rfl, rfl, rfl, rfl, rfl, rfl, hr, hbB2⟩ ?_
    rintro kk fr w6 ⟨q, rfl, hq, f4, f5, f6, f7, f23, f24, f25, f10, f31, f32, f33, hr, hbB2⟩
    have sw6 := hbB2.size
    have hv := hv_b2.below hbB2
    have hxv := cell_below hxv_b2 hbB2
    have hv2 := hv2_b2.below hbB2
    have hx4 := hx4_b2.below hbB2
    have hx := hx_b2.below hbB2
    have ho := ho_b2.below hbB2
    have hx7 := hx7_b2.below hbB2
    have hu := hu_b2.below hbB2
    have hcu := cell_below hcu_b2 hbB2
    have shr := hr.sv
    refine know (t := 4) f4 ?_; refine know (t := 5) f5 ?_; refine know (t := 6) f6 ?_; refine know (t := 7) f7 ?_; refine know (t := 23) f23 ?_; refine know (t := 24) f24 ?_; refine know (t := 25) f25 ?_; refine know (t := 10) f10 ?_; refine know (t := 31) f31 ?_; refine know (t := 32) f32 ?_; refine know (t := 33) f33 ?_
    refine go ?_
    refine cond_dec rfl (fun hlt2 => ?_) (fun hge2 => ?_)
    · have hyy := hm.syst.at (j := (i : Int)) (x := (q : Int)) (by omega) (by omega) (by omega)
      have hq1 := hL.done q (by omega) (by omega) (by omega)
      have hq2 := (hL.rng q (by omega) (by omega)).2
      have hll2 := length_laidTo (labc (nf ms) aa).toNat (labs (nf ms) aa) (fun f : Nat => gi (labs (nf ms) aa) (gi (gr ms i) f)) q
      have sx := hx.sv
      refine go ?_
      refine region_hS (fun w' => Below w4.heap.size w4 w') mixed (fun w7 hb7 => ?_)
      have sw7 := hb7.size
      replace hv := hv.below hb7
      replace hxv := cell_below hxv hb7
      replace hv2 := hv2.below hb7
      replace hx4 := hx4.below hb7
      replace hx := hx.below hb7
      replace ho := ho.below hb7
      replace hx7 := hx7.below hb7
      replace hu := hu.below hb7
      replace hcu := cell_below hcu hb7
      replace hr := hr.below hb7
      replace hbB2 := hbB2.trans (hb7.mono hbB2.size)
      refine h_p 0 hbB2 ?_
      refine h_p 1 hbB2 ?_
      refine h_p 2 hbB2 ?_
      refine h_p 3 hbB2 ?_
      refine h_p 4 hbB2 ?_
      refine h_p 5 hbB2 ?_
      refine h_p 6 hbB2 ?_
      refine h_p 7 hbB2 ?_
      refine h_p 8 hbB2 ?_
      refine h_p 9 hbB2 ?_
      refine h_one 10 ?_
      have szq8 := hbB2.size
      refine s_storeI (wn rfl) rfl rfl hr (by omega) (by omega) (fun w8 hoN hgN => ?_)
      replace hbB2 := hbB2.trans (hr.below_of hgN szq8)
      have sw8 := hgN.size
      replace hr := hoN
      clear hoN
      replace hv := hv_b2.below hbB2
      replace hxv := cell_below hxv_b2 hbB2
      replace hv2 := hv2_b2.below hbB2
      replace hx4 := hx4_b2.below hbB2
      replace hx := hx_b2.below hbB2
      replace ho := ho_b2.below hbB2
      replace hx7 := hx7_b2.below hbB2
      replace hu := hu_b2.below hbB2
      replace hcu := cell_below hcu_b2 hbB2
      refine w_nil ?_
      refine h_on ⟨hbB2, ?_⟩
      refine h_nil ?_
      refine go ?_
      refine ⟨nf ms - (q + 1), by omega, q + 1, rfl, by omega, rfl, rfl, rfl, rfl, rfl, rfl, rfl, rfl, rfl, rfl, rfl, hr, hbB2⟩
    obtain rfl : q = nf ms := by omega
    replace hbB1 := hbB1.trans (hbB2.mono hbB1.size)
    rw [symRow_laid (homs_comm hm hA (j := i) (by omega)) hsym (by omega)] at hr
    have hc_hx7 := hx7.cell
    refine go ?_
    have szq9 := hbB1.size
    refine s_build1V (B := w2.heap.size) (wn rfl) rfl rfl hr.sv.one szq9 (fun tb w9 ht st hg9 _ => ?_)
    have hb9 := below_of_grownBy hg9
    have sw9 := hb9.size
    replace hv := hv.below hb9
    replace hxv := cell_below hxv hb9
    replace hv2 := hv2.below hb9
    replace hx4 := hx4.below hb9
    replace hx := hx.below hb9
    replace ho := ho.below hb9
    replace hx7 := hx7.below hb9
    replace hu := hu.below hb9
    replace hcu := cell_below hcu hb9
    replace hr := hr.below hb9
    replace hc_hx7 := cell_below hc_hx7 hb9
    replace hbB1 := hbB1.trans (hb9.mono hbB1.size)
    have szq10 := hbB1.size
    refine s_appendM (wn rfl) rfl rfl rfl ho ht.rd hr (by omega) (by decide) (by simp; omega) (by omega) (fun ob' w10 hoN so hgN => ?_)
    have sw10 := hgN.size
    replace hbB1 := hbB1.trans ((ho.below_of hgN (by omega)).mono (by omega))
    replace hx7 := hx7.kept hgN (by intro e; have := (ho.ownlt _ e).1; omega)
    replace ho := hoN
    clear hoN
    replace hv := hv_b1.below hbB1
    replace hxv := cell_below hxv_b1 hbB1
    replace hv2 := hv2_b1.below hbB1
    replace hx4 := hx4_b1.below hbB1
    replace hx := hx_b1.below hbB1
    refine go ?_
    refine s_storeFld (wn rfl) rfl rfl so.one hx7 (fun w11 hxN hgN => ?_)
    have sw11 := hgN.size
    replace hbB1 := hbB1.trans (hx7.below_of hgN (by omega))
    replace ho := (ho.kept hgN (by omega)).top
    replace hx7 := hxN
    clear hxN
    replace hv := hv_b1.below hbB1
    replace hxv := cell_below hxv_b1 hbB1
    replace hv2 := hv2_b1.below hbB1
    replace hx4 := hx4_b1.below hbB1
    replace hx := hx_b1.below hbB1
    refine go ?_
    refine ⟨ms.length - (i + 1), by omega, i + 1, ob', rfl, by omega, rfl, rfl, rfl, rfl, rfl, rfl, rfl, hx7, by rw [map_takeQ (by omega)]; exact ho, by omega, hbB1⟩
  obtain rfl : i = ms.length := by omega
  rw [List.take_length] at ho
  have hcx := hx7.cell
  have hx := ho
  refine go ?_
  have hbY := (hb.trans (hbB1.mono hb.size))
  refine go ?_
  refine s_storeBox (wn rfl) rfl rfl hx.sv.one hx4 (fun w12 hxz hgz => ?_)
  have hbz := hbY.trans (hx4.below_of hgz hbY.size)
  have hxN := hx.kept hgz (by omega)
  refine go ?_
  exact end_cell Tryz.results41 rfl hxz.cell ⟨ob, rfl, (hxN.mono (by omega)).top, hbz⟩

set_option maxHeartbeats 8000000 in
set_option maxRecDepth 100000 in
theorem l07Quotient_any (v : Value) (v2 : Value) (ms : List (List Int)) (ls : List Int) (aa : List (List Int)) (w : World) (hv : RL w v ms) (hx : IL w v2 ls) (hm : IsMan ms) (hA : ∀ p ∈ aa, Hom ms ms p) (hls : ls = labs (nf ms) aa) :
    Ret Tryz.prog 43 #[.agg #[v], v2] w fun r w' => ∃ x, r = .agg #[x] ∧ OM w' w.heap.size w'.heap.size 32 2 x (quoL ms aa) ∧ Below w.heap.size w w' := by
  have shv := hv.sv
  have shx := hx.sv
  have hb := Below.refl w.heap.size w
  refine enter2 47 Tryz.func43 rfl Tryz.ntmps43 rfl (fun fr => ?_)
  subst hls
  have r5 := hm.m0.r5
  have r1 := hm.m0.r1
  have f4 := hm.m0.f400
  have f2 := hm.m0.f2
  have hsym := homs_sym hm hA
  have hL := labs_all hsym (by omega)
  have hc0 := hL.c0
  have hll := hL.len
  have hgre := gre_labs hsym (by omega)
  have hmem := hL.mem
  refine go ?_
  refine s_box (wn rfl) rfl rfl (agg_cells shv) (fun w1 hbx _ hp hg => ?_)
  have hb1 := below_of_grownBy hg
  have sw1 := hb1.size
  replace hv := hv.below hb1
  replace hx := hx.below hb1
  replace hb := hb.trans (hb1.mono hb.size)
  clear hg hp hb1
  generalize (⟨w.heap.size, 0, none⟩ : Addr) = p at *
  have sz0 := hb.size
  refine go ?_
  refine s_alloc (B := w.heap.size) (wn rfl) rfl (by first | exact Nat.le_refl _ | omega) (fun w2 p4 hx4 hg2 hpp4 => ?_)
  have hb2 := below_of_grownBy hg2
  have sw2 := hb2.size
  replace hv := hv.below hb2
  replace hx := hx.below hb2
  replace hbx := cell_below hbx hb2
  replace hb := hb.trans (hb2.mono hb.size)
  have hlt_hx4 := hx4.lt
  have sz1 := hb.size
  have sbs1 := hb.size
  have hv_b1 := hv
  have hx_b1 := hx
  have hbx_b1 := hbx
  have hx4_b1 := hx4
  have hbB1 := Below.refl w2.heap.size w2
  refine go ?_
  refine s_p (wn rfl) rfl y_bld0 ?_
  refine go ?_
  refine s_alloc (B := w2.heap.size) (wn rfl) rfl (by first | exact Nat.le_refl _ | omega) (fun w3 p5 hx5 hg3 hpp5 => ?_)
  have hb3 := below_of_grownBy hg3
  have sw3 := hb3.size
  replace hv := hv.below hb3
  replace hx := hx.below hb3
  replace hbx := cell_below hbx hb3
  replace hx4 := hx4.below hb3
  replace hbB1 := hbB1.trans (hb3.mono hbB1.size)
  have hlt_hx5 := hx5.lt
  refine go ?_
  refine s_storeBox (wn rfl) rfl rfl rfl hx5 (fun w4 hxN hgN => ?_)
  replace hbB1 := hbB1.trans (hx5.below_of hgN hbB1.size)
  have sw4 := hgN.size
  replace hx5 := hxN
  replace hv := hv_b1.below hbB1
  replace hx := hx_b1.below hbB1
  replace hbx := cell_below hbx_b1 hbB1
  replace hx4 := hx4_b1.below hbB1
  refine go ?_
  refine w_loop (fun kk fr w' => ∃ (i : Nat) (ob : Value), kk = ms.length - i ∧ i ≤ ms.length ∧ fr 1 = v2 ∧ fr 2 = .pointer (some p) ∧ fr 4 = .pointer (some p4) ∧ fr 5 = .pointer (some p5) ∧ fr 6 = .int .i64 i ∧ (Bx w' w2.heap.size p5 26 ob) ∧ (OM w' w4.heap.size w'.heap.size 32 2 ob ((ms.take i).map (symRow (labs (nf ms) aa) (labc (nf ms) aa).toNat))) ∧ (w4.heap.size ≤ w'.heap.size) ∧ Below w2.heap.size w2 w') (ms.length)
    ⟨0, _, rfl, Nat.zero_le _, rfl, rfl, rfl, rfl, rfl, hx5, OM.nil _ _ _ _ _, Nat.le_refl _, hbB1⟩ ?_
  rintro kk fr w5 ⟨i, ob, rfl, hi, f1, f2, f4, f5, f6, hx5, ho, hge5, hbB1⟩
  have sw5 := hbB1.size
  have hv := hv_b1.below hbB1
  have hx := hx_b1.below hbB1
  have hbx := cell_below hbx_b1 hbB1
  have hx4 := hx4_b1.below hbB1
  have sho := ho.sv
  refine know (t := 1) f1 ?_; refine know (t := 2) f2 ?_; refine know (t := 4) f4 ?_; refine know (t := 5) f5 ?_; refine know (t := 6) f6 ?_
  refine go ?_
  refine cond_dec rfl (fun hlt => ?_) (fun hge => ?_)
  · have hrow := (hm.syst.row (j := (i : Int)) (by omega) (by omega)).1
    have hrl := hrow
    have sbs2 := hbB1.size
    have hv_b2 := hv
    have hx_b2 := hx
    have hbx_b2 := hbx
    have hx4_b2 := hx4
    have ho_b2 := ho
    have hx5_b2 := hx5
    have hbB2 := Below.refl w5.heap.size w5
    obtain ⟨u, hu_b2, hcu_b2⟩ := hv_b2.row (j := (i : Int)) (by omega) hlt
    have su := hu_b2.sv
    have hu := hu_b2.below hbB2
    have hcu := cell_below hcu_b2 hbB2
    refine go ?_
    have szq6 := hbB2.size
    refine s_build0 (B := w5.heap.size) (wn rfl) rfl szq6 (fun rb w6 hr so hg6 _ => ?_)
    have hb6 := below_of_grownBy hg6
    have sw6 := hb6.size
    replace hv := hv.below hb6
    replace hx := hx.below hb6
    replace hbx := cell_below hbx hb6
    replace hx4 := hx4.below hb6
    replace ho := ho.below hb6
    replace hx5 := hx5.below hb6
    replace hu := hu.below hb6
    replace hcu := cell_below hcu hb6
    replace hbB2 := hbB2.trans (hb6.mono hbB2.size)
    refine go ?_
    refine w_loop (fun kk fr w' => ∃ (t : Nat) (rb : Value), kk = (labc (nf ms) aa).toNat - t ∧ t ≤ (labc (nf ms) aa).toNat ∧ fr 1 = v2 ∧ fr 2 = .pointer (some p) ∧ fr 4 = .pointer (some p4) ∧ fr 5 = .pointer (some p5) ∧ fr 6 = .int .i64 i ∧ fr 7 = rb ∧ fr 8 = .int .i64 t ∧ (OI w' w5.heap.size 2 rb ((List.range t).map fun o : Nat => gi (labs (nf ms) aa) (gi (gr ms i) (idxOf (labs (nf ms) aa) o)))) ∧ Below w5.heap.size w5 w') ((labc (nf ms) aa).toNat)
      ⟨0, rb, rfl, Nat.zero_le _, rfl, rfl, rfl, rfl, rfl, rfl, rfl, hr, hbB2⟩ ?_
    rintro kk fr w7 ⟨t, rb, rfl, ht, f1, f2, f4, f5, f6, f7, f8, hr, hbB2⟩
    have sw7 := hbB2.size
    have hv := hv_b2.below hbB2
    have hx := hx_b2.below hbB2
    have hbx := cell_below hbx_b2 hbB2
    have hx4 := hx4_b2.below hbB2
    have ho := ho_b2.below hbB2
    have hx5 := hx5_b2.below hbB2
    have hu := hu_b2.below hbB2
    have hcu := cell_below hcu_b2 hbB2
    have shr := hr.sv
    refine know (t := 1) f1 ?_; refine know (t := 2) f2 ?_; refine know (t := 4) f4 ?_; refine know (t := 5) f5 ?_; refine know (t := 6) f6 ?_; refine know (t := 7) f7 ?_; refine know (t := 8) f8 ?_
    refine go ?_
    refine s_call1 (wn rfl) rfl rfl (l02Greatest_any _ _ _ hx (fun x h => by have := hmem x h; omega)) ?_
    rintro _ _ ⟨rfl, rfl⟩
    rw [hgre]
    refine go ?_
    refine cond_dec rfl (fun hlt2 => ?_) (fun hge2 => ?_)
    · obtain ⟨x, hx0, _, hxn, hxe⟩ := hL.hit t (by omega) (by omega)
      obtain ⟨i0, i1, i2⟩ := idxOf_mem (xs := labs (nf ms) aa) (a := (t : Int)) (by rw [← hxe]; exact gi_mem hx0 (by omega))
      have hyy := hm.syst.at (j := (i : Int)) (x := idxOf (labs (nf ms) aa) t) (by omega) (by omega) (by omega)
      have sx := hx.sv
      refine go ?_
      refine region_hS (fun w' => Below w5.heap.size w5 w') mixed (fun w8 hb8 => ?_)
      have sw8 := hb8.size
      replace hv := hv.below hb8
      replace hx := hx.below hb8
      replace hbx := cell_below hbx hb8
      replace hx4 := hx4.below hb8
      replace ho := ho.below hb8
      replace hx5 := hx5.below hb8
      replace hu := hu.below hb8
      replace hcu := cell_below hcu hb8
      replace hr := hr.below hb8
      replace hbB2 := hbB2.trans (hb8.mono hbB2.size)
      refine h_p 0 hbB2 ?_
      refine h_p 1 hbB2 ?_
      refine h_p 2 hbB2 ?_
      refine h_p 3 hbB2 ?_
      refine h_p 4 hbB2 ?_
      refine h_p 5 hbB2 ?_
      refine h_p 6 hbB2 ?_
      refine h_p 7 hbB2 ?_
      refine h_p 8 hbB2 ?_
      refine h_one 9 ?_
      refine s_call2 (wn rfl) rfl rfl rfl (l01Index_any _ _ (t : Int) _ hx) ?_
      rintro _ _ ⟨rfl, rfl⟩
      refine w_nil ?_
      refine h_on ⟨hbB2, ?_⟩
      refine h_p 10 hbB2 ?_
      refine h_p 11 hbB2 ?_
      refine h_p 12 hbB2 ?_
      refine h_p 13 hbB2 ?_
      refine h_one 14 ?_
      have szq9 := hbB2.size
      refine s_build1 (B := w5.heap.size) (wn rfl) rfl rfl szq9 (fun tb w9 ht st hg9 _ => ?_)
      have hb9 := below_of_grownBy hg9
      have sw9 := hb9.size
      replace hv := hv.below hb9
      replace hx := hx.below hb9
      replace hbx := cell_below hbx hb9
      replace hx4 := hx4.below hb9
      replace ho := ho.below hb9
      replace hx5 := hx5.below hb9
      replace hu := hu.below hb9
      replace hcu := cell_below hcu hb9
      replace hr := hr.below hb9
      replace hbB2 := hbB2.trans (hb9.mono hbB2.size)
      have szq10 := hbB2.size
      refine w_nil ?_
      refine h_on ⟨hbB2, ?_⟩
      refine h_one 15 ?_
      refine s_appendI (wn rfl) rfl rfl rfl hr ht.il (by simp; omega) szq10 (fun rb' w10 hoN so hgN _ => ?_)
      replace hbB2 := hbB2.trans (hr.below_of hgN szq10)
      have sw10 := hgN.size
      replace hr := hoN
      clear hoN
      replace hv := hv_b2.below hbB2
      replace hx := hx_b2.below hbB2
      replace hbx := cell_below hbx_b2 hbB2
      replace hx4 := hx4_b2.below hbB2
      replace ho := ho_b2.below hbB2
      replace hx5 := hx5_b2.below hbB2
      replace hu := hu_b2.below hbB2
      replace hcu := cell_below hcu_b2 hbB2
      refine w_nil ?_
      refine h_on ⟨hbB2, ?_⟩
      refine h_p 16 hbB2 ?_
      refine h_nil ?_
      refine go ?_
      refine ⟨(labc (nf ms) aa).toNat - (t + 1), by omega, t + 1, rb', rfl, by omega, rfl, rfl, rfl, rfl, rfl, rfl, rfl, by simpa [List.range_succ] using hr, hbB2⟩
    obtain rfl : t = (labc (nf ms) aa).toNat := by omega
    replace hbB1 := hbB1.trans (hbB2.mono hbB1.size)
    have hrr : (List.range (labc (nf ms) aa).toNat).map (fun o : Nat => gi (labs (nf ms) aa) (gi (gr ms i) (idxOf (labs (nf ms) aa) o))) = symRow (labs (nf ms) aa) (labc (nf ms) aa).toNat (gr ms i) := rfl
    rw [hrr] at hr
    have hc_hx5 := hx5.cell
    refine go ?_
    have szq11 := hbB1.size
    refine s_build1V (B := w2.heap.size) (wn rfl) rfl rfl hr.sv.one szq11 (fun tb w11 ht st hg11 _ => ?_)
    have hb11 := below_of_grownBy hg11
    have sw11 := hb11.size
    replace hv := hv.below hb11
    replace hx := hx.below hb11
    replace hbx := cell_below hbx hb11
    replace hx4 := hx4.below hb11
    replace ho := ho.below hb11
    replace hx5 := hx5.below hb11
    replace hu := hu.below hb11
    replace hcu := cell_below hcu hb11
    replace hr := hr.below hb11
    replace hc_hx5 := cell_below hc_hx5 hb11
    replace hbB1 := hbB1.trans (hb11.mono hbB1.size)
    have szq12 := hbB1.size
    refine s_appendM (wn rfl) rfl rfl rfl ho ht.rd hr (by omega) (by decide) (by simp; omega) (by omega) (fun ob' w12 hoN so hgN => ?_)
    have sw12 := hgN.size
    replace hbB1 := hbB1.trans ((ho.below_of hgN (by omega)).mono (by omega))
    replace hx5 := hx5.kept hgN (by intro e; have := (ho.ownlt _ e).1; omega)
    replace ho := hoN
    clear hoN
    replace hv := hv_b1.below hbB1
    replace hx := hx_b1.below hbB1
    replace hbx := cell_below hbx_b1 hbB1
    replace hx4 := hx4_b1.below hbB1
    refine go ?_
    refine s_storeFld (wn rfl) rfl rfl so.one hx5 (fun w13 hxN hgN => ?_)
    have sw13 := hgN.size
    replace hbB1 := hbB1.trans (hx5.below_of hgN (by omega))
    replace ho := (ho.kept hgN (by omega)).top
    replace hx5 := hxN
    clear hxN
    replace hv := hv_b1.below hbB1
    replace hx := hx_b1.below hbB1
    replace hbx := cell_below hbx_b1 hbB1
    replace hx4 := hx4_b1.below hbB1
    refine go ?_
    refine ⟨ms.length - (i + 1), by omega, i + 1, ob', rfl, by omega, rfl, rfl, rfl, rfl, rfl, hx5, by rw [map_takeQ (by omega)]; exact ho, by omega, hbB1⟩
  obtain rfl : i = ms.length := by omega
  rw [List.take_length] at ho
  have hcx := hx5.cell
  have hx := ho
  refine go ?_
  have hbY := (hb.trans (hbB1.mono hb.size))
  refine go ?_
  refine s_storeBox (wn rfl) rfl rfl hx.sv.one hx4 (fun w14 hxz hgz => ?_)
  have hbz := hbY.trans (hx4.below_of hgz hbY.size)
  have hxN := hx.kept hgz (by omega)
  refine go ?_
  exact end_cell Tryz.results43 rfl hxz.cell ⟨ob, rfl, (hxN.mono (by omega)).top, hbz⟩

set_option maxHeartbeats 8000000 in
set_option maxRecDepth 100000 in
theorem l07Automorphism_any (v : Value) (v2 : Value) (ms : List (List Int)) (xs : List Int) (w : World) (hv : RL w v ms) (hv2 : IL w v2 xs) (hm : IsMan ms) :
    Ret Tryz.prog 42 #[.agg #[v], v2] w fun r w' => r = .bool (decide (IsCov ms ms xs)) ∧ Below w.heap.size w w' := by
  have shv := hv.sv
  have shv2 := hv2.sv
  have hb := Below.refl w.heap.size w
  refine enter2 9 Tryz.func42 rfl Tryz.ntmps42 rfl (fun fr => ?_)
  refine go ?_
  refine s_box (wn rfl) rfl rfl (agg_cells shv) (fun w1 hbx _ hp hg => ?_)
  have hb1 := below_of_grownBy hg
  have sw1 := hb1.size
  replace hv := hv.below hb1
  replace hv2 := hv2.below hb1
  replace hb := hb.trans (hb1.mono hb.size)
  clear hg hp hb1
  generalize (⟨w.heap.size, 0, none⟩ : Addr) = p at *
  refine go ?_
  refine s_call3 (wn rfl) rfl rfl rfl rfl (l07Covering_any _ _ _ _ _ _ _ hv hv hv2 hm hm) ?_
  rintro _ w2 ⟨rfl, hb2⟩
  have sw2 := hb2.size
  replace hv := hv.below hb2
  replace hv2 := hv2.below hb2
  replace hbx := cell_below hbx hb2
  replace hb := hb.trans (hb2.mono hb.size)
  refine go ?_
  exact end_one Tryz.results42 rfl ⟨rfl, hb⟩

set_option maxHeartbeats 8000000 in
set_option maxRecDepth 100000 in
theorem isAutomorphism_any (v : Value) (pv : Addr) (v2 : Value) (ms : List (List Int)) (xs : List Int) (w : World) (hv : RL w v ms) (hxv : w.cell? pv = some v) (hv2 : IL w v2 xs) (hm : IsMan ms) :
    Ret Tryz.prog 40 #[.pointer (some pv), v2] w fun r w' => r = .bool (decide (IsCov ms ms xs)) ∧ Below w.heap.size w w' := by
  have shv := hv.sv
  have shv2 := hv2.sv
  have hb := Below.refl w.heap.size w
  refine enter2 13 Tryz.func40 rfl Tryz.ntmps40 rfl (fun fr => ?_)
  refine go ?_
  refine region_h mixed (fun w1 hc1 => ?_)
  have swr1 := hc1.size
  refine h_p 0 hc1 ?_
  refine h_p 1 hc1 ?_
  refine h_p 2 hc1 ?_
  refine h_p 3 hc1 ?_
  refine h_p 4 hc1 ?_
  refine h_p 5 hc1 ?_
  refine h_p 6 hc1 ?_
  refine h_one 7 ?_
  refine s_call3 (wn rfl) rfl rfl rfl rfl (isCovering_any _ _ _ _ _ _ _ (hv.below hc1) (hv.below hc1) (hv2.below hc1) hm hm) ?_
  rintro _ w2 ⟨rfl, hb2⟩
  have hc2 := hc1.trans (hb2.mono hc1.size)
  refine w_nil ?_
  refine h_on ⟨hc2, ?_⟩
  refine h_p 8 hc2 ?_
  refine h_nil ?_
  have sw2 := hc2.size
  replace hv := hv.below hc2
  replace hxv := cell_below hxv hc2
  replace hv2 := hv2.below hc2
  replace hb := hb.trans (hc2.mono hb.size)
  refine go ?_
  exact end_one Tryz.results40 rfl ⟨rfl, hb⟩

set_option maxHeartbeats 8000000 in
set_option maxRecDepth 100000 in
theorem quo1_any (u : Value) (xs : List Int) (q : Addr) (v : Value) (ms : List (List Int)) (w : World) (hu : IL w u xs) (hq : w.cell? q = some v) (hv : RL w v ms) (hm : IsMan ms) :
    Ret Tryz.prog 39 #[u, .pointer (some q)] w fun r w' => r = .bool (!decide (IsCov ms ms xs)) ∧ Below w.heap.size w w' := by
  have shu := hu.sv
  have hb := Below.refl w.heap.size w
  refine enter2 7 Tryz.func39 rfl Tryz.ntmps39 rfl (fun fr => ?_)
  refine go ?_
  refine s_call2 (wn rfl) rfl rfl rfl (isAutomorphism_any _ _ _ _ _ _ hv hq hu hm) ?_
  rintro _ w1 ⟨rfl, hb1⟩
  have sw1 := hb1.size
  replace hu := hu.below hb1
  replace hb := hb.trans (hb1.mono hb.size)
  refine go ?_
  exact end_one Tryz.results39 rfl ⟨rfl, hb⟩

set_option maxHeartbeats 8000000 in
set_option maxRecDepth 100000 in
theorem implQuotientBy_any (v : Value) (v2 : Value) (ms : List (List Int)) (aa : List (List Int)) (w : World) (hv : RL w v ms) (hv2 : RL w v2 aa) :
    Ret Tryz.prog 7 #[.agg #[v], v2] w fun r w' => ∃ x, r = .tuple #[.agg #[x], .int .i64 (qbC ms aa)] ∧ OM w' w.heap.size w'.heap.size 32 2 x (qbL ms aa) ∧ Below w.heap.size w w' := by
  have shv := hv.sv
  have shv2 := hv2.sv
  have hb := Below.refl w.heap.size w
  refine enter2 29 Tryz.func7 rfl Tryz.ntmps7 rfl (fun fr => ?_)
  have scap := shv2.le
  refine go ?_
  refine s_box (wn rfl) rfl rfl (agg_cells shv) (fun w1 hbx _ hp hg => ?_)
  have hb1 := below_of_grownBy hg
  have sw1 := hb1.size
  replace hv := hv.below hb1
  replace hv2 := hv2.below hb1
  replace hb := hb.trans (hb1.mono hb.size)
  clear hg hp hb1
  generalize (⟨w.heap.size, 0, none⟩ : Addr) = p at *
  have sz0 := hb.size
  refine go ?_
  refine s_alloc (B := w.heap.size) (wn rfl) rfl (by first | exact Nat.le_refl _ | omega) (fun w2 p4 hx4 hg2 hpp4 => ?_)
  have hb2 := below_of_grownBy hg2
  have sw2 := hb2.size
  replace hv := hv.below hb2
  replace hv2 := hv2.below hb2
  replace hbx := cell_below hbx hb2
  replace hb := hb.trans (hb2.mono hb.size)
  have hlt_hx4 := hx4.lt
  have sz1 := hb.size
  refine go ?_
  refine s_call1 (wn rfl) rfl rfl (isManiplex_any _ _ _ hv) ?_
  rintro _ w3 ⟨rfl, hb3⟩
  have sw3 := hb3.size
  replace hv := hv.below hb3
  replace hv2 := hv2.below hb3
  replace hbx := cell_below hbx hb3
  replace hx4 := hx4.below hb3
  replace hb := hb.trans (hb3.mono hb.size)
  refine splitb (decide (IsMan ms)) (fun hm => ?_) (fun hm => ?_)
  rotate_left
  · have hm' := of_decide_eq_false hm
    have e := qb_1 (A := aa) hm'
    have hbY := hb
    refine go ?_
    refine s_p (wn rfl) rfl y_bld0 ?_
    refine s_storeBox (wn rfl) rfl rfl rfl hx4 (fun w4 hxz hgz => ?_)
    have hbz := hbY.trans (hx4.below_of hgz hbY.size)
    refine go ?_
    exact end_cellT Tryz.results7 rfl rfl hxz.cell ⟨_, by rw [e.2], by rw [e.1]; exact OM.nil _ _ _ _ _, hbz⟩
  have hm' := of_decide_eq_true hm
  have r5 := hm'.m0.r5
  have r1 := hm'.m0.r1
  refine go ?_
  by_cases hl : 16 < aa.length
  · have hl' : (16 : Int) < aa.length := by omega
    have e := qb_2 (A := aa) hm' (fun h => by have := h.1; omega)
    have hbY := hb
    refine go ?_
    refine s_p (wn rfl) rfl y_bld0 ?_
    refine s_storeBox (wn rfl) rfl rfl rfl hx4 (fun w5 hxz hgz => ?_)
    have hbz := hbY.trans (hx4.below_of hgz hbY.size)
    refine go ?_
    exact end_cellT Tryz.results7 rfl rfl hxz.cell ⟨_, by rw [e.2], by rw [e.1]; exact OM.nil _ _ _ _ _, hbz⟩
  have hl' : ¬ (16 : Int) < aa.length := by omega
  refine go ?_
  refine s_p (wy rfl rfl rfl rfl rfl known) rfl (y_fn1 rfl) ?_
  refine go ?_
  refine s_call2 (wy rfl rfl rfl rfl rfl known) rfl rfl rfl (ContainsFuncRL_any 39 _ (fun wd => !decide (IsCov ms ms wd)) _ _ _ hv2 (fun w' u wd hbw hwd hu => quo1_any _ _ p _ ms _ hu (cell_below hbx hbw) (hv.below hbw) hm')) ?_
  rintro _ w6 ⟨rfl, hb6⟩
  have sw6 := hb6.size
  replace hv := hv.below hb6
  replace hv2 := hv2.below hb6
  replace hbx := cell_below hbx hb6
  replace hx4 := hx4.below hb6
  replace hb := hb.trans (hb6.mono hb.size)
  by_cases hao : AutsOk ms aa
  rotate_left
  · have hany : aa.any (fun wd => !decide (IsCov ms ms wd)) = true := by
      rw [List.any_eq_true]
      refine Classical.byContradiction fun hn => hao ⟨by omega, fun x hx => Classical.byContradiction fun hx' => hn ⟨x, hx, ?_⟩⟩
      rw [decide_eq_false hx']; rfl
    have e := qb_2 hm' hao
    have hbY := hb
    refine go ?_
    refine s_p (wn rfl) rfl y_bld0 ?_
    refine s_storeBox (wn rfl) rfl rfl rfl hx4 (fun w7 hxz hgz => ?_)
    have hbz := hbY.trans (hx4.below_of hgz hbY.size)
    refine go ?_
    exact end_cellT Tryz.results7 rfl rfl hxz.cell ⟨_, by rw [e.2], by rw [e.1]; exact OM.nil _ _ _ _ _, hbz⟩
  have hany : aa.any (fun wd => !decide (IsCov ms ms wd)) = false := by
    rw [List.any_eq_false]
    intro x hx
    rw [decide_eq_true (hao.2 x hx)]; simp
  have hA := hao.hom hm'
  refine go ?_
  refine s_call2 (wn rfl) rfl rfl rfl (quotient_any _ _ _ _ _ _ hv hbx hv2 hm' hA (by omega)) ?_
  rintro _ w8 ⟨x, rfl, hx, hb8⟩
  have sw8 := hb8.size
  replace hv := hv.below hb8
  replace hv2 := hv2.below hb8
  replace hbx := cell_below hbx hb8
  replace hx4 := hx4.below hb8
  replace hb := hb.trans (hb8.mono hb.size)
  refine go ?_
  refine s_alloc (B := w8.heap.size) (wn rfl) rfl (Nat.le_refl _) (fun w9 p6 hx6 hg9 hpp6 => ?_)
  have hb9 := below_of_grownBy hg9
  refine go ?_
  refine s_storeBox (wn rfl) rfl rfl hx.sv.one hx6 (fun w10 hx6b hg6 => ?_)
  have hbq6 := hb9.trans (hx6.below_of hg6 hb9.size)
  have sw10 := hbq6.size
  replace hv := hv.below hbq6
  replace hv2 := hv2.below hbq6
  replace hbx := cell_below hbx hbq6
  replace hx4 := hx4.below hbq6
  replace hx := hx.below hbq6
  replace hb := hb.trans (hbq6.mono hb.size)
  have hc6 := hx6b.cell
  refine go ?_
  refine s_call1 (wn rfl) rfl rfl (isManiplex_any _ _ _ hx.rl) ?_
  rintro _ w11 ⟨rfl, hb11⟩
  have sw11 := hb11.size
  replace hv := hv.below hb11
  replace hv2 := hv2.below hb11
  replace hbx := cell_below hbx hb11
  replace hx4 := hx4.below hb11
  replace hx := hx.below hb11
  replace hc6 := cell_below hc6 hb11
  replace hb := hb.trans (hb11.mono hb.size)
  refine splitb (decide (IsMan (quoL ms aa))) (fun hk => ?_) (fun hk => ?_)
  rotate_left
  · have hk' := of_decide_eq_false hk
    have e := qb_3 hm' hao hk'
    have hbY := hb
    refine go ?_
    refine s_p (wn rfl) rfl y_bld0 ?_
    refine s_storeBox (wn rfl) rfl rfl rfl hx4 (fun w12 hxz hgz => ?_)
    have hbz := hbY.trans (hx4.below_of hgz hbY.size)
    refine go ?_
    exact end_cellT Tryz.results7 rfl rfl hxz.cell ⟨_, by rw [e.2], by rw [e.1]; exact OM.nil _ _ _ _ _, hbz⟩
  have hk' := of_decide_eq_true hk
  have e := qb_4 hm' hao hk'
  have hbY := hb
  refine go ?_
  refine s_storeBox (wn rfl) rfl rfl hx.sv.one hx4 (fun w13 hxz hgz => ?_)
  have hbz := hbY.trans (hx4.below_of hgz hbY.size)
  have hxN := hx.kept hgz (by omega)
  refine go ?_
  exact end_cellT Tryz.results7 rfl rfl hxz.cell ⟨x, by rw [e.2], by rw [e.1]; exact (hxN.mono (by omega)).top, hbz⟩

set_option maxHeartbeats 8000000 in
set_option maxRecDepth 100000 in
theorem specQuotientBy_any (v : Value) (v2 : Value) (ms : List (List Int)) (aa : List (List Int)) (w : World) (hv : RL w v ms) (hv2 : RL w v2 aa) :
    Ret Tryz.prog 8 #[.agg #[v], v2] w fun r w' => ∃ x, r = .tuple #[.agg #[x], .int .i64 (qbC ms aa)] ∧ OM w' w.heap.size w'.heap.size 32 2 x (qbL ms aa) ∧ Below w.heap.size w w' := by
  have shv := hv.sv
  have shv2 := hv2.sv
  have hb := Below.refl w.heap.size w
  refine enter2 41 Tryz.func8 rfl Tryz.ntmps8 rfl (fun fr => ?_)
  have scap := shv2.le
  refine go ?_
  refine s_box (wn rfl) rfl rfl (agg_cells shv) (fun w1 hbx _ hp hg => ?_)
  have hb1 := below_of_grownBy hg
  have sw1 := hb1.size
  replace hv := hv.below hb1
  replace hv2 := hv2.below hb1
  replace hb := hb.trans (hb1.mono hb.size)
  clear hg hp hb1
  generalize (⟨w.heap.size, 0, none⟩ : Addr) = p at *
  have sz0 := hb.size
  refine go ?_
  refine s_alloc (B := w.heap.size) (wn rfl) rfl (by first | exact Nat.le_refl _ | omega) (fun w2 p4 hx4 hg2 hpp4 => ?_)
  have hb2 := below_of_grownBy hg2
  have sw2 := hb2.size
  replace hv := hv.below hb2
  replace hv2 := hv2.below hb2
  replace hbx := cell_below hbx hb2
  replace hb := hb.trans (hb2.mono hb.size)
  have hlt_hx4 := hx4.lt
  have sz1 := hb.size
  refine go ?_
  refine s_call1 (wn rfl) rfl rfl (l02Is_any _ _ _ hv) ?_
  rintro _ w3 ⟨rfl, hb3⟩
  have sw3 := hb3.size
  replace hv := hv.below hb3
  replace hv2 := hv2.below hb3
  replace hbx := cell_below hbx hb3
  replace hx4 := hx4.below hb3
  replace hb := hb.trans (hb3.mono hb.size)
  refine splitb (decide (IsMan ms)) (fun hm => ?_) (fun hm => ?_)
  rotate_left
  · have hm' := of_decide_eq_false hm
    have e := qb_1 (A := aa) hm'
    have hbY := hb
    refine go ?_
    refine s_p (wn rfl) rfl y_bld0 ?_
    refine s_storeBox (wn rfl) rfl rfl rfl hx4 (fun w4 hxz hgz => ?_)
    have hbz := hbY.trans (hx4.below_of hgz hbY.size)
    refine go ?_
    exact end_cellT Tryz.results8 rfl rfl hxz.cell ⟨_, by rw [e.2], by rw [e.1]; exact OM.nil _ _ _ _ _, hbz⟩
  have hm' := of_decide_eq_true hm
  have r5 := hm'.m0.r5
  have r1 := hm'.m0.r1
  have f4 := hm'.m0.f400
  refine go ?_
  by_cases hl : 16 < aa.length
  · have hl' : (16 : Int) < aa.length := by omega
    have e := qb_2 (A := aa) hm' (fun h => by have := h.1; omega)
    have hbY := hb
    refine go ?_
    refine s_p (wn rfl) rfl y_bld0 ?_
    refine s_storeBox (wn rfl) rfl rfl rfl hx4 (fun w5 hxz hgz => ?_)
    have hbz := hbY.trans (hx4.below_of hgz hbY.size)
    refine go ?_
    exact end_cellT Tryz.results8 rfl rfl hxz.cell ⟨_, by rw [e.2], by rw [e.1]; exact OM.nil _ _ _ _ _, hbz⟩
  have hl' : ¬ (16 : Int) < aa.length := by omega
  refine go ?_
  have sbs1 := hb.size
  have hv_b1 := hv
  have hv2_b1 := hv2
  have hbx_b1 := hbx
  have hx4_b1 := hx4
  have hbB1 := Below.refl w3.heap.size w3
  refine w_loop (fun kk fr w' => ∃ (i : Nat), kk = aa.length - i ∧ i ≤ aa.length ∧ fr 1 = v2 ∧ fr 2 = .pointer (some p) ∧ fr 4 = .pointer (some p4) ∧ fr 6 = .int .i64 i ∧ (∀ j : Nat, j < i → IsCov ms ms (gr aa j)) ∧ Below w3.heap.size w3 w') (aa.length)
    ⟨0, rfl, Nat.zero_le _, rfl, rfl, rfl, rfl, fun j hj => by omega, hbB1⟩ ?_
  rintro kk fr w6 ⟨i, rfl, hi, f1, f2, f4, f6, hall, hbB1⟩
  have sw6 := hbB1.size
  have hv := hv_b1.below hbB1
  have hv2 := hv2_b1.below hbB1
  have hbx := cell_below hbx_b1 hbB1
  have hx4 := hx4_b1.below hbB1
  refine know (t := 1) f1 ?_; refine know (t := 2) f2 ?_; refine know (t := 4) f4 ?_; refine know (t := 6) f6 ?_
  refine go ?_
  refine cond_dec rfl (fun hlt => ?_) (fun hge => ?_)
  · obtain ⟨u, hu, hcu⟩ := hv2.row (j := (i : Int)) (by omega) hlt
    have su := hu.sv
    refine go ?_
    refine region_h mixed (fun w7 hc7 => ?_)
    have swr7 := hc7.size
    refine h_p 0 hc7 ?_
    refine h_p 1 hc7 ?_
    refine h_p 2 hc7 ?_
    refine h_p 3 hc7 ?_
    refine h_p 4 hc7 ?_
    refine h_one 5 ?_
    refine s_call2 (wn rfl) rfl rfl rfl (l07Automorphism_any _ _ _ _ _ (hv.below hc7) (hu.below hc7) hm') ?_
    rintro _ w8 ⟨rfl, hb8⟩
    have hc8 := hc7.trans (hb8.mono hc7.size)
    refine w_nil ?_
    refine h_on ⟨hc8, ?_⟩
    refine h_p 6 hc8 ?_
    refine h_nil ?_
    have sw8 := hc8.size
    replace hv := hv.below hc8
    replace hv2 := hv2.below hc8
    replace hbx := cell_below hbx hc8
    replace hx4 := hx4.below hc8
    replace hu := hu.below hc8
    replace hcu := cell_below hcu hc8
    replace hbB1 := hbB1.trans (hc8.mono hbB1.size)
    refine splitb (decide (IsCov ms ms (gr aa i))) (fun hw => ?_) (fun hw => ?_)
    rotate_left
    · have hw' := of_decide_eq_false hw
      have e := qb_2 (A := aa) hm' (fun h => hw' (h.2 _ (gr_in (by omega))))
      have hbY := (hb.trans (hbB1.mono hb.size))
      refine go ?_
      refine s_p (wn rfl) rfl y_bld0 ?_
      refine s_storeBox (wn rfl) rfl rfl rfl hx4 (fun w9 hxz hgz => ?_)
      have hbz := hbY.trans (hx4.below_of hgz hbY.size)
      refine go ?_
      exact end_cellT Tryz.results8 rfl rfl hxz.cell ⟨_, by rw [e.2], by rw [e.1]; exact OM.nil _ _ _ _ _, hbz⟩
    have hw' := of_decide_eq_true hw
    refine go ?_
    refine ⟨aa.length - (i + 1), by omega, i + 1, rfl, by omega, rfl, rfl, rfl, rfl, fun j hj => by by_cases hji : j = i; (subst hji; exact hw'); exact hall j (by omega), hbB1⟩
  obtain rfl : i = aa.length := by omega
  have hao : AutsOk ms aa := ⟨by omega, fun w hw => by obtain ⟨j, hj, rfl⟩ := mem_gr hw; exact hall j hj⟩
  have hA := hao.hom hm'
  have hsym := homs_sym hm' hA
  refine go ?_
  refine meet (fun fr w' => ∃ p7 x, fr 1 = v2 ∧ fr 2 = .pointer (some p) ∧ fr 4 = .pointer (some p4) ∧ fr 7 = .pointer (some p7) ∧ Bx w' w6.heap.size p7 26 x ∧ OM w' w6.heap.size w'.heap.size 32 2 x (quoL ms aa) ∧ Below w6.heap.size w6 w') ?_ ?_
  · refine region_h mixed (fun wr cr => ?_)
    have hvr := hv.below cr
    have hv2r := hv2.below cr
    have hbxr := cell_below hbx cr
    have zzr := cr.size
    refine h_p 0 cr ?_
    refine h_p 1 cr ?_
    refine h_p 3 cr ?_
    refine h_two 2 6 ?_ ?_
    · have crz1 := cr.size
      refine s_call1 (wn rfl) rfl rfl (l02Flags_any _ _ _ hvr r1) ?_
      rintro _ wc1 ⟨rfl, hbwc1⟩
      have szWwc1 := hbwc1.size
      replace cr := cr.trans (hbwc1.mono cr.size)
      replace hvr := hvr.below hbwc1
      replace hv2r := hv2r.below hbwc1
      refine w_nil ?_
      refine h_on ⟨cr, ?_⟩
      refine h_two 4 6 ?_ ?_
      · have crz2 := cr.size
        refine s_call2 (wn rfl) rfl rfl rfl (l01Orbits_any _ _ (nf ms) _ hv2r hsym (by omega) (by omega)) ?_
        rintro lb wc2 ⟨hlb, hbwc2⟩
        have szWwc2 := hbwc2.size
        replace cr := cr.trans (hbwc2.mono cr.size)
        replace hvr := hvr.below hbwc2
        replace hv2r := hv2r.below hbwc2
        refine w_nil ?_
        refine h_on ⟨cr, ?_⟩
        refine h_two 5 6 ?_ ?_
        · have crz3 := cr.size
          refine s_call2 (wn rfl) rfl rfl rfl (l07Quotient_any _ _ _ _ aa _ hvr hlb.il hm' hA rfl) ?_
          rintro _ wc3 ⟨x, rfl, hx, hbwc3⟩
          have szWwc3 := hbwc3.size
          replace cr := cr.trans (hbwc3.mono cr.size)
          replace hvr := hvr.below hbwc3
          replace hv2r := hv2r.below hbwc3
          replace hlb := hlb.below hbwc3
          refine w_nil ?_
          refine h_on ⟨cr, ?_⟩
          have hxlt : ∀ g, x.ownBlock = some g → g < _ := fun g hg => (hx.ownlt g hg).2
          refine h_one 6 ?_
          refine s_alloc (B := w6.heap.size) (wn rfl) rfl cr.size (fun wa4 p7 hx7 hgwa4 hp7 => ?_)
          have hbwa4 := below_of_grownBy hgwa4
          have hlt7 := hx7.lt
          have szWwa4 := hbwa4.size
          replace cr := cr.trans (hbwa4.mono cr.size)
          replace hvr := hvr.below hbwa4
          replace hv2r := hv2r.below hbwa4
          replace hlb := hlb.below hbwa4
          replace hx := hx.below hbwa4
          refine w_nil ?_
          refine h_on ⟨cr, ?_⟩
          refine h_one 7 ?_
          refine s_storeBox (wn rfl) rfl rfl hx.sv.one hx7 (fun wS hx7S hgS => ?_)
          have crs := cr.size
          replace cr := cr.trans (hx7.below_of hgS cr.size)
          have hxS := hx.apart2 hxlt hgS (fun g hg => .inr (by have := Option.some.inj hg; omega))
          refine w_nil ?_
          refine h_on ⟨cr, ?_⟩
          refine h_nil ?_
          exact ⟨p7, x, rfl, rfl, rfl, rfl, hx7S, (hxS.mono (by omega)).top, cr⟩
        · refine s_alloc (B := w6.heap.size) (wn rfl) rfl cr.size (fun wa5 p7 hx7 hgwa5 hp7 => ?_)
          have hbwa5 := below_of_grownBy hgwa5
          have hlt7 := hx7.lt
          have szWwa5 := hbwa5.size
          replace cr := cr.trans (hbwa5.mono cr.size)
          replace hvr := hvr.below hbwa5
          replace hv2r := hv2r.below hbwa5
          replace hlb := hlb.below hbwa5
          refine w_nil ?_
          refine h_on ⟨cr, ?_⟩
          refine h_one 5 ?_
          have crz6 := cr.size
          refine s_call2 (wn rfl) rfl rfl rfl (l07Quotient_any _ _ _ _ aa _ hvr hlb.il hm' hA rfl) ?_
          rintro _ wc6 ⟨x, rfl, hx, hbwc6⟩
          have szWwc6 := hbwc6.size
          replace cr := cr.trans (hbwc6.mono cr.size)
          replace hvr := hvr.below hbwc6
          replace hv2r := hv2r.below hbwc6
          replace hlb := hlb.below hbwc6
          replace hx7 := hx7.below hbwc6
          refine w_nil ?_
          refine h_on ⟨cr, ?_⟩
          refine h_one 7 ?_
          refine s_storeBox (wn rfl) rfl rfl hx.sv.one hx7 (fun wS hx7S hgS => ?_)
          have crs := cr.size
          replace cr := cr.trans (hx7.below_of hgS cr.size)
          have hxS := hx.kept hgS (by omega)
          refine w_nil ?_
          refine h_on ⟨cr, ?_⟩
          refine h_nil ?_
          exact ⟨p7, x, rfl, rfl, rfl, rfl, hx7S, (hxS.mono (by omega)).top, cr⟩
      · refine s_alloc (B := w6.heap.size) (wn rfl) rfl cr.size (fun wa7 p7 hx7 hgwa7 hp7 => ?_)
        have hbwa7 := below_of_grownBy hgwa7
        have hlt7 := hx7.lt
        have szWwa7 := hbwa7.size
        replace cr := cr.trans (hbwa7.mono cr.size)
        replace hvr := hvr.below hbwa7
        replace hv2r := hv2r.below hbwa7
        refine w_nil ?_
        refine h_on ⟨cr, ?_⟩
        refine h_one 4 ?_
        have crz8 := cr.size
        refine s_call2 (wn rfl) rfl rfl rfl (l01Orbits_any _ _ (nf ms) _ hv2r hsym (by omega) (by omega)) ?_
        rintro lb wc8 ⟨hlb, hbwc8⟩
        have szWwc8 := hbwc8.size
        replace cr := cr.trans (hbwc8.mono cr.size)
        replace hvr := hvr.below hbwc8
        replace hv2r := hv2r.below hbwc8
        replace hx7 := hx7.below hbwc8
        refine w_nil ?_
        refine h_on ⟨cr, ?_⟩
        refine h_one 5 ?_
        have crz9 := cr.size
        refine s_call2 (wn rfl) rfl rfl rfl (l07Quotient_any _ _ _ _ aa _ hvr hlb.il hm' hA rfl) ?_
        rintro _ wc9 ⟨x, rfl, hx, hbwc9⟩
        have szWwc9 := hbwc9.size
        replace cr := cr.trans (hbwc9.mono cr.size)
        replace hvr := hvr.below hbwc9
        replace hv2r := hv2r.below hbwc9
        replace hx7 := hx7.below hbwc9
        replace hlb := hlb.below hbwc9
        refine w_nil ?_
        refine h_on ⟨cr, ?_⟩
        refine h_one 7 ?_
        refine s_storeBox (wn rfl) rfl rfl hx.sv.one hx7 (fun wS hx7S hgS => ?_)
        have crs := cr.size
        replace cr := cr.trans (hx7.below_of hgS cr.size)
        have hxS := hx.kept hgS (by omega)
        refine w_nil ?_
        refine h_on ⟨cr, ?_⟩
        refine h_nil ?_
        exact ⟨p7, x, rfl, rfl, rfl, rfl, hx7S, (hxS.mono (by omega)).top, cr⟩
    · refine s_alloc (B := w6.heap.size) (wn rfl) rfl cr.size (fun wa10 p7 hx7 hgwa10 hp7 => ?_)
      have hbwa10 := below_of_grownBy hgwa10
      have hlt7 := hx7.lt
      have szWwa10 := hbwa10.size
      replace cr := cr.trans (hbwa10.mono cr.size)
      replace hvr := hvr.below hbwa10
      replace hv2r := hv2r.below hbwa10
      refine w_nil ?_
      refine h_on ⟨cr, ?_⟩
      refine h_one 2 ?_
      have crz11 := cr.size
      refine s_call1 (wn rfl) rfl rfl (l02Flags_any _ _ _ hvr r1) ?_
      rintro _ wc11 ⟨rfl, hbwc11⟩
      have szWwc11 := hbwc11.size
      replace cr := cr.trans (hbwc11.mono cr.size)
      replace hvr := hvr.below hbwc11
      replace hv2r := hv2r.below hbwc11
      replace hx7 := hx7.below hbwc11
      refine w_nil ?_
      refine h_on ⟨cr, ?_⟩
      refine h_one 4 ?_
      have crz12 := cr.size
      refine s_call2 (wn rfl) rfl rfl rfl (l01Orbits_any _ _ (nf ms) _ hv2r hsym (by omega) (by omega)) ?_
      rintro lb wc12 ⟨hlb, hbwc12⟩
      have szWwc12 := hbwc12.size
      replace cr := cr.trans (hbwc12.mono cr.size)
      replace hvr := hvr.below hbwc12
      replace hv2r := hv2r.below hbwc12
      replace hx7 := hx7.below hbwc12
      refine w_nil ?_
      refine h_on ⟨cr, ?_⟩
      refine h_one 5 ?_
      have crz13 := cr.size
      refine s_call2 (wn rfl) rfl rfl rfl (l07Quotient_any _ _ _ _ aa _ hvr hlb.il hm' hA rfl) ?_
      rintro _ wc13 ⟨x, rfl, hx, hbwc13⟩
      have szWwc13 := hbwc13.size
      replace cr := cr.trans (hbwc13.mono cr.size)
      replace hvr := hvr.below hbwc13
      replace hv2r := hv2r.below hbwc13
      replace hx7 := hx7.below hbwc13
      replace hlb := hlb.below hbwc13
      refine w_nil ?_
      refine h_on ⟨cr, ?_⟩
      refine h_one 7 ?_
      refine s_storeBox (wn rfl) rfl rfl hx.sv.one hx7 (fun wS hx7S hgS => ?_)
      have crs := cr.size
      replace cr := cr.trans (hx7.below_of hgS cr.size)
      have hxS := hx.kept hgS (by omega)
      refine w_nil ?_
      refine h_on ⟨cr, ?_⟩
      refine h_nil ?_
      exact ⟨p7, x, rfl, rfl, rfl, rfl, hx7S, (hxS.mono (by omega)).top, cr⟩
  rintro fr wm ⟨p7, x, f1, f2, f4', f7, hx7, hx, hbm⟩
  have sw9 := hbm.size
  replace hv := hv.below hbm
  replace hv2 := hv2.below hbm
  replace hbx := cell_below hbx hbm
  replace hx4 := hx4.below hbm
  replace hbB1 := hbB1.trans (hbm.mono hbB1.size)
  have swm := hbm.size
  have hc7 := hx7.cell
  refine know (t := 1) f1 ?_; refine know (t := 2) f2 ?_; refine know (t := 4) f4' ?_; refine know (t := 7) f7 ?_
  refine go ?_
  refine s_call1 (wn rfl) rfl rfl (l02Is_any _ _ _ hx.rl) ?_
  rintro _ w10 ⟨rfl, hb10⟩
  have sw10 := hb10.size
  replace hv := hv.below hb10
  replace hv2 := hv2.below hb10
  replace hbx := cell_below hbx hb10
  replace hx4 := hx4.below hb10
  replace hx := hx.below hb10
  replace hx7 := hx7.below hb10
  replace hc7 := cell_below hc7 hb10
  replace hbB1 := hbB1.trans (hb10.mono hbB1.size)
  refine splitb (decide (IsMan (quoL ms aa))) (fun hk => ?_) (fun hk => ?_)
  rotate_left
  · have hk' := of_decide_eq_false hk
    have e := qb_3 hm' hao hk'
    have hbY := (hb.trans (hbB1.mono hb.size))
    refine go ?_
    refine s_p (wn rfl) rfl y_bld0 ?_
    refine s_storeBox (wn rfl) rfl rfl rfl hx4 (fun w11 hxz hgz => ?_)
    have hbz := hbY.trans (hx4.below_of hgz hbY.size)
    refine go ?_
    exact end_cellT Tryz.results8 rfl rfl hxz.cell ⟨_, by rw [e.2], by rw [e.1]; exact OM.nil _ _ _ _ _, hbz⟩
  have hk' := of_decide_eq_true hk
  have e := qb_4 hm' hao hk'
  have hbY := (hb.trans (hbB1.mono hb.size))
  refine go ?_
  refine s_storeBox (wn rfl) rfl rfl hx.sv.one hx4 (fun w12 hxz hgz => ?_)
  have hbz := hbY.trans (hx4.below_of hgz hbY.size)
  have hxN := hx.kept hgz (by omega)
  refine go ?_
  exact end_cellT Tryz.results8 rfl rfl hxz.cell ⟨x, by rw [e.2], by rw [e.1]; exact (hxN.mono (by omega)).top, hbz⟩

end Go.Proofs.YtablpijnjkncfaaGreat
