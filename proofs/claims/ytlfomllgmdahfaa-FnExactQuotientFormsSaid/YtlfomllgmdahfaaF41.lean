/- Contracts: quotients by automorphisms; QuotientBy, on both sides. -/
import Derived.Test.YtlfomllgmdahfaaF33
import Derived.Test.YtlfomllgmdahfaaF35
import Derived.Test.YtlfomllgmdahfaaPD
namespace Go.Proofs.Ytlfomllgmdahfaa
open Go.Mem Go.RowKit
set_option linter.unusedVariables false
set_option linter.unusedSimpArgs false
theorem map_takeQ {g : List Int → List Int} {ms : List (List Int)} {i : Nat} (h : i < ms.length) : (ms.take (i + 1)).map g = (ms.take i).map g ++ [g (gr ms i)] := by
  rw [List.take_succ_eq_append_getElem h, List.map_append]
  simp [gr, List.getD, h]

set_option maxHeartbeats 8000000 in
set_option maxRecDepth 100000 in
theorem quotient_any (v : Value) (pv : Addr) (v2 : Value) (ms : List (List Int)) (aa : List (List Int)) (w : World) (hv : RL w v ms) (hxv : w.cell? pv = some v) (hv2 : RL w v2 aa) (hm : IsMan ms) (hA : ∀ p ∈ aa, Hom ms ms p) (hal : aa.length ≤ 1000) :
    Ret Try.prog 42 #[.pointer (some pv), v2] w fun r w' => ∃ x, r = .agg #[x] ∧ OM w' w.heap.size w'.heap.size 32 2 x (quoL ms aa) ∧ Below w.heap.size w w' := by
  have shv := hv.sv
  have shv2 := hv2.sv
  have hb := Below.refl w.heap.size w
  refine enter2 57 Try.func42 rfl Try.ntmps42 rfl (fun fr => ?_)
  have r5 := hm.m0.r5
  have r1 := hm.m0.r1
  have f4 := hm.m0.f400
  have f2 := hm.m0.f2
  have hsym := homs_sym hm hA
  have hL := labs_all hsym (by omega)
  have hc0 := hL.c0
  have hll := hL.len
  have hgre := gre_labs hsym (by omega)
  have hmem := hL.mem
  refine go ?_
  refine s_alloc (B := w.heap.size) (wn rfl) rfl (by first | exact Nat.le_refl _ | omega) (fun w1 p4 hx4 hg1 hpp4 => ?_)
  have hb1 := below_of_grownBy hg1
  have sw1 := hb1.size
  replace hv := hv.below hb1
  replace hxv := cell_below hxv hb1
  replace hv2 := hv2.below hb1
  replace hb := hb.trans (hb1.mono hb.size)
  have hlt_hx4 := hx4.lt
  have sz1 := hb.size
  refine go ?_
  refine s_call1 (wn rfl) rfl rfl (flags_any _ _ _ _ hxv hv r1) ?_
  rintro _ _ ⟨rfl, rfl⟩
  refine go ?_
  refine s_call2 (wn rfl) rfl rfl rfl (orbitLabels_any _ _ _ _ hv2 hsym (by omega) hal) ?_
  rintro _ w2 ⟨lb, rfl, hx, hb2⟩
  have sw2 := hb2.size
  replace hv := hv.below hb2
  replace hxv := cell_below hxv hb2
  replace hv2 := hv2.below hb2
  replace hx4 := hx4.below hb2
  replace hb := hb.trans (hb2.mono hb.size)
  have sx := hx.sv
  have sbs1 := hb.size
  have hv_b1 := hv
  have hxv_b1 := hxv
  have hv2_b1 := hv2
  have hx4_b1 := hx4
  have hx_b1 := hx
  have hbB1 := Below.refl w2.heap.size w2
  refine go ?_
  refine s_alloc (B := w2.heap.size) (wn rfl) rfl (by first | exact Nat.le_refl _ | omega) (fun w3 p7 hx7 hg3 hpp7 => ?_)
  have hb3 := below_of_grownBy hg3
  have sw3 := hb3.size
  replace hv := hv.below hb3
  replace hxv := cell_below hxv hb3
  replace hv2 := hv2.below hb3
  replace hx4 := hx4.below hb3
  replace hx := hx.below hb3
  replace hbB1 := hbB1.trans (hb3.mono hbB1.size)
  have hlt_hx7 := hx7.lt
  refine go ?_
  refine w_loop (fun kk fr w' => ∃ (i : Nat) (ob : Value), kk = ms.length - i ∧ i ≤ ms.length ∧ fr 4 = .pointer (some p4) ∧ fr 5 = lb ∧ fr 6 = .int .i64 (labc (nf ms) aa) ∧ fr 7 = .pointer (some p7) ∧ fr 23 = v ∧ fr 24 = .int .i64 ms.length ∧ fr 25 = .int .i64 i ∧ (Bx w' w2.heap.size p7 28 ob) ∧ (OM w' w3.heap.size w'.heap.size 32 2 ob ((ms.take i).map (symRow (labs (nf ms) aa) (labc (nf ms) aa).toNat))) ∧ (w3.heap.size ≤ w'.heap.size) ∧ Below w2.heap.size w2 w') (ms.length)
    ⟨0, _, rfl, Nat.zero_le _, rfl, rfl, rfl, rfl, rfl, rfl, rfl, hx7, OM.nil _ _ _ _ _, Nat.le_refl _, hbB1⟩ ?_
  rintro kk fr w4 ⟨i, ob, rfl, hi, f4, f5, f6, f7, f23, f24, f25, hx7, ho, hge7, hbB1⟩
  have sw4 := hbB1.size
  have hv := hv_b1.below hbB1
  have hxv := cell_below hxv_b1 hbB1
  have hv2 := hv2_b1.below hbB1
  have hx4 := hx4_b1.below hbB1
  have hx := hx_b1.below hbB1
  have sho := ho.sv
  refine know (t := 4) f4 ?_; refine know (t := 5) f5 ?_; refine know (t := 6) f6 ?_; refine know (t := 7) f7 ?_; refine know (t := 23) f23 ?_; refine know (t := 24) f24 ?_; refine know (t := 25) f25 ?_
  refine go ?_
  refine cond_dec rfl (fun hlt => ?_) (fun hge => ?_)
  · have hrow := (hm.syst.row (j := (i : Int)) (by omega) (by omega)).1
    have sbs2 := hbB1.size
    have hv_b2 := hv
    have hxv_b2 := hxv
    have hv2_b2 := hv2
    have hx4_b2 := hx4
    have hx_b2 := hx
    have ho_b2 := ho
    have hx7_b2 := hx7
    have hbB2 := Below.refl w4.heap.size w4
    obtain ⟨u, hu_b2, hcu_b2⟩ := hv_b2.row (j := (i : Int)) (by omega) hlt
    have su := hu_b2.sv
    rw [hrow] at su
    have hu := hu_b2.below hbB2
    have hcu := cell_below hcu_b2 hbB2
    refine go ?_
    have szq5 := hbB2.size
    refine s_makeI (B := w4.heap.size) (wn rfl) rfl rfl rfl (by omega) (by omega) szq5 (fun rb w5 hr sohr hg5 _ => ?_)
    have hb5 := below_of_grownBy hg5
    have sw5 := hb5.size
    replace hv := hv.below hb5
    replace hxv := cell_below hxv hb5
    replace hv2 := hv2.below hb5
    replace hx4 := hx4.below hb5
    replace hx := hx.below hb5
    replace ho := ho.below hb5
    replace hx7 := hx7.below hb5
    replace hu := hu.below hb5
    replace hcu := cell_below hcu hb5
    replace hbB2 := hbB2.trans (hb5.mono hbB2.size)
    refine go ?_
    refine w_loop (fun kk fr w' => ∃ (q : Nat), kk = nf ms - q ∧ q ≤ nf ms ∧ fr 4 = .pointer (some p4) ∧ fr 5 = lb ∧ fr 6 = .int .i64 (labc (nf ms) aa) ∧ fr 7 = .pointer (some p7) ∧ fr 23 = v ∧ fr 24 = .int .i64 ms.length ∧ fr 25 = .int .i64 i ∧ fr 10 = rb ∧ fr 31 = u ∧ fr 32 = .int .i64 (nf ms) ∧ fr 33 = .int .i64 q ∧ (OI w' w4.heap.size 2 rb (laidTo (labc (nf ms) aa).toNat (labs (nf ms) aa) (fun f : Nat => gi (labs (nf ms) aa) (gi (gr ms i) f)) q)) ∧ Below w4.heap.size w4 w') (nf ms)
      ⟨0, rfl, Nat.zero_le _, rfl, rfl, rfl, rfl, rfl, rfl, rfl, rfl, rfl, rfl, rfl, hr, hbB2⟩ ?_
    rintro kk fr w6 ⟨q, rfl, hq, f4, f5, f6, f7, f23, f24, f25, f10, f31, f32, f33, hr, hbB2⟩
    have sw6 := hbB2.size
    have hv := hv_b2.below hbB2
    have hxv := cell_below hxv_b2 hbB2
    have hv2 := hv2_b2.below hbB2
    have hx4 := hx4_b2.below hbB2
    have hx := hx_b2.below hbB2
    have ho := ho_b2.below hbB2
    have hx7 := hx7_b2.below hbB2
    have hu := hu_b2.below hbB2
    have hcu := cell_below hcu_b2 hbB2
    have shr := hr.sv
    refine know (t := 4) f4 ?_; refine know (t := 5) f5 ?_; refine know (t := 6) f6 ?_; refine know (t := 7) f7 ?_; refine know (t := 23) f23 ?_; refine know (t := 24) f24 ?_; refine know (t := 25) f25 ?_; refine know (t := 10) f10 ?_; refine know (t := 31) f31 ?_; refine know (t := 32) f32 ?_; refine know (t := 33) f33 ?_
    refine go ?_
    refine cond_dec rfl (fun hlt2 => ?_) (fun hge2 => ?_)
    · have hyy := hm.syst.at (j := (i : Int)) (x := (q : Int)) (by omega) (by omega) (by omega)
      have hq1 := hL.done q (by omega) (by omega) (by omega)
      have hq2 := (hL.rng q (by omega) (by omega)).2
      have hll2 := length_laidTo (labc (nf ms) aa).toNat (labs (nf ms) aa) (fun f : Nat => gi (labs (nf ms) aa) (gi (gr ms i) f)) q
      have sx := hx.sv
      refine go ?_
      refine region_hS (fun w' => Below w4.heap.size w4 w') mixed (fun w7 hb7 => ?_)
      have sw7 := hb7.size
      replace hv := hv.below hb7
      replace hxv := cell_below hxv hb7
      replace hv2 := hv2.below hb7
      replace hx4 := hx4.below hb7
      replace hx := hx.below hb7
      replace ho := ho.below hb7
      replace hx7 := hx7.below hb7
      replace hu := hu.below hb7
      replace hcu := cell_below hcu hb7
      replace hr := hr.below hb7
      replace hbB2 := hbB2.trans (hb7.mono hbB2.size)
      refine h_p 0 hbB2 ?_
      refine h_p 1 hbB2 ?_
      refine h_p 2 hbB2 ?_
      refine h_p 3 hbB2 ?_
      refine h_p 4 hbB2 ?_
      refine h_p 5 hbB2 ?_
      refine h_p 6 hbB2 ?_
      refine h_p 7 hbB2 ?_
      refine h_p 8 hbB2 ?_
      refine h_p 9 hbB2 ?_
      refine h_one 10 ?_
      have szq8 := hbB2.size
      refine s_storeI (wn rfl) rfl rfl hr (by omega) (by omega) (fun w8 hoN hgN => ?_)
      replace hbB2 := hbB2.trans (hr.below_of hgN szq8)
      have sw8 := hgN.size
      replace hr := hoN
      clear hoN
      replace hv := hv_b2.below hbB2
      replace hxv := cell_below hxv_b2 hbB2
      replace hv2 := hv2_b2.below hbB2
      replace hx4 := hx4_b2.below hbB2
      replace hx := hx_b2.below hbB2
      replace ho := ho_b2.below hbB2
      replace hx7 := hx7_b2.below hbB2
      replace hu := hu_b2.below hbB2
      replace hcu := cell_below hcu_b2 hbB2
      refine w_nil ?_
      refine h_on ⟨hbB2, ?_⟩
      refine h_nil ?_
      refine go ?_
      refine ⟨nf ms - (q + 1), by omega, q + 1, rfl, by omega, rfl, rfl, rfl, rfl, rfl, rfl, rfl, rfl, rfl, rfl, rfl, hr, hbB2⟩
    obtain rfl : q = nf ms := by omega
    replace hbB1 := hbB1.trans (hbB2.mono hbB1.size)
    rw [symRow_laid (homs_comm hm hA (j := i) (by omega)) hsym (by omega)] at hr
    have hc_hx7 := hx7.cell
    refine go ?_
    have szq9 := hbB1.size
    refine s_build1V (B := w2.heap.size) (wn rfl) rfl rfl hr.sv.one szq9 (fun tb w9 ht st hg9 _ => ?_)
    have hb9 := below_of_grownBy hg9
    have sw9 := hb9.size
    replace hv := hv.below hb9
    replace hxv := cell_below hxv hb9
    replace hv2 := hv2.below hb9
    replace hx4 := hx4.below hb9
    replace hx := hx.below hb9
    replace ho := ho.below hb9
    replace hx7 := hx7.below hb9
    replace hu := hu.below hb9
    replace hcu := cell_below hcu hb9
    replace hr := hr.below hb9
    replace hc_hx7 := cell_below hc_hx7 hb9
    replace hbB1 := hbB1.trans (hb9.mono hbB1.size)
    have szq10 := hbB1.size
    refine s_appendM (wn rfl) rfl rfl rfl ho ht.rd hr (by omega) (by decide) (by simp; omega) (by omega) (fun ob' w10 hoN so hgN => ?_)
    have sw10 := hgN.size
    replace hbB1 := hbB1.trans ((ho.below_of hgN (by omega)).mono (by omega))
    replace hx7 := hx7.kept hgN (by intro e; have := (ho.ownlt _ e).1; omega)
    replace ho := hoN
    clear hoN
    replace hv := hv_b1.below hbB1
    replace hxv := cell_below hxv_b1 hbB1
    replace hv2 := hv2_b1.below hbB1
    replace hx4 := hx4_b1.below hbB1
    replace hx := hx_b1.below hbB1
    refine go ?_
    refine s_storeFld (wn rfl) rfl rfl so.one hx7 (fun w11 hxN hgN => ?_)
    have sw11 := hgN.size
    replace hbB1 := hbB1.trans (hx7.below_of hgN (by omega))
    replace ho := (ho.kept hgN (by omega)).top
    replace hx7 := hxN
    clear hxN
    replace hv := hv_b1.below hbB1
    replace hxv := cell_below hxv_b1 hbB1
    replace hv2 := hv2_b1.below hbB1
    replace hx4 := hx4_b1.below hbB1
    replace hx := hx_b1.below hbB1
    refine go ?_
    refine ⟨ms.length - (i + 1), by omega, i + 1, ob', rfl, by omega, rfl, rfl, rfl, rfl, rfl, rfl, rfl, hx7, by rw [map_takeQ (by omega)]; exact ho, by omega, hbB1⟩
  obtain rfl : i = ms.length := by omega
  rw [List.take_length] at ho
  have hcx := hx7.cell
  have hx := ho
  refine go ?_
  have hbY := (hb.trans (hbB1.mono hb.size))
  refine go ?_
  refine s_storeBox (wn rfl) rfl rfl hx.sv.one hx4 (fun w12 hxz hgz => ?_)
  have hbz := hbY.trans (hx4.below_of hgz hbY.size)
  have hxN := hx.kept hgz (by omega)
  refine go ?_
  exact end_cell Try.results42 rfl hxz.cell ⟨ob, rfl, (hxN.mono (by omega)).top, hbz⟩

set_option maxHeartbeats 8000000 in
set_option maxRecDepth 100000 in
theorem l07Quotient_any (v : Value) (v2 : Value) (ms : List (List Int)) (ls : List Int) (aa : List (List Int)) (w : World) (hv : RL w v ms) (hx : IL w v2 ls) (hm : IsMan ms) (hA : ∀ p ∈ aa, Hom ms ms p) (hls : ls = labs (nf ms) aa) :
    Ret Try.prog 35 #[.agg #[v], v2] w fun r w' => ∃ x, r = .agg #[x] ∧ OM w' w.heap.size w'.heap.size 32 2 x (quoL ms aa) ∧ Below w.heap.size w w' := by
  have shv := hv.sv
  have shx := hx.sv
  have hb := Below.refl w.heap.size w
  refine enter2 47 Try.func35 rfl Try.ntmps35 rfl (fun fr => ?_)
  subst hls
  have r5 := hm.m0.r5
  have r1 := hm.m0.r1
  have f4 := hm.m0.f400
  have f2 := hm.m0.f2
  have hsym := homs_sym hm hA
  have hL := labs_all hsym (by omega)
  have hc0 := hL.c0
  have hll := hL.len
  have hgre := gre_labs hsym (by omega)
  have hmem := hL.mem
  refine go ?_
  refine s_box (wn rfl) rfl rfl (agg_cells shv) (fun w1 hbx _ hp hg => ?_)
  have hb1 := below_of_grownBy hg
  have sw1 := hb1.size
  replace hv := hv.below hb1
  replace hx := hx.below hb1
  replace hb := hb.trans (hb1.mono hb.size)
  clear hg hp hb1
  generalize (⟨w.heap.size, 0, none⟩ : Addr) = p at *
  have sz0 := hb.size
  refine go ?_
  refine s_alloc (B := w.heap.size) (wn rfl) rfl (by first | exact Nat.le_refl _ | omega) (fun w2 p4 hx4 hg2 hpp4 => ?_)
  have hb2 := below_of_grownBy hg2
  have sw2 := hb2.size
  replace hv := hv.below hb2
  replace hx := hx.below hb2
  replace hbx := cell_below hbx hb2
  replace hb := hb.trans (hb2.mono hb.size)
  have hlt_hx4 := hx4.lt
  have sz1 := hb.size
  have sbs1 := hb.size
  have hv_b1 := hv
  have hx_b1 := hx
  have hbx_b1 := hbx
  have hx4_b1 := hx4
  have hbB1 := Below.refl w2.heap.size w2
  refine go ?_
  refine s_p (wn rfl) rfl y_bld0 ?_
  refine go ?_
  refine s_alloc (B := w2.heap.size) (wn rfl) rfl (by first | exact Nat.le_refl _ | omega) (fun w3 p5 hx5 hg3 hpp5 => ?_)
  have hb3 := below_of_grownBy hg3
  have sw3 := hb3.size
  replace hv := hv.below hb3
  replace hx := hx.below hb3
  replace hbx := cell_below hbx hb3
  replace hx4 := hx4.below hb3
  replace hbB1 := hbB1.trans (hb3.mono hbB1.size)
  have hlt_hx5 := hx5.lt
  refine go ?_
  refine s_storeBox (wn rfl) rfl rfl rfl hx5 (fun w4 hxN hgN => ?_)
  replace hbB1 := hbB1.trans (hx5.below_of hgN hbB1.size)
  have sw4 := hgN.size
  replace hx5 := hxN
  replace hv := hv_b1.below hbB1
  replace hx := hx_b1.below hbB1
  replace hbx := cell_below hbx_b1 hbB1
  replace hx4 := hx4_b1.below hbB1
  refine go ?_
  refine w_loop (fun kk fr w' => ∃ (i : Nat) (ob : Value), kk = ms.length - i ∧ i ≤ ms.length ∧ fr 1 = v2 ∧ fr 2 = .pointer (some p) ∧ fr 4 = .pointer (some p4) ∧ fr 5 = .pointer (some p5) ∧ fr 6 = .int .i64 i ∧ (Bx w' w2.heap.size p5 28 ob) ∧ (OM w' w4.heap.size w'.heap.size 32 2 ob ((ms.take i).map (symRow (labs (nf ms) aa) (labc (nf ms) aa).toNat))) ∧ (w4.heap.size ≤ w'.heap.size) ∧ Below w2.heap.size w2 w') (ms.length)
    ⟨0, _, rfl, Nat.zero_le _, rfl, rfl, rfl, rfl, rfl, hx5, OM.nil _ _ _ _ _, Nat.le_refl _, hbB1⟩ ?_
  rintro kk fr w5 ⟨i, ob, rfl, hi, f1, f2, f4, f5, f6, hx5, ho, hge5, hbB1⟩
  have sw5 := hbB1.size
  have hv := hv_b1.below hbB1
  have hx := hx_b1.below hbB1
  have hbx := cell_below hbx_b1 hbB1
  have hx4 := hx4_b1.below hbB1
  have sho := ho.sv
  refine know (t := 1) f1 ?_; refine know (t := 2) f2 ?_; refine know (t := 4) f4 ?_; refine know (t := 5) f5 ?_; refine know (t := 6) f6 ?_
  refine go ?_
  refine cond_dec rfl (fun hlt => ?_) (fun hge => ?_)
  · have hrow := (hm.syst.row (j := (i : Int)) (by omega) (by omega)).1
    have hrl := hrow
    have sbs2 := hbB1.size
    have hv_b2 := hv
    have hx_b2 := hx
    have hbx_b2 := hbx
    have hx4_b2 := hx4
    have ho_b2 := ho
    have hx5_b2 := hx5
    have hbB2 := Below.refl w5.heap.size w5
    obtain ⟨u, hu_b2, hcu_b2⟩ := hv_b2.row (j := (i : Int)) (by omega) hlt
    have su := hu_b2.sv
    have hu := hu_b2.below hbB2
    have hcu := cell_below hcu_b2 hbB2
    refine go ?_
    have szq6 := hbB2.size
    refine s_build0 (B := w5.heap.size) (wn rfl) rfl szq6 (fun rb w6 hr so hg6 _ => ?_)
    have hb6 := below_of_grownBy hg6
    have sw6 := hb6.size
    replace hv := hv.below hb6
    replace hx := hx.below hb6
    replace hbx := cell_below hbx hb6
    replace hx4 := hx4.below hb6
    replace ho := ho.below hb6
    replace hx5 := hx5.below hb6
    replace hu := hu.below hb6
    replace hcu := cell_below hcu hb6
    replace hbB2 := hbB2.trans (hb6.mono hbB2.size)
    refine go ?_
    refine w_loop (fun kk fr w' => ∃ (t : Nat) (rb : Value), kk = (labc (nf ms) aa).toNat - t ∧ t ≤ (labc (nf ms) aa).toNat ∧ fr 1 = v2 ∧ fr 2 = .pointer (some p) ∧ fr 4 = .pointer (some p4) ∧ fr 5 = .pointer (some p5) ∧ fr 6 = .int .i64 i ∧ fr 7 = rb ∧ fr 8 = .int .i64 t ∧ (OI w' w5.heap.size 2 rb ((List.range t).map fun o : Nat => gi (labs (nf ms) aa) (gi (gr ms i) (idxOf (labs (nf ms) aa) o)))) ∧ Below w5.heap.size w5 w') ((labc (nf ms) aa).toNat)
      ⟨0, rb, rfl, Nat.zero_le _, rfl, rfl, rfl, rfl, rfl, rfl, rfl, hr, hbB2⟩ ?_
    rintro kk fr w7 ⟨t, rb, rfl, ht, f1, f2, f4, f5, f6, f7, f8, hr, hbB2⟩
    have sw7 := hbB2.size
    have hv := hv_b2.below hbB2
    have hx := hx_b2.below hbB2
    have hbx := cell_below hbx_b2 hbB2
    have hx4 := hx4_b2.below hbB2
    have ho := ho_b2.below hbB2
    have hx5 := hx5_b2.below hbB2
    have hu := hu_b2.below hbB2
    have hcu := cell_below hcu_b2 hbB2
    have shr := hr.sv
    refine know (t := 1) f1 ?_; refine know (t := 2) f2 ?_; refine know (t := 4) f4 ?_; refine know (t := 5) f5 ?_; refine know (t := 6) f6 ?_; refine know (t := 7) f7 ?_; refine know (t := 8) f8 ?_
    refine go ?_
    refine s_call1 (wn rfl) rfl rfl (l02Greatest_any _ _ _ hx (fun x h => by have := hmem x h; omega)) ?_
    rintro _ _ ⟨rfl, rfl⟩
    rw [hgre]
    refine go ?_
    refine cond_dec rfl (fun hlt2 => ?_) (fun hge2 => ?_)
    · obtain ⟨x, hx0, _, hxn, hxe⟩ := hL.hit t (by omega) (by omega)
      obtain ⟨i0, i1, i2⟩ := idxOf_mem (xs := labs (nf ms) aa) (a := (t : Int)) (by rw [← hxe]; exact gi_mem hx0 (by omega))
      have hyy := hm.syst.at (j := (i : Int)) (x := idxOf (labs (nf ms) aa) t) (by omega) (by omega) (by omega)
      have sx := hx.sv
      refine go ?_
      refine region_hS (fun w' => Below w5.heap.size w5 w') mixed (fun w8 hb8 => ?_)
      have sw8 := hb8.size
      replace hv := hv.below hb8
      replace hx := hx.below hb8
      replace hbx := cell_below hbx hb8
      replace hx4 := hx4.below hb8
      replace ho := ho.below hb8
      replace hx5 := hx5.below hb8
      replace hu := hu.below hb8
      replace hcu := cell_below hcu hb8
      replace hr := hr.below hb8
      replace hbB2 := hbB2.trans (hb8.mono hbB2.size)
      refine h_p 0 hbB2 ?_
      refine h_p 1 hbB2 ?_
      refine h_p 2 hbB2 ?_
      refine h_p 3 hbB2 ?_
      refine h_p 4 hbB2 ?_
      refine h_p 5 hbB2 ?_
      refine h_p 6 hbB2 ?_
      refine h_p 7 hbB2 ?_
      refine h_p 8 hbB2 ?_
      refine h_one 9 ?_
      refine s_call2 (wn rfl) rfl rfl rfl (l01Index_any _ _ (t : Int) _ hx) ?_
      rintro _ _ ⟨rfl, rfl⟩
      refine w_nil ?_
      refine h_on ⟨hbB2, ?_⟩
      refine h_p 10 hbB2 ?_
      refine h_p 11 hbB2 ?_
      refine h_p 12 hbB2 ?_
      refine h_p 13 hbB2 ?_
      refine h_one 14 ?_
      have szq9 := hbB2.size
      refine s_build1 (B := w5.heap.size) (wn rfl) rfl rfl szq9 (fun tb w9 ht st hg9 _ => ?_)
      have hb9 := below_of_grownBy hg9
      have sw9 := hb9.size
      replace hv := hv.below hb9
      replace hx := hx.below hb9
      replace hbx := cell_below hbx hb9
      replace hx4 := hx4.below hb9
      replace ho := ho.below hb9
      replace hx5 := hx5.below hb9
      replace hu := hu.below hb9
      replace hcu := cell_below hcu hb9
      replace hr := hr.below hb9
      replace hbB2 := hbB2.trans (hb9.mono hbB2.size)
      have szq10 := hbB2.size
      refine w_nil ?_
      refine h_on ⟨hbB2, ?_⟩
      refine h_one 15 ?_
      refine s_appendI (wn rfl) rfl rfl rfl hr ht.il (by simp; omega) szq10 (fun rb' w10 hoN so hgN _ => ?_)
      replace hbB2 := hbB2.trans (hr.below_of hgN szq10)
      have sw10 := hgN.size
      replace hr := hoN
      clear hoN
      replace hv := hv_b2.below hbB2
      replace hx := hx_b2.below hbB2
      replace hbx := cell_below hbx_b2 hbB2
      replace hx4 := hx4_b2.below hbB2
      replace ho := ho_b2.below hbB2
      replace hx5 := hx5_b2.below hbB2
      replace hu := hu_b2.below hbB2
      replace hcu := cell_below hcu_b2 hbB2
      refine w_nil ?_
      refine h_on ⟨hbB2, ?_⟩
      refine h_p 16 hbB2 ?_
      refine h_nil ?_
      refine go ?_
      refine ⟨(labc (nf ms) aa).toNat - (t + 1), by omega, t + 1, rb', rfl, by omega, rfl, rfl, rfl, rfl, rfl, rfl, rfl, by simpa [List.range_succ] using hr, hbB2⟩
    obtain rfl : t = (labc (nf ms) aa).toNat := by omega
    replace hbB1 := hbB1.trans (hbB2.mono hbB1.size)
    have hrr : (List.range (labc (nf ms) aa).toNat).map (fun o : Nat => gi (labs (nf ms) aa) (gi (gr ms i) (idxOf (labs (nf ms) aa) o))) = symRow (labs (nf ms) aa) (labc (nf ms) aa).toNat (gr ms i) := rfl
    rw [hrr] at hr
    have hc_hx5 := hx5.cell
    refine go ?_
    have szq11 := hbB1.size
    refine s_build1V (B := w2.heap.size) (wn rfl) rfl rfl hr.sv.one szq11 (fun tb w11 ht st hg11 _ => ?_)
    have hb11 := below_of_grownBy hg11
    have sw11 := hb11.size
    replace hv := hv.below hb11
    replace hx := hx.below hb11
    replace hbx := cell_below hbx hb11
    replace hx4 := hx4.below hb11
    replace ho := ho.below hb11
    replace hx5 := hx5.below hb11
    replace hu := hu.below hb11
    replace hcu := cell_below hcu hb11
    replace hr := hr.below hb11
    replace hc_hx5 := cell_below hc_hx5 hb11
    replace hbB1 := hbB1.trans (hb11.mono hbB1.size)
    have szq12 := hbB1.size
    refine s_appendM (wn rfl) rfl rfl rfl ho ht.rd hr (by omega) (by decide) (by simp; omega) (by omega) (fun ob' w12 hoN so hgN => ?_)
    have sw12 := hgN.size
    replace hbB1 := hbB1.trans ((ho.below_of hgN (by omega)).mono (by omega))
    replace hx5 := hx5.kept hgN (by intro e; have := (ho.ownlt _ e).1; omega)
    replace ho := hoN
    clear hoN
    replace hv := hv_b1.below hbB1
    replace hx := hx_b1.below hbB1
    replace hbx := cell_below hbx_b1 hbB1
    replace hx4 := hx4_b1.below hbB1
    refine go ?_
    refine s_storeFld (wn rfl) rfl rfl so.one hx5 (fun w13 hxN hgN => ?_)
    have sw13 := hgN.size
    replace hbB1 := hbB1.trans (hx5.below_of hgN (by omega))
    replace ho := (ho.kept hgN (by omega)).top
    replace hx5 := hxN
    clear hxN
    replace hv := hv_b1.below hbB1
    replace hx := hx_b1.below hbB1
    replace hbx := cell_below hbx_b1 hbB1
    replace hx4 := hx4_b1.below hbB1
    refine go ?_
    refine ⟨ms.length - (i + 1), by omega, i + 1, ob', rfl, by omega, rfl, rfl, rfl, rfl, rfl, hx5, by rw [map_takeQ (by omega)]; exact ho, by omega, hbB1⟩
  obtain rfl : i = ms.length := by omega
  rw [List.take_length] at ho
  have hcx := hx5.cell
  have hx := ho
  refine go ?_
  have hbY := (hb.trans (hbB1.mono hb.size))
  refine go ?_
  refine s_storeBox (wn rfl) rfl rfl hx.sv.one hx4 (fun w14 hxz hgz => ?_)
  have hbz := hbY.trans (hx4.below_of hgz hbY.size)
  have hxN := hx.kept hgz (by omega)
  refine go ?_
  exact end_cell Try.results35 rfl hxz.cell ⟨ob, rfl, (hxN.mono (by omega)).top, hbz⟩

end Go.Proofs.Ytlfomllgmdahfaa
