/- Contracts: mixes, the reference's side: MixPairs, MixAt. -/
import Derived.Test.YtmdimdbfgibflaaF57
namespace Go.Proofs.Ytmdimdbfgibflaa
open Go.Mem Go.RowKit
set_option linter.unusedVariables false
set_option linter.unusedSimpArgs false
set_option maxHeartbeats 8000000 in
set_option maxRecDepth 100000 in
theorem specMixAt_any (v : Value) (v2 : Value) (ms : List (List Int)) (f : Int) (ks : List (List Int)) (g : Int) (w : World) (hv : RL w v ms) (hv2 : RL w v2 ks) :
    Ret Try.prog 45 #[.agg #[v], .int .i64 f, .agg #[v2], .int .i64 g] w fun r w' => ∃ x, r = .tuple #[.agg #[x], .int .i64 (mixC ms ks f g)] ∧ OM w' w.heap.size w'.heap.size 34 2 x (mixL ms ks f g) ∧ Below w.heap.size w w' := by
  have shv := hv.sv
  have shv2 := hv2.sv
  have hb := Below.refl w.heap.size w
  refine enter4 87 Try.func45 rfl Try.ntmps45 rfl (fun fr => ?_)
  refine go ?_
  refine s_box (wn rfl) rfl rfl (agg_cells shv) (fun w1 hbx _ hp hg => ?_)
  have hb1 := below_of_grownBy hg
  have sw1 := hb1.size
  replace hv := hv.below hb1
  replace hv2 := hv2.below hb1
  replace hb := hb.trans (hb1.mono hb.size)
  clear hg hp hb1
  generalize (⟨w.heap.size, 0, none⟩ : Addr) = p at *
  refine go ?_
  refine s_box (wn rfl) rfl rfl (agg_cells shv2) (fun w2 hbx2 _ hp hg => ?_)
  have hb2 := below_of_grownBy hg
  have sw2 := hb2.size
  replace hv := hv.below hb2
  replace hv2 := hv2.below hb2
  replace hbx := cell_below hbx hb2
  replace hb := hb.trans (hb2.mono hb.size)
  clear hg hp hb2
  generalize (⟨w1.heap.size, 0, none⟩ : Addr) = p2 at *
  have sz0 := hb.size
  refine go ?_
  refine s_alloc (B := w.heap.size) (wn rfl) rfl (by first | exact Nat.le_refl _ | omega) (fun w3 p8 hx8 hg3 hpp8 => ?_)
  have hb3 := below_of_grownBy hg3
  have sw3 := hb3.size
  replace hv := hv.below hb3
  replace hv2 := hv2.below hb3
  replace hbx := cell_below hbx hb3
  replace hbx2 := cell_below hbx2 hb3
  replace hb := hb.trans (hb3.mono hb.size)
  have hlt_hx8 := hx8.lt
  have sz1 := hb.size
  refine go ?_
  refine s_call4 (wn rfl) rfl rfl rfl rfl rfl (l08Code_any _ _ _ _ _ _ _ hv hv2) ?_
  rintro _ w4 ⟨pb, rfl, hp, hb4⟩
  have sw4 := hb4.size
  replace hv := hv.below hb4
  replace hv2 := hv2.below hb4
  replace hbx := cell_below hbx hb4
  replace hbx2 := cell_below hbx2 hb4
  replace hx8 := hx8.below hb4
  replace hb := hb.trans (hb4.mono hb.size)
  have sp := hp.sv
  refine go ?_
  by_cases hc : mixC ms ks f g = 0
  rotate_left
  · have e := mix_0 (rfl : mixC ms ks f g = _) hc
    have hc' : mixC ms ks f g ≠ 0 := hc
    have hbY := hb
    refine go ?_
    refine s_p (wn rfl) rfl y_bld0 ?_
    refine go ?_
    refine s_storeBox (wn rfl) rfl rfl rfl hx8 (fun w5 hxz hgz => ?_)
    have hbz := hbY.trans (hx8.below_of hgz hbY.size)
    refine go ?_
    exact end_cellT Try.results45 rfl rfl hxz.cell ⟨_, rfl, by rw [e.1]; exact OM.nil _ _ _ _ _, hbz⟩
  have hc' : ¬ (mixC ms ks f g ≠ 0) := fun h => h hc
  obtain ⟨hm, hk, hf, hg, hl, hlen⟩ := mixC_0 hc
  have e := mix_5 hm hk hf hg hl hlen
  rw [mixR_yes hc] at hp sp
  have hrng := mixO_rng hm hk hl hf hg
  have r5 := hm.m0.r5
  have r1 := hm.m0.r1
  have f4 := hm.m0.f400
  have k1 := hk.m0.r1
  have g4 := hk.m0.f400
  have g2 := hk.m0.f2
  have f2 := hm.m0.f2
  have hN := Nat.mul_le_mul hm.m0.f400 hk.m0.f400
  have hcast : ((nf ms * nf ks : Nat) : Int) = (nf ms : Int) * nf ks := Int.natCast_mul _ _
  have hmn : 0 ≤ (nf ms : Int) * nf ks ∧ (nf ms : Int) * nf ks ≤ 160000 := by omega
  refine go ?_
  refine s_p (wn rfl) rfl y_bld0 ?_
  refine go ?_
  refine s_call1 (wn rfl) rfl rfl (l02Flags_any _ _ _ hv2 k1) ?_
  rintro _ w6 ⟨rfl, hb6⟩
  have sw6 := hb6.size
  replace hv := hv.below hb6
  replace hv2 := hv2.below hb6
  replace hbx := cell_below hbx hb6
  replace hbx2 := cell_below hbx2 hb6
  replace hx8 := hx8.below hb6
  replace hp := hp.below hb6
  replace hb := hb.trans (hb6.mono hb.size)
  have sbs1 := hb.size
  have hv_b1 := hv
  have hv2_b1 := hv2
  have hbx_b1 := hbx
  have hbx2_b1 := hbx2
  have hx8_b1 := hx8
  have hp_b1 := hp
  have hbB1 := Below.refl w6.heap.size w6
  refine go ?_
  refine s_alloc (B := w6.heap.size) (wn rfl) rfl (by first | exact Nat.le_refl _ | omega) (fun w7 p5 hx5 hg7 hpp5 => ?_)
  have hb7 := below_of_grownBy hg7
  have sw7 := hb7.size
  replace hv := hv.below hb7
  replace hv2 := hv2.below hb7
  replace hbx := cell_below hbx hb7
  replace hbx2 := cell_below hbx2 hb7
  replace hx8 := hx8.below hb7
  replace hp := hp.below hb7
  replace hbB1 := hbB1.trans (hb7.mono hbB1.size)
  have hlt_hx5 := hx5.lt
  refine go ?_
  refine s_storeBox (wn rfl) rfl rfl rfl hx5 (fun w8 hxN hgN => ?_)
  replace hbB1 := hbB1.trans (hx5.below_of hgN hbB1.size)
  have sw8 := hgN.size
  replace hx5 := hxN
  replace hv := hv_b1.below hbB1
  replace hv2 := hv2_b1.below hbB1
  replace hbx := cell_below hbx_b1 hbB1
  replace hbx2 := cell_below hbx2_b1 hbB1
  replace hx8 := hx8_b1.below hbB1
  replace hp := hp_b1.below hbB1
  refine go ?_
  refine w_loop (fun kk fr w' => ∃ (i : Nat) (ob : Value), kk = ms.length - i ∧ i ≤ ms.length ∧ fr 4 = .pointer (some p) ∧ fr 6 = .pointer (some p2) ∧ fr 8 = .pointer (some p8) ∧ fr 10 = pb ∧ fr 12 = .pointer (some p5) ∧ fr 13 = .int .i64 (nf ks) ∧ fr 14 = .int .i64 i ∧ (Bx w' w6.heap.size p5 26 ob) ∧ (OM w' w8.heap.size w'.heap.size 34 2 ob ((List.range i).map (fun j : Nat => (mixO ms ks f g).map fun c => idxOf (mixO ms ks f g) (gi (gr (prodM ms ks) j) c)))) ∧ (w8.heap.size ≤ w'.heap.size) ∧ Below w6.heap.size w6 w') (ms.length)
    ⟨0, _, rfl, Nat.zero_le _, rfl, rfl, rfl, rfl, rfl, rfl, rfl, hx5, OM.nil _ _ _ _ _, Nat.le_refl _, hbB1⟩ ?_
  rintro kk fr w9 ⟨i, ob, rfl, hi, f4, f6, f8, f10, f12, f13, f14, hx5, ho, hge5, hbB1⟩
  have sw9 := hbB1.size
  have hv := hv_b1.below hbB1
  have hv2 := hv2_b1.below hbB1
  have hbx := cell_below hbx_b1 hbB1
  have hbx2 := cell_below hbx2_b1 hbB1
  have hx8 := hx8_b1.below hbB1
  have hp := hp_b1.below hbB1
  have sho := ho.sv
  refine know (t := 4) f4 ?_; refine know (t := 6) f6 ?_; refine know (t := 8) f8 ?_; refine know (t := 10) f10 ?_; refine know (t := 12) f12 ?_; refine know (t := 13) f13 ?_; refine know (t := 14) f14 ?_
  refine go ?_
  refine cond_dec rfl (fun hlt => ?_) (fun hge => ?_)
  · have hrl1 := (hm.syst.row (j := (i : Int)) (by omega) (by omega)).1
    have hrl2 := (hk.syst.row (j := (i : Int)) (by omega) (by omega)).1
    have sbs2 := hbB1.size
    have hv_b2 := hv
    have hv2_b2 := hv2
    have hbx_b2 := hbx
    have hbx2_b2 := hbx2
    have hx8_b2 := hx8
    have hp_b2 := hp
    have ho_b2 := ho
    have hx5_b2 := hx5
    have hbB2 := Below.refl w9.heap.size w9
    obtain ⟨u, hu_b2, hcu_b2⟩ := hv_b2.row (j := (i : Int)) (by omega) hlt
    have su := hu_b2.sv
    rw [hrl1] at su
    obtain ⟨u2, hu2_b2, hcu2_b2⟩ := hv2_b2.row (j := (i : Int)) (by omega) (by omega)
    have su2 := hu2_b2.sv
    rw [hrl2] at su2
    have hu := hu_b2.below hbB2
    have hcu := cell_below hcu_b2 hbB2
    have hu2 := hu2_b2.below hbB2
    have hcu2 := cell_below hcu2_b2 hbB2
    refine go ?_
    have szq10 := hbB2.size
    refine s_build0 (B := w9.heap.size) (wn rfl) rfl szq10 (fun rb w10 hr so hg10 _ => ?_)
    have hb10 := below_of_grownBy hg10
    have sw10 := hb10.size
    replace hv := hv.below hb10
    replace hv2 := hv2.below hb10
    replace hbx := cell_below hbx hb10
    replace hbx2 := cell_below hbx2 hb10
    replace hx8 := hx8.below hb10
    replace hp := hp.below hb10
    replace ho := ho.below hb10
    replace hx5 := hx5.below hb10
    replace hu := hu.below hb10
    replace hcu := cell_below hcu hb10
    replace hu2 := hu2.below hb10
    replace hcu2 := cell_below hcu2 hb10
    replace hbB2 := hbB2.trans (hb10.mono hbB2.size)
    refine go ?_
    refine w_loop (fun kk fr w' => ∃ (q : Nat) (rb : Value), kk = (mixO ms ks f g).length - q ∧ q ≤ (mixO ms ks f g).length ∧ fr 4 = .pointer (some p) ∧ fr 6 = .pointer (some p2) ∧ fr 8 = .pointer (some p8) ∧ fr 10 = pb ∧ fr 12 = .pointer (some p5) ∧ fr 13 = .int .i64 (nf ks) ∧ fr 14 = .int .i64 i ∧ fr 15 = rb ∧ fr 16 = .int .i64 q ∧ (OI w' w9.heap.size 2 rb (((mixO ms ks f g).take q).map fun c => idxOf (mixO ms ks f g) (gi (gr (prodM ms ks) i) c))) ∧ Below w9.heap.size w9 w') ((mixO ms ks f g).length)
      ⟨0, rb, rfl, Nat.zero_le _, rfl, rfl, rfl, rfl, rfl, rfl, rfl, rfl, rfl, hr, hbB2⟩ ?_
    rintro kk fr w11 ⟨q, rb, rfl, hq, f4, f6, f8, f10, f12, f13, f14, f15, f16, hr, hbB2⟩
    have sw11 := hbB2.size
    have hv := hv_b2.below hbB2
    have hv2 := hv2_b2.below hbB2
    have hbx := cell_below hbx_b2 hbB2
    have hbx2 := cell_below hbx2_b2 hbB2
    have hx8 := hx8_b2.below hbB2
    have hp := hp_b2.below hbB2
    have ho := ho_b2.below hbB2
    have hx5 := hx5_b2.below hbB2
    have hu := hu_b2.below hbB2
    have hcu := cell_below hcu_b2 hbB2
    have hu2 := hu2_b2.below hbB2
    have hcu2 := cell_below hcu2_b2 hbB2
    have shr := hr.sv
    refine know (t := 4) f4 ?_; refine know (t := 6) f6 ?_; refine know (t := 8) f8 ?_; refine know (t := 10) f10 ?_; refine know (t := 12) f12 ?_; refine know (t := 13) f13 ?_; refine know (t := 14) f14 ?_; refine know (t := 15) f15 ?_; refine know (t := 16) f16 ?_
    refine go ?_
    refine cond_dec rfl (fun hlt2 => ?_) (fun hge2 => ?_)
    · have hx := hrng _ (gi_in (xs := (mixO ms ks f g)) (j := q) (by omega))
      obtain ⟨d1, d2, d3⟩ := code_of hx
      obtain ⟨m1, m2⟩ := prodM_at hm hk hl (j := i) (by omega) hx
      have hc2 := code_lt m1 m2
      have e2 : gi (gr (prodM ms ks) i) (gi (mixO ms ks f g) q) = gi (gr ms i) (gi (mixO ms ks f g) q / nf ks) * nf ks + gi (gr ks i) (gi (mixO ms ks f g) q % nf ks) := gi_prodM (by omega) hx
      have hmul : 0 ≤ gi (gr ms i) (gi (mixO ms ks f g) q / nf ks) * (nf ks : Int) ∧ gi (gr ms i) (gi (mixO ms ks f g) q / nf ks) * (nf ks : Int) ≤ 160000 := by
        have := code_lt (n := nf ks) m1 (b := 0) (by omega)
        omega
      refine go ?_
      refine region_hS (fun w' => Below w9.heap.size w9 w') mixed (fun w12 hb12 => ?_)
      have sw12 := hb12.size
      replace hv := hv.below hb12
      replace hv2 := hv2.below hb12
      replace hbx := cell_below hbx hb12
      replace hbx2 := cell_below hbx2 hb12
      replace hx8 := hx8.below hb12
      replace hp := hp.below hb12
      replace ho := ho.below hb12
      replace hx5 := hx5.below hb12
      replace hu := hu.below hb12
      replace hcu := cell_below hcu hb12
      replace hu2 := hu2.below hb12
      replace hcu2 := cell_below hcu2 hb12
      replace hr := hr.below hb12
      replace hbB2 := hbB2.trans (hb12.mono hbB2.size)
      refine h_p 0 hbB2 ?_
      refine h_p 1 hbB2 ?_
      refine h_p 2 hbB2 ?_
      refine h_p 3 hbB2 ?_
      refine h_p 4 hbB2 ?_
      refine h_p 5 hbB2 ?_
      refine h_p 6 hbB2 ?_
      refine h_p 7 hbB2 ?_
      refine h_p 8 hbB2 ?_
      refine h_p 9 hbB2 ?_
      refine h_p 10 hbB2 ?_
      refine h_p 11 hbB2 ?_
      refine h_p 12 hbB2 ?_
      refine h_p 13 hbB2 ?_
      refine h_p 14 hbB2 ?_
      refine h_p 15 hbB2 ?_
      refine h_p 16 hbB2 ?_ (hrun := fun _ _ => y_mul rfl rfl (by omega))
      refine h_p 17 hbB2 ?_
      refine h_p 18 hbB2 ?_
      refine h_p 19 hbB2 ?_
      refine h_p 20 hbB2 ?_
      refine h_p 21 hbB2 ?_
      refine h_p 22 hbB2 ?_
      refine h_p 23 hbB2 ?_
      refine h_p 24 hbB2 ?_
      refine h_p 25 hbB2 ?_
      refine h_p 26 hbB2 ?_
      refine h_p 27 hbB2 ?_
      refine h_p 28 hbB2 ?_
      refine h_p 29 hbB2 ?_
      refine h_p 30 hbB2 ?_
      refine h_one 31 ?_
      refine s_call2 (wn rfl) rfl rfl rfl (l01Index_any _ _ _ _ hp.il) ?_
      rintro _ _ ⟨rfl, rfl⟩
      refine w_nil ?_
      refine h_on ⟨hbB2, ?_⟩
      refine h_one 32 ?_
      have szq13 := hbB2.size
      refine s_build1 (B := w9.heap.size) (wn rfl) rfl rfl szq13 (fun tb w13 ht st hg13 _ => ?_)
      have hb13 := below_of_grownBy hg13
      have sw13 := hb13.size
      replace hv := hv.below hb13
      replace hv2 := hv2.below hb13
      replace hbx := cell_below hbx hb13
      replace hbx2 := cell_below hbx2 hb13
      replace hx8 := hx8.below hb13
      replace hp := hp.below hb13
      replace ho := ho.below hb13
      replace hx5 := hx5.below hb13
      replace hu := hu.below hb13
      replace hcu := cell_below hcu hb13
      replace hu2 := hu2.below hb13
      replace hcu2 := cell_below hcu2 hb13
      replace hr := hr.below hb13
      replace hbB2 := hbB2.trans (hb13.mono hbB2.size)
      have szq14 := hbB2.size
      refine w_nil ?_
      refine h_on ⟨hbB2, ?_⟩
      refine h_one 33 ?_
      refine s_appendI (wn rfl) rfl rfl rfl hr ht.il (by simp; omega) szq14 (fun rb' w14 hoN so hgN _ => ?_)
      replace hbB2 := hbB2.trans (hr.below_of hgN szq14)
      have sw14 := hgN.size
      replace hr := hoN
      clear hoN
      replace hv := hv_b2.below hbB2
      replace hv2 := hv2_b2.below hbB2
      replace hbx := cell_below hbx_b2 hbB2
      replace hbx2 := cell_below hbx2_b2 hbB2
      replace hx8 := hx8_b2.below hbB2
      replace hp := hp_b2.below hbB2
      replace ho := ho_b2.below hbB2
      replace hx5 := hx5_b2.below hbB2
      replace hu := hu_b2.below hbB2
      replace hcu := cell_below hcu_b2 hbB2
      replace hu2 := hu2_b2.below hbB2
      replace hcu2 := cell_below hcu2_b2 hbB2
      refine w_nil ?_
      refine h_on ⟨hbB2, ?_⟩
      refine h_p 34 hbB2 ?_
      refine h_nil ?_
      refine go ?_
      refine ⟨(mixO ms ks f g).length - (q + 1), by omega, q + 1, rb', rfl, by omega, rfl, rfl, rfl, rfl, rfl, rfl, rfl, rfl, rfl, by rw [take_gi (by omega), List.map_append, List.map_singleton, e2]; exact hr, hbB2⟩
    obtain rfl : q = (mixO ms ks f g).length := by omega
    replace hbB1 := hbB1.trans (hbB2.mono hbB1.size)
    rw [List.take_length] at hr
    have hc_hx5 := hx5.cell
    refine go ?_
    have szq15 := hbB1.size
    refine s_build1V (B := w6.heap.size) (wn rfl) rfl rfl hr.sv.one szq15 (fun tb w15 ht st hg15 _ => ?_)
    have hb15 := below_of_grownBy hg15
    have sw15 := hb15.size
    replace hv := hv.below hb15
    replace hv2 := hv2.below hb15
    replace hbx := cell_below hbx hb15
    replace hbx2 := cell_below hbx2 hb15
    replace hx8 := hx8.below hb15
    replace hp := hp.below hb15
    replace ho := ho.below hb15
    replace hx5 := hx5.below hb15
    replace hu := hu.below hb15
    replace hcu := cell_below hcu hb15
    replace hu2 := hu2.below hb15
    replace hcu2 := cell_below hcu2 hb15
    replace hr := hr.below hb15
    replace hc_hx5 := cell_below hc_hx5 hb15
    replace hbB1 := hbB1.trans (hb15.mono hbB1.size)
    have szq16 := hbB1.size
    refine s_appendM (wn rfl) rfl rfl rfl ho ht.rd hr (by omega) (by decide) (by simp; omega) (by omega) (fun ob' w16 hoN so hgN => ?_)
    have sw16 := hgN.size
    replace hbB1 := hbB1.trans ((ho.below_of hgN (by omega)).mono (by omega))
    replace hx5 := hx5.kept hgN (by intro e; have := (ho.ownlt _ e).1; omega)
    replace ho := hoN
    clear hoN
    replace hv := hv_b1.below hbB1
    replace hv2 := hv2_b1.below hbB1
    replace hbx := cell_below hbx_b1 hbB1
    replace hbx2 := cell_below hbx2_b1 hbB1
    replace hx8 := hx8_b1.below hbB1
    replace hp := hp_b1.below hbB1
    refine go ?_
    refine s_storeFld (wn rfl) rfl rfl so.one hx5 (fun w17 hxN hgN => ?_)
    have sw17 := hgN.size
    replace hbB1 := hbB1.trans (hx5.below_of hgN (by omega))
    replace ho := (ho.kept hgN (by omega)).top
    replace hx5 := hxN
    clear hxN
    replace hv := hv_b1.below hbB1
    replace hv2 := hv2_b1.below hbB1
    replace hbx := cell_below hbx_b1 hbB1
    replace hbx2 := cell_below hbx2_b1 hbB1
    replace hx8 := hx8_b1.below hbB1
    replace hp := hp_b1.below hbB1
    refine go ?_
    refine ⟨ms.length - (i + 1), by omega, i + 1, ob', rfl, by omega, rfl, rfl, rfl, rfl, rfl, rfl, rfl, hx5, by rw [List.range_succ, List.map_append]; exact ho, by omega, hbB1⟩
  obtain rfl : i = ms.length := by omega
  have hcx := hx5.cell
  have hx := ho
  refine go ?_
  have hbY := (hb.trans (hbB1.mono hb.size))
  refine go ?_
  refine s_storeBox (wn rfl) rfl rfl hx.sv.one hx8 (fun w18 hxz hgz => ?_)
  have hbz := hbY.trans (hx8.below_of hgz hbY.size)
  have hxN := hx.kept hgz (by omega)
  refine go ?_
  exact end_cellT Try.results45 rfl rfl hxz.cell ⟨ob, by rw [hc], by rw [e.1]; exact (hxN.mono (by omega)).top, hbz⟩

end Go.Proofs.Ytmdimdbfgibflaa
