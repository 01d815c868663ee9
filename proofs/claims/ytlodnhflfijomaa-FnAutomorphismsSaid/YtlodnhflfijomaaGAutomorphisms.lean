/- The general law of AutomorphismsOf, for every code: its walk and its row. No conditions. -/
import Derived.Test.YtlodnhflfijomaaF65
import Derived.Test.YtlodnhflfijomaaF11
import Derived.Test.YtlodnhflfijomaaFD
import Derived.Test.YtlodnhflfijomaaP29
import Derived.Test.YtlodnhflfijomaaRA
import Derived.WalkKit
import Derived.ShutString
namespace Go.Proofs.Ytlodnhflfijomaa
open Go.Mem Go.ChangeShapes Go.WideShapes Go.ChangeAt Go.RowKit
set_option linter.unusedVariables false
set_option linter.unusedSimpArgs false

set_option maxHeartbeats 16000000 in
set_option maxRecDepth 100000 in
theorem lawAutomorphisms_any (c : Value) (bs : List Int) (w : World) (hcl : CL w c bs) :
    Ret Try.prog 6 #[c] w fun r w' => r = .bool true ∧ Below w.heap.size w w' := by
  have shcl := hcl.sv
  have hb := Below.refl w.heap.size w
  refine enter1 224 Try.func6 rfl Try.ntmps6 rfl (fun fr => ?_)
  refine go ?_
  refine s_call1 (wn rfl) rfl rfl (big_any _ _ _ hcl) ?_
  rintro _ _ ⟨rfl, rfl⟩
  refine go ?_
  refine cond_dec rfl (fun hbig => ?_) (fun hbig => ?_)
  · refine go ?_
    exact end_one Try.results6 rfl ⟨rfl, hb⟩
  refine go ?_
  refine s_call1 (wn rfl) rfl rfl (DrawAutomorphismsOf_any _ _ _ hcl) ?_
  rintro _ w1 ⟨x, ms, rfl, hv, hb1⟩
  have sw1 := hb1.size
  replace hcl := hcl.below hb1
  replace hb := hb.trans (hb1.mono hb.size)
  have shv := hv.sv
  refine go ?_
  refine s_alloc (B := w1.heap.size) (wn rfl) rfl (Nat.le_refl _) (fun w2 p3 hx3 hg2 hpp3 => ?_)
  have hb2 := below_of_grownBy hg2
  refine go ?_
  refine s_storeBox (wn rfl) rfl rfl shv.one hx3 (fun w3 hx3b hg3 => ?_)
  have hbq3 := hb2.trans (hx3.below_of hg3 hb2.size)
  have sw3 := hbq3.size
  replace hcl := hcl.below hbq3
  replace hv := hv.below hbq3
  replace hb := hb.trans (hbq3.mono hb.size)
  have hc3 := hx3b.cell
  refine go ?_
  refine s_call1 (wn rfl) rfl rfl (implAutomorphismsOf_any _ _ _ hv) ?_
  rintro _ w4 ⟨lx, rfl, hA, hb4⟩
  have sw4 := hb4.size
  replace hcl := hcl.below hb4
  replace hv := hv.below hb4
  replace hc3 := cell_below hc3 hb4
  replace hb := hb.trans (hb4.mono hb.size)
  refine go ?_
  refine s_call1 (wn rfl) rfl rfl (specAutomorphismsOf_any _ _ _ hv) ?_
  rintro _ w5 ⟨ly, rfl, hA2, hb5⟩
  have sw5 := hb5.size
  replace hcl := hcl.below hb5
  replace hv := hv.below hb5
  replace hc3 := cell_below hc3 hb5
  replace hA := hA.below hb5
  replace hb := hb.trans (hb5.mono hb.size)
  have hn1 : ¬ (manC ms ≠ manC ms) := fun h => h rfl
  have he1 : decide (autAll ms = autAll ms) = true := decide_eq_true rfl
  refine go ?_
  refine s_call2 (wy rfl rfl rfl rfl rfl known) rfl rfl rfl (likeRows5_any _ _ _ _ _ hA.rl hA2.rl) ?_
  rintro _ w6 ⟨rfl, hb6⟩
  have sw6 := hb6.size
  replace hcl := hcl.below hb6
  replace hv := hv.below hb6
  replace hc3 := cell_below hc3 hb6
  replace hA := hA.below hb6
  replace hA2 := hA2.below hb6
  replace hb := hb.trans (hb6.mono hb.size)
  refine go ?_
  refine cond_dec rfl (fun hne => ?_) (fun hne => ?_)
  · refine go ?_
    exact end_one Try.results6 rfl ⟨rfl, hb⟩
  have hm : IsMan ms := Classical.byContradiction fun h => hne (by rw [manC_no h]; decide)
  have r5 := hm.m0.r5
  have r1 := hm.m0.r1
  have f4 := hm.m0.f400
  have f2 := hm.m0.f2
  have hsym := auts_sym hm
  have hL := labs_all hsym (by omega)
  have hll := hL.len
  have hc0 := hL.c0
  have hap := auts_pos hm
  have hale := auts_le hm
  have hgl := gre_labs hsym (by omega)
  have htim := aut_times hm
  have hlr : ∀ y : Int, 0 ≤ y → y < nf ms → 0 ≤ gi (labs (nf ms) (auts ms)) y ∧ gi (labs (nf ms) (auts ms)) y < labc (nf ms) (auts ms) := fun y h0 h1 => ⟨hL.done y h0 h1 h1, (hL.rng y h0 h1).2⟩
  have hgle : ∀ i : Nat, 0 ≤ gre ((labs (nf ms) (auts ms)).take i) ∧ gre ((labs (nf ms) (auts ms)).take i) ≤ labc (nf ms) (auts ms) := fun i => gre_le hc0.1 (fun x hx => by
    obtain ⟨j, hj, rfl⟩ := in_gi (List.mem_of_mem_take hx)
    exact (hlr j (by omega) (by omega)).2)
  have ea : autAll ms = auts ms := autAll_yes hm
  rw [ea] at hA
  have sA := hA.sv
  clear ea
  refine go ?_
  refine s_call1 (wn rfl) rfl rfl (implCountAutomorphisms_any _ _ _ hv) ?_
  rintro _ w7 ⟨rfl, hb7⟩
  have sw7 := hb7.size
  replace hcl := hcl.below hb7
  replace hv := hv.below hb7
  replace hc3 := cell_below hc3 hb7
  replace hA := hA.below hb7
  replace hb := hb.trans (hb7.mono hb.size)
  have ec : cntAut ms = (auts ms).length ∧ manCode ms = 0 := ⟨if_pos hm, if_pos hm⟩
  rw [ec.1, ec.2]
  refine go ?_
  refine s_call1 (wn rfl) rfl rfl (implFlagOrbits_any _ _ _ hv) ?_
  rintro _ w8 ⟨ol, rfl, hl, hb8⟩
  have sw8 := hb8.size
  replace hcl := hcl.below hb8
  replace hv := hv.below hb8
  replace hc3 := cell_below hc3 hb8
  replace hA := hA.below hb8
  replace hb := hb.trans (hb8.mono hb.size)
  rw [manC_yes hm]
  rw [flagOrb_yes hm] at hl
  have sl := hl.sv
  rw [hll] at sl
  refine go ?_
  refine s_call1 (wn rfl) rfl rfl (implIsRegular_any _ _ _ hv) ?_
  rintro _ w9 ⟨rfl, hb9⟩
  have sw9 := hb9.size
  replace hcl := hcl.below hb9
  replace hv := hv.below hb9
  replace hc3 := cell_below hc3 hb9
  replace hA := hA.below hb9
  replace hl := hl.below hb9
  replace hb := hb.trans (hb9.mono hb.size)
  rw [manC_yes hm, isReg_yes hm]
  refine go ?_
  refine s_call1 (wn rfl) rfl rfl (implIsChiral_any _ _ _ hv) ?_
  rintro _ w10 ⟨rfl, hb10⟩
  have sw10 := hb10.size
  replace hcl := hcl.below hb10
  replace hv := hv.below hb10
  replace hc3 := cell_below hc3 hb10
  replace hA := hA.below hb10
  replace hl := hl.below hb10
  replace hb := hb.trans (hb10.mono hb.size)
  rw [manC_yes hm]
  have k1 : ¬ (((auts ms).length : Int) ≠ (auts ms).length) := fun h => h rfl
  have k2 : ¬ ((nf ms : Int) ≠ nf ms) := fun h => h rfl
  have k3 : ¬ (((auts ms).length : Int) = 0) := by omega
  refine go ?_
  refine s_call1 (wy rfl rfl rfl rfl rfl known) rfl rfl (flags5_any _ _ _ hv r1) ?_
  rintro _ w11 ⟨rfl, hb11⟩
  have sw11 := hb11.size
  replace hcl := hcl.below hb11
  replace hv := hv.below hb11
  replace hc3 := cell_below hc3 hb11
  replace hA := hA.below hb11
  replace hl := hl.below hb11
  replace hb := hb.trans (hb11.mono hb.size)
  refine go ?_
  refine go ?_
  have sbs1 := hb.size
  have hcl_b1 := hcl
  have hv_b1 := hv
  have hc3_b1 := hc3
  have hA_b1 := hA
  have hl_b1 := hl
  have hbB1 := Below.refl w11.heap.size w11
  refine w_loop (fun kk fr w' => ∃ (i : Nat), kk = nf ms - i ∧ i ≤ nf ms ∧ fr 0 = c ∧ fr 3 = .pointer (some p3) ∧ fr 4 = lx ∧ fr 8 = .int .i64 (auts ms).length ∧ fr 10 = ol ∧ fr 12 = .bool (decide (labc (nf ms) (auts ms) = 1)) ∧ fr 14 = .bool (isChi ms) ∧ fr 16 = .int .i64 (gre ((labs (nf ms) (auts ms)).take i)) ∧ fr 17 = .int .i64 i ∧ Below w11.heap.size w11 w') (nf ms)
    ⟨0, rfl, Nat.zero_le _, rfl, rfl, rfl, rfl, rfl, rfl, rfl, rfl, rfl, hbB1⟩ ?_
  rintro kk fr w12 ⟨i, rfl, hi, f0, f3, f4, f8, f10, f12, f14, f16, f17, hbB1⟩
  have sw12 := hbB1.size
  have hcl := hcl_b1.below hbB1
  have hv := hv_b1.below hbB1
  have hc3 := cell_below hc3_b1 hbB1
  have hA := hA_b1.below hbB1
  have hl := hl_b1.below hbB1
  refine know (t := 0) f0 ?_; refine know (t := 3) f3 ?_; refine know (t := 4) f4 ?_; refine know (t := 8) f8 ?_; refine know (t := 10) f10 ?_; refine know (t := 12) f12 ?_; refine know (t := 14) f14 ?_; refine know (t := 16) f16 ?_; refine know (t := 17) f17 ?_
  refine go ?_
  refine cond_dec rfl (fun hlt => ?_) (fun hge => ?_)
  · have hgt := gre_take_succ (xs := (labs (nf ms) (auts ms))) (k := i) (by omega)
    have hy := hlr i (by omega) (by omega)
    refine go ?_
    refine cond_dec rfl (fun hup => ?_) (fun hup => ?_)
    · refine go ?_
      refine ⟨nf ms - (i + 1), by omega, i + 1, rfl, by omega, rfl, rfl, rfl, rfl, rfl, rfl, rfl, by rw [hgt, if_pos (by omega)]; rfl, rfl, hbB1⟩
    refine go ?_
    refine ⟨nf ms - (i + 1), by omega, i + 1, rfl, by omega, rfl, rfl, rfl, rfl, rfl, rfl, rfl, by rw [hgt, if_neg (by omega)]; rfl, rfl, hbB1⟩
  obtain rfl : i = nf ms := by omega
  rw [show (labs (nf ms) (auts ms)).take (nf ms) = (labs (nf ms) (auts ms)) from List.take_of_length_le (by omega), hgl]
  refine go ?_
  refine s_p (wn rfl) rfl (y_mul rfl rfl (by omega)) ?_
  refine go ?_
  refine s_call1 (wn rfl) rfl rfl (flags5_any _ _ _ hv r1) ?_
  rintro _ w13 ⟨rfl, hb13⟩
  have sw13 := hb13.size
  replace hcl := hcl.below hb13
  replace hv := hv.below hb13
  replace hc3 := cell_below hc3 hb13
  replace hA := hA.below hb13
  replace hl := hl.below hb13
  replace hbB1 := hbB1.trans (hb13.mono hbB1.size)
  have k4 : ¬ (((auts ms).length : Int) * labc (nf ms) (auts ms) ≠ nf ms) := fun h => h htim
  have k5 : ¬ (decide (labc (nf ms) (auts ms) = 1) ≠ decide (labc (nf ms) (auts ms) = 1)) := fun h => h rfl
  by_cases hch : isChi ms = true
  · have k6 : ¬ (labc (nf ms) (auts ms) ≠ 2) := fun h => h (by have := hch; rw [isChi_yes hm] at this; exact (of_decide_eq_true this).1)
    rw [hch]
    refine go ?_
    have sbs2 := hbB1.size
    have hcl_b2 := hcl
    have hv_b2 := hv
    have hc3_b2 := hc3
    have hA_b2 := hA
    have hl_b2 := hl
    have hbB2 := Below.refl w13.heap.size w13
    refine go ?_
    refine s_call2 (wn rfl) rfl rfl rfl (roll_any _ _ 710 _ hcl (by decide)) ?_
    rintro _ w14 ⟨q, rfl, hs, hb14⟩
    have sw14 := hb14.size
    replace hcl := hcl.below hb14
    replace hv := hv.below hb14
    replace hc3 := cell_below hc3 hb14
    replace hA := hA.below hb14
    replace hl := hl.below hb14
    replace hbB2 := hbB2.trans (hb14.mono hbB2.size)
    refine go ?_
    refine w_loop (fun kk fr w' => ∃ (i : Nat), kk = 4 - i ∧ i ≤ 4 ∧ fr 3 = .pointer (some p3) ∧ fr 4 = lx ∧ fr 8 = .int .i64 (auts ms).length ∧ fr 10 = ol ∧ fr 18 = .pointer (some ⟨q, 0, none⟩) ∧ fr 19 = .int .i64 i ∧ (Sr w' w13.heap.size q 95 c bs) ∧ Below w13.heap.size w13 w') (4)
      ⟨0, rfl, Nat.zero_le _, rfl, rfl, rfl, rfl, rfl, rfl, hs, hbB2⟩ ?_
    rintro kk fr w15 ⟨i, rfl, hi, f3, f4, f8, f10, f18, f19, hs, hbB2⟩
    have sw15 := hbB2.size
    have hcl := hcl_b2.below hbB2
    have hv := hv_b2.below hbB2
    have hc3 := cell_below hc3_b2 hbB2
    have hA := hA_b2.below hbB2
    have hl := hl_b2.below hbB2
    refine know (t := 3) f3 ?_; refine know (t := 4) f4 ?_; refine know (t := 8) f8 ?_; refine know (t := 10) f10 ?_; refine know (t := 18) f18 ?_; refine know (t := 19) f19 ?_
    refine go ?_
    refine cond_dec rfl (fun hlt => ?_) (fun hge => ?_)
    · have hrs : ∀ y : Int, 0 ≤ y → y < (auts ms).length → Hom ms ms (gr (auts ms) y) := fun y h0 h1 => (mem_auts hm).1 (by
        have : y.toNat < (auts ms).length := by omega
        simp [gr, List.getD, this])
      refine go ?_
      refine region_hS (fun w' => Below w13.heap.size w13 w') mixed (fun w16 hb16 => ?_)
      have sw16 := hb16.size
      replace hcl := hcl.below hb16
      replace hv := hv.below hb16
      replace hc3 := cell_below hc3 hb16
      replace hA := hA.below hb16
      replace hl := hl.below hb16
      replace hs := hs.below hb16
      replace hbB2 := hbB2.trans (hb16.mono hbB2.size)
      refine h_p 0 hbB2 ?_
      refine h_p 1 hbB2 ?_
      refine h_p 2 hbB2 ?_
      refine h_p 6 hbB2 ?_
      refine h_p 7 hbB2 ?_
      refine h_p 8 hbB2 ?_
      refine h_one 3 ?_
      refine s_call2 (wn rfl) rfl rfl rfl (below_any q ((auts ms).length : Int) _ c bs _ hs (by omega)) ?_
      rintro _ w17 ⟨y1, rfl, h10, h1, hsN, hgq17⟩
      have sw17 := hgq17.size
      replace hbB2 := hbB2.trans (gr_below hgq17 hbB2.size hs.low)
      replace hs := hsN
      clear hsN hgq17
      replace hcl := hcl_b2.below hbB2
      replace hv := hv_b2.below hbB2
      replace hc3 := cell_below hc3_b2 hbB2
      replace hA := hA_b2.below hbB2
      replace hl := hl_b2.below hbB2
      have h1' := h1 (by omega)
      obtain ⟨u1, hu1_b2, hcu1_b2⟩ := hA_b2.rl.row (j := y1) h1'.1 h1'.2
      have hu1 := hu1_b2.below hbB2
      have hcu1 := cell_below hcu1_b2 hbB2
      refine w_nil ?_
      refine h_on ⟨hbB2, ?_⟩
      refine h_p 4 hbB2 ?_
      refine h_p 5 hbB2 ?_
      refine h_one 9 ?_
      refine s_call2 (wn rfl) rfl rfl rfl (below_any q ((auts ms).length : Int) _ c bs _ hs (by omega)) ?_
      rintro _ w18 ⟨y2, rfl, h20, h2, hsN, hgq18⟩
      have sw18 := hgq18.size
      replace hbB2 := hbB2.trans (gr_below hgq18 hbB2.size hs.low)
      replace hs := hsN
      clear hsN hgq18
      replace hcl := hcl_b2.below hbB2
      replace hv := hv_b2.below hbB2
      replace hc3 := cell_below hc3_b2 hbB2
      replace hA := hA_b2.below hbB2
      replace hl := hl_b2.below hbB2
      replace hu1 := hu1_b2.below hbB2
      replace hcu1 := cell_below hcu1_b2 hbB2
      have h2' := h2 (by omega)
      obtain ⟨u2, hu2_b2, hcu2_b2⟩ := hA_b2.rl.row (j := y2) h2'.1 h2'.2
      have hu2 := hu2_b2.below hbB2
      have hcu2 := cell_below hcu2_b2 hbB2
      refine w_nil ?_
      refine h_on ⟨hbB2, ?_⟩
      refine h_p 10 hbB2 ?_
      refine h_p 11 hbB2 ?_
      refine h_p 12 hbB2 ?_
      refine h_p 13 hbB2 ?_
      refine h_nil ?_
      have hp1 := hrs y1 h1'.1 h1'.2
      have hp2 := hrs y2 h2'.1 h2'.2
      have hpa := Hom.aft hp1 hp2 hm rfl
      have hpl1 := hp1.len
      have hpl2 := hp2.len
      have hpm : ∀ x ∈ gr (auts ms) y1, 0 ≤ x ∧ x < (nf ms : Int) := fun x hx => by
        obtain ⟨j, hj, rfl⟩ := in_gi hx
        exact hp1.rng j (by omega) (by omega)
      have hto := autTo_of hm hp1
      generalize gr (auts ms) y1 = p1 at *
      generalize gr (auts ms) y2 = p2 at *
      have su1 := hu1.sv
      rw [hpl1] at su1
      refine go ?_
      refine s_call2 (wn rfl) rfl rfl rfl (then5_any _ _ _ _ _ hu1 hu2 (fun x hx => by rw [hpl2]; exact hpm x hx) (by omega)) ?_
      rintro ab w19 ⟨hab, hb19⟩
      have sw19 := hb19.size
      replace hcl := hcl.below hb19
      replace hv := hv.below hb19
      replace hc3 := cell_below hc3 hb19
      replace hA := hA.below hb19
      replace hl := hl.below hb19
      replace hu1 := hu1.below hb19
      replace hcu1 := cell_below hcu1 hb19
      replace hs := hs.below hb19
      replace hu2 := hu2.below hb19
      replace hcu2 := cell_below hcu2 hb19
      replace hbB2 := hbB2.trans (hb19.mono hbB2.size)
      have kin : decide (aft p1 p2 ∈ auts ms) = true := decide_eq_true ((mem_auts hm).2 hpa)
      refine go ?_
      refine s_call2 (wn rfl) rfl rfl rfl (hasRow5_any _ _ _ _ _ hA.rl hab.il) ?_
      rintro _ w20 ⟨rfl, hb20⟩
      have sw20 := hb20.size
      replace hcl := hcl.below hb20
      replace hv := hv.below hb20
      replace hc3 := cell_below hc3 hb20
      replace hA := hA.below hb20
      replace hl := hl.below hb20
      replace hu1 := hu1.below hb20
      replace hcu1 := cell_below hcu1 hb20
      replace hs := hs.below hb20
      replace hu2 := hu2.below hb20
      replace hcu2 := cell_below hcu2 hb20
      replace hab := hab.below hb20
      replace hbB2 := hbB2.trans (hb20.mono hbB2.size)
      rw [kin]
      refine go ?_
      refine s_call1 (wn rfl) rfl rfl (flags5_any _ _ _ hv r1) ?_
      rintro _ w21 ⟨rfl, hb21⟩
      have sw21 := hb21.size
      replace hcl := hcl.below hb21
      replace hv := hv.below hb21
      replace hc3 := cell_below hc3 hb21
      replace hA := hA.below hb21
      replace hl := hl.below hb21
      replace hu1 := hu1.below hb21
      replace hcu1 := cell_below hcu1 hb21
      replace hs := hs.below hb21
      replace hu2 := hu2.below hb21
      replace hcu2 := cell_below hcu2 hb21
      replace hab := hab.below hb21
      replace hbB2 := hbB2.trans (hb21.mono hbB2.size)
      refine go ?_
      refine s_call2 (wn rfl) rfl rfl rfl (below_any q (nf ms) _ c bs _ hs (by omega)) ?_
      rintro _ w22 ⟨y, rfl, hy0, hy, hsN, hgq22⟩
      have sw22 := hgq22.size
      replace hbB2 := hbB2.trans (gr_below hgq22 hbB2.size hs.low)
      replace hs := hsN
      clear hsN hgq22
      replace hcl := hcl_b2.below hbB2
      replace hv := hv_b2.below hbB2
      replace hc3 := cell_below hc3_b2 hbB2
      replace hA := hA_b2.below hbB2
      replace hl := hl_b2.below hbB2
      replace hu1 := hu1_b2.below hbB2
      replace hcu1 := cell_below hcu1_b2 hbB2
      replace hu2 := hu2_b2.below hbB2
      replace hcu2 := cell_below hcu2_b2 hbB2
      have hy1 := hy (by omega)
      have hpy := hp1.rng y hy1.1 hy1.2
      have klab : ¬ (gi (labs (nf ms) (auts ms)) (gi p1 y) ≠ gi (labs (nf ms) (auts ms)) y) := fun h => h ((mem_class hm hy1 hpy).2 ⟨p1, (mem_auts hm).2 hp1, rfl⟩)
      refine go ?_
      refine region_q mixed (by kernel_rfl) ?_
      refine qo ?_
      refine q_nil ?_
      intro w23 hb23
      have sw23 := hb23.size
      replace hcl := hcl.below hb23
      replace hv := hv.below hb23
      replace hc3 := cell_below hc3 hb23
      replace hA := hA.below hb23
      replace hl := hl.below hb23
      replace hu1 := hu1.below hb23
      replace hcu1 := cell_below hcu1 hb23
      replace hu2 := hu2.below hb23
      replace hcu2 := cell_below hcu2 hb23
      replace hs := hs.below hb23
      replace hbB2 := hbB2.trans (hb23.mono hbB2.size)
      refine go ?_
      refine go ?_
      refine w_loop (fun kk fr w' => ∃ (k : Nat), kk = ms.length - k ∧ k ≤ ms.length ∧ fr 3 = .pointer (some p3) ∧ fr 4 = lx ∧ fr 8 = .int .i64 (auts ms).length ∧ fr 10 = ol ∧ fr 18 = .pointer (some ⟨q, 0, none⟩) ∧ fr 19 = .int .i64 i ∧ fr 20 = u1 ∧ fr 22 = .int .i64 y ∧ fr 23 = .int .i64 k ∧ (Sr w' w13.heap.size q 95 c bs) ∧ Below w13.heap.size w13 w') (ms.length)
        ⟨0, rfl, Nat.zero_le _, rfl, rfl, rfl, rfl, rfl, rfl, rfl, rfl, rfl, hs, hbB2⟩ ?_
      rintro kk fr w24 ⟨k, rfl, hk, f3, f4, f8, f10, f18, f19, f20, f22, f23, hs, hbB2⟩
      have sw24 := hbB2.size
      have hcl := hcl_b2.below hbB2
      have hv := hv_b2.below hbB2
      have hc3 := cell_below hc3_b2 hbB2
      have hA := hA_b2.below hbB2
      have hl := hl_b2.below hbB2
      have hu1 := hu1_b2.below hbB2
      have hcu1 := cell_below hcu1_b2 hbB2
      have hu2 := hu2_b2.below hbB2
      have hcu2 := cell_below hcu2_b2 hbB2
      refine know (t := 3) f3 ?_; refine know (t := 4) f4 ?_; refine know (t := 8) f8 ?_; refine know (t := 10) f10 ?_; refine know (t := 18) f18 ?_; refine know (t := 19) f19 ?_; refine know (t := 20) f20 ?_; refine know (t := 22) f22 ?_; refine know (t := 23) f23 ?_
      refine go ?_
      refine cond_dec rfl (fun hltk => ?_) (fun hgek => ?_)
      · have hmv := hp1.mv k (by omega) y hy1.1 hy1.2
        have hrl1 := (hm.syst.row (j := (k : Int)) (by omega) (by omega)).1
        have hky := hm.syst.at (j := (k : Int)) (x := y) (by omega) (by omega) hy1
        obtain ⟨u, hu, hcu⟩ := hv.row (j := (k : Int)) (by omega) (by omega)
        have su := hu.sv
        rw [hrl1] at su
        have kc : ¬ (gi p1 (gi (gr ms k) y) ≠ gi (gr ms k) (gi p1 y)) := fun h => h hmv
        refine go ?_
        refine region_q mixed (by kernel_rfl) ?_
        refine qo ?_
        refine q_nil ?_
        intro w25 hb25
        have sw25 := hb25.size
        replace hcl := hcl.below hb25
        replace hv := hv.below hb25
        replace hc3 := cell_below hc3 hb25
        replace hA := hA.below hb25
        replace hl := hl.below hb25
        replace hu1 := hu1.below hb25
        replace hcu1 := cell_below hcu1 hb25
        replace hu2 := hu2.below hb25
        replace hcu2 := cell_below hcu2 hb25
        replace hs := hs.below hb25
        replace hbB2 := hbB2.trans (hb25.mono hbB2.size)
        refine go ?_
        refine ⟨ms.length - (k + 1), by omega, k + 1, rfl, by omega, rfl, rfl, rfl, rfl, rfl, rfl, rfl, rfl, rfl, hs, hbB2⟩
      obtain rfl : k = ms.length := by omega
      refine go ?_
      refine region_h mixed (fun w26 hc26 => ?_)
      have swr26 := hc26.size
      refine h_p 0 hc26 ?_
      refine h_p 1 hc26 ?_
      refine h_p 2 hc26 ?_
      refine h_p 3 hc26 ?_
      refine h_one 4 ?_
      refine s_call2 (wn rfl) rfl rfl rfl (implAutomorphismTo_any _ _ (gi p1 0) _ (hv.below hc26)) ?_
      rintro _ w27 ⟨tx, rfl, ht, hb27⟩
      have hc27 := hc26.trans (hb27.mono hc26.size)
      refine w_nil ?_
      refine h_on ⟨hc27, ?_⟩
      refine h_p 5 hc27 ?_
      refine h_p 6 hc27 ?_
      refine h_p 7 hc27 ?_
      refine h_p 8 hc27 ?_
      refine h_p 9 hc27 ?_
      refine h_nil ?_
      have sw27 := hc27.size
      replace hcl := hcl.below hc27
      replace hv := hv.below hc27
      replace hc3 := cell_below hc3 hc27
      replace hA := hA.below hc27
      replace hl := hl.below hc27
      replace hu1 := hu1.below hc27
      replace hcu1 := cell_below hcu1 hc27
      replace hu2 := hu2.below hc27
      replace hcu2 := cell_below hcu2 hc27
      replace hs := hs.below hc27
      replace hbB2 := hbB2.trans (hc27.mono hbB2.size)
      rw [hto.1] at ht
      rw [hto.2]
      have kt : decide (p1 = p1) = true := decide_eq_true rfl
      have stx := ht.sv
      refine go ?_
      refine s_call2 (wy rfl rfl rfl rfl rfl known) rfl rfl rfl (likeInts_any _ _ _ _ _ ht.il hu1) ?_
      rintro _ w28 ⟨rfl, hb28⟩
      have sw28 := hb28.size
      replace hcl := hcl.below hb28
      replace hv := hv.below hb28
      replace hc3 := cell_below hc3 hb28
      replace hA := hA.below hb28
      replace hl := hl.below hb28
      replace hu1 := hu1.below hb28
      replace hcu1 := cell_below hcu1 hb28
      replace hu2 := hu2.below hb28
      replace hcu2 := cell_below hcu2 hb28
      replace hs := hs.below hb28
      replace ht := ht.below hb28
      replace hbB2 := hbB2.trans (hb28.mono hbB2.size)
      refine go ?_
      refine ⟨4 - (i + 1), by omega, i + 1, rfl, by omega, rfl, rfl, rfl, rfl, rfl, rfl, hs, hbB2⟩
    obtain rfl : i = 4 := by omega
    refine go ?_
    exact end_one Try.results6 rfl ⟨rfl, ((hb.trans (hbB1.mono hb.size)).trans (hbB2.mono (hb.trans (hbB1.mono hb.size)).size))⟩
  have hch' : isChi ms = false := by simpa using hch
  rw [hch']
  refine go ?_
  have sbs2 := hbB1.size
  have hcl_b2 := hcl
  have hv_b2 := hv
  have hc3_b2 := hc3
  have hA_b2 := hA
  have hl_b2 := hl
  have hbB2 := Below.refl w13.heap.size w13
  refine go ?_
  refine s_call2 (wn rfl) rfl rfl rfl (roll_any _ _ 710 _ hcl (by decide)) ?_
  rintro _ w29 ⟨q, rfl, hs, hb29⟩
  have sw29 := hb29.size
  replace hcl := hcl.below hb29
  replace hv := hv.below hb29
  replace hc3 := cell_below hc3 hb29
  replace hA := hA.below hb29
  replace hl := hl.below hb29
  replace hbB2 := hbB2.trans (hb29.mono hbB2.size)
  refine go ?_
  refine w_loop (fun kk fr w' => ∃ (i : Nat), kk = 4 - i ∧ i ≤ 4 ∧ fr 3 = .pointer (some p3) ∧ fr 4 = lx ∧ fr 8 = .int .i64 (auts ms).length ∧ fr 10 = ol ∧ fr 18 = .pointer (some ⟨q, 0, none⟩) ∧ fr 19 = .int .i64 i ∧ (Sr w' w13.heap.size q 95 c bs) ∧ Below w13.heap.size w13 w') (4)
    ⟨0, rfl, Nat.zero_le _, rfl, rfl, rfl, rfl, rfl, rfl, hs, hbB2⟩ ?_
  rintro kk fr w30 ⟨i, rfl, hi, f3, f4, f8, f10, f18, f19, hs, hbB2⟩
  have sw30 := hbB2.size
  have hcl := hcl_b2.below hbB2
  have hv := hv_b2.below hbB2
  have hc3 := cell_below hc3_b2 hbB2
  have hA := hA_b2.below hbB2
  have hl := hl_b2.below hbB2
  refine know (t := 3) f3 ?_; refine know (t := 4) f4 ?_; refine know (t := 8) f8 ?_; refine know (t := 10) f10 ?_; refine know (t := 18) f18 ?_; refine know (t := 19) f19 ?_
  refine go ?_
  refine cond_dec rfl (fun hlt => ?_) (fun hge => ?_)
  · have hrs : ∀ y : Int, 0 ≤ y → y < (auts ms).length → Hom ms ms (gr (auts ms) y) := fun y h0 h1 => (mem_auts hm).1 (by
      have : y.toNat < (auts ms).length := by omega
      simp [gr, List.getD, this])
    refine go ?_
    refine region_hS (fun w' => Below w13.heap.size w13 w') mixed (fun w31 hb31 => ?_)
    have sw31 := hb31.size
    replace hcl := hcl.below hb31
    replace hv := hv.below hb31
    replace hc3 := cell_below hc3 hb31
    replace hA := hA.below hb31
    replace hl := hl.below hb31
    replace hs := hs.below hb31
    replace hbB2 := hbB2.trans (hb31.mono hbB2.size)
    refine h_p 0 hbB2 ?_
    refine h_p 1 hbB2 ?_
    refine h_p 2 hbB2 ?_
    refine h_p 6 hbB2 ?_
    refine h_p 7 hbB2 ?_
    refine h_p 8 hbB2 ?_
    refine h_one 3 ?_
    refine s_call2 (wn rfl) rfl rfl rfl (below_any q ((auts ms).length : Int) _ c bs _ hs (by omega)) ?_
    rintro _ w32 ⟨y1, rfl, h10, h1, hsN, hgq32⟩
    have sw32 := hgq32.size
    replace hbB2 := hbB2.trans (gr_below hgq32 hbB2.size hs.low)
    replace hs := hsN
    clear hsN hgq32
    replace hcl := hcl_b2.below hbB2
    replace hv := hv_b2.below hbB2
    replace hc3 := cell_below hc3_b2 hbB2
    replace hA := hA_b2.below hbB2
    replace hl := hl_b2.below hbB2
    have h1' := h1 (by omega)
    obtain ⟨u1, hu1_b2, hcu1_b2⟩ := hA_b2.rl.row (j := y1) h1'.1 h1'.2
    have hu1 := hu1_b2.below hbB2
    have hcu1 := cell_below hcu1_b2 hbB2
    refine w_nil ?_
    refine h_on ⟨hbB2, ?_⟩
    refine h_p 4 hbB2 ?_
    refine h_p 5 hbB2 ?_
    refine h_one 9 ?_
    refine s_call2 (wn rfl) rfl rfl rfl (below_any q ((auts ms).length : Int) _ c bs _ hs (by omega)) ?_
    rintro _ w33 ⟨y2, rfl, h20, h2, hsN, hgq33⟩
    have sw33 := hgq33.size
    replace hbB2 := hbB2.trans (gr_below hgq33 hbB2.size hs.low)
    replace hs := hsN
    clear hsN hgq33
    replace hcl := hcl_b2.below hbB2
    replace hv := hv_b2.below hbB2
    replace hc3 := cell_below hc3_b2 hbB2
    replace hA := hA_b2.below hbB2
    replace hl := hl_b2.below hbB2
    replace hu1 := hu1_b2.below hbB2
    replace hcu1 := cell_below hcu1_b2 hbB2
    have h2' := h2 (by omega)
    obtain ⟨u2, hu2_b2, hcu2_b2⟩ := hA_b2.rl.row (j := y2) h2'.1 h2'.2
    have hu2 := hu2_b2.below hbB2
    have hcu2 := cell_below hcu2_b2 hbB2
    refine w_nil ?_
    refine h_on ⟨hbB2, ?_⟩
    refine h_p 10 hbB2 ?_
    refine h_p 11 hbB2 ?_
    refine h_p 12 hbB2 ?_
    refine h_p 13 hbB2 ?_
    refine h_nil ?_
    have hp1 := hrs y1 h1'.1 h1'.2
    have hp2 := hrs y2 h2'.1 h2'.2
    have hpa := Hom.aft hp1 hp2 hm rfl
    have hpl1 := hp1.len
    have hpl2 := hp2.len
    have hpm : ∀ x ∈ gr (auts ms) y1, 0 ≤ x ∧ x < (nf ms : Int) := fun x hx => by
      obtain ⟨j, hj, rfl⟩ := in_gi hx
      exact hp1.rng j (by omega) (by omega)
    have hto := autTo_of hm hp1
    generalize gr (auts ms) y1 = p1 at *
    generalize gr (auts ms) y2 = p2 at *
    have su1 := hu1.sv
    rw [hpl1] at su1
    refine go ?_
    refine s_call2 (wn rfl) rfl rfl rfl (then5_any _ _ _ _ _ hu1 hu2 (fun x hx => by rw [hpl2]; exact hpm x hx) (by omega)) ?_
    rintro ab w34 ⟨hab, hb34⟩
    have sw34 := hb34.size
    replace hcl := hcl.below hb34
    replace hv := hv.below hb34
    replace hc3 := cell_below hc3 hb34
    replace hA := hA.below hb34
    replace hl := hl.below hb34
    replace hu1 := hu1.below hb34
    replace hcu1 := cell_below hcu1 hb34
    replace hs := hs.below hb34
    replace hu2 := hu2.below hb34
    replace hcu2 := cell_below hcu2 hb34
    replace hbB2 := hbB2.trans (hb34.mono hbB2.size)
    have kin : decide (aft p1 p2 ∈ auts ms) = true := decide_eq_true ((mem_auts hm).2 hpa)
    refine go ?_
    refine s_call2 (wn rfl) rfl rfl rfl (hasRow5_any _ _ _ _ _ hA.rl hab.il) ?_
    rintro _ w35 ⟨rfl, hb35⟩
    have sw35 := hb35.size
    replace hcl := hcl.below hb35
    replace hv := hv.below hb35
    replace hc3 := cell_below hc3 hb35
    replace hA := hA.below hb35
    replace hl := hl.below hb35
    replace hu1 := hu1.below hb35
    replace hcu1 := cell_below hcu1 hb35
    replace hs := hs.below hb35
    replace hu2 := hu2.below hb35
    replace hcu2 := cell_below hcu2 hb35
    replace hab := hab.below hb35
    replace hbB2 := hbB2.trans (hb35.mono hbB2.size)
    rw [kin]
    refine go ?_
    refine s_call1 (wn rfl) rfl rfl (flags5_any _ _ _ hv r1) ?_
    rintro _ w36 ⟨rfl, hb36⟩
    have sw36 := hb36.size
    replace hcl := hcl.below hb36
    replace hv := hv.below hb36
    replace hc3 := cell_below hc3 hb36
    replace hA := hA.below hb36
    replace hl := hl.below hb36
    replace hu1 := hu1.below hb36
    replace hcu1 := cell_below hcu1 hb36
    replace hs := hs.below hb36
    replace hu2 := hu2.below hb36
    replace hcu2 := cell_below hcu2 hb36
    replace hab := hab.below hb36
    replace hbB2 := hbB2.trans (hb36.mono hbB2.size)
    refine go ?_
    refine s_call2 (wn rfl) rfl rfl rfl (below_any q (nf ms) _ c bs _ hs (by omega)) ?_
    rintro _ w37 ⟨y, rfl, hy0, hy, hsN, hgq37⟩
    have sw37 := hgq37.size
    replace hbB2 := hbB2.trans (gr_below hgq37 hbB2.size hs.low)
    replace hs := hsN
    clear hsN hgq37
    replace hcl := hcl_b2.below hbB2
    replace hv := hv_b2.below hbB2
    replace hc3 := cell_below hc3_b2 hbB2
    replace hA := hA_b2.below hbB2
    replace hl := hl_b2.below hbB2
    replace hu1 := hu1_b2.below hbB2
    replace hcu1 := cell_below hcu1_b2 hbB2
    replace hu2 := hu2_b2.below hbB2
    replace hcu2 := cell_below hcu2_b2 hbB2
    have hy1 := hy (by omega)
    have hpy := hp1.rng y hy1.1 hy1.2
    have klab : ¬ (gi (labs (nf ms) (auts ms)) (gi p1 y) ≠ gi (labs (nf ms) (auts ms)) y) := fun h => h ((mem_class hm hy1 hpy).2 ⟨p1, (mem_auts hm).2 hp1, rfl⟩)
    refine go ?_
    refine region_q mixed (by kernel_rfl) ?_
    refine qo ?_
    refine q_nil ?_
    intro w38 hb38
    have sw38 := hb38.size
    replace hcl := hcl.below hb38
    replace hv := hv.below hb38
    replace hc3 := cell_below hc3 hb38
    replace hA := hA.below hb38
    replace hl := hl.below hb38
    replace hu1 := hu1.below hb38
    replace hcu1 := cell_below hcu1 hb38
    replace hu2 := hu2.below hb38
    replace hcu2 := cell_below hcu2 hb38
    replace hs := hs.below hb38
    replace hbB2 := hbB2.trans (hb38.mono hbB2.size)
    refine go ?_
    refine go ?_
    refine w_loop (fun kk fr w' => ∃ (k : Nat), kk = ms.length - k ∧ k ≤ ms.length ∧ fr 3 = .pointer (some p3) ∧ fr 4 = lx ∧ fr 8 = .int .i64 (auts ms).length ∧ fr 10 = ol ∧ fr 18 = .pointer (some ⟨q, 0, none⟩) ∧ fr 19 = .int .i64 i ∧ fr 20 = u1 ∧ fr 22 = .int .i64 y ∧ fr 23 = .int .i64 k ∧ (Sr w' w13.heap.size q 95 c bs) ∧ Below w13.heap.size w13 w') (ms.length)
      ⟨0, rfl, Nat.zero_le _, rfl, rfl, rfl, rfl, rfl, rfl, rfl, rfl, rfl, hs, hbB2⟩ ?_
    rintro kk fr w39 ⟨k, rfl, hk, f3, f4, f8, f10, f18, f19, f20, f22, f23, hs, hbB2⟩
    have sw39 := hbB2.size
    have hcl := hcl_b2.below hbB2
    have hv := hv_b2.below hbB2
    have hc3 := cell_below hc3_b2 hbB2
    have hA := hA_b2.below hbB2
    have hl := hl_b2.below hbB2
    have hu1 := hu1_b2.below hbB2
    have hcu1 := cell_below hcu1_b2 hbB2
    have hu2 := hu2_b2.below hbB2
    have hcu2 := cell_below hcu2_b2 hbB2
    refine know (t := 3) f3 ?_; refine know (t := 4) f4 ?_; refine know (t := 8) f8 ?_; refine know (t := 10) f10 ?_; refine know (t := 18) f18 ?_; refine know (t := 19) f19 ?_; refine know (t := 20) f20 ?_; refine know (t := 22) f22 ?_; refine know (t := 23) f23 ?_
    refine go ?_
    refine cond_dec rfl (fun hltk => ?_) (fun hgek => ?_)
    · have hmv := hp1.mv k (by omega) y hy1.1 hy1.2
      have hrl1 := (hm.syst.row (j := (k : Int)) (by omega) (by omega)).1
      have hky := hm.syst.at (j := (k : Int)) (x := y) (by omega) (by omega) hy1
      obtain ⟨u, hu, hcu⟩ := hv.row (j := (k : Int)) (by omega) (by omega)
      have su := hu.sv
      rw [hrl1] at su
      have kc : ¬ (gi p1 (gi (gr ms k) y) ≠ gi (gr ms k) (gi p1 y)) := fun h => h hmv
      refine go ?_
      refine region_q mixed (by kernel_rfl) ?_
      refine qo ?_
      refine q_nil ?_
      intro w40 hb40
      have sw40 := hb40.size
      replace hcl := hcl.below hb40
      replace hv := hv.below hb40
      replace hc3 := cell_below hc3 hb40
      replace hA := hA.below hb40
      replace hl := hl.below hb40
      replace hu1 := hu1.below hb40
      replace hcu1 := cell_below hcu1 hb40
      replace hu2 := hu2.below hb40
      replace hcu2 := cell_below hcu2 hb40
      replace hs := hs.below hb40
      replace hbB2 := hbB2.trans (hb40.mono hbB2.size)
      refine go ?_
      refine ⟨ms.length - (k + 1), by omega, k + 1, rfl, by omega, rfl, rfl, rfl, rfl, rfl, rfl, rfl, rfl, rfl, hs, hbB2⟩
    obtain rfl : k = ms.length := by omega
    refine go ?_
    refine region_h mixed (fun w41 hc41 => ?_)
    have swr41 := hc41.size
    refine h_p 0 hc41 ?_
    refine h_p 1 hc41 ?_
    refine h_p 2 hc41 ?_
    refine h_p 3 hc41 ?_
    refine h_one 4 ?_
    refine s_call2 (wn rfl) rfl rfl rfl (implAutomorphismTo_any _ _ (gi p1 0) _ (hv.below hc41)) ?_
    rintro _ w42 ⟨tx, rfl, ht, hb42⟩
    have hc42 := hc41.trans (hb42.mono hc41.size)
    refine w_nil ?_
    refine h_on ⟨hc42, ?_⟩
    refine h_p 5 hc42 ?_
    refine h_p 6 hc42 ?_
    refine h_p 7 hc42 ?_
    refine h_p 8 hc42 ?_
    refine h_p 9 hc42 ?_
    refine h_nil ?_
    have sw42 := hc42.size
    replace hcl := hcl.below hc42
    replace hv := hv.below hc42
    replace hc3 := cell_below hc3 hc42
    replace hA := hA.below hc42
    replace hl := hl.below hc42
    replace hu1 := hu1.below hc42
    replace hcu1 := cell_below hcu1 hc42
    replace hu2 := hu2.below hc42
    replace hcu2 := cell_below hcu2 hc42
    replace hs := hs.below hc42
    replace hbB2 := hbB2.trans (hc42.mono hbB2.size)
    rw [hto.1] at ht
    rw [hto.2]
    have kt : decide (p1 = p1) = true := decide_eq_true rfl
    have stx := ht.sv
    refine go ?_
    refine s_call2 (wy rfl rfl rfl rfl rfl known) rfl rfl rfl (likeInts_any _ _ _ _ _ ht.il hu1) ?_
    rintro _ w43 ⟨rfl, hb43⟩
    have sw43 := hb43.size
    replace hcl := hcl.below hb43
    replace hv := hv.below hb43
    replace hc3 := cell_below hc3 hb43
    replace hA := hA.below hb43
    replace hl := hl.below hb43
    replace hu1 := hu1.below hb43
    replace hcu1 := cell_below hcu1 hb43
    replace hu2 := hu2.below hb43
    replace hcu2 := cell_below hcu2 hb43
    replace hs := hs.below hb43
    replace ht := ht.below hb43
    replace hbB2 := hbB2.trans (hb43.mono hbB2.size)
    refine go ?_
    refine ⟨4 - (i + 1), by omega, i + 1, rfl, by omega, rfl, rfl, rfl, rfl, rfl, rfl, hs, hbB2⟩
  obtain rfl : i = 4 := by omega
  refine go ?_
  exact end_one Try.results6 rfl ⟨rfl, ((hb.trans (hbB1.mono hb.size)).trans (hbB2.mono (hb.trans (hbB1.mono hb.size)).size))⟩


set_option maxRecDepth 100000 in
theorem liftedAutomorphisms (os : Os) (started : os.Started) (H : Type) (enc : TypeId × Value → H) :
    ReturnsInHanded {} Try.checked os 6 .any (Rows.fnAutomorphismsSpec.pre6 enc Try.prog Try.f6 Rows.fnAutomorphismsRow.domain false) (Rows.fnAutomorphismsSpec.post enc Try.prog Try.f6 false true false false) := by
  refine returnsInHanded_of_change (C := Try.checked) own started (by kernel_rfl) Try.func6
    (ChangeSpec.witness6 (enc := enc) (C := Try.checked) false ⟨#[], #[.slice none 0 0], []⟩ 8 (by kernel_rfl) (by kernel_rfl) (by kernel_rfl) (by kernel_rfl)) ?_
  intro W base args ds gs before hval0 hW hcnd _
  have hval : ∀ (j : Nat) t v, Try.f6.params[j]? = some t → args[j]? = some v → Value.okWide Try.prog W .any base t v := hval0
  have hW' := hW
  obtain ⟨p, q, hA0, hV, rfl, hfz, hnd⟩ := hW
  have hA : DataW.TrodAll enc Try.prog W 0 (fun _ => true) true Try.f6.params.toList args.toList ds p := hA0
  rw [Try.params6] at hA hval
  obtain ⟨v0, vs0, d0, ds0, p0, q0, hargs, rfl, rfl, h0, r0⟩ := trodAll_cons hA
  obtain ⟨rfl, rfl, rfl⟩ := trodAll_nil r0
  obtain rfl : args = #[v0] := by cases args; simp_all
  obtain ⟨rfl, rfl⟩ := trodVars_none hV
  have lt0 : ∀ x ∈ p0, x.block < W.heap.size := by obtain ⟨m, hm⟩ := h0; exact DataW.trod_lt m _ _ _ hm
  obtain ⟨xs0, hu0⟩ := open_arg_B (hval 0 37 v0 rfl rfl) h0
  clear hA0 hval0
  refine Calls.mono (lawAutomorphisms_any v0 xs0 W hu0) fun e W' ⟨v, he, hv, bel⟩ => ?_
  subst he
  subst hv
  exact ⟨_, rfl, _, _, _, [], _, [], hW', trodAll_mk1 (shut_bool Try.underlying4 _), (trodAll_cons_mk (Below.trod laidOut (by kernel_rfl) (of_decide_eq_true (by kernel_rfl)) h0 bel lt0) trodAll_mk0), rfl, bel.frame _, fun h => by cases h⟩

theorem provedAutomorphisms : Rows.FnAutomorphismsSaid :=
  OpenClaim.holds_of_wide 6 Try.f6 rfl rfl rfl rfl rfl rfl rfl ⟨rfl, rfl, rfl, rfl, rfl⟩ rfl rfl rfl rfl rfl (by kernel_rfl) Try.func6 (by kernel_rfl)
    (of_decide_eq_true (by kernel_rfl)) (by unfold Func.isWrapper; first | (rw [if_pos (by decide +kernel)]; kernel_rfl) | (rw [if_neg (by decide +kernel)]; exact ⟨rfl, rfl⟩))
    (fun os started H enc _ => liftedAutomorphisms os started H enc)

end Go.Proofs.Ytlodnhflfijomaa
