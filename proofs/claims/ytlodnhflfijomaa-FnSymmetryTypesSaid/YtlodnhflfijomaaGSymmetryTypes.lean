/- The general law of SymmetryType, for every code: its walk and its row. No conditions. -/
import Derived.Test.YtlodnhflfijomaaF70
import Derived.Test.YtlodnhflfijomaaF61
import Derived.Test.YtlodnhflfijomaaF65
import Derived.Test.YtlodnhflfijomaaFD
import Derived.Test.YtlodnhflfijomaaFF
import Derived.Test.YtlodnhflfijomaaP31
import Derived.Test.YtlodnhflfijomaaRA
import Derived.WalkKit
import Derived.ShutString
namespace Go.Proofs.Ytlodnhflfijomaa
open Go.Mem Go.ChangeShapes Go.WideShapes Go.ChangeAt Go.RowKit
set_option linter.unusedVariables false
set_option linter.unusedSimpArgs false

set_option maxHeartbeats 16000000 in
set_option maxRecDepth 100000 in
theorem lawSymmetryTypes_any (c : Value) (bs : List Int) (w : World) (hcl : CL w c bs) :
    Ret Try.prog 8 #[c] w fun r w' => r = .bool true ∧ Below w.heap.size w w' := by
  have shcl := hcl.sv
  have hb := Below.refl w.heap.size w
  refine enter1 205 Try.func8 rfl Try.ntmps8 rfl (fun fr => ?_)
  refine go ?_
  refine s_call1 (wn rfl) rfl rfl (big_any _ _ _ hcl) ?_
  rintro _ _ ⟨rfl, rfl⟩
  refine go ?_
  refine cond_dec rfl (fun hbig => ?_) (fun hbig => ?_)
  · refine go ?_
    exact end_one Try.results8 rfl ⟨rfl, hb⟩
  refine go ?_
  refine s_call1 (wn rfl) rfl rfl (DrawSymmetryType_any _ _ _ hcl) ?_
  rintro _ w1 ⟨x, ms, rfl, hv, hb1⟩
  have sw1 := hb1.size
  replace hcl := hcl.below hb1
  replace hb := hb.trans (hb1.mono hb.size)
  have shv := hv.sv
  refine go ?_
  refine s_alloc (B := w1.heap.size) (wn rfl) rfl (Nat.le_refl _) (fun w2 p3 hx3 hg2 hpp3 => ?_)
  have hb2 := below_of_grownBy hg2
  refine go ?_
  refine s_storeBox (wn rfl) rfl rfl shv.one hx3 (fun w3 hx3b hg3 => ?_)
  have hbq3 := hb2.trans (hx3.below_of hg3 hb2.size)
  have sw3 := hbq3.size
  replace hcl := hcl.below hbq3
  replace hv := hv.below hbq3
  replace hb := hb.trans (hbq3.mono hb.size)
  have hc3 := hx3b.cell
  refine go ?_
  refine s_call1 (wn rfl) rfl rfl (implSymmetryType_any _ _ _ hv) ?_
  rintro _ w4 ⟨lx, rfl, hA, hb4⟩
  have sw4 := hb4.size
  replace hcl := hcl.below hb4
  replace hv := hv.below hb4
  replace hc3 := cell_below hc3 hb4
  replace hb := hb.trans (hb4.mono hb.size)
  refine go ?_
  refine s_call1 (wn rfl) rfl rfl (specSymmetryType_any _ _ _ hv) ?_
  rintro _ w5 ⟨ly, rfl, hA2, hb5⟩
  have sw5 := hb5.size
  replace hcl := hcl.below hb5
  replace hv := hv.below hb5
  replace hc3 := cell_below hc3 hb5
  replace hA := hA.below hb5
  replace hb := hb.trans (hb5.mono hb.size)
  have hn1 : ¬ (manC ms ≠ manC ms) := fun h => h rfl
  have he1 : decide (symT ms = symT ms) = true := decide_eq_true rfl
  refine go ?_
  refine s_call2 (wy rfl rfl rfl rfl rfl known) rfl rfl rfl (likeRows5_any _ _ _ _ _ hA.rl hA2.rl) ?_
  rintro _ w6 ⟨rfl, hb6⟩
  have sw6 := hb6.size
  replace hcl := hcl.below hb6
  replace hv := hv.below hb6
  replace hc3 := cell_below hc3 hb6
  replace hA := hA.below hb6
  replace hA2 := hA2.below hb6
  replace hb := hb.trans (hb6.mono hb.size)
  refine go ?_
  refine cond_dec rfl (fun hne => ?_) (fun hne => ?_)
  · refine go ?_
    exact end_one Try.results8 rfl ⟨rfl, hb⟩
  have hm : IsMan ms := Classical.byContradiction fun h => hne (by rw [manC_no h]; decide)
  have r5 := hm.m0.r5
  have r1 := hm.m0.r1
  have f4 := hm.m0.f400
  have f2 := hm.m0.f2
  have hsym := auts_sym hm
  have hL := labs_all hsym (by omega)
  have hll := hL.len
  have hc0 := hL.c0
  have hlr : ∀ y : Int, 0 ≤ y → y < nf ms → 0 ≤ gi (labs (nf ms) (auts ms)) y ∧ gi (labs (nf ms) (auts ms)) y < labc (nf ms) (auts ms) := fun y h0 h1 => ⟨hL.done y h0 h1 h1, (hL.rng y h0 h1).2⟩
  have hsl := length_symT hm
  have sA := hA.sv
  rw [hsl] at sA
  refine go ?_
  refine s_call1 (wn rfl) rfl rfl (implFlagOrbits_any _ _ _ hv) ?_
  rintro _ w7 ⟨ol, rfl, hl, hb7⟩
  have sw7 := hb7.size
  replace hcl := hcl.below hb7
  replace hv := hv.below hb7
  replace hc3 := cell_below hc3 hb7
  replace hA := hA.below hb7
  replace hb := hb.trans (hb7.mono hb.size)
  rw [manC_yes hm]
  rw [flagOrb_yes hm] at hl
  have sl := hl.sv
  rw [hll] at sl
  have k1 : ¬ ((nf ms : Int) ≠ nf ms) := fun h => h rfl
  have k2 : ¬ ((ms.length : Int) ≠ ms.length) := fun h => h rfl
  refine go ?_
  refine s_call1 (wy rfl rfl rfl rfl rfl known) rfl rfl (flags5_any _ _ _ hv r1) ?_
  rintro _ w8 ⟨rfl, hb8⟩
  have sw8 := hb8.size
  replace hcl := hcl.below hb8
  replace hv := hv.below hb8
  replace hc3 := cell_below hc3 hb8
  replace hA := hA.below hb8
  replace hl := hl.below hb8
  replace hb := hb.trans (hb8.mono hb.size)
  refine go ?_
  refine go ?_
  have sbs1 := hb.size
  have hcl_b1 := hcl
  have hv_b1 := hv
  have hc3_b1 := hc3
  have hA_b1 := hA
  have hl_b1 := hl
  have hbB1 := Below.refl w8.heap.size w8
  refine w_loop (fun kk fr w' => ∃ (i : Nat), kk = ms.length - i ∧ i ≤ ms.length ∧ fr 0 = c ∧ fr 3 = .pointer (some p3) ∧ fr 4 = lx ∧ fr 8 = ol ∧ fr 10 = .int .i64 i ∧ Below w8.heap.size w8 w') (ms.length)
    ⟨0, rfl, Nat.zero_le _, rfl, rfl, rfl, rfl, rfl, hbB1⟩ ?_
  rintro kk fr w9 ⟨i, rfl, hi, f0, f3, f4, f8, f10, hbB1⟩
  have sw9 := hbB1.size
  have hcl := hcl_b1.below hbB1
  have hv := hv_b1.below hbB1
  have hc3 := cell_below hc3_b1 hbB1
  have hA := hA_b1.below hbB1
  have hl := hl_b1.below hbB1
  refine know (t := 0) f0 ?_; refine know (t := 3) f3 ?_; refine know (t := 4) f4 ?_; refine know (t := 8) f8 ?_; refine know (t := 10) f10 ?_
  refine go ?_
  refine cond_dec rfl (fun hlt => ?_) (fun hge => ?_)
  · have hrow := symT_gr hm (k := i) (by omega)
    have hrl := congrArg List.length hrow
    rw [length_symRow] at hrl
    obtain ⟨u, hu, hcu⟩ := hA.rl.row (j := (i : Int)) (by omega) (by omega)
    obtain ⟨u2, hu2, hcu2⟩ := hv.row (j := (i : Int)) (by omega) (by omega)
    have hrl2 := (hm.syst.row (j := (i : Int)) (by omega) (by omega)).1
    have su := hu.sv
    have su2 := hu2.sv
    rw [hrl] at su
    rw [hrl2] at su2
    refine go ?_
    have sbs2 := hbB1.size
    have hcl_b2 := hcl
    have hv_b2 := hv
    have hc3_b2 := hc3
    have hA_b2 := hA
    have hl_b2 := hl
    have hu_b2 := hu
    have hu2_b2 := hu2
    have hcu_b2 := hcu
    have hcu2_b2 := hcu2
    have hbB2 := Below.refl w9.heap.size w9
    refine go ?_
    refine w_loop (fun kk fr w' => ∃ (y : Nat), kk = nf ms - y ∧ y ≤ nf ms ∧ fr 0 = c ∧ fr 3 = .pointer (some p3) ∧ fr 4 = lx ∧ fr 8 = ol ∧ fr 10 = .int .i64 i ∧ fr 11 = .int .i64 y ∧ Below w9.heap.size w9 w') (nf ms)
      ⟨0, rfl, Nat.zero_le _, rfl, rfl, rfl, rfl, rfl, rfl, hbB2⟩ ?_
    rintro kk fr w10 ⟨y, rfl, hy, f0, f3, f4, f8, f10, f11, hbB2⟩
    have sw10 := hbB2.size
    have hcl := hcl_b2.below hbB2
    have hv := hv_b2.below hbB2
    have hc3 := cell_below hc3_b2 hbB2
    have hA := hA_b2.below hbB2
    have hl := hl_b2.below hbB2
    have hu := hu_b2.below hbB2
    have hu2 := hu2_b2.below hbB2
    have hcu := cell_below hcu_b2 hbB2
    have hcu2 := cell_below hcu2_b2 hbB2
    refine know (t := 0) f0 ?_; refine know (t := 3) f3 ?_; refine know (t := 4) f4 ?_; refine know (t := 8) f8 ?_; refine know (t := 10) f10 ?_; refine know (t := 11) f11 ?_
    refine go ?_
    refine cond_dec rfl (fun hlty => ?_) (fun hgey => ?_)
    · have ho := hlr y (by omega) (by omega)
      have hy := hm.syst.at (j := (i : Int)) (x := (y : Int)) (by omega) (by omega) (by omega)
      have e1 := symT_at hm (k := i) (by omega) (x := (y : Int)) (by omega)
      have e2 := symT_twice hm (k := i) (by omega) (x := (y : Int)) (by omega)
      have ho2 := hlr _ hy.1 hy.2
      have q1 : ¬ (gi (labs (nf ms) (auts ms)) y < 0) := by omega
      have q2 : ¬ (gi (labs (nf ms) (auts ms)) y ≥ ((labc (nf ms) (auts ms)).toNat : Int)) := by omega
      have q3 : ¬ (gi (gr (symT ms) i) (gi (labs (nf ms) (auts ms)) y) ≠ gi (labs (nf ms) (auts ms)) (gi (gr ms i) y)) := fun h => h e1
      have q4 : ¬ (gi (gr (symT ms) i) (gi (gr (symT ms) i) (gi (labs (nf ms) (auts ms)) y)) ≠ gi (labs (nf ms) (auts ms)) y) := fun h => h e2
      refine go ?_
      refine region_q mixed (by kernel_rfl) ?_
      refine qo ?_
      refine q_nil ?_
      intro w11 hb11
      have sw11 := hb11.size
      replace hcl := hcl.below hb11
      replace hv := hv.below hb11
      replace hc3 := cell_below hc3 hb11
      replace hA := hA.below hb11
      replace hl := hl.below hb11
      replace hu := hu.below hb11
      replace hu2 := hu2.below hb11
      replace hcu := cell_below hcu hb11
      replace hcu2 := cell_below hcu2 hb11
      replace hbB2 := hbB2.trans (hb11.mono hbB2.size)
      refine go ?_
      refine ⟨nf ms - (y + 1), by omega, y + 1, rfl, by omega, rfl, rfl, rfl, rfl, rfl, rfl, hbB2⟩
    obtain rfl : y = nf ms := by omega
    replace hbB1 := hbB1.trans (hbB2.mono hbB1.size)
    refine go ?_
    refine ⟨ms.length - (i + 1), by omega, i + 1, rfl, by omega, rfl, rfl, rfl, rfl, rfl, hbB1⟩
  obtain rfl : i = ms.length := by omega
  refine go ?_
  refine s_call1 (wn rfl) rfl rfl (implStandardAutomorphisms_any _ _ _ hv) ?_
  rintro _ w12 ⟨sx, rfl, hS, hb12⟩
  have sw12 := hb12.size
  replace hcl := hcl.below hb12
  replace hv := hv.below hb12
  replace hc3 := cell_below hc3 hb12
  replace hA := hA.below hb12
  replace hl := hl.below hb12
  replace hbB1 := hbB1.trans (hb12.mono hbB1.size)
  refine go ?_
  refine s_call1 (wn rfl) rfl rfl (implIsRegular_any _ _ _ hv) ?_
  rintro _ w13 ⟨rfl, hb13⟩
  have sw13 := hb13.size
  replace hcl := hcl.below hb13
  replace hv := hv.below hb13
  replace hc3 := cell_below hc3 hb13
  replace hA := hA.below hb13
  replace hl := hl.below hb13
  replace hS := hS.below hb13
  replace hbB1 := hbB1.trans (hb13.mono hbB1.size)
  rw [manC_yes hm, isReg_yes hm]
  refine go ?_
  by_cases h1 : labc (nf ms) (auts ms) = 1
  rotate_left
  · have es := (stdA_2 hm h1).2
    rw [es, decide_eq_false h1]
    have q0 : ¬ (false ≠ decide ((5 : Int) = 0)) := fun h => h (by decide)
    refine go ?_
    exact end_one Try.results8 rfl ⟨rfl, (hb.trans (hbB1.mono hb.size))⟩
  have es := (stdA_3 hm h1).2
  rw [es, decide_eq_true h1]
  have q0 : ¬ (true ≠ decide ((0 : Int) = 0)) := fun h => h (by decide)
  have hsl2 := length_stdA hm h1
  have sS := hS.sv
  rw [hsl2] at sS
  refine go ?_
  refine s_call1 (wy rfl rfl rfl rfl rfl known) rfl rfl (flags5_any _ _ _ hv r1) ?_
  rintro _ w14 ⟨rfl, hb14⟩
  have sw14 := hb14.size
  replace hcl := hcl.below hb14
  replace hv := hv.below hb14
  replace hc3 := cell_below hc3 hb14
  replace hA := hA.below hb14
  replace hl := hl.below hb14
  replace hS := hS.below hb14
  replace hbB1 := hbB1.trans (hb14.mono hbB1.size)
  refine go ?_
  refine s_call2 (wy rfl rfl rfl rfl rfl known) rfl rfl rfl (perms5_good _ _ _ _ hS.rl (std_perm hm h1)) ?_
  rintro _ w15 ⟨rfl, hb15⟩
  have sw15 := hb15.size
  replace hcl := hcl.below hb15
  replace hv := hv.below hb15
  replace hc3 := cell_below hc3 hb15
  replace hA := hA.below hb15
  replace hl := hl.below hb15
  replace hS := hS.below hb15
  replace hbB1 := hbB1.trans (hb15.mono hbB1.size)
  refine go ?_
  refine region_h mixed (fun w16 hc16 => ?_)
  have swr16 := hc16.size
  refine h_p 0 hc16 ?_
  refine h_p 2 hc16 ?_
  refine h_p 3 hc16 ?_
  refine h_p 4 hc16 ?_
  refine h_one 1 ?_
  refine s_call2 (wn rfl) rfl rfl rfl (roll_any _ _ 711 _ (hcl.below hc16) (by decide)) ?_
  rintro _ w17 ⟨q, rfl, hs, hb17⟩
  have hc17 := hc16.trans (hb17.mono hc16.size)
  refine w_nil ?_
  refine h_on ⟨hc17, ?_⟩
  refine h_one 5 ?_
  refine s_call3 (wn rfl) rfl rfl rfl rfl (word5_any q _ c bs _ _ ms.length 8 _ rfl rfl (by omega) (by omega) (by omega) hs) ?_
  rintro wv w18 ⟨wd, hw, hwl, hwr, hs2, hgq⟩
  have hlq := hs.low
  have hcq := hc17.trans (gr_below hgq hc17.size (by have := hc17.size; omega))
  refine w_nil ?_
  refine h_on ⟨hcq, ?_⟩
  refine h_p 6 hcq ?_
  refine h_nil ?_
  have sw18 := hcq.size
  replace hcl := hcl.below hcq
  replace hv := hv.below hcq
  replace hc3 := cell_below hc3 hcq
  replace hA := hA.below hcq
  replace hl := hl.below hcq
  replace hS := hS.below hcq
  replace hbB1 := hbB1.trans (hcq.mono hbB1.size)
  have swd := hw.sv
  refine go ?_
  have sbs2 := hbB1.size
  have hcl_b2 := hcl
  have hv_b2 := hv
  have hc3_b2 := hc3
  have hA_b2 := hA
  have hl_b2 := hl
  have hS_b2 := hS
  have hw_b2 := hw
  have hbB2 := Below.refl w18.heap.size w18
  refine go ?_
  refine w_loop (fun kk fr w' => ∃ (i : Nat), kk = wd.length - i ∧ i ≤ wd.length ∧ fr 3 = .pointer (some p3) ∧ fr 13 = sx ∧ fr 17 = wv ∧ fr 18 = .int .i64 (run ms (wd.take i).reverse 0) ∧ fr 19 = .int .i64 i ∧ Below w18.heap.size w18 w') (wd.length)
    ⟨0, rfl, Nat.zero_le _, rfl, rfl, rfl, rfl, rfl, hbB2⟩ ?_
  rintro kk fr w19 ⟨i, rfl, hi, f3, f13, f17, f18, f19, hbB2⟩
  have sw19 := hbB2.size
  have hcl := hcl_b2.below hbB2
  have hv := hv_b2.below hbB2
  have hc3 := cell_below hc3_b2 hbB2
  have hA := hA_b2.below hbB2
  have hl := hl_b2.below hbB2
  have hS := hS_b2.below hbB2
  have hw := hw_b2.below hbB2
  refine know (t := 3) f3 ?_; refine know (t := 13) f13 ?_; refine know (t := 17) f17 ?_; refine know (t := 18) f18 ?_; refine know (t := 19) f19 ?_
  refine go ?_
  refine cond_dec rfl (fun hlt => ?_) (fun hge => ?_)
  · have hwi := hwr _ (gi_in (xs := wd) (j := i) (by omega))
    have hst := std_step hm h1 hwr (i := i) (by omega)
    have hrg := run_rng hm.syst (wd.take i).reverse (fun x hx => hwr x (List.mem_of_mem_take (List.mem_reverse.1 hx))) 0 (by omega)
    obtain ⟨hp, _⟩ := std_gr hm h1 (k := (gi wd i).toNat) (by omega)
    rw [show (((gi wd i).toNat : Nat) : Int) = gi wd i by omega] at hp
    have hpl := hp.len
    obtain ⟨u, hu, hcu⟩ := hS.rl.row (j := gi wd i) (by omega) (by omega)
    have su := hu.sv
    rw [hpl] at su
    refine go ?_
    refine ⟨wd.length - (i + 1), by omega, i + 1, rfl, by omega, rfl, rfl, rfl, by rw [hst]; rfl, rfl, hbB2⟩
  obtain rfl : i = wd.length := by omega
  rw [List.take_length]
  refine go ?_
  refine region_h mixed (fun w20 hc20 => ?_)
  have swr20 := hc20.size
  refine h_p 0 hc20 ?_
  refine h_p 1 hc20 ?_
  refine h_one 2 ?_
  refine s_call1 (wn rfl) rfl rfl (back5_any _ _ _ (hw.below hc20).il (by omega)) ?_
  rintro bv w21 ⟨hbv, hb21⟩
  have hc21 := hc20.trans (hb21.mono hc20.size)
  refine w_nil ?_
  refine h_on ⟨hc21, ?_⟩
  refine h_one 3 ?_
  refine s_call3 (wn rfl) rfl rfl rfl rfl (RunMoves_good _ _ _ 0 wd.reverse _ (hv.below hc21) hbv.il hm ⟨by simp; omega, fun x hx => hwr x (List.mem_reverse.1 hx)⟩ (by omega)) ?_
  rintro _ w22 ⟨rfl, hb22⟩
  have hc22 := hc21.trans (hb22.mono hc21.size)
  replace hbv := hbv.below hb22
  refine w_nil ?_
  refine h_on ⟨hc22, ?_⟩
  refine h_p 4 hc22 ?_
  refine h_p 5 hc22 ?_
  refine h_p 6 hc22 ?_
  refine h_p 7 hc22 ?_
  refine h_p 8 hc22 ?_
  refine h_nil ?_
  have sw22 := hc22.size
  replace hcl := hcl.below hc22
  replace hv := hv.below hc22
  replace hc3 := cell_below hc3 hc22
  replace hA := hA.below hc22
  replace hl := hl.below hc22
  replace hS := hS.below hc22
  replace hw := hw.below hc22
  replace hbB2 := hbB2.trans (hc22.mono hbB2.size)
  have kf : decide (run ms wd.reverse 0 = run ms wd.reverse 0) = true := decide_eq_true rfl
  refine go ?_
  exact end_one Try.results8 rfl ⟨by rw [kf], ((hb.trans (hbB1.mono hb.size)).trans (hbB2.mono (hb.trans (hbB1.mono hb.size)).size))⟩


set_option maxRecDepth 100000 in
theorem liftedSymmetryTypes (os : Os) (started : os.Started) (H : Type) (enc : TypeId × Value → H) :
    ReturnsInHanded {} Try.checked os 8 .any (Rows.fnSymmetryTypesSpec.pre6 enc Try.prog Try.f8 Rows.fnSymmetryTypesRow.domain false) (Rows.fnSymmetryTypesSpec.post enc Try.prog Try.f8 false true false false) := by
  refine returnsInHanded_of_change (C := Try.checked) own started (by kernel_rfl) Try.func8
    (ChangeSpec.witness6 (enc := enc) (C := Try.checked) false ⟨#[], #[.slice none 0 0], []⟩ 8 (by kernel_rfl) (by kernel_rfl) (by kernel_rfl) (by kernel_rfl)) ?_
  intro W base args ds gs before hval0 hW hcnd _
  have hval : ∀ (j : Nat) t v, Try.f8.params[j]? = some t → args[j]? = some v → Value.okWide Try.prog W .any base t v := hval0
  have hW' := hW
  obtain ⟨p, q, hA0, hV, rfl, hfz, hnd⟩ := hW
  have hA : DataW.TrodAll enc Try.prog W 0 (fun _ => true) true Try.f8.params.toList args.toList ds p := hA0
  rw [Try.params8] at hA hval
  obtain ⟨v0, vs0, d0, ds0, p0, q0, hargs, rfl, rfl, h0, r0⟩ := trodAll_cons hA
  obtain ⟨rfl, rfl, rfl⟩ := trodAll_nil r0
  obtain rfl : args = #[v0] := by cases args; simp_all
  obtain ⟨rfl, rfl⟩ := trodVars_none hV
  have lt0 : ∀ x ∈ p0, x.block < W.heap.size := by obtain ⟨m, hm⟩ := h0; exact DataW.trod_lt m _ _ _ hm
  obtain ⟨xs0, hu0⟩ := open_arg_B (hval 0 37 v0 rfl rfl) h0
  clear hA0 hval0
  refine Calls.mono (lawSymmetryTypes_any v0 xs0 W hu0) fun e W' ⟨v, he, hv, bel⟩ => ?_
  subst he
  subst hv
  exact ⟨_, rfl, _, _, _, [], _, [], hW', trodAll_mk1 (shut_bool Try.underlying4 _), (trodAll_cons_mk (Below.trod laidOut (by kernel_rfl) (of_decide_eq_true (by kernel_rfl)) h0 bel lt0) trodAll_mk0), rfl, bel.frame _, fun h => by cases h⟩

theorem provedSymmetryTypes : Rows.FnSymmetryTypesSaid :=
  OpenClaim.holds_of_wide 8 Try.f8 rfl rfl rfl rfl rfl rfl rfl ⟨rfl, rfl, rfl, rfl, rfl⟩ rfl rfl rfl rfl rfl (by kernel_rfl) Try.func8 (by kernel_rfl)
    (of_decide_eq_true (by kernel_rfl)) (by unfold Func.isWrapper; first | (rw [if_pos (by decide +kernel)]; kernel_rfl) | (rw [if_neg (by decide +kernel)]; exact ⟨rfl, rfl⟩))
    (fun os started H enc _ => liftedSymmetryTypes os started H enc)

end Go.Proofs.Ytlodnhflfijomaa
