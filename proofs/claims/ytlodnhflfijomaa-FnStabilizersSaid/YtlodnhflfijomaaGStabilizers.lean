/- The general law of StabilizerOf, for every code: its walk and its row. No conditions. -/
import Derived.Test.YtlodnhflfijomaaF67
import Derived.Test.YtlodnhflfijomaaF11
import Derived.Test.YtlodnhflfijomaaF27
import Derived.Test.YtlodnhflfijomaaFG
import Derived.Test.YtlodnhflfijomaaP30
import Derived.Test.YtlodnhflfijomaaRA
import Derived.WalkKit
import Derived.ShutString
namespace Go.Proofs.Ytlodnhflfijomaa
open Go.Mem Go.ChangeShapes Go.WideShapes Go.ChangeAt Go.RowKit
set_option linter.unusedVariables false
set_option linter.unusedSimpArgs false

set_option maxHeartbeats 16000000 in
set_option maxRecDepth 100000 in
theorem lawStabilizers_any (c : Value) (bs : List Int) (w : World) (hcl : CL w c bs) :
    Ret Try.prog 9 #[c] w fun r w' => r = .bool true ∧ Below w.heap.size w w' := by
  have shcl := hcl.sv
  have hb := Below.refl w.heap.size w
  refine enter1 145 Try.func9 rfl Try.ntmps9 rfl (fun fr => ?_)
  refine go ?_
  refine s_call1 (wn rfl) rfl rfl (big_any _ _ _ hcl) ?_
  rintro _ _ ⟨rfl, rfl⟩
  refine go ?_
  refine cond_dec rfl (fun hbig => ?_) (fun hbig => ?_)
  · refine go ?_
    exact end_one Try.results9 rfl ⟨rfl, hb⟩
  refine go ?_
  refine s_call1 (wn rfl) rfl rfl (DrawStabilizerOf_any _ _ _ hcl) ?_
  rintro _ w1 ⟨x, ms, i, a, rfl, hv, hb1⟩
  have sw1 := hb1.size
  replace hcl := hcl.below hb1
  replace hb := hb.trans (hb1.mono hb.size)
  have shv := hv.sv
  refine go ?_
  refine s_p (wn rfl) rfl (y_x30 rfl) ?_
  refine s_p (wn rfl) rfl (y_x31 rfl) ?_
  refine s_p (wn rfl) rfl (y_x32 rfl) ?_
  refine go ?_
  refine s_alloc (B := w1.heap.size) (wn rfl) rfl (Nat.le_refl _) (fun w2 p3 hx3 hg2 hpp3 => ?_)
  have hb2 := below_of_grownBy hg2
  refine go ?_
  refine s_storeBox (wn rfl) rfl rfl shv.one hx3 (fun w3 hx3b hg3 => ?_)
  have hbq3 := hb2.trans (hx3.below_of hg3 hb2.size)
  have sw3 := hbq3.size
  replace hcl := hcl.below hbq3
  replace hv := hv.below hbq3
  replace hb := hb.trans (hbq3.mono hb.size)
  have hc3 := hx3b.cell
  refine go ?_
  refine s_call3 (wn rfl) rfl rfl rfl rfl (implStabilizerOf_any _ _ i a _ hv) ?_
  rintro _ w4 ⟨lx, rfl, hA, hb4⟩
  have sw4 := hb4.size
  replace hcl := hcl.below hb4
  replace hv := hv.below hb4
  replace hc3 := cell_below hc3 hb4
  replace hb := hb.trans (hb4.mono hb.size)
  refine go ?_
  refine s_call3 (wn rfl) rfl rfl rfl rfl (specStabilizerOf_any _ _ i a _ hv) ?_
  rintro _ w5 ⟨ly, rfl, hA2, hb5⟩
  have sw5 := hb5.size
  replace hcl := hcl.below hb5
  replace hv := hv.below hb5
  replace hc3 := cell_below hc3 hb5
  replace hA := hA.below hb5
  replace hb := hb.trans (hb5.mono hb.size)
  have hn1 : ¬ (stabC ms i a ≠ stabC ms i a) := fun h => h rfl
  have he1 : decide (stab ms i a = stab ms i a) = true := decide_eq_true rfl
  refine go ?_
  refine s_call2 (wy rfl rfl rfl rfl rfl known) rfl rfl rfl (likeRows5_any _ _ _ _ _ hA.rl hA2.rl) ?_
  rintro _ w6 ⟨rfl, hb6⟩
  have sw6 := hb6.size
  replace hcl := hcl.below hb6
  replace hv := hv.below hb6
  replace hc3 := cell_below hc3 hb6
  replace hA := hA.below hb6
  replace hA2 := hA2.below hb6
  replace hb := hb.trans (hb6.mono hb.size)
  refine go ?_
  refine cond_dec rfl (fun hne => ?_) (fun hne => ?_)
  · refine go ?_
    exact end_one Try.results9 rfl ⟨rfl, hb⟩
  have hrk : rkC ms i = 0 := Classical.byContradiction fun h => hne (by rw [(stab_1 h).2]; exact h)
  obtain ⟨hm, hi0, hi1⟩ := rkC_0 hrk
  have hin : a ∈ facL ms i := Classical.byContradiction fun h => hne (by rw [(stab_2 hrk h).2]; decide)
  obtain ⟨xa, hxa, hxe⟩ := in_gi hin
  have hFl := facL_all hm i
  rw [hFl.len] at hxa
  have har := facL_rng hm i (x := (xa : Int)) (by omega)
  rw [hxe] at har
  have r5 := hm.m0.r5
  have r1 := hm.m0.r1
  have f4 := hm.m0.f400
  have f2 := hm.m0.f2
  have hC := facC_pos hm i
  have hsA := facA_sym hm i
  have hL := labs_all hsA (by omega)
  have hll := hL.len
  have hale := auts_le hm
  have est := (stab_3 hrk hin).1
  have hst := stab_times hm har.1 har.2
  have hone := one_orbit (i := i) hm
  have hsl : (stab ms i a).length = ((auts ms).filter fun p => decide (actF ms i a p = a)).length := by rw [est]; rfl
  rw [← hsl] at hst
  have hsle : (stab ms i a).length ≤ (auts ms).length := by rw [hsl]; exact List.length_filter_le _ _
  have sA := hA.sv
  refine go ?_
  refine s_call1 (wn rfl) rfl rfl (implCountAutomorphisms_any _ _ _ hv) ?_
  rintro _ w7 ⟨rfl, hb7⟩
  have sw7 := hb7.size
  replace hcl := hcl.below hb7
  replace hv := hv.below hb7
  replace hc3 := cell_below hc3 hb7
  replace hA := hA.below hb7
  replace hb := hb.trans (hb7.mono hb.size)
  have ec : cntAut ms = (auts ms).length ∧ manCode ms = 0 := ⟨if_pos hm, if_pos hm⟩
  rw [ec.1, ec.2]
  refine go ?_
  refine s_call2 (wn rfl) rfl rfl rfl (implFaceOrbits_any _ _ i _ hv) ?_
  rintro _ w8 ⟨ol, rfl, hl, hb8⟩
  have sw8 := hb8.size
  replace hcl := hcl.below hb8
  replace hv := hv.below hb8
  replace hc3 := cell_below hc3 hb8
  replace hA := hA.below hb8
  replace hb := hb.trans (hb8.mono hb.size)
  rw [hrk]
  rw [facO_yes hrk] at hl
  have sl := hl.sv
  rw [hll] at sl
  refine go ?_
  refine s_call1 (wn rfl) rfl rfl (FaceCounts_good _ _ _ hv hm) ?_
  rintro _ w9 ⟨fl, rfl, hf, hb9⟩
  have sw9 := hb9.size
  replace hcl := hcl.below hb9
  replace hv := hv.below hb9
  replace hc3 := cell_below hc3 hb9
  replace hA := hA.below hb9
  replace hl := hl.below hb9
  replace hb := hb.trans (hb9.mono hb.size)
  have sf := hf.sv
  rw [facN_len] at sf
  have hfl := facN_len ms
  have hgf := gi_facN hi0 hi1
  refine go ?_
  refine s_call2 (wn rfl) rfl rfl rfl (implIsTransitiveOn_any _ _ i _ hv) ?_
  rintro _ w10 ⟨rfl, hb10⟩
  have sw10 := hb10.size
  replace hcl := hcl.below hb10
  replace hv := hv.below hb10
  replace hc3 := cell_below hc3 hb10
  replace hA := hA.below hb10
  replace hl := hl.below hb10
  replace hf := hf.below hb10
  replace hb := hb.trans (hb10.mono hb.size)
  rw [hrk, isTr_yes hrk]
  have k1 : ¬ ((ms.length : Int) ≤ i) := by omega
  have k2 : ¬ (((facC ms i).toNat : Int) ≠ gi (facN ms) i) := by rw [hgf]; omega
  have k3 : ¬ (a ≥ ((facC ms i).toNat : Int)) := by omega
  generalize hO : labs (facC ms i).toNat (facA ms i) = O at *
  generalize hT : labc (facC ms i).toNat (facA ms i) = T at *
  have horn : ∀ k : Nat, (orbN O a k : Int) ≤ k := fun k => by
    induction k with
    | zero => simp [orbN, sumTo]
    | succ k ih => unfold orbN at ih ⊢; rw [sumTo]; split <;> omega
  refine go ?_
  refine go ?_
  have sbs1 := hb.size
  have hcl_b1 := hcl
  have hv_b1 := hv
  have hc3_b1 := hc3
  have hA_b1 := hA
  have hl_b1 := hl
  have hf_b1 := hf
  have hbB1 := Below.refl w10.heap.size w10
  refine w_loop (fun kk fr w' => ∃ (e : Nat), kk = (facC ms i).toNat - e ∧ e ≤ (facC ms i).toNat ∧ fr 5 = .int .i64 a ∧ fr 6 = lx ∧ fr 10 = .int .i64 (auts ms).length ∧ fr 12 = ol ∧ fr 16 = .bool (decide (T = 1)) ∧ fr 18 = .int .i64 (orbN O a e : Nat) ∧ fr 19 = .bool (allZ O e) ∧ fr 20 = .int .i64 e ∧ Below w10.heap.size w10 w') ((facC ms i).toNat)
    ⟨0, rfl, Nat.zero_le _, rfl, rfl, rfl, rfl, rfl, rfl, rfl, rfl, hbB1⟩ ?_
  rintro kk fr w11 ⟨e, rfl, he, f5, f6, f10, f12, f16, f18, f19, f20, hbB1⟩
  have sw11 := hbB1.size
  have hcl := hcl_b1.below hbB1
  have hv := hv_b1.below hbB1
  have hc3 := cell_below hc3_b1 hbB1
  have hA := hA_b1.below hbB1
  have hl := hl_b1.below hbB1
  have hf := hf_b1.below hbB1
  refine know (t := 5) f5 ?_; refine know (t := 6) f6 ?_; refine know (t := 10) f10 ?_; refine know (t := 12) f12 ?_; refine know (t := 16) f16 ?_; refine know (t := 18) f18 ?_; refine know (t := 19) f19 ?_; refine know (t := 20) f20 ?_
  refine go ?_
  refine cond_dec rfl (fun hlt => ?_) (fun hge => ?_)
  · have hon := horn e
    refine go ?_
    refine region_q mixed (by kernel_rfl) ?_
    refine qo ?_
    refine q_nil ?_
    intro w12 hb12
    have sw12 := hb12.size
    replace hcl := hcl.below hb12
    replace hv := hv.below hb12
    replace hc3 := cell_below hc3 hb12
    replace hA := hA.below hb12
    replace hl := hl.below hb12
    replace hf := hf.below hb12
    replace hbB1 := hbB1.trans (hb12.mono hbB1.size)
    refine go ?_
    refine cond_dec rfl (fun heq => ?_) (fun heq => ?_)
    · refine go ?_
      by_cases hz : allZ O e = true
      · rw [hz]
        refine go ?_
        refine ⟨(facC ms i).toNat - (e + 1), by omega, e + 1, rfl, by omega, rfl, rfl, rfl, rfl, rfl, by rw [show orbN O a (e + 1) = orbN O a e + 1 by unfold orbN; rw [sumTo, if_pos heq]]; rfl, by rw [show allZ O (e + 1) = (allZ O e && decide (gi O e = 0)) from rfl, hz, Bool.true_and]; rfl, rfl, hbB1⟩
      have hz' : allZ O e = false := by simpa using hz
      rw [hz']
      refine go ?_
      refine ⟨(facC ms i).toNat - (e + 1), by omega, e + 1, rfl, by omega, rfl, rfl, rfl, rfl, rfl, by rw [show orbN O a (e + 1) = orbN O a e + 1 by unfold orbN; rw [sumTo, if_pos heq]]; rfl, by rw [show allZ O (e + 1) = (allZ O e && decide (gi O e = 0)) from rfl, hz', Bool.false_and]; rfl, rfl, hbB1⟩
    refine go ?_
    by_cases hz : allZ O e = true
    · rw [hz]
      refine go ?_
      refine ⟨(facC ms i).toNat - (e + 1), by omega, e + 1, rfl, by omega, rfl, rfl, rfl, rfl, rfl, by rw [show orbN O a (e + 1) = orbN O a e + 0 by unfold orbN; rw [sumTo, if_neg heq]]; rfl, by rw [show allZ O (e + 1) = (allZ O e && decide (gi O e = 0)) from rfl, hz, Bool.true_and]; rfl, rfl, hbB1⟩
    have hz' : allZ O e = false := by simpa using hz
    rw [hz']
    refine go ?_
    refine ⟨(facC ms i).toNat - (e + 1), by omega, e + 1, rfl, by omega, rfl, rfl, rfl, rfl, rfl, by rw [show orbN O a (e + 1) = orbN O a e + 0 by unfold orbN; rw [sumTo, if_neg heq]]; rfl, by rw [show allZ O (e + 1) = (allZ O e && decide (gi O e = 0)) from rfl, hz', Bool.false_and]; rfl, rfl, hbB1⟩
  obtain rfl : e = (facC ms i).toNat := by omega
  have hon := horn (facC ms i).toNat
  have hst2 : ((stab ms i a).length : Int) * (orbN O a (facC ms i).toNat : Nat) = (auts ms).length := by rw [← Int.natCast_mul, hst]
  refine go ?_
  refine s_p (wn rfl) rfl (y_mul rfl rfl (by omega)) ?_
  have kfin : decide (decide (T = 1) = allZ O (facC ms i).toNat) = true := decide_eq_true (by
    by_cases h : T = 1
    · rw [decide_eq_true h]; exact ((allZ_iff O _).2 (hone.1 h)).symm
    · rw [decide_eq_false h]; cases hz : allZ O (facC ms i).toNat with
      | false => rfl
      | true => exact absurd (hone.2 ((allZ_iff O _).1 hz)) h)
  refine go ?_
  exact end_one Try.results9 rfl ⟨by rw [kfin], (hb.trans (hbB1.mono hb.size))⟩


set_option maxRecDepth 100000 in
theorem liftedStabilizers (os : Os) (started : os.Started) (H : Type) (enc : TypeId × Value → H) :
    ReturnsInHanded {} Try.checked os 9 .any (Rows.fnStabilizersSpec.pre6 enc Try.prog Try.f9 Rows.fnStabilizersRow.domain false) (Rows.fnStabilizersSpec.post enc Try.prog Try.f9 false true false false) := by
  refine returnsInHanded_of_change (C := Try.checked) own started (by kernel_rfl) Try.func9
    (ChangeSpec.witness6 (enc := enc) (C := Try.checked) false ⟨#[], #[.slice none 0 0], []⟩ 8 (by kernel_rfl) (by kernel_rfl) (by kernel_rfl) (by kernel_rfl)) ?_
  intro W base args ds gs before hval0 hW hcnd _
  have hval : ∀ (j : Nat) t v, Try.f9.params[j]? = some t → args[j]? = some v → Value.okWide Try.prog W .any base t v := hval0
  have hW' := hW
  obtain ⟨p, q, hA0, hV, rfl, hfz, hnd⟩ := hW
  have hA : DataW.TrodAll enc Try.prog W 0 (fun _ => true) true Try.f9.params.toList args.toList ds p := hA0
  rw [Try.params9] at hA hval
  obtain ⟨v0, vs0, d0, ds0, p0, q0, hargs, rfl, rfl, h0, r0⟩ := trodAll_cons hA
  obtain ⟨rfl, rfl, rfl⟩ := trodAll_nil r0
  obtain rfl : args = #[v0] := by cases args; simp_all
  obtain ⟨rfl, rfl⟩ := trodVars_none hV
  have lt0 : ∀ x ∈ p0, x.block < W.heap.size := by obtain ⟨m, hm⟩ := h0; exact DataW.trod_lt m _ _ _ hm
  obtain ⟨xs0, hu0⟩ := open_arg_B (hval 0 37 v0 rfl rfl) h0
  clear hA0 hval0
  refine Calls.mono (lawStabilizers_any v0 xs0 W hu0) fun e W' ⟨v, he, hv, bel⟩ => ?_
  subst he
  subst hv
  exact ⟨_, rfl, _, _, _, [], _, [], hW', trodAll_mk1 (shut_bool Try.underlying4 _), (trodAll_cons_mk (Below.trod laidOut (by kernel_rfl) (of_decide_eq_true (by kernel_rfl)) h0 bel lt0) trodAll_mk0), rfl, bel.frame _, fun h => by cases h⟩

theorem provedStabilizers : Rows.FnStabilizersSaid :=
  OpenClaim.holds_of_wide 9 Try.f9 rfl rfl rfl rfl rfl rfl rfl ⟨rfl, rfl, rfl, rfl, rfl⟩ rfl rfl rfl rfl rfl (by kernel_rfl) Try.func9 (by kernel_rfl)
    (of_decide_eq_true (by kernel_rfl)) (by unfold Func.isWrapper; first | (rw [if_pos (by decide +kernel)]; kernel_rfl) | (rw [if_neg (by decide +kernel)]; exact ⟨rfl, rfl⟩))
    (fun os started H enc _ => liftedStabilizers os started H enc)

end Go.Proofs.Ytlodnhflfijomaa
