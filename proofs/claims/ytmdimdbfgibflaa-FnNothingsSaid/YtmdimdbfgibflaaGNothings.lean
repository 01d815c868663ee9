/- The general law of FirstNothing and WordPeriod, for every code: its walk and its row. No conditions. -/
import Derived.Test.YtmdimdbfgibflaaF89
import Derived.Test.YtmdimdbfgibflaaFH
import Derived.Test.YtmdimdbfgibflaaF67
import Derived.Test.YtmdimdbfgibflaaFE
import Derived.Test.YtmdimdbfgibflaaF46
import Derived.Test.YtmdimdbfgibflaaF47
import Derived.Test.YtmdimdbfgibflaaPF
import Derived.Test.YtmdimdbfgibflaaRA
import Derived.WalkKit
import Derived.ShutString
namespace Go.Proofs.Ytmdimdbfgibflaa
open Go.Mem Go.ChangeShapes Go.WideShapes Go.ChangeAt Go.RowKit
set_option linter.unusedVariables false
set_option linter.unusedSimpArgs false

theorem wpC_0 {ms : List (List Int)} {wd : List Int} (h : wpC ms wd = 0) : (IsMan ms ∧ IsWord ms wd) ∧ wpN ms wd = ord (nf ms) (does ms wd (nf ms)) ∧ ord (nf ms) (does ms wd (nf ms)) ≤ 1000000000000000 := by
  by_cases hw : wordC ms wd = 0
  · by_cases hb : ord (nf ms) (does ms wd (nf ms)) ≤ 1000000000000000
    · exact ⟨wordC_0 hw, (wp_3 hw hb).1, hb⟩
    · rw [(wp_2 hw hb).2] at h; exact absurd h (by decide)
  · rw [(wp_1 hw).2] at h; exact absurd h hw

set_option maxHeartbeats 16000000 in
set_option maxRecDepth 100000 in
theorem lawNothings_any (c : Value) (bs : List Int) (w : World) (hcl : CL w c bs) :
    Ret Try.prog 8 #[c] w fun r w' => r = .bool true ∧ Below w.heap.size w w' := by
  have shcl := hcl.sv
  have hb := Below.refl w.heap.size w
  have hclE := hcl
  refine enter1 152 Try.func8 rfl Try.ntmps8 rfl (fun fr => ?_)
  refine go ?_
  refine s_call1 (wn rfl) rfl rfl (big_any _ _ _ hcl) ?_
  rintro _ _ ⟨rfl, rfl⟩
  refine go ?_
  refine cond_dec rfl (fun hbig => ?_) (fun hbig => ?_)
  · refine go ?_
    exact end_one Try.results8 rfl ⟨rfl, hb⟩
  refine go ?_
  refine s_call1 (wn rfl) rfl rfl (DrawFirstNothing_any _ _ _ hcl) ?_
  rintro _ w1 ⟨x, y, n, ms, ks, rfl, hv, hv2, hb1⟩
  have sw1 := hb1.size
  replace hcl := hcl.below hb1
  replace hb := hb.trans (hb1.mono hb.size)
  have shv := hv.sv
  have shv2 := hv2.sv
  refine go ?_
  refine s_p (wn rfl) rfl (y_x30 rfl) ?_
  refine s_p (wn rfl) rfl (y_x31 rfl) ?_
  refine s_p (wn rfl) rfl (y_x32 rfl) ?_
  refine go ?_
  refine s_alloc (B := w1.heap.size) (wn rfl) rfl (Nat.le_refl _) (fun a1 p3 hx3 ga1 hp3 => ?_)
  have ba := below_of_grownBy ga1
  refine go ?_
  refine s_alloc (B := w1.heap.size) (wn rfl) rfl ba.size (fun a2 p4 hx4 ga2 hp4 => ?_)
  have ba2 := below_of_grownBy ga2
  have zlt3 := hx3.lt
  replace hx3 := hx3.below ba2
  have bb := ba.trans (ba2.mono ba.size)
  have zba := ba.size
  have zba2 := ba2.size
  have hltpq : p3.block < p4.block := by have e4 := hp4; omega
  refine go ?_
  refine s_storeBox (wn rfl) rfl rfl shv.one hx3 (fun a3 hx3b ga3 => ?_)
  have bc := bb.trans (hx3.below_of ga3 bb.size)
  replace hx4 := hx4.kept ga3 (by intro e; have := Option.some.inj e; omega)
  refine go ?_
  refine s_storeBox (wn rfl) rfl rfl shv2.one hx4 (fun a4 hx4b ga4 => ?_)
  have bd := bc.trans (hx4.below_of ga4 bc.size)
  have hc4 := hx4b.cell
  have hc3 := (hx3b.kept ga4 (by intro e; have := Option.some.inj e; omega)).cell
  have sw2 := bd.size
  replace hcl := hcl.below bd
  replace hv := hv.below bd
  replace hv2 := hv2.below bd
  replace hb := hb.trans (bd.mono hb.size)
  refine go ?_
  refine s_call3 (wn rfl) rfl rfl rfl rfl (implFirstNothing_any _ _ _ _ n _ hv hv2) ?_
  rintro _ w3 ⟨lx, rfl, hA, hb3⟩
  have sw3 := hb3.size
  replace hcl := hcl.below hb3
  replace hv := hv.below hb3
  replace hv2 := hv2.below hb3
  replace hc3 := cell_below hc3 hb3
  replace hc4 := cell_below hc4 hb3
  replace hb := hb.trans (hb3.mono hb.size)
  refine go ?_
  refine s_call3 (wn rfl) rfl rfl rfl rfl (specFirstNothing_any _ _ _ _ n _ hv hv2) ?_
  rintro _ w4 ⟨ly, rfl, hA2, hb4⟩
  have sw4 := hb4.size
  replace hcl := hcl.below hb4
  replace hv := hv.below hb4
  replace hv2 := hv2.below hb4
  replace hc3 := cell_below hc3 hb4
  replace hc4 := cell_below hc4 hb4
  replace hA := hA.below hb4
  replace hb := hb.trans (hb4.mono hb.size)
  have hn1 : ¬ (fnC ms ks n ≠ fnC ms ks n) := fun h => h rfl
  have he1 : decide (fnL ms ks n = fnL ms ks n) = true := decide_eq_true rfl
  have sA := hA.sv
  refine go ?_
  refine s_call2 (wy rfl rfl rfl rfl rfl known) rfl rfl rfl (likeInts_any _ _ _ _ _ hA.il hA2.il) ?_
  rintro _ w5 ⟨rfl, hb5⟩
  have sw5 := hb5.size
  replace hcl := hcl.below hb5
  replace hv := hv.below hb5
  replace hv2 := hv2.below hb5
  replace hc3 := cell_below hc3 hb5
  replace hc4 := cell_below hc4 hb5
  replace hA := hA.below hb5
  replace hA2 := hA2.below hb5
  replace hb := hb.trans (hb5.mono hb.size)
  rw [he1]
  have z0 : ¬ ((0 : Int) ≠ 0) := fun h => h rfl
  refine go ?_
  refine meet (fun r w' => r 0 = c ∧ Below w.heap.size w w') ?_ ?_
  · refine go ?_
    refine cond_dec rfl (fun h0 => ?_) (fun h0 => ?_)
    · obtain ⟨hm, hk, hw1, hw2, hs1, hs2, hl1, hln⟩ := fn_good h0
      have e1 := word_3 hm hw1
      have e2 := word_3 hk hw2
      have d1 : decide (Still ms (fnL ms ks n)) = true := decide_eq_true hs1
      have d2 : decide (Still ks (fnL ms ks n)) = false := decide_eq_false hs2
      rw [d1] at e1
      rw [d2] at e2
      have hw64 := hw1.1
      generalize fnL ms ks n = W at *
      have q1 : ¬ ((W.length : Int) > n) := by omega
      have q2 : ¬ ((W.length : Int) = 0) := by omega
      refine go ?_
      refine s_call2 (wn rfl) rfl rfl rfl (implDoesNothing_any _ _ _ _ _ hv hA.il) ?_
      rintro _ w6 ⟨rfl, hb6⟩
      have sw6 := hb6.size
      replace hcl := hcl.below hb6
      replace hv := hv.below hb6
      replace hv2 := hv2.below hb6
      replace hc3 := cell_below hc3 hb6
      replace hc4 := cell_below hc4 hb6
      replace hA := hA.below hb6
      replace hb := hb.trans (hb6.mono hb.size)
      rw [e1.1, e1.2]
      refine go ?_
      refine s_call2 (wn rfl) rfl rfl rfl (implDoesNothing_any _ _ _ _ _ hv2 hA.il) ?_
      rintro _ w7 ⟨rfl, hb7⟩
      have sw7 := hb7.size
      replace hcl := hcl.below hb7
      replace hv := hv.below hb7
      replace hv2 := hv2.below hb7
      replace hc3 := cell_below hc3 hb7
      replace hc4 := cell_below hc4 hb7
      replace hA := hA.below hb7
      replace hb := hb.trans (hb7.mono hb.size)
      rw [e2.1, e2.2]
      refine go ?_
      exact ⟨rfl, hb⟩
    refine go ?_
    exact ⟨rfl, hb⟩
  have hcl0 := hclE
  clear hb hv hv2 hA hc3 hc4 shv shv2
  rintro r w8 ⟨r0, hb⟩
  have sw8 := hb.size
  have hcl := hclE.below hb
  refine know (t := 0) r0 ?_
  refine go ?_
  refine s_call1 (wn rfl) rfl rfl (DrawWordPeriod_any _ _ _ hcl) ?_
  rintro _ w9 ⟨x, ms, y, wd, rfl, hv, hwd, hb9⟩
  have sw9 := hb9.size
  replace hcl := hcl.below hb9
  replace hb := hb.trans (hb9.mono hb.size)
  have shv := hv.sv
  have swd := hwd.sv
  refine go ?_
  refine s_alloc (B := w9.heap.size) (wn rfl) rfl (Nat.le_refl _) (fun w10 p14 hx14 hg10 hpp14 => ?_)
  have hb10 := below_of_grownBy hg10
  refine go ?_
  refine s_storeBox (wn rfl) rfl rfl shv.one hx14 (fun w11 hx14b hg14 => ?_)
  have hbq14 := hb10.trans (hx14.below_of hg14 hb10.size)
  have sw11 := hbq14.size
  replace hcl := hcl.below hbq14
  replace hv := hv.below hbq14
  replace hwd := hwd.below hbq14
  replace hb := hb.trans (hbq14.mono hb.size)
  have hc14 := hx14b.cell
  refine go ?_
  refine s_call2 (wn rfl) rfl rfl rfl (implWordPeriod_any _ _ _ _ _ hv hwd) ?_
  rintro _ w12 ⟨rfl, hb12⟩
  have sw12 := hb12.size
  replace hcl := hcl.below hb12
  replace hv := hv.below hb12
  replace hwd := hwd.below hb12
  replace hc14 := cell_below hc14 hb12
  replace hb := hb.trans (hb12.mono hb.size)
  refine go ?_
  refine s_call2 (wn rfl) rfl rfl rfl (specWordPeriod_any _ _ _ _ _ hv hwd) ?_
  rintro _ w13 ⟨rfl, hb13⟩
  have sw13 := hb13.size
  replace hcl := hcl.below hb13
  replace hv := hv.below hb13
  replace hwd := hwd.below hb13
  replace hc14 := cell_below hc14 hb13
  replace hb := hb.trans (hb13.mono hb.size)
  have hn2 : ¬ (wpC ms wd ≠ wpC ms wd) := fun h => h rfl
  have hn3 : ¬ (wpN ms wd ≠ wpN ms wd) := fun h => h rfl
  refine go ?_
  refine cond_dec rfl (fun hne => ?_) (fun hne => ?_)
  · refine go ?_
    exact end_one Try.results8 rfl ⟨rfl, hb⟩
  obtain ⟨⟨hm, hw⟩, eN, hob⟩ := wpC_0 (Decidable.not_not.1 hne)
  have hpos := (does_pm hm hw).ord_pos
  have hfirst : ∀ k : Nat, 1 ≤ k → k ≤ ord (nf ms) (does ms wd (nf ms)) → (Still ms (repW wd k) ↔ k = ord (nf ms) (does ms wd (nf ms))) := fun k h1 h2 => still_first hm hw h1 h2
  have hw64 := hw.1
  rw [eN]
  generalize ord (nf ms) (does ms wd (nf ms)) = O at *
  have erep : ∀ j, repW wd (j + 1) = repW wd j ++ wd := fun j => rfl
  refine go ?_
  have sbs1 := hb.size
  have hcl_b1 := hcl
  have hv_b1 := hv
  have hwd_b1 := hwd
  have hc14_b1 := hc14
  have hbB1 := Below.refl w13.heap.size w13
  refine go ?_
  have szq14 := hbB1.size
  refine s_build0 (B := w13.heap.size) (wn rfl) rfl szq14 (fun ob w14 ho so hg14 _ => ?_)
  have hb14 := below_of_grownBy hg14
  have sw14 := hb14.size
  replace hcl := hcl.below hb14
  replace hv := hv.below hb14
  replace hwd := hwd.below hb14
  replace hc14 := cell_below hc14 hb14
  replace hbB1 := hbB1.trans (hb14.mono hbB1.size)
  refine go ?_
  refine w_loop (fun kk fr w' => ∃ (j : Nat) (ob : Value), kk = O - j ∧ j ≤ O ∧ fr 14 = .pointer (some p14) ∧ fr 15 = y ∧ fr 16 = .int .i64 O ∧ fr 20 = ob ∧ fr 21 = .int .i64 ((j : Int) + 1) ∧ (OI w' w13.heap.size 2 ob (repW wd j)) ∧ ((repW wd j).length ≤ 64) ∧ Below w13.heap.size w13 w') (O)
    ⟨0, ob, rfl, Nat.zero_le _, rfl, rfl, rfl, rfl, rfl, ho, by simp [repW], hbB1⟩ ?_
  rintro kk fr w15 ⟨j, ob, rfl, hj, f14, f15, f16, f20, f21, ho, h64, hbB1⟩
  have sw15 := hbB1.size
  have hcl := hcl_b1.below hbB1
  have hv := hv_b1.below hbB1
  have hwd := hwd_b1.below hbB1
  have hc14 := cell_below hc14_b1 hbB1
  have sho := ho.sv
  refine know (t := 14) f14 ?_; refine know (t := 15) f15 ?_; refine know (t := 16) f16 ?_; refine know (t := 20) f20 ?_; refine know (t := 21) f21 ?_
  refine go ?_
  by_cases l5 : (j : Int) + 1 ≤ O
  rotate_left
  · have l5b : decide ((j : Int) + 1 ≤ O) = !true := decide_eq_false l5
    refine go ?_
    exact end_one Try.results8 rfl ⟨rfl, (hb.trans (hbB1.mono hb.size))⟩
  have l5t : decide ((j : Int) + 1 ≤ O) = true := decide_eq_true l5
  by_cases l6 : ((repW wd j).length : Int) + wd.length ≤ 64
  rotate_left
  · have l6b : decide (((repW wd j).length : Int) + wd.length ≤ 64) = !true := decide_eq_false l6
    refine go ?_
    exact end_one Try.results8 rfl ⟨rfl, (hb.trans (hbB1.mono hb.size))⟩
  have l6t : decide (((repW wd j).length : Int) + wd.length ≤ 64) = true := decide_eq_true l6
  have hl2 : (repW wd (j + 1)).length ≤ 64 := by rw [erep, List.length_append]; omega
  have e1 := word_3 hm (repW_word hm hw hl2)
  have hiff := hfirst (j + 1) (by omega) (by omega)
  have k4 : ¬ (doesNo ms (repW wd (j + 1)) ≠ decide ((j : Int) + 1 = O)) := by
    refine fun h => h ?_
    rw [e1.1]
    exact decide_eq_decide.2 ⟨fun h => by have := hiff.1 h; omega, fun h => hiff.2 (by omega)⟩
  refine go ?_
  have szq16 := hbB1.size
  refine s_appendI (wn rfl) rfl rfl rfl ho hwd (by first | omega | (simp; omega)) szq16 (fun ob' w16 hoN so hgN _ => ?_)
  replace hbB1 := hbB1.trans (ho.below_of hgN szq16)
  have sw16 := hgN.size
  replace ho := hoN
  clear hoN
  replace hcl := hcl_b1.below hbB1
  replace hv := hv_b1.below hbB1
  replace hwd := hwd_b1.below hbB1
  replace hc14 := cell_below hc14_b1 hbB1
  rw [← erep] at ho
  refine go ?_
  refine s_call2 (wn rfl) rfl rfl rfl (implDoesNothing_any _ _ _ _ _ hv ho.il) ?_
  rintro _ w17 ⟨rfl, hb17⟩
  have sw17 := hb17.size
  replace hcl := hcl.below hb17
  replace hv := hv.below hb17
  replace hwd := hwd.below hb17
  replace hc14 := cell_below hc14 hb17
  replace ho := ho.below hb17
  replace hbB1 := hbB1.trans (hb17.mono hbB1.size)
  rw [e1.2]
  refine go ?_
  refine ⟨O - (j + 1), by omega, j + 1, ob', rfl, by omega, rfl, rfl, rfl, rfl, by show Value.int _ _ = _; congr 1, ho, hl2, hbB1⟩


set_option maxRecDepth 100000 in
theorem liftedNothings (os : Os) (started : os.Started) (H : Type) (enc : TypeId × Value → H) :
    ReturnsInHanded {} Try.checked os 8 .any (Rows.fnNothingsSpec.pre6 enc Try.prog Try.f8 Rows.fnNothingsRow.domain false) (Rows.fnNothingsSpec.post enc Try.prog Try.f8 false true false false) := by
  refine returnsInHanded_of_change (C := Try.checked) own started (by kernel_rfl) Try.func8
    (ChangeSpec.witness6 (enc := enc) (C := Try.checked) false ⟨#[], #[.slice none 0 0], []⟩ 8 (by kernel_rfl) (by kernel_rfl) (by kernel_rfl) (by kernel_rfl)) ?_
  intro W base args ds gs before hval0 hW hcnd _
  have hval : ∀ (j : Nat) t v, Try.f8.params[j]? = some t → args[j]? = some v → Value.okWide Try.prog W .any base t v := hval0
  have hW' := hW
  obtain ⟨p, q, hA0, hV, rfl, hfz, hnd⟩ := hW
  have hA : DataW.TrodAll enc Try.prog W 0 (fun _ => true) true Try.f8.params.toList args.toList ds p := hA0
  rw [Try.params8] at hA hval
  obtain ⟨v0, vs0, d0, ds0, p0, q0, hargs, rfl, rfl, h0, r0⟩ := trodAll_cons hA
  obtain ⟨rfl, rfl, rfl⟩ := trodAll_nil r0
  obtain rfl : args = #[v0] := by cases args; simp_all
  obtain ⟨rfl, rfl⟩ := trodVars_none hV
  have lt0 : ∀ x ∈ p0, x.block < W.heap.size := by obtain ⟨m, hm⟩ := h0; exact DataW.trod_lt m _ _ _ hm
  obtain ⟨xs0, hu0⟩ := open_arg_B (hval 0 22 v0 rfl rfl) h0
  clear hA0 hval0
  refine Calls.mono (lawNothings_any v0 xs0 W hu0) fun e W' ⟨v, he, hv, bel⟩ => ?_
  subst he
  subst hv
  exact ⟨_, rfl, _, _, _, [], _, [], hW', trodAll_mk1 (shut_bool Try.underlying4 _), (trodAll_cons_mk (Below.trod laidOut (by kernel_rfl) (of_decide_eq_true (by kernel_rfl)) h0 bel lt0) trodAll_mk0), rfl, bel.frame _, fun h => by cases h⟩

theorem provedNothings : Rows.FnNothingsSaid :=
  OpenClaim.holds_of_wide 8 Try.f8 rfl rfl rfl rfl rfl rfl rfl ⟨rfl, rfl, rfl, rfl, rfl⟩ rfl rfl rfl rfl rfl (by kernel_rfl) Try.func8 (by kernel_rfl)
    (of_decide_eq_true (by kernel_rfl)) (by unfold Func.isWrapper; first | (rw [if_pos (by decide +kernel)]; kernel_rfl) | (rw [if_neg (by decide +kernel)]; exact ⟨rfl, rfl⟩))
    (fun os started H enc _ => liftedNothings os started H enc)

end Go.Proofs.Ytmdimdbfgibflaa
