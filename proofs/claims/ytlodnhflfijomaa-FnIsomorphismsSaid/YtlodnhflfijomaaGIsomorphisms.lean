/- The general law of IsomorphismOf, for every code: its walk and its row. No conditions. -/
import Derived.Test.YtlodnhflfijomaaF72
import Derived.Test.YtlodnhflfijomaaF61
import Derived.Test.YtlodnhflfijomaaFC
import Derived.Test.YtlodnhflfijomaaP32
import Derived.Test.YtlodnhflfijomaaRA
import Derived.WalkKit
import Derived.ShutString
namespace Go.Proofs.Ytlodnhflfijomaa
open Go.Mem Go.ChangeShapes Go.WideShapes Go.ChangeAt Go.RowKit
set_option linter.unusedVariables false
set_option linter.unusedSimpArgs false

set_option maxHeartbeats 16000000 in
set_option maxRecDepth 100000 in
theorem lawIsomorphisms_any (c : Value) (bs : List Int) (w : World) (hcl : CL w c bs) :
    Ret Try.prog 7 #[c] w fun r w' => r = .bool true ∧ Below w.heap.size w w' := by
  have shcl := hcl.sv
  have hb := Below.refl w.heap.size w
  refine enter1 100 Try.func7 rfl Try.ntmps7 rfl (fun fr => ?_)
  refine go ?_
  refine s_call1 (wn rfl) rfl rfl (big_any _ _ _ hcl) ?_
  rintro _ _ ⟨rfl, rfl⟩
  refine go ?_
  refine cond_dec rfl (fun hbig => ?_) (fun hbig => ?_)
  · refine go ?_
    exact end_one Try.results7 rfl ⟨rfl, hb⟩
  refine go ?_
  refine s_call1 (wn rfl) rfl rfl (DrawIsomorphismOf_any _ _ _ hcl) ?_
  rintro _ w1 ⟨x, y, ms, ks, rfl, hv, hv2, hb1⟩
  have sw1 := hb1.size
  replace hcl := hcl.below hb1
  replace hb := hb.trans (hb1.mono hb.size)
  have shv := hv.sv
  have shv2 := hv2.sv
  refine go ?_
  refine s_alloc (B := w1.heap.size) (wn rfl) rfl (Nat.le_refl _) (fun a1 p3 hx3 ga1 hp3 => ?_)
  have ba := below_of_grownBy ga1
  refine go ?_
  refine s_alloc (B := w1.heap.size) (wn rfl) rfl ba.size (fun a2 p4 hx4 ga2 hp4 => ?_)
  have ba2 := below_of_grownBy ga2
  have zlt3 := hx3.lt
  replace hx3 := hx3.below ba2
  have bb := ba.trans (ba2.mono ba.size)
  have zba := ba.size
  have zba2 := ba2.size
  have hlt3 : p3.block < p4.block := by have e4 := hp4; omega
  refine go ?_
  refine s_storeBox (wn rfl) rfl rfl shv.one hx3 (fun a3 hx3b ga3 => ?_)
  have bc := bb.trans (hx3.below_of ga3 bb.size)
  replace hx4 := hx4.kept ga3 (by intro e; have := Option.some.inj e; omega)
  refine go ?_
  refine s_storeBox (wn rfl) rfl rfl shv2.one hx4 (fun a4 hx4b ga4 => ?_)
  have bd := bc.trans (hx4.below_of ga4 bc.size)
  have hc4 := hx4b.cell
  have hc3 := (hx3b.kept ga4 (by intro e; have := Option.some.inj e; omega)).cell
  have sw2 := bd.size
  replace hcl := hcl.below bd
  replace hv := hv.below bd
  replace hv2 := hv2.below bd
  replace hb := hb.trans (bd.mono hb.size)
  refine go ?_
  refine s_call2 (wn rfl) rfl rfl rfl (implIsomorphismOf_any _ _ _ _ _ hv hv2) ?_
  rintro _ w3 ⟨lx, rfl, hA, hb3⟩
  have sw3 := hb3.size
  replace hcl := hcl.below hb3
  replace hv := hv.below hb3
  replace hv2 := hv2.below hb3
  replace hc3 := cell_below hc3 hb3
  replace hc4 := cell_below hc4 hb3
  replace hb := hb.trans (hb3.mono hb.size)
  refine go ?_
  refine s_call2 (wn rfl) rfl rfl rfl (specIsomorphismOf_any _ _ _ _ _ hv hv2) ?_
  rintro _ w4 ⟨ly, rfl, hA2, hb4⟩
  have sw4 := hb4.size
  replace hcl := hcl.below hb4
  replace hv := hv.below hb4
  replace hv2 := hv2.below hb4
  replace hc3 := cell_below hc3 hb4
  replace hc4 := cell_below hc4 hb4
  replace hA := hA.below hb4
  replace hb := hb.trans (hb4.mono hb.size)
  have hn1 : ¬ (isoToC ms ks ≠ isoToC ms ks) := fun h => h rfl
  have he1 : decide (isoTo ms ks = isoTo ms ks) = true := decide_eq_true rfl
  refine go ?_
  refine s_call2 (wy rfl rfl rfl rfl rfl known) rfl rfl rfl (likeInts_any _ _ _ _ _ hA.il hA2.il) ?_
  rintro _ w5 ⟨rfl, hb5⟩
  have sw5 := hb5.size
  replace hcl := hcl.below hb5
  replace hv := hv.below hb5
  replace hv2 := hv2.below hb5
  replace hc3 := cell_below hc3 hb5
  replace hc4 := cell_below hc4 hb5
  replace hA := hA.below hb5
  replace hA2 := hA2.below hb5
  replace hb := hb.trans (hb5.mono hb.size)
  by_cases hmk : IsMan ms ∧ IsMan ks
  rotate_left
  · rw [(isoTo_1 hmk).2]
    have q1 : (1 : Int) ≠ 0 := by decide
    have q2 : (1 : Int) ≠ 4 := by decide
    refine go ?_
    exact end_one Try.results7 rfl ⟨rfl, hb⟩
  obtain ⟨hm, hk⟩ := hmk
  have ec : manCode2 ms ks = 0 := if_pos ⟨hm, hk⟩
  have ec2 : manCode2 ks ms = 0 := if_pos ⟨hk, hm⟩
  have ea : areIso ms ks = (isoOf ms ks).isSome := if_pos ⟨hm, hk⟩
  have ea2 : areIso ks ms = (isoOf ms ks).isSome := (if_pos ⟨hk, hm⟩).trans (iso_back hm hk)
  have hls := lst_same hm hk
  have z0 : ¬ ((0 : Int) ≠ 0) := fun h => h rfl
  cases hs : (isoOf ms ks).isSome
  · rw [(isoTo_2 hm hk hs).2]
    have q1 : (4 : Int) ≠ 0 := by decide
    have q2 : ¬ ((4 : Int) ≠ 4) := fun h => h rfl
    have q3 : ¬ (false ≠ decide ((4 : Int) = 0)) := fun h => h (by decide)
    have q4 : ¬ (false ≠ false) := fun h => h rfl
    have q5 : ¬ (false ≠ decide (lst ms = lst ks)) := fun h => h (by rw [decide_eq_false fun e => by rw [hls.2 e] at hs; cases hs])
    refine go ?_
    refine s_call2 (wn rfl) rfl rfl rfl (implAreIsomorphic_any _ _ _ _ _ hv hv2) ?_
    rintro _ w6 ⟨rfl, hb6⟩
    have sw6 := hb6.size
    replace hcl := hcl.below hb6
    replace hv := hv.below hb6
    replace hv2 := hv2.below hb6
    replace hc3 := cell_below hc3 hb6
    replace hc4 := cell_below hc4 hb6
    replace hA := hA.below hb6
    replace hA2 := hA2.below hb6
    replace hb := hb.trans (hb6.mono hb.size)
    rw [ea, ec, hs]
    refine go ?_
    refine s_call2 (wn rfl) rfl rfl rfl (implAreIsomorphic_any _ _ _ _ _ hv2 hv) ?_
    rintro _ w7 ⟨rfl, hb7⟩
    have sw7 := hb7.size
    replace hcl := hcl.below hb7
    replace hv := hv.below hb7
    replace hv2 := hv2.below hb7
    replace hc3 := cell_below hc3 hb7
    replace hc4 := cell_below hc4 hb7
    replace hA := hA.below hb7
    replace hA2 := hA2.below hb7
    replace hb := hb.trans (hb7.mono hb.size)
    rw [ea2, ec2, hs]
    refine go ?_
    refine s_call2 (wy rfl rfl rfl rfl rfl known) rfl rfl rfl (least5_good _ _ _ _ _ hv hv2 hm hk) ?_
    rintro _ w8 ⟨rfl, hb8⟩
    have sw8 := hb8.size
    replace hcl := hcl.below hb8
    replace hv := hv.below hb8
    replace hv2 := hv2.below hb8
    replace hc3 := cell_below hc3 hb8
    replace hc4 := cell_below hc4 hb8
    replace hA := hA.below hb8
    replace hA2 := hA2.below hb8
    replace hb := hb.trans (hb8.mono hb.size)
    refine go ?_
    exact end_one Try.results7 rfl ⟨rfl, hb⟩
  · rw [(isoTo_3 hm hk hs).2]
    have q3 : ¬ (true ≠ decide ((0 : Int) = 0)) := fun h => h (by decide)
    have q4 : ¬ (true ≠ true) := fun h => h rfl
    have q5 : ¬ (true ≠ decide (lst ms = lst ks)) := fun h => h (by rw [decide_eq_true (hls.1 hs)])
    have q6 : decide ((0 : Int) = 0) = true := decide_eq_true rfl
    obtain ⟨ps, hps⟩ := Option.isSome_iff_exists.1 hs
    obtain ⟨hl, hn, hh⟩ := iso_hom hm hk hps
    have ep : isoTo ms ks = ps := by rw [(isoTo_3 hm hk hs).1, hps]; rfl
    have hpe := hh.perm hm hk hl hn
    rw [ep] at hA
    refine go ?_
    refine s_call2 (wn rfl) rfl rfl rfl (implAreIsomorphic_any _ _ _ _ _ hv hv2) ?_
    rintro _ w9 ⟨rfl, hb9⟩
    have sw9 := hb9.size
    replace hcl := hcl.below hb9
    replace hv := hv.below hb9
    replace hv2 := hv2.below hb9
    replace hc3 := cell_below hc3 hb9
    replace hc4 := cell_below hc4 hb9
    replace hA := hA.below hb9
    replace hA2 := hA2.below hb9
    replace hb := hb.trans (hb9.mono hb.size)
    rw [ea, ec, hs]
    refine go ?_
    refine s_call2 (wn rfl) rfl rfl rfl (implAreIsomorphic_any _ _ _ _ _ hv2 hv) ?_
    rintro _ w10 ⟨rfl, hb10⟩
    have sw10 := hb10.size
    replace hcl := hcl.below hb10
    replace hv := hv.below hb10
    replace hv2 := hv2.below hb10
    replace hc3 := cell_below hc3 hb10
    replace hc4 := cell_below hc4 hb10
    replace hA := hA.below hb10
    replace hA2 := hA2.below hb10
    replace hb := hb.trans (hb10.mono hb.size)
    rw [ea2, ec2, hs]
    refine go ?_
    refine s_call2 (wy rfl rfl rfl rfl rfl known) rfl rfl rfl (least5_good _ _ _ _ _ hv hv2 hm hk) ?_
    rintro _ w11 ⟨rfl, hb11⟩
    have sw11 := hb11.size
    replace hcl := hcl.below hb11
    replace hv := hv.below hb11
    replace hv2 := hv2.below hb11
    replace hc3 := cell_below hc3 hb11
    replace hc4 := cell_below hc4 hb11
    replace hA := hA.below hb11
    replace hA2 := hA2.below hb11
    replace hb := hb.trans (hb11.mono hb.size)
    refine go ?_
    refine s_call2 (wn rfl) rfl rfl rfl (RenumberFlags_good _ _ _ _ _ hv hA.il hm hpe hh.len) ?_
    rintro _ w12 ⟨rx, rfl, hR, hb12⟩
    have sw12 := hb12.size
    replace hcl := hcl.below hb12
    replace hv := hv.below hb12
    replace hv2 := hv2.below hb12
    replace hc3 := cell_below hc3 hb12
    replace hc4 := cell_below hc4 hb12
    replace hA := hA.below hb12
    replace hA2 := hA2.below hb12
    replace hb := hb.trans (hb12.mono hb.size)
    rw [rnm_iso hm hk hl hn hh] at hR
    refine go ?_
    refine s_alloc (B := w12.heap.size) (wn rfl) rfl (Nat.le_refl _) (fun w13 p13 hx13 hg13 hpp13 => ?_)
    have hb13 := below_of_grownBy hg13
    refine go ?_
    refine s_storeBox (wn rfl) rfl rfl hR.sv.one hx13 (fun w14 hx13b hg13 => ?_)
    have hbq13 := hb13.trans (hx13.below_of hg13 hb13.size)
    have sw14 := hbq13.size
    replace hcl := hcl.below hbq13
    replace hv := hv.below hbq13
    replace hv2 := hv2.below hbq13
    replace hc3 := cell_below hc3 hbq13
    replace hc4 := cell_below hc4 hbq13
    replace hA := hA.below hbq13
    replace hA2 := hA2.below hbq13
    replace hR := hR.below hbq13
    replace hb := hb.trans (hbq13.mono hb.size)
    have hc13 := hx13b.cell
    refine go ?_
    refine s_call2 (wy rfl rfl rfl rfl rfl known) rfl rfl rfl (like5_any _ _ _ _ _ hR.rl hv2) ?_
    rintro _ w15 ⟨rfl, hb15⟩
    have sw15 := hb15.size
    replace hcl := hcl.below hb15
    replace hv := hv.below hb15
    replace hv2 := hv2.below hb15
    replace hc3 := cell_below hc3 hb15
    replace hc4 := cell_below hc4 hb15
    replace hA := hA.below hb15
    replace hA2 := hA2.below hb15
    replace hR := hR.below hb15
    replace hc13 := cell_below hc13 hb15
    replace hb := hb.trans (hb15.mono hb.size)
    refine go ?_
    exact end_one Try.results7 rfl ⟨by rw [decide_eq_true rfl], hb⟩


set_option maxRecDepth 100000 in
theorem liftedIsomorphisms (os : Os) (started : os.Started) (H : Type) (enc : TypeId × Value → H) :
    ReturnsInHanded {} Try.checked os 7 .any (Rows.fnIsomorphismsSpec.pre6 enc Try.prog Try.f7 Rows.fnIsomorphismsRow.domain false) (Rows.fnIsomorphismsSpec.post enc Try.prog Try.f7 false true false false) := by
  refine returnsInHanded_of_change (C := Try.checked) own started (by kernel_rfl) Try.func7
    (ChangeSpec.witness6 (enc := enc) (C := Try.checked) false ⟨#[], #[.slice none 0 0], []⟩ 8 (by kernel_rfl) (by kernel_rfl) (by kernel_rfl) (by kernel_rfl)) ?_
  intro W base args ds gs before hval0 hW hcnd _
  have hval : ∀ (j : Nat) t v, Try.f7.params[j]? = some t → args[j]? = some v → Value.okWide Try.prog W .any base t v := hval0
  have hW' := hW
  obtain ⟨p, q, hA0, hV, rfl, hfz, hnd⟩ := hW
  have hA : DataW.TrodAll enc Try.prog W 0 (fun _ => true) true Try.f7.params.toList args.toList ds p := hA0
  rw [Try.params7] at hA hval
  obtain ⟨v0, vs0, d0, ds0, p0, q0, hargs, rfl, rfl, h0, r0⟩ := trodAll_cons hA
  obtain ⟨rfl, rfl, rfl⟩ := trodAll_nil r0
  obtain rfl : args = #[v0] := by cases args; simp_all
  obtain ⟨rfl, rfl⟩ := trodVars_none hV
  have lt0 : ∀ x ∈ p0, x.block < W.heap.size := by obtain ⟨m, hm⟩ := h0; exact DataW.trod_lt m _ _ _ hm
  obtain ⟨xs0, hu0⟩ := open_arg_B (hval 0 37 v0 rfl rfl) h0
  clear hA0 hval0
  refine Calls.mono (lawIsomorphisms_any v0 xs0 W hu0) fun e W' ⟨v, he, hv, bel⟩ => ?_
  subst he
  subst hv
  exact ⟨_, rfl, _, _, _, [], _, [], hW', trodAll_mk1 (shut_bool Try.underlying4 _), (trodAll_cons_mk (Below.trod laidOut (by kernel_rfl) (of_decide_eq_true (by kernel_rfl)) h0 bel lt0) trodAll_mk0), rfl, bel.frame _, fun h => by cases h⟩

theorem provedIsomorphisms : Rows.FnIsomorphismsSaid :=
  OpenClaim.holds_of_wide 7 Try.f7 rfl rfl rfl rfl rfl rfl rfl ⟨rfl, rfl, rfl, rfl, rfl⟩ rfl rfl rfl rfl rfl (by kernel_rfl) Try.func7 (by kernel_rfl)
    (of_decide_eq_true (by kernel_rfl)) (by unfold Func.isWrapper; first | (rw [if_pos (by decide +kernel)]; kernel_rfl) | (rw [if_neg (by decide +kernel)]; exact ⟨rfl, rfl⟩))
    (fun os started H enc _ => liftedIsomorphisms os started H enc)

end Go.Proofs.Ytlodnhflfijomaa
