/- Contracts: the program's test of maniplexes. -/
import Derived.Test.YtmfegkjjfmmoaaaF5
namespace Go.Proofs.Ytmfegkjjfmmoaaa
open Go.Mem Go.RowKit

set_option maxHeartbeats 8000000 in
theorem isManiplex_any (v : Value) (xss : List (List Int)) (w : World) (hv : RL w v xss) :
    Ret Try.prog 55 #[.agg #[v]] w fun r w' => r = .bool (decide (IsMan xss)) ∧ Below w.heap.size w w' := by
  have sv := hv.sv
  refine enter1 101 Try.func55 rfl Try.ntmps55 rfl (fun fr => ?_)
  refine go ?_
  refine s_box (wn rfl) rfl rfl (agg_cells sv) (fun w1 hbx _ _ hg => ?_)
  have hb := below_of_grownBy hg
  have hv := hv.below hb
  generalize (⟨w.heap.size, 0, none⟩ : Addr) = p at *
  refine go ?_
  refine s_call1 (wn rfl) rfl rfl (rank_any _ _ _ _ hbx sv) ?_
  rintro _ _ ⟨rfl, rfl⟩
  refine s_call3 (wn rfl) rfl rfl rfl rfl (within_any _ _ _ _) ?_
  rintro _ _ ⟨rfl, rfl⟩
  refine splitb (inB xss.length 1 5) (fun hr => ?_) (fun hr => ?_)
  rotate_left
  · have hr' := inB_false hr
    refine go ?_
    exact end_one Try.results55 rfl ⟨by rw [decide_eq_false (fun h => hr' ⟨by have := h.m0.r1; omega, by have := h.m0.r5; omega⟩)], hb⟩
  have hr' := inB_true hr
  refine go ?_
  refine s_call1 (wy rfl rfl rfl rfl rfl known) rfl rfl (flags_any _ _ _ _ hbx hv (by omega)) ?_
  rintro _ _ ⟨rfl, rfl⟩
  refine s_call3 (wy rfl rfl rfl rfl rfl known) rfl rfl rfl rfl (within_any _ _ _ _) ?_
  rintro _ _ ⟨rfl, rfl⟩
  refine splitb (inB (nf xss) 2 400) (fun hf => ?_) (fun hf => ?_)
  rotate_left
  · have hf' := inB_false hf
    refine go ?_
    exact end_one Try.results55 rfl ⟨by rw [decide_eq_false (fun h => hf' ⟨by have := h.m0.f2; omega, by have := h.m0.f400; omega⟩)], hb⟩
  have hf' := inB_true hf
  refine go ?_
  refine w_loop (fun k fr w' => ∃ i : Nat, k = xss.length - i ∧ i ≤ xss.length ∧ fr 1 = .pointer (some p) ∧ fr 21 = v ∧ fr 22 = .int .i64 xss.length ∧ fr 23 = .int .i64 i ∧
      (∀ j : Nat, j < i → (gr xss j).length = nf xss ∧ IsPerm (gr xss j) ∧ IsFree (gr xss j)) ∧ Below w1.heap.size w1 w') xss.length
    ⟨0, rfl, Nat.zero_le _, rfl, rfl, rfl, rfl, by simp, Below.refl _ _⟩ ?_
  rintro k fr w2 ⟨i, rfl, hi, f1, f21, f22, f23, hrow, hb2⟩
  have hv2 := hv.below hb2
  have hbw := hb.trans (hb2.mono hb.size)
  refine know (t := 1) f1 ?_; refine know (t := 21) f21 ?_; refine know (t := 22) f22 ?_; refine know (t := 23) f23 ?_
  refine go ?_
  refine cond_dec rfl (fun hlt => ?_) (fun hge => ?_)
  · refine go ?_
    refine s_ldR (wn rfl) rfl rfl hv2 (by omega) (by omega) (fun u hu su => ?_)
    refine go ?_
    refine s_call1 (wn rfl) rfl rfl (isFreeInvolution_any _ _ _ hu) ?_
    rintro _ w3 ⟨rfl, hb3⟩
    have hbw := hbw.trans (hb3.mono hbw.size)
    have hb13 := hb2.trans (hb3.mono hb2.size)
    refine splitb (decide (IsPerm (gr xss i) ∧ IsFree (gr xss i))) (fun hp => ?_) (fun hp => ?_)
    · have hp' := of_decide_eq_true hp
      refine go ?_
      refine s_call1 (wy rfl rfl rfl rfl rfl known) rfl rfl (size_any _ _ _ su) ?_
      rintro _ _ ⟨rfl, rfl⟩
      refine s_call1 (wy rfl rfl rfl rfl rfl known) rfl rfl (flags_any _ _ _ _ (cell_below hbx hb13) (hv.below hb13) (by omega)) ?_
      rintro _ _ ⟨rfl, rfl⟩
      refine split (p := ((gr xss i).length : Int) ≠ nf xss) (fun hl => ?_) (fun hl => ?_)
      · refine go ?_
        exact end_one Try.results55 rfl ⟨by rw [decide_eq_false (fun h => hl (by have := (h.m0.row i (by omega)).1; omega))], hbw⟩
      · refine go ?_
        refine ⟨xss.length - (i + 1), by omega, i + 1, rfl, by omega, rfl, rfl, rfl, rfl, fun j hj => ?_, hb13⟩
        by_cases hji : j = i
        · subst hji; exact ⟨by omega, hp'⟩
        · exact hrow j (by omega)
    · refine go ?_
      exact end_one Try.results55 rfl ⟨by rw [decide_eq_false (fun h => of_decide_eq_false hp (h.m0.row i (by omega)).2)], hbw⟩
  · obtain rfl : i = xss.length := by omega
    clear hi hge
    have hbx2 := cell_below hbx hb2
    refine go ?_
    refine w_loop (fun k fr w' => ∃ i : Nat, k = xss.length - i ∧ i ≤ xss.length ∧ fr 1 = .pointer (some p) ∧ fr 38 = v ∧ fr 39 = .int .i64 xss.length ∧ fr 40 = .int .i64 i ∧
        (∀ a < i, FarRow xss a xss.length) ∧ Below w1.heap.size w1 w') xss.length
      ⟨0, rfl, Nat.zero_le _, rfl, rfl, rfl, rfl, by simp, hb2⟩ ?_
    rintro k fr w3 ⟨i, rfl, hi, f1, f38, f39, f40, hfar, hb3⟩
    have hv3 := hv.below hb3
    have hbx3 := cell_below hbx hb3
    refine know (t := 1) f1 ?_; refine know (t := 38) f38 ?_; refine know (t := 39) f39 ?_; refine know (t := 40) f40 ?_
    refine go ?_
    refine cond_dec rfl (fun hlt => ?_) (fun hge => ?_)
    · refine go ?_
      refine s_ldR (wn rfl) rfl rfl hv3 (by omega) (by omega) (fun ui hui sui => ?_)
      have hri := hrow i (by omega)
      have hli := hri.1
      refine go ?_
      obtain ⟨s, hs, hs1⟩ : ∃ s : Nat, (min ((i : Int) + 2) xss.length).toNat = s ∧ (s = i + 2 ∨ s = xss.length ∧ xss.length ≤ i + 2) := ⟨_, rfl, by omega⟩
      rw [hs]
      have hcR : RL w3 (cut v s xss.length) (xss.drop s) := by
        have := hv3.cut (l := s) (r := xss.length) (by omega) (Nat.le_refl _)
        simpa using this
      have scR := hcR.sv
      have hdl : (xss.drop s).length = xss.length - s := by simp
      generalize cut v s xss.length = vc at hcR scR ⊢
      refine go ?_
      refine w_loop (fun k fr w' => ∃ q : Nat, k = xss.length - q ∧ s ≤ q ∧ q ≤ xss.length ∧ fr 1 = .pointer (some p) ∧ fr 6 = ui ∧ fr 38 = v ∧ fr 39 = .int .i64 xss.length ∧ fr 40 = .int .i64 i ∧
          fr 53 = vc ∧ fr 54 = .int .i64 (xss.drop s).length ∧ fr 55 = .int .i64 ((q : Int) - s) ∧
          FarRow xss i q ∧ Below w3.heap.size w3 w') (xss.length - s)
        ⟨s, rfl, Nat.le_refl _, by omega, rfl, rfl, rfl, rfl, rfl, rfl, rfl, by rw [Int.sub_self]; rfl, fun k h1 h2 => by omega, Below.refl _ _⟩ ?_
      rintro k fr w4 ⟨q, rfl, hsq, hql, f1, f6, f38, f39, f40, f53, f54, f55, hfq, hb4⟩
      have hcR4 := hcR.below hb4
      have hb14 := hb3.trans (hb4.mono hb3.size)
      refine know (t := 1) f1 ?_; refine know (t := 6) f6 ?_; refine know (t := 38) f38 ?_; refine know (t := 39) f39 ?_; refine know (t := 40) f40 ?_; refine know (t := 53) f53 ?_; refine know (t := 54) f54 ?_; refine know (t := 55) f55 ?_
      refine go ?_
      refine cond_dec rfl (fun hltq => ?_) (fun hgeq => ?_)
      · have hrq := hrow q (by omega)
        have hlq := hrq.1
        refine go ?_
        refine s_ldR (wn rfl) rfl rfl hcR4 (by omega) (by omega) (fun uq huq suq => ?_)
        have hgq : gr (xss.drop s) ((q : Int) - s) = gr xss q := by
          have e : ((q : Int) - s) = ((q - s : Nat) : Int) := by omega
          rw [e, gr_drop]
          congr 1
          omega
        rw [hgq] at huq suq
        refine go ?_
        refine s_call1 (wn rfl) rfl rfl (flags_any _ _ _ _ (cell_below hbx hb14) (hv.below hb14) (by omega)) ?_
        rintro _ _ ⟨rfl, rfl⟩
        refine go ?_
        refine w_loop (fun k fr w' => ∃ f : Nat, k = nf xss - f ∧ f ≤ nf xss ∧ fr 1 = .pointer (some p) ∧ fr 6 = ui ∧ fr 8 = uq ∧ fr 38 = v ∧ fr 39 = .int .i64 xss.length ∧ fr 40 = .int .i64 i ∧
          fr 53 = vc ∧ fr 54 = .int .i64 (xss.drop s).length ∧ fr 55 = .int .i64 ((q : Int) - s) ∧ fr 59 = .int .i64 (nf xss) ∧ fr 60 = .int .i64 f ∧
            (∀ f' < f, FarAt xss i q f') ∧ Below w4.heap.size w4 w') (nf xss)
          ⟨0, rfl, Nat.zero_le _, rfl, rfl, rfl, rfl, rfl, rfl, rfl, rfl, rfl, rfl, rfl, by simp, Below.refl _ _⟩ ?_
        rintro k fr w5 ⟨f, rfl, hf, f1, f6, f8, f38, f39, f40, f53, f54, f55, f59, f60, hff, hb5⟩
        have hb15 := hb14.trans (hb5.mono hb14.size)
        have hbw := hb.trans (hb15.mono hb.size)
        have hui5 := hui.below (hb4.trans (hb5.mono hb4.size))
        have huq5 := huq.below hb5
        refine know (t := 1) f1 ?_; refine know (t := 6) f6 ?_; refine know (t := 8) f8 ?_; refine know (t := 38) f38 ?_; refine know (t := 39) f39 ?_; refine know (t := 40) f40 ?_; refine know (t := 53) f53 ?_; refine know (t := 54) f54 ?_; refine know (t := 55) f55 ?_; refine know (t := 59) f59 ?_; refine know (t := 60) f60 ?_
        refine go ?_
        refine cond_dec rfl (fun hltf => ?_) (fun hgef => ?_)
        · have hgi := hri.2.1.gi (j := f) (by omega) (by omega)
          have hgq := hrq.2.1.gi (j := f) (by omega) (by omega)
          rw [hli] at hgi
          rw [hlq] at hgq
          refine go ?_
          refine split (p := gi (gr xss i) f = gi (gr xss q) f) (fun hD => ?_) (fun hD => ?_)
          · refine region_q mixed (by kernel_rfl) ?_; refine qo ?_; refine q_nil ?_
            intro w6 hb6
            have hbw := hbw.trans (hb6.mono hbw.size)
            refine go ?_
            exact end_one Try.results55 rfl ⟨by rw [decide_eq_false (fun h => (h.m0.far i (by omega) q (by omega) (by omega) f (by omega)).2 hD)], hbw⟩
          refine split (p := gi (gr xss q) (gi (gr xss i) f) ≠ gi (gr xss i) (gi (gr xss q) f)) (fun hE => ?_) (fun hE => ?_)
          · refine region_q mixed (by kernel_rfl) ?_; refine qo ?_; refine q_nil ?_
            intro w6 hb6
            have hbw := hbw.trans (hb6.mono hbw.size)
            refine go ?_
            exact end_one Try.results55 rfl ⟨by rw [decide_eq_false (fun h => hE (h.m0.far i (by omega) q (by omega) (by omega) f (by omega)).1)], hbw⟩
          · refine region_q mixed (by kernel_rfl) ?_; refine qo ?_; refine q_nil ?_
            intro w6 hb6
            have hb6' := hb5.trans (hb6.mono hb5.size)
            refine go ?_
            refine ⟨nf xss - (f + 1), by omega, f + 1, rfl, by omega, rfl, rfl, rfl, rfl, rfl, rfl, rfl, rfl, rfl, rfl, rfl, fun f' hf' => ?_, hb6'⟩
            by_cases hji : f' = f
            · subst hji; exact ⟨Decidable.not_not.1 hE, hD⟩
            · exact hff f' (by omega)
        · obtain rfl : f = nf xss := by omega
          refine go ?_
          refine ⟨xss.length - (q + 1), by omega, q + 1, rfl, by omega, by omega, rfl, rfl, rfl, rfl, rfl, rfl, rfl, by show Value.int _ _ = _; congr 1; omega, fun k h1 h2 f hf => ?_, hb4.trans (hb5.mono hb4.size)⟩
          by_cases hkq : k = q
          · subst hkq; exact hff f hf
          · exact hfq k h1 (by omega) f hf
      · refine go ?_
        refine ⟨xss.length - (i + 1), by omega, i + 1, rfl, by omega, rfl, rfl, rfl, rfl, fun a ha => ?_, hb14⟩
        by_cases hai : a = i
        · subst hai; exact fun k h1 h2 => hfq k h1 (by omega)
        · exact hfar a (by omega)
    · obtain rfl : i = xss.length := by omega
      have hM : Man0 xss := ⟨by omega, by omega, by omega, by omega, hrow, hfar⟩
      have hbw := hb.trans (hb3.mono hb.size)
      have hN := hM.f400
      refine go ?_
      refine region_h mixed (fun w4 hb4 => ?_)
      have hb14 := hb3.trans (hb4.mono hb3.size)
      refine h_p 1 hb4 ?_
      refine h_p 2 hb4 ?_
      refine h_one 0 ?_
      refine s_call1 (wn rfl) rfl rfl (flags_any _ _ _ _ (cell_below hbx hb14) (hv.below hb14) (by omega)) ?_
      rintro _ _ ⟨rfl, rfl⟩
      refine w_nil ?_
      refine h_on ⟨hb4, ?_⟩
      refine h_one 3 ?_
      refine s_call2 (wn rfl) rfl rfl rfl (orbitLabels_any _ _ _ _ (hv.below hb14) hM.sym (by omega) (by omega)) ?_
      rintro _ w5 ⟨lb, rfl, _, hb5⟩
      have hb45 := hb4.trans (hb5.mono hb4.size)
      have hbw5 := hbw.trans (hb45.mono hbw.size)
      refine w_nil ?_
      refine h_on ⟨hb45, ?_⟩
      refine h_p 4 hb45 ?_
      refine h_p 5 hb45 ?_
      refine h_p 6 hb45 ?_
      refine h_p 7 hb45 ?_
      refine h_p 8 hb45 ?_
      refine h_nil ?_
      refine go ?_
      refine end_one Try.results55 rfl ⟨?_, hbw5⟩
      refine congrArg Value.bool ?_
      exact decide_eq_decide.2 ⟨fun h => ⟨hM, hM.conn.2 h⟩, fun h => hM.conn.1 h.one⟩
end Go.Proofs.Ytmfegkjjfmmoaaa
