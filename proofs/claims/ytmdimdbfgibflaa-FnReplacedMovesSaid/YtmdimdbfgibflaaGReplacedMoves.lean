/- The general law of ReplaceMoves, HoleOf and HalfOf, for every code: its walk and its row. No conditions. -/
import Derived.Test.YtmdimdbfgibflaaF80
import Derived.Test.YtmdimdbfgibflaaF91
import Derived.Test.YtmdimdbfgibflaaF33
import Derived.Test.YtmdimdbfgibflaaF35
import Derived.Test.YtmdimdbfgibflaaF37
import Derived.Test.YtmdimdbfgibflaaF72
import Derived.Test.YtmdimdbfgibflaaPF
import Derived.Test.YtmdimdbfgibflaaRA
import Derived.WalkKit
import Derived.ShutString
namespace Go.Proofs.Ytmdimdbfgibflaa
open Go.Mem Go.ChangeShapes Go.WideShapes Go.ChangeAt Go.RowKit
set_option linter.unusedVariables false
set_option linter.unusedSimpArgs false

theorem rm_first {ms ws : List (List Int)} (h : ¬ rmC ms ws = 1) : IsMan ms ∧ (rmC ms ws = 0 → IsMan (rmL ms ws) ∧ nf (rmL ms ws) ≤ nf ms) := by
  have hm : IsMan ms := Classical.byContradiction fun hm => h (rm_1 hm).2
  refine ⟨hm, fun h0 => ?_⟩
  have hw : WordsOk ms ws := Classical.byContradiction fun hw => by rw [(rm_2 hm hw).2] at h0; exact absurd h0 (by decide)
  have e := rm_3 hm hw
  rw [e.2] at h0
  have hi : IsMan (repl ms ws) := by
    unfold replC at h0
    exact Classical.byContradiction fun hi => by rw [if_neg hi] at h0; exact absurd h0 (by decide)
  rw [e.1, show replL ms ws = repl ms ws from if_pos hi]
  exact ⟨hi, nf_repl_le hm hw.2.2 hw.1⟩
theorem sngl_words {ms : List (List Int)} : ∀ w ∈ sngl ms.length, IsWord ms w := fun w hw => by
  unfold sngl at hw
  obtain ⟨i, hi, rfl⟩ := List.mem_map.1 hw
  have := List.mem_range.1 hi
  exact ⟨by simp, fun x hx => by simp at hx; omega⟩
theorem replaced_all {ms : List (List Int)} (hm : IsMan ms) : ∃ FM : List (List Int), frm (nf ms) ms 0 = FM ∧ (rmL ms (sngl ms.length) = FM ∧ rmC ms (sngl ms.length) = 0) ∧
    (ms.length = 3 → (holL ms 1 = FM ∧ holC ms 1 = 0) ∧ (thrC ms [[0, 1, 0], [2], [1]] = 5 ∨ (thrC ms [[0, 1, 0], [2], [1]] = 0 ∧ 1 ≤ (thrL ms [[0, 1, 0], [2], [1]]).length ∧ nf (thrL ms [[0, 1, 0], [2], [1]]) ≤ 400 ∧ (nf (thrL ms [[0, 1, 0], [2], [1]]) = nf ms ∨ 2 * nf (thrL ms [[0, 1, 0], [2], [1]]) = nf ms)))) := by
  have r1 := hm.m0.r1
  have r5 := hm.m0.r5
  have f2 := hm.m0.f2
  have hF := form_man hm (f := 0) (by omega)
  have es : repl ms (sngl ms.length) = frm (nf ms) ms 0 := repl_sngl hm
  have hi : IsMan (repl ms (sngl ms.length)) := by rw [es]; exact hF
  have hok : WordsOk ms (sngl ms.length) := ⟨by rw [sngl_len]; omega, by rw [sngl_len]; omega, sngl_words⟩
  have e := rm_3 hm hok
  refine ⟨_, rfl, ⟨e.1.trans ((if_pos hi).trans es), e.2.trans (if_pos hi)⟩, fun h3 => ⟨?_, ?_⟩⟩
  · have ew : holW 1 = sngl ms.length := by rw [h3]; rfl
    have e1 := hol_3 hm (k := 1) (by omega)
    have e2 := thr_3 (ws := holW 1) hm h3
    rw [e1.1, e1.2, e2.1, e2.2, ew]
    exact ⟨(if_pos hi).trans es, if_pos hi⟩
  · have e2 := thr_3 (ws := [[0, 1, 0], [2], [1]]) hm h3
    rw [e2.1, e2.2]
    by_cases hh : IsMan (repl ms [[0, 1, 0], [2], [1]])
    · refine .inr ⟨if_pos hh, ?_⟩
      rw [show replL ms [[0, 1, 0], [2], [1]] = repl ms [[0, 1, 0], [2], [1]] from if_pos hh]
      exact ⟨hh.m0.r1, hh.m0.f400, half_flags hm h3⟩
    · exact .inl (if_neg hh)

set_option maxHeartbeats 16000000 in
set_option maxRecDepth 100000 in
theorem lawReplacedMoves_any (c : Value) (bs : List Int) (w : World) (hcl : CL w c bs) :
    Ret Try.prog 3 #[c] w fun r w' => r = .bool true ∧ Below w.heap.size w w' := by
  have shcl := hcl.sv
  have hb := Below.refl w.heap.size w
  refine enter1 142 Try.func3 rfl Try.ntmps3 rfl (fun fr => ?_)
  refine go ?_
  refine s_call1 (wn rfl) rfl rfl (big_any _ _ _ hcl) ?_
  rintro _ _ ⟨rfl, rfl⟩
  refine go ?_
  refine cond_dec rfl (fun hbig => ?_) (fun hbig => ?_)
  · refine go ?_
    exact end_one Try.results3 rfl ⟨rfl, hb⟩
  refine go ?_
  refine s_call1 (wn rfl) rfl rfl (DrawReplaceMoves_any _ _ _ hcl) ?_
  rintro _ w1 ⟨x, ms, y, ws, rfl, hv, hv2, hb1⟩
  have sw1 := hb1.size
  replace hcl := hcl.below hb1
  replace hb := hb.trans (hb1.mono hb.size)
  have shv := hv.sv
  have shv2 := hv2.sv
  refine go ?_
  refine s_alloc (B := w1.heap.size) (wn rfl) rfl (Nat.le_refl _) (fun w2 p3 hx3 hg2 hpp3 => ?_)
  have hb2 := below_of_grownBy hg2
  refine go ?_
  refine s_storeBox (wn rfl) rfl rfl shv.one hx3 (fun w3 hx3b hg3 => ?_)
  have hbq3 := hb2.trans (hx3.below_of hg3 hb2.size)
  have sw3 := hbq3.size
  replace hcl := hcl.below hbq3
  replace hv := hv.below hbq3
  replace hv2 := hv2.below hbq3
  replace hb := hb.trans (hbq3.mono hb.size)
  have hc3 := hx3b.cell
  refine go ?_
  refine s_call2 (wn rfl) rfl rfl rfl (implReplaceMoves_any _ _ _ _ _ hv hv2) ?_
  rintro _ w4 ⟨kx, rfl, hA, hb4⟩
  have sw4 := hb4.size
  replace hcl := hcl.below hb4
  replace hv := hv.below hb4
  replace hv2 := hv2.below hb4
  replace hc3 := cell_below hc3 hb4
  replace hb := hb.trans (hb4.mono hb.size)
  refine go ?_
  refine s_alloc (B := w4.heap.size) (wn rfl) rfl (Nat.le_refl _) (fun w5 p5 hx5 hg5 hpp5 => ?_)
  have hb5 := below_of_grownBy hg5
  refine go ?_
  refine s_storeBox (wn rfl) rfl rfl hA.sv.one hx5 (fun w6 hx5b hg5 => ?_)
  have hbq5 := hb5.trans (hx5.below_of hg5 hb5.size)
  have sw6 := hbq5.size
  replace hcl := hcl.below hbq5
  replace hv := hv.below hbq5
  replace hv2 := hv2.below hbq5
  replace hc3 := cell_below hc3 hbq5
  replace hA := hA.below hbq5
  replace hb := hb.trans (hbq5.mono hb.size)
  have hc5 := hx5b.cell
  refine go ?_
  refine s_call2 (wn rfl) rfl rfl rfl (specReplaceMoves_any _ _ _ _ _ hv hv2) ?_
  rintro _ w7 ⟨ky, rfl, hA2, hb7⟩
  have sw7 := hb7.size
  replace hcl := hcl.below hb7
  replace hv := hv.below hb7
  replace hv2 := hv2.below hb7
  replace hc3 := cell_below hc3 hb7
  replace hA := hA.below hb7
  replace hc5 := cell_below hc5 hb7
  replace hb := hb.trans (hb7.mono hb.size)
  refine go ?_
  refine s_alloc (B := w7.heap.size) (wn rfl) rfl (Nat.le_refl _) (fun w8 p7 hx7 hg8 hpp7 => ?_)
  have hb8 := below_of_grownBy hg8
  refine go ?_
  refine s_storeBox (wn rfl) rfl rfl hA2.sv.one hx7 (fun w9 hx7b hg7 => ?_)
  have hbq7 := hb8.trans (hx7.below_of hg7 hb8.size)
  have sw9 := hbq7.size
  replace hcl := hcl.below hbq7
  replace hv := hv.below hbq7
  replace hv2 := hv2.below hbq7
  replace hc3 := cell_below hc3 hbq7
  replace hA := hA.below hbq7
  replace hc5 := cell_below hc5 hbq7
  replace hA2 := hA2.below hbq7
  replace hb := hb.trans (hbq7.mono hb.size)
  have hc7 := hx7b.cell
  have hn1 : ¬ (rmC ms ws ≠ rmC ms ws) := fun h => h rfl
  have he1 : decide (rmL ms ws = rmL ms ws) = true := decide_eq_true rfl
  refine go ?_
  refine s_call2 (wy rfl rfl rfl rfl rfl known) rfl rfl rfl (like5_any _ _ _ _ _ hA.rl hA2.rl) ?_
  rintro _ w10 ⟨rfl, hb10⟩
  have sw10 := hb10.size
  replace hcl := hcl.below hb10
  replace hv := hv.below hb10
  replace hv2 := hv2.below hb10
  replace hc3 := cell_below hc3 hb10
  replace hA := hA.below hb10
  replace hc5 := cell_below hc5 hb10
  replace hA2 := hA2.below hb10
  replace hc7 := cell_below hc7 hb10
  replace hb := hb.trans (hb10.mono hb.size)
  rw [he1]
  refine go ?_
  refine cond_dec rfl (fun hne => ?_) (fun hne => ?_)
  · refine go ?_
    exact end_one Try.results3 rfl ⟨rfl, hb⟩
  obtain ⟨hm, hfirst⟩ := rm_first hne
  obtain ⟨FM, eM, ⟨eS, cS⟩, h3all⟩ := replaced_all hm
  have r1 := hm.m0.r1
  have r5 := hm.m0.r5
  have f4 := hm.m0.f400
  have f2 := hm.m0.f2
  have z0 : ¬ ((0 : Int) ≠ 0) := fun h => h rfl
  have z1 : (0 : Int) = 0 := rfl
  have kM : decide (FM = FM) = true := decide_eq_true rfl
  have hsl := sngl_len ms.length
  refine go ?_
  refine go ?_
  have sbs1 := hb.size
  have hcl_b1 := hcl
  have hv_b1 := hv
  have hc3_b1 := hc3
  have hA_b1 := hA
  have hc5_b1 := hc5
  have hbB1 := Below.refl w10.heap.size w10
  refine meet (fun r w' => r 3 = .pointer (some p3) ∧ r 62 = .bool false ∧ Below w10.heap.size w10 w') ?_ ?_
  · by_cases h0 : rmC ms ws = 0
    · obtain ⟨mK, nK⟩ := hfirst h0
      have dK := decide_eq_true mK
      have k1 : ¬ ((nf (rmL ms ws) : Int) > nf ms) := by omega
      have kr := mK.m0.r1
      refine go ?_
      refine region_h mixed (fun w11 hc11 => ?_)
      have swr11 := hc11.size
      refine h_p 0 hc11 ?_
      refine h_p 1 hc11 ?_
      refine h_p 2 hc11 ?_
      refine h_p 3 hc11 ?_
      refine h_one 4 ?_
      refine s_call1 (wy rfl rfl rfl rfl rfl known) rfl rfl (IsManiplex_any _ _ _ (hA.below hc11).rl) ?_
      rintro _ w12 ⟨rfl, hb12⟩
      have hc12 := hc11.trans (hb12.mono hc11.size)
      refine w_nil ?_
      refine h_on ⟨hc12, ?_⟩
      rw [dK]
      refine h_p 5 hc12 ?_
      refine h_p 6 hc12 ?_
      refine h_p 7 hc12 ?_
      refine h_p 9 hc12 ?_
      refine h_one 8 ?_
      refine s_call1 (wy rfl rfl rfl rfl rfl known) rfl rfl (flags5_any _ _ _ (hA.below hc12).rl kr) ?_
      rintro _ w13 ⟨rfl, hb13⟩
      have hc13 := hc12.trans (hb13.mono hc12.size)
      refine w_nil ?_
      refine h_on ⟨hc13, ?_⟩
      refine h_one 10 ?_
      refine s_call1 (wy rfl rfl rfl rfl rfl known) rfl rfl (flags5_any _ _ _ (hv.below hc13) r1) ?_
      rintro _ w14 ⟨rfl, hb14⟩
      have hc14 := hc13.trans (hb14.mono hc13.size)
      refine w_nil ?_
      refine h_on ⟨hc14, ?_⟩
      refine h_p 11 hc14 ?_
      refine h_p 12 hc14 ?_
      refine h_p 13 hc14 ?_
      refine h_nil ?_
      have sw14 := hc14.size
      replace hcl := hcl.below hc14
      replace hv := hv.below hc14
      replace hc3 := cell_below hc3 hc14
      replace hA := hA.below hc14
      replace hc5 := cell_below hc5 hc14
      replace hbB1 := hbB1.trans (hc14.mono hbB1.size)
      refine go ?_
      exact ⟨rfl, congrArg Value.bool (decide_eq_false k1), hbB1⟩
    have h0b : decide (rmC ms ws = 0) = !true := decide_eq_false h0
    refine go ?_
    refine region_h mixed (fun w15 hc15 => ?_)
    have swr15 := hc15.size
    refine h_p 0 hc15 ?_
    refine h_p 1 hc15 ?_
    refine h_p 2 hc15 ?_
    refine h_no 3 hc15 ?_
    refine h_no 4 hc15 ?_
    refine h_no 5 hc15 ?_
    refine h_no 6 hc15 ?_
    refine h_no 7 hc15 ?_ (hw := wu rfl rfl rfl rfl rfl)
    refine h_no 8 hc15 ?_ (hw := wu rfl rfl rfl rfl rfl)
    refine h_no 9 hc15 ?_ (hw := wu rfl rfl rfl rfl rfl)
    refine h_no 10 hc15 ?_ (hw := wu rfl rfl rfl rfl rfl)
    refine h_no 11 hc15 ?_ (hw := wu rfl rfl rfl rfl rfl)
    refine h_no 12 hc15 ?_
    refine h_p 13 hc15 ?_
    refine h_nil ?_
    have sw15 := hc15.size
    replace hcl := hcl.below hc15
    replace hv := hv.below hc15
    replace hc3 := cell_below hc3 hc15
    replace hA := hA.below hc15
    replace hc5 := cell_below hc5 hc15
    replace hbB1 := hbB1.trans (hc15.mono hbB1.size)
    refine go ?_
    exact ⟨rfl, rfl, hbB1⟩
  rintro r w16 ⟨r3, r62, hbB1⟩
  have sw16 := hbB1.size
  have hcl := hcl_b1.below hbB1
  have hv := hv_b1.below hbB1
  have hc3 := cell_below hc3_b1 hbB1
  have hA := hA_b1.below hbB1
  have hc5 := cell_below hc5_b1 hbB1
  refine know (t := 3) r3 ?_; refine know (t := 62) r62 ?_
  replace hb := hb.trans (hbB1.mono hb.size)
  refine go ?_
  have sbs1 := hb.size
  have hcl_b1 := hcl
  have hv_b1 := hv
  have hc3_b1 := hc3
  have hA_b1 := hA
  have hc5_b1 := hc5
  have hbB1 := Below.refl w16.heap.size w16
  refine go ?_
  have szq17 := hbB1.size
  refine s_build (B := w16.heap.size) [] (wn rfl) rfl (by simp) (by decide) rfl (by simp) szq17 (fun ob w17 ho hg17 _ => ?_)
  have hb17 := below_of_grownBy hg17
  have sw17 := hb17.size
  replace hcl := hcl.below hb17
  replace hv := hv.below hb17
  replace hc3 := cell_below hc3 hb17
  replace hA := hA.below hb17
  replace hc5 := cell_below hc5 hb17
  replace hbB1 := hbB1.trans (hb17.mono hbB1.size)
  replace ho := OM.empty (E := w17.heap.size) (U := 2) ho
  refine go ?_
  refine w_loop (fun kk fr w' => ∃ (i : Nat) (ob : Value), kk = ms.length - i ∧ i ≤ ms.length ∧ fr 3 = .pointer (some p3) ∧ fr 9 = ob ∧ fr 10 = .int .i64 i ∧ (OM w' w16.heap.size w'.heap.size 34 2 ob ((sngl ms.length).take i)) ∧ Below w16.heap.size w16 w') (ms.length)
    ⟨0, ob, rfl, Nat.zero_le _, rfl, rfl, rfl, ho.top, hbB1⟩ ?_
  rintro kk fr w18 ⟨i, ob, rfl, hi, f3, f9, f10, ho, hbB1⟩
  have sw18 := hbB1.size
  have hcl := hcl_b1.below hbB1
  have hv := hv_b1.below hbB1
  have hc3 := cell_below hc3_b1 hbB1
  have hA := hA_b1.below hbB1
  have hc5 := cell_below hc5_b1 hbB1
  have sho := ho.sv
  refine know (t := 3) f3 ?_; refine know (t := 9) f9 ?_; refine know (t := 10) f10 ?_
  refine go ?_
  refine cond_dec rfl (fun hlt => ?_) (fun hge => ?_)
  · replace ho := ho.top
    refine go ?_
    refine s_build1 (B := w18.heap.size) (wn rfl) rfl rfl (Nat.le_refl _) (fun rb w19 hr sr19 hg19 _ => ?_)
    have hb19 := below_of_grownBy hg19
    have sw19 := hb19.size
    replace hcl := hcl.below hb19
    replace hv := hv.below hb19
    replace hc3 := cell_below hc3 hb19
    replace hA := hA.below hb19
    replace hc5 := cell_below hc5 hb19
    replace ho := ho.below hb19
    replace hbB1 := hbB1.trans (hb19.mono hbB1.size)
    have szq20 := hbB1.size
    refine s_build1V (B := w16.heap.size) (wn rfl) rfl rfl hr.sv.one szq20 (fun tb w20 ht st hg20 _ => ?_)
    have hb20 := below_of_grownBy hg20
    have sw20 := hb20.size
    replace hcl := hcl.below hb20
    replace hv := hv.below hb20
    replace hc3 := cell_below hc3 hb20
    replace hA := hA.below hb20
    replace hc5 := cell_below hc5 hb20
    replace ho := ho.below hb20
    replace hr := hr.below hb20
    replace hbB1 := hbB1.trans (hb20.mono hbB1.size)
    have szq21 := hbB1.size
    refine s_appendM (wn rfl) rfl rfl rfl ho ht.rd hr (by omega) (by decide) (by simp; omega) szq21 (fun ob' w21 hoN so hgN => ?_)
    replace hbB1 := hbB1.trans (ho.below_of hgN szq21)
    have sw21 := hgN.size
    replace ho := hoN
    clear hoN
    replace hcl := hcl_b1.below hbB1
    replace hv := hv_b1.below hbB1
    replace hc3 := cell_below hc3_b1 hbB1
    replace hA := hA_b1.below hbB1
    replace hc5 := cell_below hc5_b1 hbB1
    refine go ?_
    refine ⟨ms.length - (i + 1), by omega, i + 1, ob', rfl, by omega, rfl, rfl, rfl, by rw [sngl_take (by omega)]; exact ho, hbB1⟩
  obtain rfl : i = ms.length := by omega
  rw [List.take_of_length_le (by omega)] at ho
  clear sho
  have sho := ho.sv
  refine go ?_
  refine s_call2 (wn rfl) rfl rfl rfl (implReplaceMoves_any _ _ _ _ _ hv ho.rl) ?_
  rintro _ w22 ⟨sx, rfl, hS, hb22⟩
  have sw22 := hb22.size
  replace hcl := hcl.below hb22
  replace hv := hv.below hb22
  replace hc3 := cell_below hc3 hb22
  replace hA := hA.below hb22
  replace hc5 := cell_below hc5 hb22
  replace ho := ho.below hb22
  replace hbB1 := hbB1.trans (hb22.mono hbB1.size)
  rw [eS] at hS
  rw [cS]
  refine go ?_
  refine s_alloc (B := w22.heap.size) (wn rfl) rfl (Nat.le_refl _) (fun w23 p11 hx11 hg23 hpp11 => ?_)
  have hb23 := below_of_grownBy hg23
  refine go ?_
  refine s_storeBox (wn rfl) rfl rfl hS.sv.one hx11 (fun w24 hx11b hg11 => ?_)
  have hbq11 := hb23.trans (hx11.below_of hg11 hb23.size)
  have sw24 := hbq11.size
  replace hcl := hcl.below hbq11
  replace hv := hv.below hbq11
  replace hc3 := cell_below hc3 hbq11
  replace hA := hA.below hbq11
  replace hc5 := cell_below hc5 hbq11
  replace ho := ho.below hbq11
  replace hS := hS.below hbq11
  replace hbB1 := hbB1.trans (hbq11.mono hbB1.size)
  have hc11 := hx11b.cell
  refine go ?_
  refine s_call2 (wn rfl) rfl rfl rfl (FormFrom_good _ _ 0 _ hv hm (by omega)) ?_
  rintro _ w25 ⟨qx, rfl, hM, hb25⟩
  have sw25 := hb25.size
  replace hcl := hcl.below hb25
  replace hv := hv.below hb25
  replace hc3 := cell_below hc3 hb25
  replace hA := hA.below hb25
  replace hc5 := cell_below hc5 hb25
  replace ho := ho.below hb25
  replace hS := hS.below hb25
  replace hc11 := cell_below hc11 hb25
  replace hbB1 := hbB1.trans (hb25.mono hbB1.size)
  rw [eM] at hM
  refine go ?_
  refine s_alloc (B := w25.heap.size) (wn rfl) rfl (Nat.le_refl _) (fun w26 p13 hx13 hg26 hpp13 => ?_)
  have hb26 := below_of_grownBy hg26
  refine go ?_
  refine s_storeBox (wn rfl) rfl rfl hM.sv.one hx13 (fun w27 hx13b hg13 => ?_)
  have hbq13 := hb26.trans (hx13.below_of hg13 hb26.size)
  have sw27 := hbq13.size
  replace hcl := hcl.below hbq13
  replace hv := hv.below hbq13
  replace hc3 := cell_below hc3 hbq13
  replace hA := hA.below hbq13
  replace hc5 := cell_below hc5 hbq13
  replace ho := ho.below hbq13
  replace hS := hS.below hbq13
  replace hc11 := cell_below hc11 hbq13
  replace hM := hM.below hbq13
  replace hbB1 := hbB1.trans (hbq13.mono hbB1.size)
  have hc13 := hx13b.cell
  refine go ?_
  refine s_call2 (wy rfl rfl rfl rfl rfl known) rfl rfl rfl (like5_any _ _ _ _ _ hS.rl hM.rl) ?_
  rintro _ w28 ⟨rfl, hb28⟩
  have sw28 := hb28.size
  replace hcl := hcl.below hb28
  replace hv := hv.below hb28
  replace hc3 := cell_below hc3 hb28
  replace hA := hA.below hb28
  replace hc5 := cell_below hc5 hb28
  replace ho := ho.below hb28
  replace hS := hS.below hb28
  replace hc11 := cell_below hc11 hb28
  replace hM := hM.below hb28
  replace hc13 := cell_below hc13 hb28
  replace hbB1 := hbB1.trans (hb28.mono hbB1.size)
  rw [kM]
  refine go ?_
  refine cond_dec rfl (fun h3 => ?_) (fun h3 => ?_)
  · refine go ?_
    exact end_one Try.results3 rfl ⟨rfl, (hb.trans (hbB1.mono hb.size))⟩
  obtain ⟨⟨eH, cH⟩, hhalf⟩ := h3all (by omega)
  refine go ?_
  refine s_call2 (wn rfl) rfl rfl rfl (implHoleOf_any _ _ 1 _ hv) ?_
  rintro _ w29 ⟨hx, rfl, hH, hb29⟩
  have sw29 := hb29.size
  replace hcl := hcl.below hb29
  replace hv := hv.below hb29
  replace hc3 := cell_below hc3 hb29
  replace hA := hA.below hb29
  replace hc5 := cell_below hc5 hb29
  replace ho := ho.below hb29
  replace hS := hS.below hb29
  replace hc11 := cell_below hc11 hb29
  replace hM := hM.below hb29
  replace hc13 := cell_below hc13 hb29
  replace hbB1 := hbB1.trans (hb29.mono hbB1.size)
  rw [eH] at hH
  rw [cH]
  refine go ?_
  refine s_alloc (B := w29.heap.size) (wn rfl) rfl (Nat.le_refl _) (fun w30 p15 hx15 hg30 hpp15 => ?_)
  have hb30 := below_of_grownBy hg30
  refine go ?_
  refine s_storeBox (wn rfl) rfl rfl hH.sv.one hx15 (fun w31 hx15b hg15 => ?_)
  have hbq15 := hb30.trans (hx15.below_of hg15 hb30.size)
  have sw31 := hbq15.size
  replace hcl := hcl.below hbq15
  replace hv := hv.below hbq15
  replace hc3 := cell_below hc3 hbq15
  replace hA := hA.below hbq15
  replace hc5 := cell_below hc5 hbq15
  replace ho := ho.below hbq15
  replace hS := hS.below hbq15
  replace hc11 := cell_below hc11 hbq15
  replace hM := hM.below hbq15
  replace hc13 := cell_below hc13 hbq15
  replace hH := hH.below hbq15
  replace hbB1 := hbB1.trans (hbq15.mono hbB1.size)
  have hc15 := hx15b.cell
  refine go ?_
  refine s_call1 (wn rfl) rfl rfl (implHalfOf_any _ _ _ hv) ?_
  rintro _ w32 ⟨gx, rfl, hG, hb32⟩
  have sw32 := hb32.size
  replace hcl := hcl.below hb32
  replace hv := hv.below hb32
  replace hc3 := cell_below hc3 hb32
  replace hA := hA.below hb32
  replace hc5 := cell_below hc5 hb32
  replace ho := ho.below hb32
  replace hS := hS.below hb32
  replace hc11 := cell_below hc11 hb32
  replace hM := hM.below hb32
  replace hc13 := cell_below hc13 hb32
  replace hH := hH.below hb32
  replace hc15 := cell_below hc15 hb32
  replace hbB1 := hbB1.trans (hb32.mono hbB1.size)
  refine go ?_
  refine s_alloc (B := w32.heap.size) (wn rfl) rfl (Nat.le_refl _) (fun w33 p17 hx17 hg33 hpp17 => ?_)
  have hb33 := below_of_grownBy hg33
  refine go ?_
  refine s_storeBox (wn rfl) rfl rfl hG.sv.one hx17 (fun w34 hx17b hg17 => ?_)
  have hbq17 := hb33.trans (hx17.below_of hg17 hb33.size)
  have sw34 := hbq17.size
  replace hcl := hcl.below hbq17
  replace hv := hv.below hbq17
  replace hc3 := cell_below hc3 hbq17
  replace hA := hA.below hbq17
  replace hc5 := cell_below hc5 hbq17
  replace ho := ho.below hbq17
  replace hS := hS.below hbq17
  replace hc11 := cell_below hc11 hbq17
  replace hM := hM.below hbq17
  replace hc13 := cell_below hc13 hbq17
  replace hH := hH.below hbq17
  replace hc15 := cell_below hc15 hbq17
  replace hG := hG.below hbq17
  replace hbB1 := hbB1.trans (hbq17.mono hbB1.size)
  have hc17 := hx17b.cell
  refine go ?_
  refine s_call2 (wy rfl rfl rfl rfl rfl known) rfl rfl rfl (like5_any _ _ _ _ _ hH.rl hM.rl) ?_
  rintro _ w35 ⟨rfl, hb35⟩
  have sw35 := hb35.size
  replace hcl := hcl.below hb35
  replace hv := hv.below hb35
  replace hc3 := cell_below hc3 hb35
  replace hA := hA.below hb35
  replace hc5 := cell_below hc5 hb35
  replace ho := ho.below hb35
  replace hS := hS.below hb35
  replace hc11 := cell_below hc11 hb35
  replace hM := hM.below hb35
  replace hc13 := cell_below hc13 hb35
  replace hH := hH.below hb35
  replace hc15 := cell_below hc15 hb35
  replace hG := hG.below hb35
  replace hc17 := cell_below hc17 hb35
  replace hbB1 := hbB1.trans (hb35.mono hbB1.size)
  rw [kM]
  refine go ?_
  generalize thrL ms [[0, 1, 0], [2], [1]] = HL at *
  generalize thrC ms [[0, 1, 0], [2], [1]] = HC at *
  rcases hhalf with rfl | ⟨rfl, hl1, hl4, hor⟩
  · have q5 : decide ((5 : Int) = 5) = true := decide_eq_true rfl
    have q5b : decide ((5 : Int) = 5) = !false := decide_eq_true rfl
    refine region_h mixed (fun w36 hc36 => ?_)
    have swr36 := hc36.size
    refine h_p 0 hc36 ?_
    refine h_p 1 hc36 ?_
    refine h_p 2 hc36 ?_
    refine h_no 3 hc36 ?_
    refine h_no 4 hc36 ?_
    refine h_no 5 hc36 ?_
    refine h_no 6 hc36 ?_ (hw := wu rfl rfl rfl rfl rfl)
    refine h_no 7 hc36 ?_ (hw := wu rfl rfl rfl rfl rfl)
    refine h_no 8 hc36 ?_ (hw := wu rfl rfl rfl rfl rfl)
    refine h_no 9 hc36 ?_ (hw := wu rfl rfl rfl rfl rfl)
    refine h_no 10 hc36 ?_ (hw := wu rfl rfl rfl rfl rfl)
    refine h_no 11 hc36 ?_ (hw := wu rfl rfl rfl rfl rfl)
    refine h_no 12 hc36 ?_ (hw := wu rfl rfl rfl rfl rfl)
    refine h_no 13 hc36 ?_ (hw := wu rfl rfl rfl rfl rfl)
    refine h_no 14 hc36 ?_ (hw := wu rfl rfl rfl rfl rfl)
    refine h_no 15 hc36 ?_ (hw := wu rfl rfl rfl rfl rfl)
    refine h_no 16 hc36 ?_ (hw := wu rfl rfl rfl rfl rfl)
    refine h_no 17 hc36 ?_ (hw := wu rfl rfl rfl rfl rfl)
    refine h_no 18 hc36 ?_ (hw := wu rfl rfl rfl rfl rfl)
    refine h_no 19 hc36 ?_
    refine h_p 20 hc36 ?_
    refine h_p 21 hc36 ?_
    refine h_nil ?_
    have sw36 := hc36.size
    replace hcl := hcl.below hc36
    replace hv := hv.below hc36
    replace hc3 := cell_below hc3 hc36
    replace hA := hA.below hc36
    replace hc5 := cell_below hc5 hc36
    replace ho := ho.below hc36
    replace hS := hS.below hc36
    replace hc11 := cell_below hc11 hc36
    replace hM := hM.below hc36
    replace hc13 := cell_below hc13 hc36
    replace hH := hH.below hc36
    replace hc15 := cell_below hc15 hc36
    replace hG := hG.below hc36
    replace hc17 := cell_below hc17 hc36
    replace hbB1 := hbB1.trans (hc36.mono hbB1.size)
    refine go ?_
    exact end_one Try.results3 rfl ⟨by first | rfl | rw [q5], (hb.trans (hbB1.mono hb.size))⟩
  have q5 : ¬ ((0 : Int) = 5) := by decide
  have q0 : decide ((0 : Int) = 0) = true := decide_eq_true rfl
  by_cases hor1 : (nf HL : Int) = nf ms
  · have qe : decide ((nf HL : Int) = nf ms) = true := decide_eq_true hor1
    have qeb : decide ((nf HL : Int) = nf ms) = !false := decide_eq_true hor1
    refine region_h mixed (fun w37 hc37 => ?_)
    have swr37 := hc37.size
    refine h_p 0 hc37 ?_
    refine h_p 1 hc37 ?_
    refine h_p 2 hc37 ?_
    refine h_p 3 hc37 ?_
    refine h_p 4 hc37 ?_
    refine h_p 5 hc37 ?_
    refine h_p 6 hc37 ?_
    refine h_p 8 hc37 ?_
    refine h_one 7 ?_
    refine s_call1 (wy rfl rfl rfl rfl rfl known) rfl rfl (flags5_any _ _ _ (hG.below hc37).rl hl1) ?_
    rintro _ w38 ⟨rfl, hb38⟩
    have hc38 := hc37.trans (hb38.mono hc37.size)
    refine w_nil ?_
    refine h_on ⟨hc38, ?_⟩
    refine h_one 9 ?_
    refine s_call1 (wy rfl rfl rfl rfl rfl known) rfl rfl (flags5_any _ _ _ (hv.below hc38) r1) ?_
    rintro _ w39 ⟨rfl, hb39⟩
    have hc39 := hc38.trans (hb39.mono hc38.size)
    refine w_nil ?_
    refine h_on ⟨hc39, ?_⟩
    refine h_p 10 hc39 ?_
    refine h_p 11 hc39 ?_
    refine h_no 12 hc39 ?_
    refine h_no 13 hc39 ?_
    refine h_no 14 hc39 ?_
    refine h_no 15 hc39 ?_
    refine h_no 16 hc39 ?_
    refine h_no 17 hc39 ?_
    refine h_p 18 hc39 ?_
    refine h_p 19 hc39 ?_
    refine h_p 20 hc39 ?_
    refine h_p 21 hc39 ?_
    refine h_nil ?_
    have sw39 := hc39.size
    replace hcl := hcl.below hc39
    replace hv := hv.below hc39
    replace hc3 := cell_below hc3 hc39
    replace hA := hA.below hc39
    replace hc5 := cell_below hc5 hc39
    replace ho := ho.below hc39
    replace hS := hS.below hc39
    replace hc11 := cell_below hc11 hc39
    replace hM := hM.below hc39
    replace hc13 := cell_below hc13 hc39
    replace hH := hH.below hc39
    replace hc15 := cell_below hc15 hc39
    replace hG := hG.below hc39
    replace hc17 := cell_below hc17 hc39
    replace hbB1 := hbB1.trans (hc39.mono hbB1.size)
    refine go ?_
    exact end_one Try.results3 rfl ⟨by first | rfl | rw [qe], (hb.trans (hbB1.mono hb.size))⟩
  have hor2 : 2 * (nf HL : Int) = nf ms := by omega
  have qf : decide (2 * (nf HL : Int) = nf ms) = true := decide_eq_true hor2
  refine region_h mixed (fun w40 hc40 => ?_)
  have swr40 := hc40.size
  refine h_p 0 hc40 ?_
  refine h_p 1 hc40 ?_
  refine h_p 2 hc40 ?_
  refine h_p 3 hc40 ?_
  refine h_p 4 hc40 ?_
  refine h_p 5 hc40 ?_
  refine h_p 6 hc40 ?_
  refine h_p 8 hc40 ?_
  refine h_one 7 ?_
  refine s_call1 (wy rfl rfl rfl rfl rfl known) rfl rfl (flags5_any _ _ _ (hG.below hc40).rl hl1) ?_
  rintro _ w41 ⟨rfl, hb41⟩
  have hc41 := hc40.trans (hb41.mono hc40.size)
  refine w_nil ?_
  refine h_on ⟨hc41, ?_⟩
  refine h_one 9 ?_
  refine s_call1 (wy rfl rfl rfl rfl rfl known) rfl rfl (flags5_any _ _ _ (hv.below hc41) r1) ?_
  rintro _ w42 ⟨rfl, hb42⟩
  have hc42 := hc41.trans (hb42.mono hc41.size)
  refine w_nil ?_
  refine h_on ⟨hc42, ?_⟩
  refine h_p 10 hc42 ?_
  refine h_p 11 hc42 ?_
  refine h_p 12 hc42 ?_
  refine h_p 15 hc42 ?_
  refine h_one 13 ?_
  refine s_call1 (wy rfl rfl rfl rfl rfl known) rfl rfl (flags5_any _ _ _ (hG.below hc42).rl hl1) ?_
  rintro _ w43 ⟨rfl, hb43⟩
  have hc43 := hc42.trans (hb43.mono hc42.size)
  refine w_nil ?_
  refine h_on ⟨hc43, ?_⟩
  refine h_p 14 hc43 ?_ (hrun := fun _ _ => y_mul rfl rfl (by constructor <;> omega))
  refine h_one 16 ?_
  refine s_call1 (wy rfl rfl rfl rfl rfl known) rfl rfl (flags5_any _ _ _ (hv.below hc43) r1) ?_
  rintro _ w44 ⟨rfl, hb44⟩
  have hc44 := hc43.trans (hb44.mono hc43.size)
  refine w_nil ?_
  refine h_on ⟨hc44, ?_⟩
  refine h_p 17 hc44 ?_
  refine h_p 18 hc44 ?_
  refine h_p 19 hc44 ?_
  refine h_p 20 hc44 ?_
  refine h_p 21 hc44 ?_
  refine h_nil ?_
  have sw44 := hc44.size
  replace hcl := hcl.below hc44
  replace hv := hv.below hc44
  replace hc3 := cell_below hc3 hc44
  replace hA := hA.below hc44
  replace hc5 := cell_below hc5 hc44
  replace ho := ho.below hc44
  replace hS := hS.below hc44
  replace hc11 := cell_below hc11 hc44
  replace hM := hM.below hc44
  replace hc13 := cell_below hc13 hc44
  replace hH := hH.below hc44
  replace hc15 := cell_below hc15 hc44
  replace hG := hG.below hc44
  replace hc17 := cell_below hc17 hc44
  replace hbB1 := hbB1.trans (hc44.mono hbB1.size)
  refine go ?_
  exact end_one Try.results3 rfl ⟨by first | rfl | rw [qf], (hb.trans (hbB1.mono hb.size))⟩


set_option maxRecDepth 100000 in
theorem liftedReplacedMoves (os : Os) (started : os.Started) (H : Type) (enc : TypeId × Value → H) :
    ReturnsInHanded {} Try.checked os 3 .any (Rows.fnReplacedMovesSpec.pre6 enc Try.prog Try.f3 Rows.fnReplacedMovesRow.domain false) (Rows.fnReplacedMovesSpec.post enc Try.prog Try.f3 false true false false) := by
  refine returnsInHanded_of_change (C := Try.checked) own started (by kernel_rfl) Try.func3
    (ChangeSpec.witness6 (enc := enc) (C := Try.checked) false ⟨#[], #[.slice none 0 0], []⟩ 8 (by kernel_rfl) (by kernel_rfl) (by kernel_rfl) (by kernel_rfl)) ?_
  intro W base args ds gs before hval0 hW hcnd _
  have hval : ∀ (j : Nat) t v, Try.f3.params[j]? = some t → args[j]? = some v → Value.okWide Try.prog W .any base t v := hval0
  have hW' := hW
  obtain ⟨p, q, hA0, hV, rfl, hfz, hnd⟩ := hW
  have hA : DataW.TrodAll enc Try.prog W 0 (fun _ => true) true Try.f3.params.toList args.toList ds p := hA0
  rw [Try.params3] at hA hval
  obtain ⟨v0, vs0, d0, ds0, p0, q0, hargs, rfl, rfl, h0, r0⟩ := trodAll_cons hA
  obtain ⟨rfl, rfl, rfl⟩ := trodAll_nil r0
  obtain rfl : args = #[v0] := by cases args; simp_all
  obtain ⟨rfl, rfl⟩ := trodVars_none hV
  have lt0 : ∀ x ∈ p0, x.block < W.heap.size := by obtain ⟨m, hm⟩ := h0; exact DataW.trod_lt m _ _ _ hm
  obtain ⟨xs0, hu0⟩ := open_arg_B (hval 0 22 v0 rfl rfl) h0
  clear hA0 hval0
  refine Calls.mono (lawReplacedMoves_any v0 xs0 W hu0) fun e W' ⟨v, he, hv, bel⟩ => ?_
  subst he
  subst hv
  exact ⟨_, rfl, _, _, _, [], _, [], hW', trodAll_mk1 (shut_bool Try.underlying4 _), (trodAll_cons_mk (Below.trod laidOut (by kernel_rfl) (of_decide_eq_true (by kernel_rfl)) h0 bel lt0) trodAll_mk0), rfl, bel.frame _, fun h => by cases h⟩

theorem provedReplacedMoves : Rows.FnReplacedMovesSaid :=
  OpenClaim.holds_of_wide 3 Try.f3 rfl rfl rfl rfl rfl rfl rfl ⟨rfl, rfl, rfl, rfl, rfl⟩ rfl rfl rfl rfl rfl (by kernel_rfl) Try.func3 (by kernel_rfl)
    (of_decide_eq_true (by kernel_rfl)) (by unfold Func.isWrapper; first | (rw [if_pos (by decide +kernel)]; kernel_rfl) | (rw [if_neg (by decide +kernel)]; exact ⟨rfl, rfl⟩))
    (fun os started H enc _ => liftedReplacedMoves os started H enc)

end Go.Proofs.Ytmdimdbfgibflaa
