/- Contracts: comparisons, on both sides. -/
import Derived.Test.YtinbiahmipfibaaGreatFE
import Derived.Test.YtinbiahmipfibaaGreatPD
import Derived.Test.YtinbiahmipfibaaGreatWB
namespace Go.Proofs.YtinbiahmipfibaaGreat
open Go.Mem Go.RowKit
set_option linter.unusedVariables false


set_option maxRecDepth 100000 in
theorem isNaN_any  (a : Int) (w : World)  :
    Ret Tryz.prog 94 #[.int .i64 a] w fun r w' => r = .bool (decide (a ≠ a)) ∧ w = w' := by
  have hb := Below.refl w.heap.size w
  refine enter1 6 Tryz.func94 rfl Tryz.ntmps94 rfl (fun fr => ?_)
  refine go ?_
  exact end_one Tryz.results94 rfl ⟨rfl, rfl⟩

set_option maxRecDepth 100000 in
theorem cmpCompare_any  (a : Int) (b : Int) (w : World)  :
    Ret Tryz.prog 72 #[.int .i64 a, .int .i64 b] w fun r w' => r = .int .i64 (cmpI a b) ∧ w = w' := by
  have hb := Below.refl w.heap.size w
  refine enter2 20 Tryz.func72 rfl Tryz.ntmps72 rfl (fun fr => ?_)
  have ha : ¬ (a ≠ a) := fun h => h rfl
  have hb' : ¬ (b ≠ b) := fun h => h rfl
  refine go ?_
  refine s_call1 (wn rfl) rfl rfl (isNaN_any _ _) ?_
  rintro _ _ ⟨rfl, rfl⟩
  refine go ?_
  refine s_call1 (wn rfl) rfl rfl (isNaN_any _ _) ?_
  rintro _ _ ⟨rfl, rfl⟩
  refine go ?_
  refine cond_dec rfl (fun hlt => ?_) (fun hge => ?_)
  · have e : cmpI a b = -1 := by unfold cmpI; rw [if_neg (by omega), if_pos hlt]
    refine go ?_
    exact end_one Tryz.results72 rfl ⟨by rw [e], rfl⟩
  refine go ?_
  refine cond_dec rfl (fun hgt => ?_) (fun hle => ?_)
  · have e : cmpI a b = 1 := by unfold cmpI; rw [if_neg (by omega), if_neg (by omega)]
    refine go ?_
    exact end_one Tryz.results72 rfl ⟨by rw [e], rfl⟩
  have e : cmpI a b = 0 := by unfold cmpI; rw [if_pos (by omega)]
  refine go ?_
  exact end_one Tryz.results72 rfl ⟨by rw [e], rfl⟩

set_option maxHeartbeats 8000000 in
set_option maxRecDepth 100000 in
theorem Compare_any (v : Value) (v2 : Value) (xs : List Int) (ys : List Int) (w : World) (hv : IL w v xs) (hv2 : IL w v2 ys) :
    Ret Tryz.prog 91 #[v, v2] w fun r w' => r = .int .i64 (cmpL ltI xs ys) ∧ Below w.heap.size w w' := by
  have shv := hv.sv
  have shv2 := hv2.sv
  have hb := Below.refl w.heap.size w
  refine enter2 36 Tryz.func91 rfl Tryz.ntmps91 rfl (fun fr => ?_)
  have scap := shv.le
  have scap2 := shv2.le
  refine go ?_
  have sbs1 := hb.size
  have hv_b1 := hv
  have hv2_b1 := hv2
  have hbB1 := Below.refl w.heap.size w
  refine w_loop (fun kk fr w' => ∃ (i : Nat), kk = xs.length - i ∧ i ≤ xs.length ∧ fr 0 = v ∧ fr 1 = v2 ∧ fr 9 = v ∧ fr 10 = .int .i64 xs.length ∧ fr 11 = .int .i64 i ∧ (i ≤ ys.length) ∧ (xs.take i = ys.take i) ∧ Below w.heap.size w w') (xs.length)
    ⟨0, rfl, Nat.zero_le _, rfl, rfl, rfl, rfl, rfl, Nat.zero_le _, by simp, hbB1⟩ ?_
  rintro kk fr w1 ⟨i, rfl, hi, f0, f1, f9, f10, f11, hle, heq, hbB1⟩
  have sw1 := hbB1.size
  have hv := hv_b1.below hbB1
  have hv2 := hv2_b1.below hbB1
  refine know (t := 0) f0 ?_; refine know (t := 1) f1 ?_; refine know (t := 9) f9 ?_; refine know (t := 10) f10 ?_; refine know (t := 11) f11 ?_
  refine go ?_
  refine cond_dec rfl (fun hlt => ?_) (fun hge => ?_)
  · refine go ?_
    refine cond_dec rfl (fun hov => ?_) (fun hov => ?_)
    · obtain rfl : i = ys.length := by omega
      have e := cmpL_over (lt := ltI) heq (by omega)
      refine go ?_
      exact end_one Tryz.results91 rfl ⟨by rw [e], (hb.trans (hbB1.mono hb.size))⟩
    refine go ?_
    refine go ?_
    refine s_call2 (wn rfl) rfl rfl rfl (cmpCompare_any _ _ _) ?_
    rintro _ _ ⟨rfl, rfl⟩
    refine go ?_
    refine cond_dec rfl (fun hne => ?_) (fun hne => ?_)
    · have e := cmpL_at heq (by omega) (by omega) hne
      refine go ?_
      exact end_one Tryz.results91 rfl ⟨by rw [e], (hb.trans (hbB1.mono hb.size))⟩
    have hz := cmpI_zero.1 (Decidable.not_not.1 hne)
    refine go ?_
    refine ⟨xs.length - (i + 1), by omega, i + 1, rfl, by omega, rfl, rfl, rfl, rfl, rfl, by omega, take_gi_eq (by omega) (by omega) heq hz, hbB1⟩
  obtain rfl : i = xs.length := by omega
  have e := cmpL_end (lt := ltI) heq hle
  refine go ?_
  refine cond_dec rfl (fun hsh => ?_) (fun hsh => ?_)
  · rw [if_pos (by omega)] at e
    refine go ?_
    exact end_one Tryz.results91 rfl ⟨by rw [e], (hb.trans (hbB1.mono hb.size))⟩
  rw [if_neg (by omega)] at e
  refine go ?_
  exact end_one Tryz.results91 rfl ⟨by rw [e], (hb.trans (hbB1.mono hb.size))⟩

set_option maxHeartbeats 8000000 in
set_option maxRecDepth 100000 in
theorem CompareFunc_any (v : Value) (v2 : Value) (xss : List (List Int)) (yss : List (List Int)) (w : World) (hv : RL w v xss) (hv2 : RL w v2 yss) :
    Ret Tryz.prog 90 #[v, v2, .func (.func 91) #[] #[]] w fun r w' => r = .int .i64 (cmpL lessL xss yss) ∧ Below w.heap.size w w' := by
  have shv := hv.sv
  have shv2 := hv2.sv
  have hb := Below.refl w.heap.size w
  refine enter3 39 Tryz.func90 rfl Tryz.ntmps90 rfl (fun fr => ?_)
  have scap := shv.le
  have scap2 := shv2.le
  refine go ?_
  have sbs1 := hb.size
  have hv_b1 := hv
  have hv2_b1 := hv2
  have hbB1 := Below.refl w.heap.size w
  refine w_loop (fun kk fr w' => ∃ (i : Nat), kk = xss.length - i ∧ i ≤ xss.length ∧ fr 0 = v ∧ fr 1 = v2 ∧ fr 2 = .func (.func 91) #[] #[] ∧ fr 11 = v ∧ fr 12 = .int .i64 xss.length ∧ fr 13 = .int .i64 i ∧ (i ≤ yss.length) ∧ (xss.take i = yss.take i) ∧ Below w.heap.size w w') (xss.length)
    ⟨0, rfl, Nat.zero_le _, rfl, rfl, rfl, rfl, rfl, rfl, Nat.zero_le _, by simp, hbB1⟩ ?_
  rintro kk fr w1 ⟨i, rfl, hi, f0, f1, f2, f11, f12, f13, hle, heq, hbB1⟩
  have sw1 := hbB1.size
  have hv := hv_b1.below hbB1
  have hv2 := hv2_b1.below hbB1
  refine know (t := 0) f0 ?_; refine know (t := 1) f1 ?_; refine know (t := 2) f2 ?_; refine know (t := 11) f11 ?_; refine know (t := 12) f12 ?_; refine know (t := 13) f13 ?_
  refine go ?_
  refine cond_dec rfl (fun hlt => ?_) (fun hge => ?_)
  · obtain ⟨u, hu, hcu⟩ := hv.row (j := (i : Int)) (by omega) hlt
    have su := hu.sv
    refine go ?_
    refine cond_dec rfl (fun hov => ?_) (fun hov => ?_)
    · obtain rfl : i = yss.length := by omega
      have e := cmpL_over (lt := lessL) heq (by omega)
      refine go ?_
      exact end_one Tryz.results90 rfl ⟨by rw [e], (hb.trans (hbB1.mono hb.size))⟩
    obtain ⟨u2, hu2, hcu2⟩ := hv2.row (j := (i : Int)) (by omega) (by omega)
    have su2 := hu2.sv
    refine go ?_
    refine s_callV2 (wn rfl) rfl rfl rfl rfl (Compare_any _ _ _ _ _ hu hu2) ?_
    rintro _ w2 ⟨rfl, hb2⟩
    have sw2 := hb2.size
    replace hv := hv.below hb2
    replace hv2 := hv2.below hb2
    replace hu := hu.below hb2
    replace hcu := cell_below hcu hb2
    replace hu2 := hu2.below hb2
    replace hcu2 := cell_below hcu2 hb2
    replace hbB1 := hbB1.trans (hb2.mono hbB1.size)
    refine go ?_
    refine cond_dec rfl (fun hne => ?_) (fun hne => ?_)
    · have e := cmpR_at heq (by omega) (by omega) hne
      refine go ?_
      exact end_one Tryz.results90 rfl ⟨by rw [e], (hb.trans (hbB1.mono hb.size))⟩
    have hz := (cmpL_zero _ _).1 (Decidable.not_not.1 hne)
    refine go ?_
    refine ⟨xss.length - (i + 1), by omega, i + 1, rfl, by omega, rfl, rfl, rfl, rfl, rfl, rfl, by omega, take_gr_eq (by omega) (by omega) heq hz, hbB1⟩
  obtain rfl : i = xss.length := by omega
  have e := cmpL_end (lt := lessL) heq hle
  refine go ?_
  refine cond_dec rfl (fun hsh => ?_) (fun hsh => ?_)
  · rw [if_pos (by omega)] at e
    refine go ?_
    exact end_one Tryz.results90 rfl ⟨by rw [e], (hb.trans (hbB1.mono hb.size))⟩
  rw [if_neg (by omega)] at e
  refine go ?_
  exact end_one Tryz.results90 rfl ⟨by rw [e], (hb.trans (hbB1.mono hb.size))⟩

set_option maxHeartbeats 8000000 in
set_option maxRecDepth 100000 in
theorem compareManiplexes_any (v : Value) (v2 : Value) (xss : List (List Int)) (yss : List (List Int)) (w : World) (hv : RL w v xss) (hv2 : RL w v2 yss) :
    Ret Tryz.prog 68 #[.agg #[v], .agg #[v2]] w fun r w' => r = .int .i64 (cmpL lessL xss yss) ∧ Below w.heap.size w w' := by
  have shv := hv.sv
  have shv2 := hv2.sv
  have hb := Below.refl w.heap.size w
  refine enter2 10 Tryz.func68 rfl Tryz.ntmps68 rfl (fun fr => ?_)
  refine go ?_
  refine s_box (wn rfl) rfl rfl (agg_cells shv) (fun w1 hbx _ hp hg => ?_)
  have hb1 := below_of_grownBy hg
  have sw1 := hb1.size
  replace hv := hv.below hb1
  replace hv2 := hv2.below hb1
  replace hb := hb.trans (hb1.mono hb.size)
  clear hg hp hb1
  generalize (⟨w.heap.size, 0, none⟩ : Addr) = p at *
  refine go ?_
  refine s_box (wn rfl) rfl rfl (agg_cells shv2) (fun w2 hbx2 _ hp hg => ?_)
  have hb2 := below_of_grownBy hg
  have sw2 := hb2.size
  replace hv := hv.below hb2
  replace hv2 := hv2.below hb2
  replace hbx := cell_below hbx hb2
  replace hb := hb.trans (hb2.mono hb.size)
  clear hg hp hb2
  generalize (⟨w1.heap.size, 0, none⟩ : Addr) = p2 at *
  refine go ?_
  refine s_call3 (wn rfl) rfl rfl rfl rfl (CompareFunc_any _ _ _ _ _ hv hv2) ?_
  rintro _ w3 ⟨rfl, hb3⟩
  have sw3 := hb3.size
  replace hv := hv.below hb3
  replace hv2 := hv2.below hb3
  replace hbx := cell_below hbx hb3
  replace hbx2 := cell_below hbx2 hb3
  replace hb := hb.trans (hb3.mono hb.size)
  refine go ?_
  exact end_one Tryz.results68 rfl ⟨rfl, hb⟩

set_option maxHeartbeats 8000000 in
set_option maxRecDepth 100000 in
theorem EqualFunc_any (v : Value) (v2 : Value) (xss : List (List Int)) (yss : List (List Int)) (w : World) (hv : RL w v xss) (hv2 : RL w v2 yss) :
    Ret Tryz.prog 74 #[v, v2, .func (.func 75) #[] #[]] w fun r w' => r = .bool (decide (xss = yss)) ∧ Below w.heap.size w w' := by
  have shv := hv.sv
  have shv2 := hv2.sv
  have hb := Below.refl w.heap.size w
  refine enter3 32 Tryz.func74 rfl Tryz.ntmps74 rfl (fun fr => ?_)
  have scap := shv.le
  have scap2 := shv2.le
  refine go ?_
  refine cond_dec rfl (fun h => ?_) (fun hl => ?_)
  · have e : decide (xss = yss) = false := decide_eq_false (fun e => h (by rw [e]))
    refine go ?_
    exact end_one Tryz.results74 rfl ⟨by rw [e], hb⟩
  refine go ?_
  have sbs1 := hb.size
  have hv_b1 := hv
  have hv2_b1 := hv2
  have hbB1 := Below.refl w.heap.size w
  refine w_loop (fun kk fr w' => ∃ (i : Nat), kk = xss.length - i ∧ i ≤ xss.length ∧ fr 0 = v ∧ fr 1 = v2 ∧ fr 2 = .func (.func 75) #[] #[] ∧ fr 15 = v ∧ fr 16 = .int .i64 xss.length ∧ fr 17 = .int .i64 i ∧ (∀ j : Nat, j < i → gr xss j = gr yss j) ∧ Below w.heap.size w w') (xss.length)
    ⟨0, rfl, Nat.zero_le _, rfl, rfl, rfl, rfl, rfl, rfl, fun j hj => by omega, hbB1⟩ ?_
  rintro kk fr w1 ⟨i, rfl, hi, f0, f1, f2, f15, f16, f17, hys, hbB1⟩
  have sw1 := hbB1.size
  have hv := hv_b1.below hbB1
  have hv2 := hv2_b1.below hbB1
  refine know (t := 0) f0 ?_; refine know (t := 1) f1 ?_; refine know (t := 2) f2 ?_; refine know (t := 15) f15 ?_; refine know (t := 16) f16 ?_; refine know (t := 17) f17 ?_
  refine go ?_
  refine cond_dec rfl (fun hlt => ?_) (fun hge => ?_)
  · obtain ⟨u, hu, hcu⟩ := hv.row (j := (i : Int)) (by omega) hlt
    have su := hu.sv
    obtain ⟨u2, hu2, hcu2⟩ := hv2.row (j := (i : Int)) (by omega) (by omega)
    have su2 := hu2.sv
    refine go ?_
    refine s_callV2 (wn rfl) rfl rfl rfl rfl (Equal_any _ _ _ _ _ hu hu2) ?_
    rintro _ w2 ⟨rfl, hb2⟩
    have sw2 := hb2.size
    replace hv := hv.below hb2
    replace hv2 := hv2.below hb2
    replace hu := hu.below hb2
    replace hcu := cell_below hcu hb2
    replace hu2 := hu2.below hb2
    replace hcu2 := cell_below hcu2 hb2
    replace hbB1 := hbB1.trans (hb2.mono hbB1.size)
    refine splitb (decide (gr xss i = gr yss i)) (fun heq => ?_) (fun heq => ?_)
    rotate_left
    · have e : decide (xss = yss) = false := decide_eq_false (fun e => of_decide_eq_false heq (by rw [e]))
      refine go ?_
      exact end_one Tryz.results74 rfl ⟨by rw [e], (hb.trans (hbB1.mono hb.size))⟩
    have heq' := of_decide_eq_true heq
    refine go ?_
    refine ⟨xss.length - (i + 1), by omega, i + 1, rfl, by omega, rfl, rfl, rfl, rfl, rfl, rfl, fun j hj => by by_cases hji : j = i; (subst hji; exact heq'); exact hys j (by omega), hbB1⟩
  obtain rfl : i = xss.length := by omega
  have e : decide (xss = yss) = true := decide_eq_true (rows_ext (by omega) hys)
  refine go ?_
  exact end_one Tryz.results74 rfl ⟨by rw [e], (hb.trans (hbB1.mono hb.size))⟩

set_option maxHeartbeats 8000000 in
set_option maxRecDepth 100000 in
theorem sameManiplex_any (v : Value) (v2 : Value) (xss : List (List Int)) (yss : List (List Int)) (w : World) (hv : RL w v xss) (hv2 : RL w v2 yss) :
    Ret Tryz.prog 48 #[.agg #[v], .agg #[v2]] w fun r w' => r = .bool (decide (xss = yss)) ∧ Below w.heap.size w w' := by
  have shv := hv.sv
  have shv2 := hv2.sv
  have hb := Below.refl w.heap.size w
  refine enter2 10 Tryz.func48 rfl Tryz.ntmps48 rfl (fun fr => ?_)
  refine go ?_
  refine s_box (wn rfl) rfl rfl (agg_cells shv) (fun w1 hbx _ hp hg => ?_)
  have hb1 := below_of_grownBy hg
  have sw1 := hb1.size
  replace hv := hv.below hb1
  replace hv2 := hv2.below hb1
  replace hb := hb.trans (hb1.mono hb.size)
  clear hg hp hb1
  generalize (⟨w.heap.size, 0, none⟩ : Addr) = p at *
  refine go ?_
  refine s_box (wn rfl) rfl rfl (agg_cells shv2) (fun w2 hbx2 _ hp hg => ?_)
  have hb2 := below_of_grownBy hg
  have sw2 := hb2.size
  replace hv := hv.below hb2
  replace hv2 := hv2.below hb2
  replace hbx := cell_below hbx hb2
  replace hb := hb.trans (hb2.mono hb.size)
  clear hg hp hb2
  generalize (⟨w1.heap.size, 0, none⟩ : Addr) = p2 at *
  refine go ?_
  refine s_call3 (wn rfl) rfl rfl rfl rfl (EqualFunc_any _ _ _ _ _ hv hv2) ?_
  rintro _ w3 ⟨rfl, hb3⟩
  have sw3 := hb3.size
  replace hv := hv.below hb3
  replace hv2 := hv2.below hb3
  replace hbx := cell_below hbx hb3
  replace hbx2 := cell_below hbx2 hb3
  replace hb := hb.trans (hb3.mono hb.size)
  refine go ?_
  exact end_one Tryz.results48 rfl ⟨rfl, hb⟩

set_option maxHeartbeats 8000000 in
set_option maxRecDepth 100000 in
theorem l01Same2_any (v : Value) (v2 : Value) (xss : List (List Int)) (yss : List (List Int)) (w : World) (hv : RL w v xss) (hv2 : RL w v2 yss) :
    Ret Tryz.prog 83 #[v, v2] w fun r w' => r = .bool (decide (xss = yss)) ∧ Below w.heap.size w w' := by
  have shv := hv.sv
  have shv2 := hv2.sv
  have hb := Below.refl w.heap.size w
  refine enter2 27 Tryz.func83 rfl Tryz.ntmps83 rfl (fun fr => ?_)
  have scap := shv.le
  have scap2 := shv2.le
  refine go ?_
  refine cond_dec rfl (fun h => ?_) (fun hl => ?_)
  · have e : decide (xss = yss) = false := decide_eq_false (fun e => h (by rw [e]))
    refine go ?_
    exact end_one Tryz.results83 rfl ⟨by rw [e], hb⟩
  refine go ?_
  have sbs1 := hb.size
  have hv_b1 := hv
  have hv2_b1 := hv2
  have hbB1 := Below.refl w.heap.size w
  refine w_loop (fun kk fr w' => ∃ (i : Nat), kk = xss.length - i ∧ i ≤ xss.length ∧ fr 0 = v ∧ fr 1 = v2 ∧ fr 5 = .int .i64 i ∧ (∀ j : Nat, j < i → gr xss j = gr yss j) ∧ Below w.heap.size w w') (xss.length)
    ⟨0, rfl, Nat.zero_le _, rfl, rfl, rfl, fun j hj => by omega, hbB1⟩ ?_
  rintro kk fr w1 ⟨i, rfl, hi, f0, f1, f5, hys, hbB1⟩
  have sw1 := hbB1.size
  have hv := hv_b1.below hbB1
  have hv2 := hv2_b1.below hbB1
  refine know (t := 0) f0 ?_; refine know (t := 1) f1 ?_; refine know (t := 5) f5 ?_
  refine go ?_
  refine cond_dec rfl (fun hlt => ?_) (fun hge => ?_)
  · obtain ⟨u, hu, hcu⟩ := hv.row (j := (i : Int)) (by omega) hlt
    have su := hu.sv
    obtain ⟨u2, hu2, hcu2⟩ := hv2.row (j := (i : Int)) (by omega) (by omega)
    have su2 := hu2.sv
    refine go ?_
    refine region_h mixed (fun w2 hc2 => ?_)
    have swr2 := hc2.size
    refine h_p 0 hc2 ?_
    refine h_p 1 hc2 ?_
    refine h_p 2 hc2 ?_
    refine h_p 3 hc2 ?_
    refine h_p 4 hc2 ?_
    refine h_p 5 hc2 ?_
    refine h_p 6 hc2 ?_
    refine h_p 7 hc2 ?_
    refine h_one 8 ?_
    refine s_call2 (wn rfl) rfl rfl rfl (l01Same_any _ _ _ _ _ (hu.below hc2) (hu2.below hc2)) ?_
    rintro _ w3 ⟨rfl, hb3⟩
    have hc3 := hc2.trans (hb3.mono hc2.size)
    refine w_nil ?_
    refine h_on ⟨hc3, ?_⟩
    refine h_p 9 hc3 ?_
    refine h_nil ?_
    have sw3 := hc3.size
    replace hv := hv.below hc3
    replace hv2 := hv2.below hc3
    replace hu := hu.below hc3
    replace hcu := cell_below hcu hc3
    replace hu2 := hu2.below hc3
    replace hcu2 := cell_below hcu2 hc3
    replace hbB1 := hbB1.trans (hc3.mono hbB1.size)
    refine splitb (decide (gr xss i = gr yss i)) (fun heq => ?_) (fun heq => ?_)
    rotate_left
    · have e : decide (xss = yss) = false := decide_eq_false (fun e => of_decide_eq_false heq (by rw [e]))
      refine go ?_
      exact end_one Tryz.results83 rfl ⟨by rw [e], (hb.trans (hbB1.mono hb.size))⟩
    have heq' := of_decide_eq_true heq
    refine go ?_
    refine ⟨xss.length - (i + 1), by omega, i + 1, rfl, by omega, rfl, rfl, rfl, fun j hj => by by_cases hji : j = i; (subst hji; exact heq'); exact hys j (by omega), hbB1⟩
  obtain rfl : i = xss.length := by omega
  have e : decide (xss = yss) = true := decide_eq_true (rows_ext (by omega) hys)
  refine go ?_
  exact end_one Tryz.results83 rfl ⟨by rw [e], (hb.trans (hbB1.mono hb.size))⟩

set_option maxHeartbeats 8000000 in
set_option maxRecDepth 100000 in
theorem l02Same_any (v : Value) (v2 : Value) (xss : List (List Int)) (yss : List (List Int)) (w : World) (hv : RL w v xss) (hv2 : RL w v2 yss) :
    Ret Tryz.prog 58 #[.agg #[v], .agg #[v2]] w fun r w' => r = .bool (decide (xss = yss)) ∧ Below w.heap.size w w' := by
  have shv := hv.sv
  have shv2 := hv2.sv
  have hb := Below.refl w.heap.size w
  refine enter2 10 Tryz.func58 rfl Tryz.ntmps58 rfl (fun fr => ?_)
  refine go ?_
  refine s_box (wn rfl) rfl rfl (agg_cells shv) (fun w1 hbx _ hp hg => ?_)
  have hb1 := below_of_grownBy hg
  have sw1 := hb1.size
  replace hv := hv.below hb1
  replace hv2 := hv2.below hb1
  replace hb := hb.trans (hb1.mono hb.size)
  clear hg hp hb1
  generalize (⟨w.heap.size, 0, none⟩ : Addr) = p at *
  refine go ?_
  refine s_box (wn rfl) rfl rfl (agg_cells shv2) (fun w2 hbx2 _ hp hg => ?_)
  have hb2 := below_of_grownBy hg
  have sw2 := hb2.size
  replace hv := hv.below hb2
  replace hv2 := hv2.below hb2
  replace hbx := cell_below hbx hb2
  replace hb := hb.trans (hb2.mono hb.size)
  clear hg hp hb2
  generalize (⟨w1.heap.size, 0, none⟩ : Addr) = p2 at *
  refine go ?_
  refine s_call2 (wn rfl) rfl rfl rfl (l01Same2_any _ _ _ _ _ hv hv2) ?_
  rintro _ w3 ⟨rfl, hb3⟩
  have sw3 := hb3.size
  replace hv := hv.below hb3
  replace hv2 := hv2.below hb3
  replace hbx := cell_below hbx hb3
  replace hbx2 := cell_below hbx2 hb3
  replace hb := hb.trans (hb3.mono hb.size)
  refine go ?_
  exact end_one Tryz.results58 rfl ⟨rfl, hb⟩

theorem lessL_len {xs ys : List Int} {i : Nat} (he : xs.take i = ys.take i) (h : i = xs.length ∨ i = ys.length) (hx : i ≤ xs.length) (hy : i ≤ ys.length) : lessL xs ys = decide (xs.length < ys.length) := by
  by_cases hlt : xs.length < ys.length
  · obtain rfl : i = xs.length := by omega
    rw [decide_eq_true hlt]
    exact lexL_short (by rw [List.take_length] at he; exact he) hlt
  · obtain rfl : i = ys.length := by omega
    rw [decide_eq_false hlt]
    rw [List.take_length] at he
    by_cases h2 : ys.length < xs.length
    · exact lexL_long he h2
    · rw [List.take_of_length_le (by omega)] at he
      rw [he]; exact lexL_self _
theorem lessR_len {xss yss : List (List Int)} {i : Nat} (he : xss.take i = yss.take i) (h : i = xss.length ∨ i = yss.length) (hx : i ≤ xss.length) (hy : i ≤ yss.length) : lessR xss yss = decide (xss.length < yss.length) := by
  by_cases hlt : xss.length < yss.length
  · obtain rfl : i = xss.length := by omega
    rw [decide_eq_true hlt]
    exact lexL_short (by rw [List.take_length] at he; exact he) hlt
  · obtain rfl : i = yss.length := by omega
    rw [decide_eq_false hlt]
    rw [List.take_length] at he
    by_cases h2 : yss.length < xss.length
    · exact lexL_long he h2
    · rw [List.take_of_length_le (by omega)] at he
      rw [he]; exact lexL_self _

set_option maxHeartbeats 8000000 in
set_option maxRecDepth 100000 in
theorem l01Less_any (v : Value) (v2 : Value) (xs : List Int) (ys : List Int) (w : World) (hv : IL w v xs) (hv2 : IL w v2 ys) :
    Ret Tryz.prog 97 #[v, v2] w fun r w' => r = .bool (lessL xs ys) ∧ Below w.heap.size w w' := by
  have shv := hv.sv
  have shv2 := hv2.sv
  have hb := Below.refl w.heap.size w
  refine enter2 41 Tryz.func97 rfl Tryz.ntmps97 rfl (fun fr => ?_)
  have scap := shv.le
  have scap2 := shv2.le
  refine go ?_
  have sbs1 := hb.size
  have hv_b1 := hv
  have hv2_b1 := hv2
  have hbB1 := Below.refl w.heap.size w
  refine w_loop (fun kk fr w' => ∃ (i : Nat), kk = xs.length - i ∧ i ≤ xs.length ∧ fr 0 = v ∧ fr 1 = v2 ∧ fr 5 = .int .i64 i ∧ (i ≤ ys.length) ∧ (xs.take i = ys.take i) ∧ Below w.heap.size w w') (xs.length)
    ⟨0, rfl, Nat.zero_le _, rfl, rfl, rfl, Nat.zero_le _, by simp, hbB1⟩ ?_
  rintro kk fr w1 ⟨i, rfl, hi, f0, f1, f5, hle, heq, hbB1⟩
  have sw1 := hbB1.size
  have hv := hv_b1.below hbB1
  have hv2 := hv2_b1.below hbB1
  refine know (t := 0) f0 ?_; refine know (t := 1) f1 ?_; refine know (t := 5) f5 ?_
  refine go ?_
  by_cases hlt : (i : Int) < xs.length
  rotate_left
  · refine go ?_
    exact end_one Tryz.results97 rfl ⟨by rw [lessL_len heq (by omega) (by omega) (by omega)]; congr 1; simp, (hb.trans (hbB1.mono hb.size))⟩
  by_cases hlt2 : (i : Int) < ys.length
  rotate_left
  · refine go ?_
    exact end_one Tryz.results97 rfl ⟨by rw [lessL_len heq (by omega) (by omega) (by omega)]; congr 1; simp, (hb.trans (hbB1.mono hb.size))⟩
  refine go ?_
  refine region_q mixed (by kernel_rfl) ?_; refine qo ?_; refine q_nil ?_
  intro wq hbq
  have sw1 := hbq.size
  replace hv := hv.below hbq
  replace hv2 := hv2.below hbq
  replace hbB1 := hbB1.trans (hbq.mono hbB1.size)
  refine go ?_
  refine cond_dec rfl (fun hq => ?_) (fun hq => ?_)
  · have e := (lessL_at heq (by omega) (by omega) hq).1
    refine go ?_
    refine region_q mixed (by kernel_rfl) ?_; refine qo ?_; refine q_nil ?_
    intro wr hbr
    have sw1 := hbr.size
    replace hv := hv.below hbr
    replace hv2 := hv2.below hbr
    replace hbB1 := hbB1.trans (hbr.mono hbB1.size)
    refine go ?_
    exact end_one Tryz.results97 rfl ⟨by rw [e], (hb.trans (hbB1.mono hb.size))⟩
  have hq' := Decidable.not_not.1 hq
  refine go ?_
  refine ⟨xs.length - (i + 1), by omega, i + 1, rfl, by omega, rfl, rfl, rfl, by omega, take_gi_eq (by omega) (by omega) heq hq', hbB1⟩

set_option maxHeartbeats 8000000 in
set_option maxRecDepth 100000 in
theorem l01Less2_any (v : Value) (v2 : Value) (xss : List (List Int)) (yss : List (List Int)) (w : World) (hv : RL w v xss) (hv2 : RL w v2 yss) :
    Ret Tryz.prog 82 #[v, v2] w fun r w' => r = .bool (lessR xss yss) ∧ Below w.heap.size w w' := by
  have shv := hv.sv
  have shv2 := hv2.sv
  have hb := Below.refl w.heap.size w
  refine enter2 42 Tryz.func82 rfl Tryz.ntmps82 rfl (fun fr => ?_)
  have scap := shv.le
  have scap2 := shv2.le
  refine go ?_
  have sbs1 := hb.size
  have hv_b1 := hv
  have hv2_b1 := hv2
  have hbB1 := Below.refl w.heap.size w
  refine w_loop (fun kk fr w' => ∃ (i : Nat), kk = xss.length - i ∧ i ≤ xss.length ∧ fr 0 = v ∧ fr 1 = v2 ∧ fr 5 = .int .i64 i ∧ (i ≤ yss.length) ∧ (xss.take i = yss.take i) ∧ Below w.heap.size w w') (xss.length)
    ⟨0, rfl, Nat.zero_le _, rfl, rfl, rfl, Nat.zero_le _, by simp, hbB1⟩ ?_
  rintro kk fr w1 ⟨i, rfl, hi, f0, f1, f5, hle, heq, hbB1⟩
  have sw1 := hbB1.size
  have hv := hv_b1.below hbB1
  have hv2 := hv2_b1.below hbB1
  refine know (t := 0) f0 ?_; refine know (t := 1) f1 ?_; refine know (t := 5) f5 ?_
  refine go ?_
  by_cases hlt : (i : Int) < xss.length
  rotate_left
  · refine go ?_
    exact end_one Tryz.results82 rfl ⟨by rw [lessR_len heq (by omega) (by omega) (by omega)]; congr 1; simp, (hb.trans (hbB1.mono hb.size))⟩
  by_cases hlt2 : (i : Int) < yss.length
  rotate_left
  · refine go ?_
    exact end_one Tryz.results82 rfl ⟨by rw [lessR_len heq (by omega) (by omega) (by omega)]; congr 1; simp, (hb.trans (hbB1.mono hb.size))⟩
  refine go ?_
  obtain ⟨u, hu, hcu⟩ := hv.row (j := (i : Int)) (by omega) hlt
  have su := hu.sv
  obtain ⟨u2, hu2, hcu2⟩ := hv2.row (j := (i : Int)) (by omega) (by omega)
  have su2 := hu2.sv
  refine go ?_
  refine region_h mixed (fun w2 hc2 => ?_)
  have swr2 := hc2.size
  refine h_p 0 hc2 ?_
  refine h_p 1 hc2 ?_
  refine h_p 2 hc2 ?_
  refine h_p 3 hc2 ?_
  refine h_p 4 hc2 ?_
  refine h_p 5 hc2 ?_
  refine h_p 6 hc2 ?_
  refine h_p 7 hc2 ?_
  refine h_one 8 ?_
  refine s_call2 (wn rfl) rfl rfl rfl (l01Same_any _ _ _ _ _ (hu.below hc2) (hu2.below hc2)) ?_
  rintro _ w3 ⟨rfl, hb3⟩
  have hc3 := hc2.trans (hb3.mono hc2.size)
  refine w_nil ?_
  refine h_on ⟨hc3, ?_⟩
  refine h_p 9 hc3 ?_
  refine h_nil ?_
  have sw3 := hc3.size
  replace hv := hv.below hc3
  replace hv2 := hv2.below hc3
  replace hu := hu.below hc3
  replace hcu := cell_below hcu hc3
  replace hu2 := hu2.below hc3
  replace hcu2 := cell_below hcu2 hc3
  replace hbB1 := hbB1.trans (hc3.mono hbB1.size)
  refine splitb (decide (gr xss i = gr yss i)) (fun hq => ?_) (fun hq => ?_)
  rotate_left
  · have hq' := of_decide_eq_false hq
    have e := (lessR_at heq (by omega) (by omega) hq').1
    refine go ?_
    refine region_h mixed (fun w4 hc4 => ?_)
    have swr4 := hc4.size
    refine h_p 0 hc4 ?_
    refine h_p 1 hc4 ?_
    refine h_p 2 hc4 ?_
    refine h_p 3 hc4 ?_
    refine h_p 4 hc4 ?_
    refine h_p 5 hc4 ?_
    refine h_p 6 hc4 ?_
    refine h_p 7 hc4 ?_
    refine h_one 8 ?_
    refine s_call2 (wn rfl) rfl rfl rfl (l01Less_any _ _ _ _ _ (hu.below hc4) (hu2.below hc4)) ?_
    rintro _ w5 ⟨rfl, hb5⟩
    have hc5 := hc4.trans (hb5.mono hc4.size)
    refine w_nil ?_
    refine h_on ⟨hc5, ?_⟩
    refine h_p 9 hc5 ?_
    refine h_nil ?_
    have sw5 := hc5.size
    replace hv := hv.below hc5
    replace hv2 := hv2.below hc5
    replace hu := hu.below hc5
    replace hcu := cell_below hcu hc5
    replace hu2 := hu2.below hc5
    replace hcu2 := cell_below hcu2 hc5
    replace hbB1 := hbB1.trans (hc5.mono hbB1.size)
    refine go ?_
    exact end_one Tryz.results82 rfl ⟨by rw [e], (hb.trans (hbB1.mono hb.size))⟩
  have hq' := of_decide_eq_true hq
  refine go ?_
  refine ⟨xss.length - (i + 1), by omega, i + 1, rfl, by omega, rfl, rfl, rfl, by omega, take_gr_eq (by omega) (by omega) heq hq', hbB1⟩

end Go.Proofs.YtinbiahmipfibaaGreat
