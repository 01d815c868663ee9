/- Contracts: comparisons, on both sides. -/
import Derived.Test.YtkknhcpjiehgiaaDoorFE
import Derived.Test.YtkknhcpjiehgiaaDoorP23
import Derived.Test.YtkknhcpjiehgiaaDoorWB
namespace Go.Proofs.YtkknhcpjiehgiaaDoor
open Go.Mem Go.RowKit
set_option linter.unusedVariables false


set_option maxRecDepth 100000 in
theorem isNaN_any  (a : Int) (w : World)  :
    Ret Tryd.prog 61 #[.int .i64 a] w fun r w' => r = .bool (decide (a ≠ a)) ∧ w = w' := by
  have hb := Below.refl w.heap.size w
  refine enter1 6 Tryd.func61 rfl Tryd.ntmps61 rfl (fun fr => ?_)
  refine go ?_
  exact end_one Tryd.results61 rfl ⟨rfl, rfl⟩

set_option maxRecDepth 100000 in
theorem cmpCompare_any  (a : Int) (b : Int) (w : World)  :
    Ret Tryd.prog 48 #[.int .i64 a, .int .i64 b] w fun r w' => r = .int .i64 (cmpI a b) ∧ w = w' := by
  have hb := Below.refl w.heap.size w
  refine enter2 20 Tryd.func48 rfl Tryd.ntmps48 rfl (fun fr => ?_)
  have ha : ¬ (a ≠ a) := fun h => h rfl
  have hb' : ¬ (b ≠ b) := fun h => h rfl
  refine go ?_
  refine s_call1 (wn rfl) rfl rfl (isNaN_any _ _) ?_
  rintro _ _ ⟨rfl, rfl⟩
  refine go ?_
  refine s_call1 (wn rfl) rfl rfl (isNaN_any _ _) ?_
  rintro _ _ ⟨rfl, rfl⟩
  refine go ?_
  refine cond_dec rfl (fun hlt => ?_) (fun hge => ?_)
  · have e : cmpI a b = -1 := by unfold cmpI; rw [if_neg (by omega), if_pos hlt]
    refine go ?_
    exact end_one Tryd.results48 rfl ⟨by rw [e], rfl⟩
  refine go ?_
  refine cond_dec rfl (fun hgt => ?_) (fun hle => ?_)
  · have e : cmpI a b = 1 := by unfold cmpI; rw [if_neg (by omega), if_neg (by omega)]
    refine go ?_
    exact end_one Tryd.results48 rfl ⟨by rw [e], rfl⟩
  have e : cmpI a b = 0 := by unfold cmpI; rw [if_pos (by omega)]
  refine go ?_
  exact end_one Tryd.results48 rfl ⟨by rw [e], rfl⟩

set_option maxHeartbeats 8000000 in
set_option maxRecDepth 100000 in
theorem Compare_any (v : Value) (v2 : Value) (xs : List Int) (ys : List Int) (w : World) (hv : IL w v xs) (hv2 : IL w v2 ys) :
    Ret Tryd.prog 37 #[v, v2] w fun r w' => r = .int .i64 (cmpL ltI xs ys) ∧ Below w.heap.size w w' := by
  have shv := hv.sv
  have shv2 := hv2.sv
  have hb := Below.refl w.heap.size w
  refine enter2 36 Tryd.func37 rfl Tryd.ntmps37 rfl (fun fr => ?_)
  have scap := shv.le
  have scap2 := shv2.le
  refine go ?_
  have sbs1 := hb.size
  have hv_b1 := hv
  have hv2_b1 := hv2
  have hbB1 := Below.refl w.heap.size w
  refine w_loop (fun kk fr w' => ∃ (i : Nat), kk = xs.length - i ∧ i ≤ xs.length ∧ fr 0 = v ∧ fr 1 = v2 ∧ fr 9 = v ∧ fr 10 = .int .i64 xs.length ∧ fr 11 = .int .i64 i ∧ (i ≤ ys.length) ∧ (xs.take i = ys.take i) ∧ Below w.heap.size w w') (xs.length)
    ⟨0, rfl, Nat.zero_le _, rfl, rfl, rfl, rfl, rfl, Nat.zero_le _, by simp, hbB1⟩ ?_
  rintro kk fr w1 ⟨i, rfl, hi, f0, f1, f9, f10, f11, hle, heq, hbB1⟩
  have sw1 := hbB1.size
  have hv := hv_b1.below hbB1
  have hv2 := hv2_b1.below hbB1
  refine know (t := 0) f0 ?_; refine know (t := 1) f1 ?_; refine know (t := 9) f9 ?_; refine know (t := 10) f10 ?_; refine know (t := 11) f11 ?_
  refine go ?_
  refine cond_dec rfl (fun hlt => ?_) (fun hge => ?_)
  · refine go ?_
    refine cond_dec rfl (fun hov => ?_) (fun hov => ?_)
    · obtain rfl : i = ys.length := by omega
      have e := cmpL_over (lt := ltI) heq (by omega)
      refine go ?_
      exact end_one Tryd.results37 rfl ⟨by rw [e], (hb.trans (hbB1.mono hb.size))⟩
    refine go ?_
    refine go ?_
    refine s_call2 (wn rfl) rfl rfl rfl (cmpCompare_any _ _ _) ?_
    rintro _ _ ⟨rfl, rfl⟩
    refine go ?_
    refine cond_dec rfl (fun hne => ?_) (fun hne => ?_)
    · have e := cmpL_at heq (by omega) (by omega) hne
      refine go ?_
      exact end_one Tryd.results37 rfl ⟨by rw [e], (hb.trans (hbB1.mono hb.size))⟩
    have hz := cmpI_zero.1 (Decidable.not_not.1 hne)
    refine go ?_
    refine ⟨xs.length - (i + 1), by omega, i + 1, rfl, by omega, rfl, rfl, rfl, rfl, rfl, by omega, take_gi_eq (by omega) (by omega) heq hz, hbB1⟩
  obtain rfl : i = xs.length := by omega
  have e := cmpL_end (lt := ltI) heq hle
  refine go ?_
  refine cond_dec rfl (fun hsh => ?_) (fun hsh => ?_)
  · rw [if_pos (by omega)] at e
    refine go ?_
    exact end_one Tryd.results37 rfl ⟨by rw [e], (hb.trans (hbB1.mono hb.size))⟩
  rw [if_neg (by omega)] at e
  refine go ?_
  exact end_one Tryd.results37 rfl ⟨by rw [e], (hb.trans (hbB1.mono hb.size))⟩

theorem lessL_len {xs ys : List Int} {i : Nat} (he : xs.take i = ys.take i) (h : i = xs.length ∨ i = ys.length) (hx : i ≤ xs.length) (hy : i ≤ ys.length) : lessL xs ys = decide (xs.length < ys.length) := by
  by_cases hlt : xs.length < ys.length
  · obtain rfl : i = xs.length := by omega
    rw [decide_eq_true hlt]
    exact lexL_short (by rw [List.take_length] at he; exact he) hlt
  · obtain rfl : i = ys.length := by omega
    rw [decide_eq_false hlt]
    rw [List.take_length] at he
    by_cases h2 : ys.length < xs.length
    · exact lexL_long he h2
    · rw [List.take_of_length_le (by omega)] at he
      rw [he]; exact lexL_self _
theorem lessR_len {xss yss : List (List Int)} {i : Nat} (he : xss.take i = yss.take i) (h : i = xss.length ∨ i = yss.length) (hx : i ≤ xss.length) (hy : i ≤ yss.length) : lessR xss yss = decide (xss.length < yss.length) := by
  by_cases hlt : xss.length < yss.length
  · obtain rfl : i = xss.length := by omega
    rw [decide_eq_true hlt]
    exact lexL_short (by rw [List.take_length] at he; exact he) hlt
  · obtain rfl : i = yss.length := by omega
    rw [decide_eq_false hlt]
    rw [List.take_length] at he
    by_cases h2 : yss.length < xss.length
    · exact lexL_long he h2
    · rw [List.take_of_length_le (by omega)] at he
      rw [he]; exact lexL_self _

set_option maxHeartbeats 8000000 in
set_option maxRecDepth 100000 in
theorem l01Less_any (v : Value) (v2 : Value) (xs : List Int) (ys : List Int) (w : World) (hv : IL w v xs) (hv2 : IL w v2 ys) :
    Ret Tryd.prog 40 #[v, v2] w fun r w' => r = .bool (lessL xs ys) ∧ Below w.heap.size w w' := by
  have shv := hv.sv
  have shv2 := hv2.sv
  have hb := Below.refl w.heap.size w
  refine enter2 41 Tryd.func40 rfl Tryd.ntmps40 rfl (fun fr => ?_)
  have scap := shv.le
  have scap2 := shv2.le
  refine go ?_
  have sbs1 := hb.size
  have hv_b1 := hv
  have hv2_b1 := hv2
  have hbB1 := Below.refl w.heap.size w
  refine w_loop (fun kk fr w' => ∃ (i : Nat), kk = xs.length - i ∧ i ≤ xs.length ∧ fr 0 = v ∧ fr 1 = v2 ∧ fr 5 = .int .i64 i ∧ (i ≤ ys.length) ∧ (xs.take i = ys.take i) ∧ Below w.heap.size w w') (xs.length)
    ⟨0, rfl, Nat.zero_le _, rfl, rfl, rfl, Nat.zero_le _, by simp, hbB1⟩ ?_
  rintro kk fr w1 ⟨i, rfl, hi, f0, f1, f5, hle, heq, hbB1⟩
  have sw1 := hbB1.size
  have hv := hv_b1.below hbB1
  have hv2 := hv2_b1.below hbB1
  refine know (t := 0) f0 ?_; refine know (t := 1) f1 ?_; refine know (t := 5) f5 ?_
  refine go ?_
  by_cases hlt : (i : Int) < xs.length
  rotate_left
  · refine go ?_
    exact end_one Tryd.results40 rfl ⟨by rw [lessL_len heq (by omega) (by omega) (by omega)]; congr 1; simp, (hb.trans (hbB1.mono hb.size))⟩
  by_cases hlt2 : (i : Int) < ys.length
  rotate_left
  · refine go ?_
    exact end_one Tryd.results40 rfl ⟨by rw [lessL_len heq (by omega) (by omega) (by omega)]; congr 1; simp, (hb.trans (hbB1.mono hb.size))⟩
  refine go ?_
  refine region_q mixed (by kernel_rfl) ?_; refine qo ?_; refine q_nil ?_
  intro wq hbq
  have sw1 := hbq.size
  replace hv := hv.below hbq
  replace hv2 := hv2.below hbq
  replace hbB1 := hbB1.trans (hbq.mono hbB1.size)
  refine go ?_
  refine cond_dec rfl (fun hq => ?_) (fun hq => ?_)
  · have e := (lessL_at heq (by omega) (by omega) hq).1
    refine go ?_
    refine region_q mixed (by kernel_rfl) ?_; refine qo ?_; refine q_nil ?_
    intro wr hbr
    have sw1 := hbr.size
    replace hv := hv.below hbr
    replace hv2 := hv2.below hbr
    replace hbB1 := hbB1.trans (hbr.mono hbB1.size)
    refine go ?_
    exact end_one Tryd.results40 rfl ⟨by rw [e], (hb.trans (hbB1.mono hb.size))⟩
  have hq' := Decidable.not_not.1 hq
  refine go ?_
  refine ⟨xs.length - (i + 1), by omega, i + 1, rfl, by omega, rfl, rfl, rfl, by omega, take_gi_eq (by omega) (by omega) heq hq', hbB1⟩

end Go.Proofs.YtkknhcpjiehgiaaDoor
