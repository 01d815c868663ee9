/- Contracts: comparisons, on both sides. -/
import Derived.Test.YtablpijnjkncfaaGreatFE
import Derived.Test.YtablpijnjkncfaaGreatPD
import Derived.Test.YtablpijnjkncfaaGreatWB
namespace Go.Proofs.YtablpijnjkncfaaGreat
open Go.Mem Go.RowKit
set_option linter.unusedVariables false


set_option maxRecDepth 100000 in
theorem isNaN_any  (a : Int) (w : World)  :
    Ret Tryz.prog 125 #[.int .i64 a] w fun r w' => r = .bool (decide (a ≠ a)) ∧ w = w' := by
  have hb := Below.refl w.heap.size w
  refine enter1 6 Tryz.func125 rfl Tryz.ntmps125 rfl (fun fr => ?_)
  refine go ?_
  exact end_one Tryz.results125 rfl ⟨rfl, rfl⟩

set_option maxRecDepth 100000 in
theorem cmpCompare_any  (a : Int) (b : Int) (w : World)  :
    Ret Tryz.prog 98 #[.int .i64 a, .int .i64 b] w fun r w' => r = .int .i64 (cmpI a b) ∧ w = w' := by
  have hb := Below.refl w.heap.size w
  refine enter2 20 Tryz.func98 rfl Tryz.ntmps98 rfl (fun fr => ?_)
  have ha : ¬ (a ≠ a) := fun h => h rfl
  have hb' : ¬ (b ≠ b) := fun h => h rfl
  refine go ?_
  refine s_call1 (wn rfl) rfl rfl (isNaN_any _ _) ?_
  rintro _ _ ⟨rfl, rfl⟩
  refine go ?_
  refine s_call1 (wn rfl) rfl rfl (isNaN_any _ _) ?_
  rintro _ _ ⟨rfl, rfl⟩
  refine go ?_
  refine cond_dec rfl (fun hlt => ?_) (fun hge => ?_)
  · have e : cmpI a b = -1 := by unfold cmpI; rw [if_neg (by omega), if_pos hlt]
    refine go ?_
    exact end_one Tryz.results98 rfl ⟨by rw [e], rfl⟩
  refine go ?_
  refine cond_dec rfl (fun hgt => ?_) (fun hle => ?_)
  · have e : cmpI a b = 1 := by unfold cmpI; rw [if_neg (by omega), if_neg (by omega)]
    refine go ?_
    exact end_one Tryz.results98 rfl ⟨by rw [e], rfl⟩
  have e : cmpI a b = 0 := by unfold cmpI; rw [if_pos (by omega)]
  refine go ?_
  exact end_one Tryz.results98 rfl ⟨by rw [e], rfl⟩

set_option maxHeartbeats 8000000 in
set_option maxRecDepth 100000 in
theorem Compare_any (v : Value) (v2 : Value) (xs : List Int) (ys : List Int) (w : World) (hv : IL w v xs) (hv2 : IL w v2 ys) :
    Ret Tryz.prog 122 #[v, v2] w fun r w' => r = .int .i64 (cmpL ltI xs ys) ∧ Below w.heap.size w w' := by
  have shv := hv.sv
  have shv2 := hv2.sv
  have hb := Below.refl w.heap.size w
  refine enter2 36 Tryz.func122 rfl Tryz.ntmps122 rfl (fun fr => ?_)
  have scap := shv.le
  have scap2 := shv2.le
  refine go ?_
  have sbs1 := hb.size
  have hv_b1 := hv
  have hv2_b1 := hv2
  have hbB1 := Below.refl w.heap.size w
  refine w_loop (fun kk fr w' => ∃ (i : Nat), kk = xs.length - i ∧ i ≤ xs.length ∧ fr 0 = v ∧ fr 1 = v2 ∧ fr 9 = v ∧ fr 10 = .int .i64 xs.length ∧ fr 11 = .int .i64 i ∧ (i ≤ ys.length) ∧ (xs.take i = ys.take i) ∧ Below w.heap.size w w') (xs.length)
    ⟨0, rfl, Nat.zero_le _, rfl, rfl, rfl, rfl, rfl, Nat.zero_le _, by simp, hbB1⟩ ?_
  rintro kk fr w1 ⟨i, rfl, hi, f0, f1, f9, f10, f11, hle, heq, hbB1⟩
  have sw1 := hbB1.size
  have hv := hv_b1.below hbB1
  have hv2 := hv2_b1.below hbB1
  refine know (t := 0) f0 ?_; refine know (t := 1) f1 ?_; refine know (t := 9) f9 ?_; refine know (t := 10) f10 ?_; refine know (t := 11) f11 ?_
  refine go ?_
  refine cond_dec rfl (fun hlt => ?_) (fun hge => ?_)
  · refine go ?_
    refine cond_dec rfl (fun hov => ?_) (fun hov => ?_)
    · obtain rfl : i = ys.length := by omega
      have e := cmpL_over (lt := ltI) heq (by omega)
      refine go ?_
      exact end_one Tryz.results122 rfl ⟨by rw [e], (hb.trans (hbB1.mono hb.size))⟩
    refine go ?_
    refine go ?_
    refine s_call2 (wn rfl) rfl rfl rfl (cmpCompare_any _ _ _) ?_
    rintro _ _ ⟨rfl, rfl⟩
    refine go ?_
    refine cond_dec rfl (fun hne => ?_) (fun hne => ?_)
    · have e := cmpL_at heq (by omega) (by omega) hne
      refine go ?_
      exact end_one Tryz.results122 rfl ⟨by rw [e], (hb.trans (hbB1.mono hb.size))⟩
    have hz := cmpI_zero.1 (Decidable.not_not.1 hne)
    refine go ?_
    refine ⟨xs.length - (i + 1), by omega, i + 1, rfl, by omega, rfl, rfl, rfl, rfl, rfl, by omega, take_gi_eq (by omega) (by omega) heq hz, hbB1⟩
  obtain rfl : i = xs.length := by omega
  have e := cmpL_end (lt := ltI) heq hle
  refine go ?_
  refine cond_dec rfl (fun hsh => ?_) (fun hsh => ?_)
  · rw [if_pos (by omega)] at e
    refine go ?_
    exact end_one Tryz.results122 rfl ⟨by rw [e], (hb.trans (hbB1.mono hb.size))⟩
  rw [if_neg (by omega)] at e
  refine go ?_
  exact end_one Tryz.results122 rfl ⟨by rw [e], (hb.trans (hbB1.mono hb.size))⟩

set_option maxHeartbeats 8000000 in
set_option maxRecDepth 100000 in
theorem CompareFunc_any (v : Value) (v2 : Value) (xss : List (List Int)) (yss : List (List Int)) (w : World) (hv : RL w v xss) (hv2 : RL w v2 yss) :
    Ret Tryz.prog 121 #[v, v2, .func (.func 122) #[] #[]] w fun r w' => r = .int .i64 (cmpL lessL xss yss) ∧ Below w.heap.size w w' := by
  have shv := hv.sv
  have shv2 := hv2.sv
  have hb := Below.refl w.heap.size w
  refine enter3 39 Tryz.func121 rfl Tryz.ntmps121 rfl (fun fr => ?_)
  have scap := shv.le
  have scap2 := shv2.le
  refine go ?_
  have sbs1 := hb.size
  have hv_b1 := hv
  have hv2_b1 := hv2
  have hbB1 := Below.refl w.heap.size w
  refine w_loop (fun kk fr w' => ∃ (i : Nat), kk = xss.length - i ∧ i ≤ xss.length ∧ fr 0 = v ∧ fr 1 = v2 ∧ fr 2 = .func (.func 122) #[] #[] ∧ fr 11 = v ∧ fr 12 = .int .i64 xss.length ∧ fr 13 = .int .i64 i ∧ (i ≤ yss.length) ∧ (xss.take i = yss.take i) ∧ Below w.heap.size w w') (xss.length)
    ⟨0, rfl, Nat.zero_le _, rfl, rfl, rfl, rfl, rfl, rfl, Nat.zero_le _, by simp, hbB1⟩ ?_
  rintro kk fr w1 ⟨i, rfl, hi, f0, f1, f2, f11, f12, f13, hle, heq, hbB1⟩
  have sw1 := hbB1.size
  have hv := hv_b1.below hbB1
  have hv2 := hv2_b1.below hbB1
  refine know (t := 0) f0 ?_; refine know (t := 1) f1 ?_; refine know (t := 2) f2 ?_; refine know (t := 11) f11 ?_; refine know (t := 12) f12 ?_; refine know (t := 13) f13 ?_
  refine go ?_
  refine cond_dec rfl (fun hlt => ?_) (fun hge => ?_)
  · obtain ⟨u, hu, hcu⟩ := hv.row (j := (i : Int)) (by omega) hlt
    have su := hu.sv
    refine go ?_
    refine cond_dec rfl (fun hov => ?_) (fun hov => ?_)
    · obtain rfl : i = yss.length := by omega
      have e := cmpL_over (lt := lessL) heq (by omega)
      refine go ?_
      exact end_one Tryz.results121 rfl ⟨by rw [e], (hb.trans (hbB1.mono hb.size))⟩
    obtain ⟨u2, hu2, hcu2⟩ := hv2.row (j := (i : Int)) (by omega) (by omega)
    have su2 := hu2.sv
    refine go ?_
    refine s_callV2 (wn rfl) rfl rfl rfl rfl (Compare_any _ _ _ _ _ hu hu2) ?_
    rintro _ w2 ⟨rfl, hb2⟩
    have sw2 := hb2.size
    replace hv := hv.below hb2
    replace hv2 := hv2.below hb2
    replace hu := hu.below hb2
    replace hcu := cell_below hcu hb2
    replace hu2 := hu2.below hb2
    replace hcu2 := cell_below hcu2 hb2
    replace hbB1 := hbB1.trans (hb2.mono hbB1.size)
    refine go ?_
    refine cond_dec rfl (fun hne => ?_) (fun hne => ?_)
    · have e := cmpR_at heq (by omega) (by omega) hne
      refine go ?_
      exact end_one Tryz.results121 rfl ⟨by rw [e], (hb.trans (hbB1.mono hb.size))⟩
    have hz := (cmpL_zero _ _).1 (Decidable.not_not.1 hne)
    refine go ?_
    refine ⟨xss.length - (i + 1), by omega, i + 1, rfl, by omega, rfl, rfl, rfl, rfl, rfl, rfl, by omega, take_gr_eq (by omega) (by omega) heq hz, hbB1⟩
  obtain rfl : i = xss.length := by omega
  have e := cmpL_end (lt := lessL) heq hle
  refine go ?_
  refine cond_dec rfl (fun hsh => ?_) (fun hsh => ?_)
  · rw [if_pos (by omega)] at e
    refine go ?_
    exact end_one Tryz.results121 rfl ⟨by rw [e], (hb.trans (hbB1.mono hb.size))⟩
  rw [if_neg (by omega)] at e
  refine go ?_
  exact end_one Tryz.results121 rfl ⟨by rw [e], (hb.trans (hbB1.mono hb.size))⟩

set_option maxHeartbeats 8000000 in
set_option maxRecDepth 100000 in
theorem compareManiplexes_any (v : Value) (v2 : Value) (xss : List (List Int)) (yss : List (List Int)) (w : World) (hv : RL w v xss) (hv2 : RL w v2 yss) :
    Ret Tryz.prog 94 #[.agg #[v], .agg #[v2]] w fun r w' => r = .int .i64 (cmpL lessL xss yss) ∧ Below w.heap.size w w' := by
  have shv := hv.sv
  have shv2 := hv2.sv
  have hb := Below.refl w.heap.size w
  refine enter2 10 Tryz.func94 rfl Tryz.ntmps94 rfl (fun fr => ?_)
  refine go ?_
  refine s_box (wn rfl) rfl rfl (agg_cells shv) (fun w1 hbx _ hp hg => ?_)
  have hb1 := below_of_grownBy hg
  have sw1 := hb1.size
  replace hv := hv.below hb1
  replace hv2 := hv2.below hb1
  replace hb := hb.trans (hb1.mono hb.size)
  clear hg hp hb1
  generalize (⟨w.heap.size, 0, none⟩ : Addr) = p at *
  refine go ?_
  refine s_box (wn rfl) rfl rfl (agg_cells shv2) (fun w2 hbx2 _ hp hg => ?_)
  have hb2 := below_of_grownBy hg
  have sw2 := hb2.size
  replace hv := hv.below hb2
  replace hv2 := hv2.below hb2
  replace hbx := cell_below hbx hb2
  replace hb := hb.trans (hb2.mono hb.size)
  clear hg hp hb2
  generalize (⟨w1.heap.size, 0, none⟩ : Addr) = p2 at *
  refine go ?_
  refine s_call3 (wn rfl) rfl rfl rfl rfl (CompareFunc_any _ _ _ _ _ hv hv2) ?_
  rintro _ w3 ⟨rfl, hb3⟩
  have sw3 := hb3.size
  replace hv := hv.below hb3
  replace hv2 := hv2.below hb3
  replace hbx := cell_below hbx hb3
  replace hbx2 := cell_below hbx2 hb3
  replace hb := hb.trans (hb3.mono hb.size)
  refine go ?_
  exact end_one Tryz.results94 rfl ⟨rfl, hb⟩

set_option maxHeartbeats 8000000 in
set_option maxRecDepth 100000 in
theorem EqualFunc_any (v : Value) (v2 : Value) (xss : List (List Int)) (yss : List (List Int)) (w : World) (hv : RL w v xss) (hv2 : RL w v2 yss) :
    Ret Tryz.prog 126 #[v, v2, .func (.func 88) #[] #[]] w fun r w' => r = .bool (decide (xss = yss)) ∧ Below w.heap.size w w' := by
  have shv := hv.sv
  have shv2 := hv2.sv
  have hb := Below.refl w.heap.size w
  refine enter3 32 Tryz.func126 rfl Tryz.ntmps126 rfl (fun fr => ?_)
  have scap := shv.le
  have scap2 := shv2.le
  refine go ?_
  refine cond_dec rfl (fun h => ?_) (fun hl => ?_)
  · have e : decide (xss = yss) = false := decide_eq_false (fun e => h (by rw [e]))
    refine go ?_
    exact end_one Tryz.results126 rfl ⟨by rw [e], hb⟩
  refine go ?_
  have sbs1 := hb.size
  have hv_b1 := hv
  have hv2_b1 := hv2
  have hbB1 := Below.refl w.heap.size w
  refine w_loop (fun kk fr w' => ∃ (i : Nat), kk = xss.length - i ∧ i ≤ xss.length ∧ fr 0 = v ∧ fr 1 = v2 ∧ fr 2 = .func (.func 88) #[] #[] ∧ fr 15 = v ∧ fr 16 = .int .i64 xss.length ∧ fr 17 = .int .i64 i ∧ (∀ j : Nat, j < i → gr xss j = gr yss j) ∧ Below w.heap.size w w') (xss.length)
    ⟨0, rfl, Nat.zero_le _, rfl, rfl, rfl, rfl, rfl, rfl, fun j hj => by omega, hbB1⟩ ?_
  rintro kk fr w1 ⟨i, rfl, hi, f0, f1, f2, f15, f16, f17, hys, hbB1⟩
  have sw1 := hbB1.size
  have hv := hv_b1.below hbB1
  have hv2 := hv2_b1.below hbB1
  refine know (t := 0) f0 ?_; refine know (t := 1) f1 ?_; refine know (t := 2) f2 ?_; refine know (t := 15) f15 ?_; refine know (t := 16) f16 ?_; refine know (t := 17) f17 ?_
  refine go ?_
  refine cond_dec rfl (fun hlt => ?_) (fun hge => ?_)
  · obtain ⟨u, hu, hcu⟩ := hv.row (j := (i : Int)) (by omega) hlt
    have su := hu.sv
    obtain ⟨u2, hu2, hcu2⟩ := hv2.row (j := (i : Int)) (by omega) (by omega)
    have su2 := hu2.sv
    refine go ?_
    refine s_callV2 (wn rfl) rfl rfl rfl rfl (Equal_any _ _ _ _ _ hu hu2) ?_
    rintro _ w2 ⟨rfl, hb2⟩
    have sw2 := hb2.size
    replace hv := hv.below hb2
    replace hv2 := hv2.below hb2
    replace hu := hu.below hb2
    replace hcu := cell_below hcu hb2
    replace hu2 := hu2.below hb2
    replace hcu2 := cell_below hcu2 hb2
    replace hbB1 := hbB1.trans (hb2.mono hbB1.size)
    refine splitb (decide (gr xss i = gr yss i)) (fun heq => ?_) (fun heq => ?_)
    rotate_left
    · have e : decide (xss = yss) = false := decide_eq_false (fun e => of_decide_eq_false heq (by rw [e]))
      refine go ?_
      exact end_one Tryz.results126 rfl ⟨by rw [e], (hb.trans (hbB1.mono hb.size))⟩
    have heq' := of_decide_eq_true heq
    refine go ?_
    refine ⟨xss.length - (i + 1), by omega, i + 1, rfl, by omega, rfl, rfl, rfl, rfl, rfl, rfl, fun j hj => by by_cases hji : j = i; (subst hji; exact heq'); exact hys j (by omega), hbB1⟩
  obtain rfl : i = xss.length := by omega
  have e : decide (xss = yss) = true := decide_eq_true (rows_ext (by omega) hys)
  refine go ?_
  exact end_one Tryz.results126 rfl ⟨by rw [e], (hb.trans (hbB1.mono hb.size))⟩

set_option maxHeartbeats 8000000 in
set_option maxRecDepth 100000 in
theorem sameManiplex_any (v : Value) (v2 : Value) (xss : List (List Int)) (yss : List (List Int)) (w : World) (hv : RL w v xss) (hv2 : RL w v2 yss) :
    Ret Tryz.prog 100 #[.agg #[v], .agg #[v2]] w fun r w' => r = .bool (decide (xss = yss)) ∧ Below w.heap.size w w' := by
  have shv := hv.sv
  have shv2 := hv2.sv
  have hb := Below.refl w.heap.size w
  refine enter2 10 Tryz.func100 rfl Tryz.ntmps100 rfl (fun fr => ?_)
  refine go ?_
  refine s_box (wn rfl) rfl rfl (agg_cells shv) (fun w1 hbx _ hp hg => ?_)
  have hb1 := below_of_grownBy hg
  have sw1 := hb1.size
  replace hv := hv.below hb1
  replace hv2 := hv2.below hb1
  replace hb := hb.trans (hb1.mono hb.size)
  clear hg hp hb1
  generalize (⟨w.heap.size, 0, none⟩ : Addr) = p at *
  refine go ?_
  refine s_box (wn rfl) rfl rfl (agg_cells shv2) (fun w2 hbx2 _ hp hg => ?_)
  have hb2 := below_of_grownBy hg
  have sw2 := hb2.size
  replace hv := hv.below hb2
  replace hv2 := hv2.below hb2
  replace hbx := cell_below hbx hb2
  replace hb := hb.trans (hb2.mono hb.size)
  clear hg hp hb2
  generalize (⟨w1.heap.size, 0, none⟩ : Addr) = p2 at *
  refine go ?_
  refine s_call3 (wn rfl) rfl rfl rfl rfl (EqualFunc_any _ _ _ _ _ hv hv2) ?_
  rintro _ w3 ⟨rfl, hb3⟩
  have sw3 := hb3.size
  replace hv := hv.below hb3
  replace hv2 := hv2.below hb3
  replace hbx := cell_below hbx hb3
  replace hbx2 := cell_below hbx2 hb3
  replace hb := hb.trans (hb3.mono hb.size)
  refine go ?_
  exact end_one Tryz.results100 rfl ⟨rfl, hb⟩

theorem lessL_len {xs ys : List Int} {i : Nat} (he : xs.take i = ys.take i) (h : i = xs.length ∨ i = ys.length) (hx : i ≤ xs.length) (hy : i ≤ ys.length) : lessL xs ys = decide (xs.length < ys.length) := by
  by_cases hlt : xs.length < ys.length
  · obtain rfl : i = xs.length := by omega
    rw [decide_eq_true hlt]
    exact lexL_short (by rw [List.take_length] at he; exact he) hlt
  · obtain rfl : i = ys.length := by omega
    rw [decide_eq_false hlt]
    rw [List.take_length] at he
    by_cases h2 : ys.length < xs.length
    · exact lexL_long he h2
    · rw [List.take_of_length_le (by omega)] at he
      rw [he]; exact lexL_self _
theorem lessR_len {xss yss : List (List Int)} {i : Nat} (he : xss.take i = yss.take i) (h : i = xss.length ∨ i = yss.length) (hx : i ≤ xss.length) (hy : i ≤ yss.length) : lessR xss yss = decide (xss.length < yss.length) := by
  by_cases hlt : xss.length < yss.length
  · obtain rfl : i = xss.length := by omega
    rw [decide_eq_true hlt]
    exact lexL_short (by rw [List.take_length] at he; exact he) hlt
  · obtain rfl : i = yss.length := by omega
    rw [decide_eq_false hlt]
    rw [List.take_length] at he
    by_cases h2 : yss.length < xss.length
    · exact lexL_long he h2
    · rw [List.take_of_length_le (by omega)] at he
      rw [he]; exact lexL_self _

end Go.Proofs.YtablpijnjkncfaaGreat
