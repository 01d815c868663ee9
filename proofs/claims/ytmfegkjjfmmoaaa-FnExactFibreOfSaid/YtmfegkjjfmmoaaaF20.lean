/- Contracts: lists compared; IsCovering, on both sides. -/
import Derived.Test.YtmfegkjjfmmoaaaF18
import Derived.Test.YtmfegkjjfmmoaaaP15
namespace Go.Proofs.Ytmfegkjjfmmoaaa
open Go.Mem Go.RowKit
set_option linter.unusedVariables false


theorem l01Same_any (v v2 : Value) (xs ys : List Int) (w : World) (hv : IL w v xs) (hv2 : IL w v2 ys) :
    Ret Try.prog 131 #[v, v2] w fun r w' => r = .bool (decide (xs = ys)) ∧ Below w.heap.size w w' := by
  have sv := hv.sv
  have sv2 := hv2.sv
  have hm := sv.le
  refine enter2 26 Try.func131 rfl Try.ntmps131 rfl (fun fr => ?_)
  refine go ?_
  refine cond_dec rfl (fun h => ?_) (fun hl => ?_)
  · refine go ?_
    exact end_one Try.results131 rfl ⟨by rw [decide_eq_false (fun e => h (by rw [e]))], Below.refl _ _⟩
  refine go ?_
  refine w_loop (fun k fr w' => ∃ (i : Nat), k = xs.length - i ∧ i ≤ xs.length ∧ fr 0 = v ∧ fr 1 = v2 ∧ fr 5 = .int .i64 i ∧ (∀ j : Int, 0 ≤ j → j < i → gi xs j = gi ys j) ∧ Below w.heap.size w w') xs.length
    ⟨0, rfl, Nat.zero_le _, rfl, rfl, rfl, fun j h0 h1 => by omega, Below.refl _ _⟩ ?_
  rintro k fr w2 ⟨i, rfl, hi, f0, f1, fs, hys, hb⟩
  have hv := hv.below hb
  have hv2 := hv2.below hb
  refine know (t := 0) f0 ?_; refine know (t := 1) f1 ?_; refine know (t := 5) fs ?_
  refine go ?_
  refine cond_dec rfl (fun hlt => ?_) (fun hge => ?_)
  · refine go ?_
    refine region_q mixed (by kernel_rfl) ?_
    refine qo ?_
    refine q_nil ?_
    intro w3 hb3
    have hb := hb.trans (hb3.mono hb.size)
    refine go ?_
    refine cond_dec rfl (fun hne => ?_) (fun hne => ?_)
    · refine go ?_
      exact end_one Try.results131 rfl ⟨by rw [decide_eq_false (fun e => hne (by rw [e]))], hb⟩
    · refine go ?_
      refine ⟨xs.length - (i + 1), by omega, i + 1, rfl, by omega, rfl, rfl, rfl, fun j h0 hj => ?_, hb⟩
      by_cases hji : j = i
      · subst hji; exact Decidable.not_not.1 hne
      · exact hys j h0 (by omega)
  · obtain rfl : i = xs.length := by omega
    refine go ?_
    have : xs = ys := list_ext_gi (by omega) fun j h0 hj => hys j h0 (by omega)
    exact end_one Try.results131 rfl ⟨by rw [decide_eq_true this], hb⟩

theorem Equal_any (v v2 : Value) (xs ys : List Int) (w : World) (hv : IL w v xs) (hv2 : IL w v2 ys) :
    Ret Try.prog 115 #[v, v2] w fun r w' => r = .bool (decide (xs = ys)) ∧ Below w.heap.size w w' := by
  have sv := hv.sv
  have sv2 := hv2.sv
  have hm := sv.le
  refine enter2 26 Try.func115 rfl Try.ntmps115 rfl (fun fr => ?_)
  refine go ?_
  refine cond_dec rfl (fun h => ?_) (fun hl => ?_)
  · refine go ?_
    exact end_one Try.results115 rfl ⟨by rw [decide_eq_false (fun e => h (by rw [e]))], Below.refl _ _⟩
  refine go ?_
  refine w_loop (fun k fr w' => ∃ (i : Nat), k = xs.length - i ∧ i ≤ xs.length ∧ fr 0 = v ∧ fr 1 = v2 ∧ fr 12 = .int .i64 xs.length ∧ fr 13 = .int .i64 i ∧ (∀ j : Int, 0 ≤ j → j < i → gi xs j = gi ys j) ∧ Below w.heap.size w w') xs.length
    ⟨0, rfl, Nat.zero_le _, rfl, rfl, rfl, rfl, fun j h0 h1 => by omega, Below.refl _ _⟩ ?_
  rintro k fr w2 ⟨i, rfl, hi, f0, f1, f12, fs, hys, hb⟩
  have hv := hv.below hb
  have hv2 := hv2.below hb
  refine know (t := 0) f0 ?_; refine know (t := 1) f1 ?_; refine know (t := 12) f12 ?_; refine know (t := 13) fs ?_
  refine go ?_
  refine cond_dec rfl (fun hlt => ?_) (fun hge => ?_)
  · refine go ?_
    refine region_q mixed (by kernel_rfl) ?_
    refine qo ?_
    refine q_nil ?_
    intro w3 hb3
    have hb := hb.trans (hb3.mono hb.size)
    refine go ?_
    refine cond_dec rfl (fun hne => ?_) (fun hne => ?_)
    · refine go ?_
      exact end_one Try.results115 rfl ⟨by rw [decide_eq_false (fun e => hne (by rw [e]))], hb⟩
    · refine go ?_
      refine ⟨xs.length - (i + 1), by omega, i + 1, rfl, by omega, rfl, rfl, rfl, rfl, fun j h0 hj => ?_, hb⟩
      by_cases hji : j = i
      · subst hji; exact Decidable.not_not.1 hne
      · exact hys j h0 (by omega)
  · obtain rfl : i = xs.length := by omega
    refine go ?_
    have : xs = ys := list_ext_gi (by omega) fun j h0 hj => hys j h0 (by omega)
    exact end_one Try.results115 rfl ⟨by rw [decide_eq_true this], hb⟩

set_option maxRecDepth 100000 in
theorem l07Covering_any (v : Value) (v2 : Value) (v3 : Value) (ms : List (List Int)) (ks : List (List Int)) (xs : List Int) (w : World) (hv : RL w v ms) (hv2 : RL w v2 ks) (hv3 : IL w v3 xs) (hm : IsMan ms) (hk : IsMan ks) :
    Ret Try.prog 112 #[.agg #[v], .agg #[v2], v3] w fun r w' => r = .bool (decide (IsCov ms ks xs)) ∧ Below w.heap.size w w' := by
  have shv := hv.sv
  have shv2 := hv2.sv
  have shv3 := hv3.sv
  have hb := Below.refl w.heap.size w
  refine enter3 37 Try.func112 rfl Try.ntmps112 rfl (fun fr => ?_)
  have h1 := hm.m0.r1
  have h2 := hm.m0.f2
  have h4 := hm.m0.f400
  have k1 := hk.m0.r1
  have k4 := hk.m0.f400
  have scap := shv3.le
  refine go ?_
  refine s_box (wn rfl) rfl rfl (agg_cells shv) (fun w1 hbx _ hp hg => ?_)
  have hb1 := below_of_grownBy hg
  replace hv := hv.below hb1
  replace hv2 := hv2.below hb1
  replace hv3 := hv3.below hb1
  replace hb := hb.trans (hb1.mono hb.size)
  clear hg hp hb1
  generalize (⟨w.heap.size, 0, none⟩ : Addr) = p at *
  refine go ?_
  refine s_box (wn rfl) rfl rfl (agg_cells shv2) (fun w2 hbx2 _ hp hg => ?_)
  have hb2 := below_of_grownBy hg
  replace hv := hv.below hb2
  replace hv2 := hv2.below hb2
  replace hv3 := hv3.below hb2
  replace hbx := cell_below hbx hb2
  replace hb := hb.trans (hb2.mono hb.size)
  clear hg hp hb2
  generalize (⟨w1.heap.size, 0, none⟩ : Addr) = p2 at *
  refine go ?_
  by_cases hl : (xs.length : Int) = nf ms
  rotate_left
  · have hl' : (xs.length : Int) ≠ nf ms := hl
    refine region_q mixed (by kernel_rfl) ?_
    refine qo ?_
    refine q_call1 (wn rfl) rfl rfl (fun w hb => l02Flags_any _ _ _ (hv.below hb) h1) ?_
    refine qo ?_
    refine q_nil ?_
    intro w3 hbq
    replace hv := hv.below hbq
    replace hv2 := hv2.below hbq
    replace hv3 := hv3.below hbq
    replace hbx := cell_below hbx hbq
    replace hbx2 := cell_below hbx2 hbq
    replace hb := hb.trans (hbq.mono hb.size)
    refine go ?_
    exact end_one Try.results112 rfl ⟨by rw [isCov_1 (by omega)], hb⟩
  have hl' : ¬ ((xs.length : Int) ≠ nf ms) := fun h => h hl
  refine region_q mixed (by kernel_rfl) ?_
  refine qo ?_
  refine q_call1 (wn rfl) rfl rfl (fun w hb => l02Flags_any _ _ _ (hv.below hb) h1) ?_
  refine qo ?_
  refine q_call2 (wy rfl rfl rfl rfl rfl known) rfl rfl rfl (fun w hb => l02Flag_any _ _ (gi xs 0) _ (hv2.below hb) k1 k4) ?_
  refine qo ?_
  refine q_nil ?_
  intro w4 hbq
  replace hv := hv.below hbq
  replace hv2 := hv2.below hbq
  replace hv3 := hv3.below hbq
  replace hbx := cell_below hbx hbq
  replace hbx2 := cell_below hbx2 hbq
  replace hb := hb.trans (hbq.mono hb.size)
  refine splitb (decide (0 ≤ gi xs 0 ∧ gi xs 0 < nf ks)) (fun hf => ?_) (fun hf => ?_)
  rotate_left
  · refine go ?_
    exact end_one Try.results112 rfl ⟨by rw [isCov_2 (of_decide_eq_false hf)], hb⟩
  have hf' := of_decide_eq_true hf
  refine go ?_
  refine region_h mixed (fun w5 hc5 => ?_)
  refine h_p 0 hc5 ?_
  refine h_p 1 hc5 ?_
  refine h_p 2 hc5 ?_
  refine h_p 3 hc5 ?_
  refine h_p 4 hc5 ?_
  refine h_one 5 ?_
  refine s_call3 (wn rfl) rfl rfl rfl rfl (l07Cover_any _ _ _ _ (gi xs 0) _ (hv.below hc5) (hv2.below hc5) hm hk hf') ?_
  rintro _ w6 ⟨x, rfl, hx, hb6⟩
  have hc6 := hc5.trans (hb6.mono hc5.size)
  refine w_nil ?_
  refine h_on ⟨hc6, ?_⟩
  have hx := hx.oi
  refine h_p 6 hc6 ?_
  refine h_p 7 hc6 ?_
  refine h_p 8 hc6 ?_
  refine h_p 9 hc6 ?_
  refine h_p 10 hc6 ?_
  refine h_nil ?_
  replace hv := hv.below hc6
  replace hv2 := hv2.below hc6
  replace hv3 := hv3.below hc6
  replace hbx := cell_below hbx hc6
  replace hbx2 := cell_below hbx2 hc6
  replace hb := hb.trans (hc6.mono hb.size)
  have e := isCov_3 (ms := ms) (ks := ks) (xs := xs) (by omega) hf'
  refine splitb ((mapT ms ks (gi xs 0)).isSome) (fun ho => ?_) (fun ho => ?_)
  rotate_left
  · have ho' : (mapT ms ks (gi xs 0)).isSome = !true := ho
    refine go ?_
    exact end_one Try.results112 rfl ⟨by rw [e, ho]; rfl, hb⟩
  refine go ?_
  refine s_call2 (wy rfl rfl rfl rfl rfl known) rfl rfl rfl (l01Same_any _ _ _ _ _ hx.il hv3) ?_
  rintro _ w7 ⟨rfl, hb7⟩
  replace hv := hv.below hb7
  replace hv2 := hv2.below hb7
  replace hv3 := hv3.below hb7
  replace hbx := cell_below hbx hb7
  replace hbx2 := cell_below hbx2 hb7
  replace hx := hx.below hb7
  replace hb := hb.trans (hb7.mono hb.size)
  refine go ?_
  exact end_one Try.results112 rfl ⟨by rw [e, ho, Bool.true_and], hb⟩

set_option maxHeartbeats 4000000 in
set_option maxRecDepth 100000 in
theorem isCovering_any (v : Value) (v2 : Value) (v3 : Value) (ms : List (List Int)) (ks : List (List Int)) (xs : List Int) (w : World) (hv : RL w v ms) (hv2 : RL w v2 ks) (hv3 : IL w v3 xs) (hm : IsMan ms) (hk : IsMan ks) :
    Ret Try.prog 113 #[.agg #[v], .agg #[v2], v3] w fun r w' => r = .bool (decide (IsCov ms ks xs)) ∧ Below w.heap.size w w' := by
  have shv := hv.sv
  have shv2 := hv2.sv
  have shv3 := hv3.sv
  have hb := Below.refl w.heap.size w
  refine enter3 27 Try.func113 rfl Try.ntmps113 rfl (fun fr => ?_)
  have h1 := hm.m0.r1
  have h2 := hm.m0.f2
  have h4 := hm.m0.f400
  have k1 := hk.m0.r1
  have k4 := hk.m0.f400
  have scap := shv3.le
  refine go ?_
  refine s_box (wn rfl) rfl rfl (agg_cells shv) (fun w1 hbx _ hp hg => ?_)
  have hb1 := below_of_grownBy hg
  replace hv := hv.below hb1
  replace hv2 := hv2.below hb1
  replace hv3 := hv3.below hb1
  replace hb := hb.trans (hb1.mono hb.size)
  clear hg hp hb1
  generalize (⟨w.heap.size, 0, none⟩ : Addr) = p at *
  refine go ?_
  refine s_box (wn rfl) rfl rfl (agg_cells shv2) (fun w2 hbx2 _ hp hg => ?_)
  have hb2 := below_of_grownBy hg
  replace hv := hv.below hb2
  replace hv2 := hv2.below hb2
  replace hv3 := hv3.below hb2
  replace hbx := cell_below hbx hb2
  replace hb := hb.trans (hb2.mono hb.size)
  clear hg hp hb2
  generalize (⟨w1.heap.size, 0, none⟩ : Addr) = p2 at *
  refine go ?_
  by_cases hl : (xs.length : Int) = nf ms
  rotate_left
  · refine region_h mixed (fun w3 hc3 => ?_)
    refine h_p 0 hc3 ?_
    refine h_one 1 ?_
    refine s_call1 (wn rfl) rfl rfl (size_any _ _ _ shv3) ?_
    rintro _ _ ⟨rfl, rfl⟩
    refine w_nil ?_
    refine h_on ⟨hc3, ?_⟩
    refine h_one 2 ?_
    refine s_call1 (wn rfl) rfl rfl (flags_any _ _ _ _ (cell_below hbx hc3) (hv.below hc3) h1) ?_
    rintro _ _ ⟨rfl, rfl⟩
    refine w_nil ?_
    refine h_on ⟨hc3, ?_⟩
    refine h_p 3 hc3 ?_
    refine h_p 4 hc3 ?_
    refine h_no 5 hc3 ?_
    refine h_no 6 hc3 ?_
    refine h_no 7 hc3 ?_
    refine h_no 8 hc3 ?_
    refine h_p 9 hc3 ?_
    refine h_p 10 hc3 ?_
    refine h_no 11 hc3 ?_
    refine h_no 12 hc3 ?_
    refine h_no 13 hc3 ?_
    refine h_no 14 hc3 ?_
    refine h_no 15 hc3 ?_
    refine h_no 16 hc3 ?_
    refine h_no 17 hc3 ?_
    refine h_no 18 hc3 ?_
    refine h_p 19 hc3 ?_
    refine h_p 20 hc3 ?_
    refine h_nil ?_
    replace hv := hv.below hc3
    replace hv2 := hv2.below hc3
    replace hv3 := hv3.below hc3
    replace hbx := cell_below hbx hc3
    replace hbx2 := cell_below hbx2 hc3
    replace hb := hb.trans (hc3.mono hb.size)
    refine go ?_
    exact end_one Try.results113 rfl ⟨by rw [isCov_1 (by omega)], hb⟩
  refine splitb (decide (0 ≤ gi xs 0 ∧ gi xs 0 < nf ks)) (fun hf => ?_) (fun hf => ?_)
  rotate_left
  · have hf'' := of_decide_eq_false hf
    refine region_h mixed (fun w4 hc4 => ?_)
    refine h_p 0 hc4 ?_
    refine h_one 1 ?_
    refine s_call1 (wn rfl) rfl rfl (size_any _ _ _ shv3) ?_
    rintro _ _ ⟨rfl, rfl⟩
    refine w_nil ?_
    refine h_on ⟨hc4, ?_⟩
    refine h_one 2 ?_
    refine s_call1 (wn rfl) rfl rfl (flags_any _ _ _ _ (cell_below hbx hc4) (hv.below hc4) h1) ?_
    rintro _ _ ⟨rfl, rfl⟩
    refine w_nil ?_
    refine h_on ⟨hc4, ?_⟩
    refine h_p 3 hc4 ?_
    refine h_p 4 hc4 ?_
    refine h_p 5 hc4 ?_
    refine h_p 6 hc4 ?_
    refine h_p 7 hc4 ?_
    refine h_one 8 ?_
    refine s_call2 (wy rfl rfl rfl rfl rfl known) rfl rfl rfl (hasFlag_any _ _ _ (gi xs 0) _ (hv2.below hc4) (cell_below hbx2 hc4) k1 k4) ?_
    rintro _ _ ⟨rfl, rfl⟩
    refine w_nil ?_
    refine h_on ⟨hc4, ?_⟩
    refine h_p 9 hc4 ?_
    refine h_p 10 hc4 ?_
    refine h_no 11 hc4 ?_
    refine h_no 12 hc4 ?_
    refine h_no 13 hc4 ?_
    refine h_no 14 hc4 ?_
    refine h_no 15 hc4 ?_
    refine h_no 16 hc4 ?_
    refine h_no 17 hc4 ?_
    refine h_no 18 hc4 ?_
    refine h_p 19 hc4 ?_
    refine h_p 20 hc4 ?_
    refine h_nil ?_
    replace hv := hv.below hc4
    replace hv2 := hv2.below hc4
    replace hv3 := hv3.below hc4
    replace hbx := cell_below hbx hc4
    replace hbx2 := cell_below hbx2 hc4
    replace hb := hb.trans (hc4.mono hb.size)
    refine go ?_
    exact end_one Try.results113 rfl ⟨by rw [isCov_2 (of_decide_eq_false hf)], hb⟩
  have hf' := of_decide_eq_true hf
  have e := isCov_4 (ms := ms) (ks := ks) (xs := xs) (by omega) hf' h2
  refine region_h mixed (fun w5 hc5 => ?_)
  refine h_p 0 hc5 ?_
  refine h_one 1 ?_
  refine s_call1 (wn rfl) rfl rfl (size_any _ _ _ shv3) ?_
  rintro _ _ ⟨rfl, rfl⟩
  refine w_nil ?_
  refine h_on ⟨hc5, ?_⟩
  refine h_one 2 ?_
  refine s_call1 (wn rfl) rfl rfl (flags_any _ _ _ _ (cell_below hbx hc5) (hv.below hc5) h1) ?_
  rintro _ _ ⟨rfl, rfl⟩
  refine w_nil ?_
  refine h_on ⟨hc5, ?_⟩
  refine h_p 3 hc5 ?_
  refine h_p 4 hc5 ?_
  refine h_p 5 hc5 ?_
  refine h_p 6 hc5 ?_
  refine h_p 7 hc5 ?_
  refine h_one 8 ?_
  refine s_call2 (wy rfl rfl rfl rfl rfl known) rfl rfl rfl (hasFlag_any _ _ _ (gi xs 0) _ (hv2.below hc5) (cell_below hbx2 hc5) k1 k4) ?_
  rintro _ _ ⟨rfl, rfl⟩
  refine w_nil ?_
  refine h_on ⟨hc5, ?_⟩
  refine h_p 9 hc5 ?_
  refine h_p 10 hc5 ?_
  refine h_p 11 hc5 ?_
  refine h_p 12 hc5 ?_
  refine h_p 13 hc5 ?_
  refine h_p 14 hc5 ?_
  refine h_p 15 hc5 ?_
  refine h_p 17 hc5 ?_
  refine h_one 16 ?_
  refine s_call3 (wy rfl rfl rfl rfl rfl known) rfl rfl rfl rfl (coveringTo_any _ _ _ _ (gi xs 0) _ (hv.below hc5) (hv2.below hc5) hm hk hf') ?_
  rintro x w6 ⟨hx, hb6⟩
  have hc6 := hc5.trans (hb6.mono hc5.size)
  refine w_nil ?_
  refine h_on ⟨hc6, ?_⟩
  have hx := hx.oi
  refine h_one 18 ?_
  refine s_call2 (wy rfl rfl rfl rfl rfl known) rfl rfl rfl (Equal_any _ _ _ _ _ hx.il (hv3.below hc6)) ?_
  rintro _ w7 ⟨rfl, hb7⟩
  have hc7 := hc6.trans (hb7.mono hc6.size)
  replace hx := hx.below hb7
  refine w_nil ?_
  refine h_on ⟨hc7, ?_⟩
  refine h_p 19 hc7 ?_
  refine h_p 20 hc7 ?_
  refine h_nil ?_
  replace hv := hv.below hc7
  replace hv2 := hv2.below hc7
  replace hv3 := hv3.below hc7
  replace hbx := cell_below hbx hc7
  replace hbx2 := cell_below hbx2 hc7
  replace hb := hb.trans (hc7.mono hb.size)
  refine go ?_
  exact end_one Try.results113 rfl ⟨by rw [e], hb⟩

end Go.Proofs.Ytmfegkjjfmmoaaa
