/- Texts laid together: F20 F21. -/
import Derived.Test.YtablpijnjkncfaaGreatFD
import Derived.Test.YtablpijnjkncfaaGreatPB
import Derived.Test.YtablpijnjkncfaaGreatWB
/- Contracts: lists compared; IsCovering, on both sides. -/
namespace Go.Proofs.YtablpijnjkncfaaGreat
open Go.Mem Go.RowKit
set_option linter.unusedVariables false


theorem l01Same_any (v v2 : Value) (xs ys : List Int) (w : World) (hv : IL w v xs) (hv2 : IL w v2 ys) :
    Ret Tryz.prog 118 #[v, v2] w fun r w' => r = .bool (decide (xs = ys)) ∧ Below w.heap.size w w' := by
  have sv := hv.sv
  have sv2 := hv2.sv
  have hm := sv.le
  refine enter2 26 Tryz.func118 rfl Tryz.ntmps118 rfl (fun fr => ?_)
  refine go ?_
  refine cond_dec rfl (fun h => ?_) (fun hl => ?_)
  · refine go ?_
    exact end_one Tryz.results118 rfl ⟨by rw [decide_eq_false (fun e => h (by rw [e]))], Below.refl _ _⟩
  refine go ?_
  refine w_loop (fun k fr w' => ∃ (i : Nat), k = xs.length - i ∧ i ≤ xs.length ∧ fr 0 = v ∧ fr 1 = v2 ∧ fr 5 = .int .i64 i ∧ (∀ j : Int, 0 ≤ j → j < i → gi xs j = gi ys j) ∧ Below w.heap.size w w') xs.length
    ⟨0, rfl, Nat.zero_le _, rfl, rfl, rfl, fun j h0 h1 => by omega, Below.refl _ _⟩ ?_
  rintro k fr w2 ⟨i, rfl, hi, f0, f1, fs, hys, hb⟩
  have hv := hv.below hb
  have hv2 := hv2.below hb
  refine know (t := 0) f0 ?_; refine know (t := 1) f1 ?_; refine know (t := 5) fs ?_
  refine go ?_
  refine cond_dec rfl (fun hlt => ?_) (fun hge => ?_)
  · refine go ?_
    refine region_q mixed (by kernel_rfl) ?_
    refine qo ?_
    refine q_nil ?_
    intro w3 hb3
    have hb := hb.trans (hb3.mono hb.size)
    refine go ?_
    refine cond_dec rfl (fun hne => ?_) (fun hne => ?_)
    · refine go ?_
      exact end_one Tryz.results118 rfl ⟨by rw [decide_eq_false (fun e => hne (by rw [e]))], hb⟩
    · refine go ?_
      refine ⟨xs.length - (i + 1), by omega, i + 1, rfl, by omega, rfl, rfl, rfl, fun j h0 hj => ?_, hb⟩
      by_cases hji : j = i
      · subst hji; exact Decidable.not_not.1 hne
      · exact hys j h0 (by omega)
  · obtain rfl : i = xs.length := by omega
    refine go ?_
    have : xs = ys := list_ext_gi (by omega) fun j h0 hj => hys j h0 (by omega)
    exact end_one Tryz.results118 rfl ⟨by rw [decide_eq_true this], hb⟩

theorem Equal_any (v v2 : Value) (xs ys : List Int) (w : World) (hv : IL w v xs) (hv2 : IL w v2 ys) :
    Ret Tryz.prog 88 #[v, v2] w fun r w' => r = .bool (decide (xs = ys)) ∧ Below w.heap.size w w' := by
  have sv := hv.sv
  have sv2 := hv2.sv
  have hm := sv.le
  refine enter2 26 Tryz.func88 rfl Tryz.ntmps88 rfl (fun fr => ?_)
  refine go ?_
  refine cond_dec rfl (fun h => ?_) (fun hl => ?_)
  · refine go ?_
    exact end_one Tryz.results88 rfl ⟨by rw [decide_eq_false (fun e => h (by rw [e]))], Below.refl _ _⟩
  refine go ?_
  refine w_loop (fun k fr w' => ∃ (i : Nat), k = xs.length - i ∧ i ≤ xs.length ∧ fr 0 = v ∧ fr 1 = v2 ∧ fr 12 = .int .i64 xs.length ∧ fr 13 = .int .i64 i ∧ (∀ j : Int, 0 ≤ j → j < i → gi xs j = gi ys j) ∧ Below w.heap.size w w') xs.length
    ⟨0, rfl, Nat.zero_le _, rfl, rfl, rfl, rfl, fun j h0 h1 => by omega, Below.refl _ _⟩ ?_
  rintro k fr w2 ⟨i, rfl, hi, f0, f1, f12, fs, hys, hb⟩
  have hv := hv.below hb
  have hv2 := hv2.below hb
  refine know (t := 0) f0 ?_; refine know (t := 1) f1 ?_; refine know (t := 12) f12 ?_; refine know (t := 13) fs ?_
  refine go ?_
  refine cond_dec rfl (fun hlt => ?_) (fun hge => ?_)
  · refine go ?_
    refine region_q mixed (by kernel_rfl) ?_
    refine qo ?_
    refine q_nil ?_
    intro w3 hb3
    have hb := hb.trans (hb3.mono hb.size)
    refine go ?_
    refine cond_dec rfl (fun hne => ?_) (fun hne => ?_)
    · refine go ?_
      exact end_one Tryz.results88 rfl ⟨by rw [decide_eq_false (fun e => hne (by rw [e]))], hb⟩
    · refine go ?_
      refine ⟨xs.length - (i + 1), by omega, i + 1, rfl, by omega, rfl, rfl, rfl, rfl, fun j h0 hj => ?_, hb⟩
      by_cases hji : j = i
      · subst hji; exact Decidable.not_not.1 hne
      · exact hys j h0 (by omega)
  · obtain rfl : i = xs.length := by omega
    refine go ?_
    have : xs = ys := list_ext_gi (by omega) fun j h0 hj => hys j h0 (by omega)
    exact end_one Tryz.results88 rfl ⟨by rw [decide_eq_true this], hb⟩

set_option maxRecDepth 100000 in
theorem l07Covering_any (v : Value) (v2 : Value) (v3 : Value) (ms : List (List Int)) (ks : List (List Int)) (xs : List Int) (w : World) (hv : RL w v ms) (hv2 : RL w v2 ks) (hv3 : IL w v3 xs) (hm : IsMan ms) (hk : IsMan ks) :
    Ret Tryz.prog 82 #[.agg #[v], .agg #[v2], v3] w fun r w' => r = .bool (decide (IsCov ms ks xs)) ∧ Below w.heap.size w w' := by
  have shv := hv.sv
  have shv2 := hv2.sv
  have shv3 := hv3.sv
  have hb := Below.refl w.heap.size w
  refine enter3 37 Tryz.func82 rfl Tryz.ntmps82 rfl (fun fr => ?_)
  have h1 := hm.m0.r1
  have h2 := hm.m0.f2
  have h4 := hm.m0.f400
  have k1 := hk.m0.r1
  have k4 := hk.m0.f400
  have scap := shv3.le
  refine go ?_
  refine s_box (wn rfl) rfl rfl (agg_cells shv) (fun w1 hbx _ hp hg => ?_)
  have hb1 := below_of_grownBy hg
  replace hv := hv.below hb1
  replace hv2 := hv2.below hb1
  replace hv3 := hv3.below hb1
  replace hb := hb.trans (hb1.mono hb.size)
  clear hg hp hb1
  generalize (⟨w.heap.size, 0, none⟩ : Addr) = p at *
  refine go ?_
  refine s_box (wn rfl) rfl rfl (agg_cells shv2) (fun w2 hbx2 _ hp hg => ?_)
  have hb2 := below_of_grownBy hg
  replace hv := hv.below hb2
  replace hv2 := hv2.below hb2
  replace hv3 := hv3.below hb2
  replace hbx := cell_below hbx hb2
  replace hb := hb.trans (hb2.mono hb.size)
  clear hg hp hb2
  generalize (⟨w1.heap.size, 0, none⟩ : Addr) = p2 at *
  refine go ?_
  by_cases hl : (xs.length : Int) = nf ms
  rotate_left
  · have hl' : (xs.length : Int) ≠ nf ms := hl
    refine region_q mixed (by kernel_rfl) ?_
    refine qo ?_
    refine q_call1 (wn rfl) rfl rfl (fun w hb => l02Flags_any _ _ _ (hv.below hb) h1) ?_
    refine qo ?_
    refine q_nil ?_
    intro w3 hbq
    replace hv := hv.below hbq
    replace hv2 := hv2.below hbq
    replace hv3 := hv3.below hbq
    replace hbx := cell_below hbx hbq
    replace hbx2 := cell_below hbx2 hbq
    replace hb := hb.trans (hbq.mono hb.size)
    refine go ?_
    exact end_one Tryz.results82 rfl ⟨by rw [isCov_1 (by omega)], hb⟩
  have hl' : ¬ ((xs.length : Int) ≠ nf ms) := fun h => h hl
  refine region_q mixed (by kernel_rfl) ?_
  refine qo ?_
  refine q_call1 (wn rfl) rfl rfl (fun w hb => l02Flags_any _ _ _ (hv.below hb) h1) ?_
  refine qo ?_
  refine q_call2 (wy rfl rfl rfl rfl rfl known) rfl rfl rfl (fun w hb => l02Flag_any _ _ (gi xs 0) _ (hv2.below hb) k1 k4) ?_
  refine qo ?_
  refine q_nil ?_
  intro w4 hbq
  replace hv := hv.below hbq
  replace hv2 := hv2.below hbq
  replace hv3 := hv3.below hbq
  replace hbx := cell_below hbx hbq
  replace hbx2 := cell_below hbx2 hbq
  replace hb := hb.trans (hbq.mono hb.size)
  refine splitb (decide (0 ≤ gi xs 0 ∧ gi xs 0 < nf ks)) (fun hf => ?_) (fun hf => ?_)
  rotate_left
  · refine go ?_
    exact end_one Tryz.results82 rfl ⟨by rw [isCov_2 (of_decide_eq_false hf)], hb⟩
  have hf' := of_decide_eq_true hf
  refine go ?_
  refine region_h mixed (fun w5 hc5 => ?_)
  refine h_p 0 hc5 ?_
  refine h_p 1 hc5 ?_
  refine h_p 2 hc5 ?_
  refine h_p 3 hc5 ?_
  refine h_p 4 hc5 ?_
  refine h_one 5 ?_
  refine s_call3 (wn rfl) rfl rfl rfl rfl (l07Cover_any _ _ _ _ (gi xs 0) _ (hv.below hc5) (hv2.below hc5) hm hk hf') ?_
  rintro _ w6 ⟨x, rfl, hx, hb6⟩
  have hc6 := hc5.trans (hb6.mono hc5.size)
  refine w_nil ?_
  refine h_on ⟨hc6, ?_⟩
  have hx := hx.oi
  refine h_p 6 hc6 ?_
  refine h_p 7 hc6 ?_
  refine h_p 8 hc6 ?_
  refine h_p 9 hc6 ?_
  refine h_p 10 hc6 ?_
  refine h_nil ?_
  replace hv := hv.below hc6
  replace hv2 := hv2.below hc6
  replace hv3 := hv3.below hc6
  replace hbx := cell_below hbx hc6
  replace hbx2 := cell_below hbx2 hc6
  replace hb := hb.trans (hc6.mono hb.size)
  have e := isCov_3 (ms := ms) (ks := ks) (xs := xs) (by omega) hf'
  refine splitb ((mapT ms ks (gi xs 0)).isSome) (fun ho => ?_) (fun ho => ?_)
  rotate_left
  · have ho' : (mapT ms ks (gi xs 0)).isSome = !true := ho
    refine go ?_
    exact end_one Tryz.results82 rfl ⟨by rw [e, ho]; rfl, hb⟩
  refine go ?_
  refine s_call2 (wy rfl rfl rfl rfl rfl known) rfl rfl rfl (l01Same_any _ _ _ _ _ hx.il hv3) ?_
  rintro _ w7 ⟨rfl, hb7⟩
  replace hv := hv.below hb7
  replace hv2 := hv2.below hb7
  replace hv3 := hv3.below hb7
  replace hbx := cell_below hbx hb7
  replace hbx2 := cell_below hbx2 hb7
  replace hx := hx.below hb7
  replace hb := hb.trans (hb7.mono hb.size)
  refine go ?_
  exact end_one Tryz.results82 rfl ⟨by rw [e, ho, Bool.true_and], hb⟩

set_option maxHeartbeats 4000000 in
set_option maxRecDepth 100000 in
theorem isCovering_any (v : Value) (v2 : Value) (v3 : Value) (ms : List (List Int)) (ks : List (List Int)) (xs : List Int) (w : World) (hv : RL w v ms) (hv2 : RL w v2 ks) (hv3 : IL w v3 xs) (hm : IsMan ms) (hk : IsMan ks) :
    Ret Tryz.prog 48 #[.agg #[v], .agg #[v2], v3] w fun r w' => r = .bool (decide (IsCov ms ks xs)) ∧ Below w.heap.size w w' := by
  have shv := hv.sv
  have shv2 := hv2.sv
  have shv3 := hv3.sv
  have hb := Below.refl w.heap.size w
  refine enter3 27 Tryz.func48 rfl Tryz.ntmps48 rfl (fun fr => ?_)
  have h1 := hm.m0.r1
  have h2 := hm.m0.f2
  have h4 := hm.m0.f400
  have k1 := hk.m0.r1
  have k4 := hk.m0.f400
  have scap := shv3.le
  refine go ?_
  refine s_box (wn rfl) rfl rfl (agg_cells shv) (fun w1 hbx _ hp hg => ?_)
  have hb1 := below_of_grownBy hg
  replace hv := hv.below hb1
  replace hv2 := hv2.below hb1
  replace hv3 := hv3.below hb1
  replace hb := hb.trans (hb1.mono hb.size)
  clear hg hp hb1
  generalize (⟨w.heap.size, 0, none⟩ : Addr) = p at *
  refine go ?_
  refine s_box (wn rfl) rfl rfl (agg_cells shv2) (fun w2 hbx2 _ hp hg => ?_)
  have hb2 := below_of_grownBy hg
  replace hv := hv.below hb2
  replace hv2 := hv2.below hb2
  replace hv3 := hv3.below hb2
  replace hbx := cell_below hbx hb2
  replace hb := hb.trans (hb2.mono hb.size)
  clear hg hp hb2
  generalize (⟨w1.heap.size, 0, none⟩ : Addr) = p2 at *
  refine go ?_
  by_cases hl : (xs.length : Int) = nf ms
  rotate_left
  · refine region_h mixed (fun w3 hc3 => ?_)
    refine h_p 0 hc3 ?_
    refine h_one 1 ?_
    refine s_call1 (wn rfl) rfl rfl (size_any _ _ _ shv3) ?_
    rintro _ _ ⟨rfl, rfl⟩
    refine w_nil ?_
    refine h_on ⟨hc3, ?_⟩
    refine h_one 2 ?_
    refine s_call1 (wn rfl) rfl rfl (flags_any _ _ _ _ (cell_below hbx hc3) (hv.below hc3) h1) ?_
    rintro _ _ ⟨rfl, rfl⟩
    refine w_nil ?_
    refine h_on ⟨hc3, ?_⟩
    refine h_p 3 hc3 ?_
    refine h_p 4 hc3 ?_
    refine h_no 5 hc3 ?_
    refine h_no 6 hc3 ?_
    refine h_no 7 hc3 ?_
    refine h_no 8 hc3 ?_
    refine h_p 9 hc3 ?_
    refine h_p 10 hc3 ?_
    refine h_no 11 hc3 ?_
    refine h_no 12 hc3 ?_
    refine h_no 13 hc3 ?_
    refine h_no 14 hc3 ?_
    refine h_no 15 hc3 ?_
    refine h_no 16 hc3 ?_
    refine h_no 17 hc3 ?_
    refine h_no 18 hc3 ?_
    refine h_p 19 hc3 ?_
    refine h_p 20 hc3 ?_
    refine h_nil ?_
    replace hv := hv.below hc3
    replace hv2 := hv2.below hc3
    replace hv3 := hv3.below hc3
    replace hbx := cell_below hbx hc3
    replace hbx2 := cell_below hbx2 hc3
    replace hb := hb.trans (hc3.mono hb.size)
    refine go ?_
    exact end_one Tryz.results48 rfl ⟨by rw [isCov_1 (by omega)], hb⟩
  refine splitb (decide (0 ≤ gi xs 0 ∧ gi xs 0 < nf ks)) (fun hf => ?_) (fun hf => ?_)
  rotate_left
  · have hf'' := of_decide_eq_false hf
    refine region_h mixed (fun w4 hc4 => ?_)
    refine h_p 0 hc4 ?_
    refine h_one 1 ?_
    refine s_call1 (wn rfl) rfl rfl (size_any _ _ _ shv3) ?_
    rintro _ _ ⟨rfl, rfl⟩
    refine w_nil ?_
    refine h_on ⟨hc4, ?_⟩
    refine h_one 2 ?_
    refine s_call1 (wn rfl) rfl rfl (flags_any _ _ _ _ (cell_below hbx hc4) (hv.below hc4) h1) ?_
    rintro _ _ ⟨rfl, rfl⟩
    refine w_nil ?_
    refine h_on ⟨hc4, ?_⟩
    refine h_p 3 hc4 ?_
    refine h_p 4 hc4 ?_
    refine h_p 5 hc4 ?_
    refine h_p 6 hc4 ?_
    refine h_p 7 hc4 ?_
    refine h_one 8 ?_
    refine s_call2 (wy rfl rfl rfl rfl rfl known) rfl rfl rfl (hasFlag_any _ _ _ (gi xs 0) _ (hv2.below hc4) (cell_below hbx2 hc4) k1 k4) ?_
    rintro _ _ ⟨rfl, rfl⟩
    refine w_nil ?_
    refine h_on ⟨hc4, ?_⟩
    refine h_p 9 hc4 ?_
    refine h_p 10 hc4 ?_
    refine h_no 11 hc4 ?_
    refine h_no 12 hc4 ?_
    refine h_no 13 hc4 ?_
    refine h_no 14 hc4 ?_
    refine h_no 15 hc4 ?_
    refine h_no 16 hc4 ?_
    refine h_no 17 hc4 ?_
    refine h_no 18 hc4 ?_
    refine h_p 19 hc4 ?_
    refine h_p 20 hc4 ?_
    refine h_nil ?_
    replace hv := hv.below hc4
    replace hv2 := hv2.below hc4
    replace hv3 := hv3.below hc4
    replace hbx := cell_below hbx hc4
    replace hbx2 := cell_below hbx2 hc4
    replace hb := hb.trans (hc4.mono hb.size)
    refine go ?_
    exact end_one Tryz.results48 rfl ⟨by rw [isCov_2 (of_decide_eq_false hf)], hb⟩
  have hf' := of_decide_eq_true hf
  have e := isCov_4 (ms := ms) (ks := ks) (xs := xs) (by omega) hf' h2
  refine region_h mixed (fun w5 hc5 => ?_)
  refine h_p 0 hc5 ?_
  refine h_one 1 ?_
  refine s_call1 (wn rfl) rfl rfl (size_any _ _ _ shv3) ?_
  rintro _ _ ⟨rfl, rfl⟩
  refine w_nil ?_
  refine h_on ⟨hc5, ?_⟩
  refine h_one 2 ?_
  refine s_call1 (wn rfl) rfl rfl (flags_any _ _ _ _ (cell_below hbx hc5) (hv.below hc5) h1) ?_
  rintro _ _ ⟨rfl, rfl⟩
  refine w_nil ?_
  refine h_on ⟨hc5, ?_⟩
  refine h_p 3 hc5 ?_
  refine h_p 4 hc5 ?_
  refine h_p 5 hc5 ?_
  refine h_p 6 hc5 ?_
  refine h_p 7 hc5 ?_
  refine h_one 8 ?_
  refine s_call2 (wy rfl rfl rfl rfl rfl known) rfl rfl rfl (hasFlag_any _ _ _ (gi xs 0) _ (hv2.below hc5) (cell_below hbx2 hc5) k1 k4) ?_
  rintro _ _ ⟨rfl, rfl⟩
  refine w_nil ?_
  refine h_on ⟨hc5, ?_⟩
  refine h_p 9 hc5 ?_
  refine h_p 10 hc5 ?_
  refine h_p 11 hc5 ?_
  refine h_p 12 hc5 ?_
  refine h_p 13 hc5 ?_
  refine h_p 14 hc5 ?_
  refine h_p 15 hc5 ?_
  refine h_p 17 hc5 ?_
  refine h_one 16 ?_
  refine s_call3 (wy rfl rfl rfl rfl rfl known) rfl rfl rfl rfl (coveringTo_any _ _ _ _ (gi xs 0) _ (hv.below hc5) (hv2.below hc5) hm hk hf') ?_
  rintro x w6 ⟨hx, hb6⟩
  have hc6 := hc5.trans (hb6.mono hc5.size)
  refine w_nil ?_
  refine h_on ⟨hc6, ?_⟩
  have hx := hx.oi
  refine h_one 18 ?_
  refine s_call2 (wy rfl rfl rfl rfl rfl known) rfl rfl rfl (Equal_any _ _ _ _ _ hx.il (hv3.below hc6)) ?_
  rintro _ w7 ⟨rfl, hb7⟩
  have hc7 := hc6.trans (hb7.mono hc6.size)
  replace hx := hx.below hb7
  refine w_nil ?_
  refine h_on ⟨hc7, ?_⟩
  refine h_p 19 hc7 ?_
  refine h_p 20 hc7 ?_
  refine h_nil ?_
  replace hv := hv.below hc7
  replace hv2 := hv2.below hc7
  replace hv3 := hv3.below hc7
  replace hbx := cell_below hbx hc7
  replace hbx2 := cell_below hbx2 hc7
  replace hb := hb.trans (hc7.mono hb.size)
  refine go ?_
  exact end_one Tryz.results48 rfl ⟨by rw [e], hb⟩

set_option maxRecDepth 100000 in
theorem implIsCovering_any (v : Value) (v2 : Value) (v3 : Value) (ms : List (List Int)) (ks : List (List Int)) (xs : List Int) (w : World) (hv : RL w v ms) (hv2 : RL w v2 ks) (hv3 : IL w v3 xs) :
    Ret Tryz.prog 12 #[.agg #[v], .agg #[v2], v3] w fun r w' => r = .tuple #[.bool (isCovB ms ks xs), .int .i64 (manC2 ms ks)] ∧ Below w.heap.size w w' := by
  have shv := hv.sv
  have shv2 := hv2.sv
  have shv3 := hv3.sv
  have hb := Below.refl w.heap.size w
  refine enter3 20 Tryz.func12 rfl Tryz.ntmps12 rfl (fun fr => ?_)
  refine go ?_
  refine s_box (wn rfl) rfl rfl (agg_cells shv) (fun w1 hbx _ hp hg => ?_)
  have hb1 := below_of_grownBy hg
  replace hv := hv.below hb1
  replace hv2 := hv2.below hb1
  replace hv3 := hv3.below hb1
  replace hb := hb.trans (hb1.mono hb.size)
  clear hg hp hb1
  generalize (⟨w.heap.size, 0, none⟩ : Addr) = p at *
  refine go ?_
  refine s_box (wn rfl) rfl rfl (agg_cells shv2) (fun w2 hbx2 _ hp hg => ?_)
  have hb2 := below_of_grownBy hg
  replace hv := hv.below hb2
  replace hv2 := hv2.below hb2
  replace hv3 := hv3.below hb2
  replace hbx := cell_below hbx hb2
  replace hb := hb.trans (hb2.mono hb.size)
  clear hg hp hb2
  generalize (⟨w1.heap.size, 0, none⟩ : Addr) = p2 at *
  refine go ?_
  refine s_call1 (wn rfl) rfl rfl (isManiplex_any _ _ _ hv) ?_
  rintro _ w3 ⟨rfl, hb3⟩
  replace hv := hv.below hb3
  replace hv2 := hv2.below hb3
  replace hv3 := hv3.below hb3
  replace hbx := cell_below hbx hb3
  replace hbx2 := cell_below hbx2 hb3
  replace hb := hb.trans (hb3.mono hb.size)
  refine splitb (decide (IsMan ms)) (fun hm => ?_) (fun hm => ?_)
  rotate_left
  · have hm := of_decide_eq_false hm
    have e := isCovB_1 (ms := ms) (ks := ks) (xs := xs) (fun h => hm h.1)
    refine go ?_
    exact end_two Tryz.results12 rfl rfl ⟨by rw [e.1, e.2], hb⟩
  have hm' := of_decide_eq_true hm
  refine go ?_
  refine s_call1 (wy rfl rfl rfl rfl rfl known) rfl rfl (isManiplex_any _ _ _ hv2) ?_
  rintro _ w4 ⟨rfl, hb4⟩
  replace hv := hv.below hb4
  replace hv2 := hv2.below hb4
  replace hv3 := hv3.below hb4
  replace hbx := cell_below hbx hb4
  replace hbx2 := cell_below hbx2 hb4
  replace hb := hb.trans (hb4.mono hb.size)
  refine splitb (decide (IsMan ks)) (fun hk => ?_) (fun hk => ?_)
  rotate_left
  · have hk := of_decide_eq_false hk
    have e := isCovB_1 (ms := ms) (ks := ks) (xs := xs) (fun h => hk h.2)
    refine go ?_
    exact end_two Tryz.results12 rfl rfl ⟨by rw [e.1, e.2], hb⟩
  have hk' := of_decide_eq_true hk
  refine go ?_
  refine s_call3 (wn rfl) rfl rfl rfl rfl (isCovering_any _ _ _ _ _ _ _ hv hv2 hv3 hm' hk') ?_
  rintro _ w5 ⟨rfl, hb5⟩
  replace hv := hv.below hb5
  replace hv2 := hv2.below hb5
  replace hv3 := hv3.below hb5
  replace hbx := cell_below hbx hb5
  replace hbx2 := cell_below hbx2 hb5
  replace hb := hb.trans (hb5.mono hb.size)
  have e := isCovB_2 (xs := xs) hm' hk'
  refine go ?_
  exact end_two Tryz.results12 rfl rfl ⟨by rw [e.1, e.2], hb⟩

end Go.Proofs.YtablpijnjkncfaaGreat

/- Contracts: words, and what they do; DoesNothing, on both sides. -/
namespace Go.Proofs.YtablpijnjkncfaaGreat
open Go.Mem Go.RowKit
set_option linter.unusedVariables false
set_option maxRecDepth 100000 in
theorem l02Run_any (v : Value) (v2 : Value) (ms : List (List Int)) (fl : Int) (wd : List Int) (w : World) (hv : RL w v ms) (hv2 : IL w v2 wd) (hm : IsMan ms) (hw : IsWord ms wd) (hf : 0 ≤ fl ∧ fl < nf ms) :
    Ret Tryz.prog 158 #[.agg #[v], .int .i64 fl, v2] w fun r w' => r = .int .i64 (run ms wd fl) ∧ Below w.heap.size w w' := by
  have shv := hv.sv
  have shv2 := hv2.sv
  have hb := Below.refl w.heap.size w
  refine enter3 26 Tryz.func158 rfl Tryz.ntmps158 rfl (fun fr => ?_)
  have h1 := hm.m0.r1
  have h4 := hm.m0.f400
  have hw1 := hw.1
  have hw2 := hw.2
  refine go ?_
  refine s_box (wn rfl) rfl rfl (agg_cells shv) (fun w1 hbx _ hp hg => ?_)
  have hb1 := below_of_grownBy hg
  replace hv := hv.below hb1
  replace hv2 := hv2.below hb1
  replace hb := hb.trans (hb1.mono hb.size)
  clear hg hp hb1
  generalize (⟨w.heap.size, 0, none⟩ : Addr) = p at *
  refine go ?_
  refine w_loop (fun k fr w' => ∃ (i : Nat), k = wd.length - i ∧ i ≤ wd.length ∧ fr 1 = .int .i64 (run ms (wd.take i) fl) ∧ fr 2 = v2 ∧ fr 3 = .pointer (some p) ∧ fr 7 = .int .i64 i ∧ Below w1.heap.size w1 w') (wd.length)
    ⟨0, rfl, Nat.zero_le _, rfl, rfl, rfl, rfl, Below.refl _ _⟩ ?_
  rintro k fr w2 ⟨i, rfl, hi, f1, f2, f3, f7, hbL1⟩
  have hv := hv.below hbL1
  have hv2 := hv2.below hbL1
  have hbx := cell_below hbx hbL1
  refine know (t := 1) f1 ?_; refine know (t := 2) f2 ?_; refine know (t := 3) f3 ?_; refine know (t := 7) f7 ?_
  refine go ?_
  refine cond_dec rfl (fun hlt => ?_) (fun hge => ?_)
  · have hx := hw2 _ (gi_in (xs := wd) (j := i) (by omega))
    have hr := run_rng hm.syst (wd.take i) (fun x h => hw2 x (List.mem_of_mem_take h)) fl hf
    have hrow := hm.syst.row hx.1 hx.2
    have hrl := hrow.1
    obtain ⟨u, hu, hcu⟩ := hv.row hx.1 hx.2
    have su := hu.sv
    refine go ?_
    refine region_q mixed (by kernel_rfl) ?_; refine qo ?_; refine q_nil ?_
    intro w3 hbq
    replace hv := hv.below hbq
    replace hv2 := hv2.below hbq
    replace hbx := cell_below hbx hbq
    replace hbL1 := hbL1.trans (hbq.mono hbL1.size)
    refine go ?_
    refine ⟨wd.length - (i + 1), by omega, i + 1, rfl, by omega, by rw [run_take_succ (by omega)]; rfl, rfl, rfl, rfl, hbL1⟩
  obtain rfl : i = wd.length := by omega
  rw [List.take_length]
  refine go ?_
  exact end_one Tryz.results158 rfl ⟨rfl, (hb.trans (hbL1.mono hb.size))⟩

set_option maxRecDepth 100000 in
theorem then_any (v : Value) (v2 : Value) (ps : List Int) (qs : List Int) (w : World) (hv : IL w v ps) (hv2 : IL w v2 qs) (hp : ∀ x ∈ ps, 0 ≤ x ∧ x < qs.length) (hl : ps.length ≤ 1000000) :
    Ret Tryz.prog 92 #[v, v2] w fun r w' => OI w' w.heap.size 2 r (aft ps qs) ∧ Below w.heap.size w w' := by
  have shv := hv.sv
  have shv2 := hv2.sv
  have hb := Below.refl w.heap.size w
  refine enter2 27 Tryz.func92 rfl Tryz.ntmps92 rfl (fun fr => ?_)
  refine go ?_
  refine s_makeI (B := w.heap.size) (wn rfl) rfl rfl rfl (by omega) (by omega) (Nat.le_refl _) (fun ob w1 ho so hg _ => ?_)
  have hb1 := below_of_grownBy hg
  have e : ((ps.length : Int)).toNat = ps.length := by omega
  rw [e] at ho so
  refine go ?_
  refine w_loop (fun k fr w' => ∃ (i : Nat) (xs : List Int), k = ps.length - i ∧ i ≤ ps.length ∧ fr 1 = v2 ∧ fr 5 = ob ∧ fr 11 = v ∧ fr 12 = .int .i64 ps.length ∧ fr 13 = .int .i64 i ∧ xs.length = ps.length ∧ (∀ j : Int, 0 ≤ j → j < i → gi xs j = gi qs (gi ps j)) ∧ OI w' w.heap.size 2 ob xs ∧ Below w.heap.size w w') ps.length
    ⟨0, _, rfl, Nat.zero_le _, rfl, rfl, rfl, rfl, rfl, by simp, fun j h0 h1 => by omega, ho, hb1⟩ ?_
  rintro k fr w2 ⟨i, xs, rfl, hi, f1, f5, f11, f12, f13, hlx, hall, ho, hb⟩
  have so := ho.sv
  have hv := hv.below hb
  have hv2 := hv2.below hb
  refine know (t := 1) f1 ?_; refine know (t := 5) f5 ?_; refine know (t := 11) f11 ?_; refine know (t := 12) f12 ?_; refine know (t := 13) f13 ?_
  refine go ?_
  refine cond_dec rfl (fun hlt => ?_) (fun hge => ?_)
  · have hx := hp _ (gi_in (xs := ps) (j := i) (by omega))
    refine go ?_
    refine s_storeI (wn rfl) rfl rfl ho (by omega) (by omega) (fun w3 ho3 hg3 => ?_)
    have hb3 := hb.trans (ho.below_of hg3 hb.size)
    refine go ?_
    refine ⟨ps.length - (i + 1), by omega, i + 1, _, rfl, by omega, rfl, rfl, rfl, rfl, rfl, by simp [hlx], fun j h0 hj => ?_, ho3, hb3⟩
    rw [gi_seti _ _ _ _ (by omega) (by omega) h0]
    split
    · rename_i e; rw [e]
    · exact hall j h0 (by omega)
  · obtain rfl : i = ps.length := by omega
    have : xs = aft ps qs := list_ext_gi (by simp [hlx]) fun j h0 hj => by rw [hall j h0 (by omega), gi_aft h0 (by omega)]
    rw [this] at ho
    refine go ?_
    exact end_one Tryz.results92 rfl ⟨ho, hb⟩

end Go.Proofs.YtablpijnjkncfaaGreat
