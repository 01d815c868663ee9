/- Texts laid together: F20 F21. -/
import Derived.Test.YtmdimdbfgibflaaFD
import Derived.Test.YtmdimdbfgibflaaPB
import Derived.Test.YtmdimdbfgibflaaWB
/- Contracts: lists compared; IsCovering, on both sides. -/
namespace Go.Proofs.Ytmdimdbfgibflaa
open Go.Mem Go.RowKit
set_option linter.unusedVariables false
theorem Equal_any (v v2 : Value) (xs ys : List Int) (w : World) (hv : IL w v xs) (hv2 : IL w v2 ys) :
    Ret Try.prog 141 #[v, v2] w fun r w' => r = .bool (decide (xs = ys)) ∧ Below w.heap.size w w' := by
  have sv := hv.sv
  have sv2 := hv2.sv
  have hm := sv.le
  refine enter2 26 Try.func141 rfl Try.ntmps141 rfl (fun fr => ?_)
  refine go ?_
  refine cond_dec rfl (fun h => ?_) (fun hl => ?_)
  · refine go ?_
    exact end_one Try.results141 rfl ⟨by rw [decide_eq_false (fun e => h (by rw [e]))], Below.refl _ _⟩
  refine go ?_
  refine w_loop (fun k fr w' => ∃ (i : Nat), k = xs.length - i ∧ i ≤ xs.length ∧ fr 0 = v ∧ fr 1 = v2 ∧ fr 12 = .int .i64 xs.length ∧ fr 13 = .int .i64 i ∧ (∀ j : Int, 0 ≤ j → j < i → gi xs j = gi ys j) ∧ Below w.heap.size w w') xs.length
    ⟨0, rfl, Nat.zero_le _, rfl, rfl, rfl, rfl, fun j h0 h1 => by omega, Below.refl _ _⟩ ?_
  rintro k fr w2 ⟨i, rfl, hi, f0, f1, f12, fs, hys, hb⟩
  have hv := hv.below hb
  have hv2 := hv2.below hb
  refine know (t := 0) f0 ?_; refine know (t := 1) f1 ?_; refine know (t := 12) f12 ?_; refine know (t := 13) fs ?_
  refine go ?_
  refine cond_dec rfl (fun hlt => ?_) (fun hge => ?_)
  · refine go ?_
    refine region_q mixed (by kernel_rfl) ?_
    refine qo ?_
    refine q_nil ?_
    intro w3 hb3
    have hb := hb.trans (hb3.mono hb.size)
    refine go ?_
    refine cond_dec rfl (fun hne => ?_) (fun hne => ?_)
    · refine go ?_
      exact end_one Try.results141 rfl ⟨by rw [decide_eq_false (fun e => hne (by rw [e]))], hb⟩
    · refine go ?_
      refine ⟨xs.length - (i + 1), by omega, i + 1, rfl, by omega, rfl, rfl, rfl, rfl, fun j h0 hj => ?_, hb⟩
      by_cases hji : j = i
      · subst hji; exact Decidable.not_not.1 hne
      · exact hys j h0 (by omega)
  · obtain rfl : i = xs.length := by omega
    refine go ?_
    have : xs = ys := list_ext_gi (by omega) fun j h0 hj => hys j h0 (by omega)
    exact end_one Try.results141 rfl ⟨by rw [decide_eq_true this], hb⟩

set_option maxHeartbeats 4000000 in
set_option maxRecDepth 100000 in
theorem isCovering_any (v : Value) (v2 : Value) (v3 : Value) (ms : List (List Int)) (ks : List (List Int)) (xs : List Int) (w : World) (hv : RL w v ms) (hv2 : RL w v2 ks) (hv3 : IL w v3 xs) (hm : IsMan ms) (hk : IsMan ks) :
    Ret Try.prog 88 #[.agg #[v], .agg #[v2], v3] w fun r w' => r = .bool (decide (IsCov ms ks xs)) ∧ Below w.heap.size w w' := by
  have shv := hv.sv
  have shv2 := hv2.sv
  have shv3 := hv3.sv
  have hb := Below.refl w.heap.size w
  refine enter3 27 Try.func88 rfl Try.ntmps88 rfl (fun fr => ?_)
  have h1 := hm.m0.r1
  have h2 := hm.m0.f2
  have h4 := hm.m0.f400
  have k1 := hk.m0.r1
  have k4 := hk.m0.f400
  have scap := shv3.le
  refine go ?_
  refine s_box (wn rfl) rfl rfl (agg_cells shv) (fun w1 hbx _ hp hg => ?_)
  have hb1 := below_of_grownBy hg
  replace hv := hv.below hb1
  replace hv2 := hv2.below hb1
  replace hv3 := hv3.below hb1
  replace hb := hb.trans (hb1.mono hb.size)
  clear hg hp hb1
  generalize (⟨w.heap.size, 0, none⟩ : Addr) = p at *
  refine go ?_
  refine s_box (wn rfl) rfl rfl (agg_cells shv2) (fun w2 hbx2 _ hp hg => ?_)
  have hb2 := below_of_grownBy hg
  replace hv := hv.below hb2
  replace hv2 := hv2.below hb2
  replace hv3 := hv3.below hb2
  replace hbx := cell_below hbx hb2
  replace hb := hb.trans (hb2.mono hb.size)
  clear hg hp hb2
  generalize (⟨w1.heap.size, 0, none⟩ : Addr) = p2 at *
  refine go ?_
  by_cases hl : (xs.length : Int) = nf ms
  rotate_left
  · refine region_h mixed (fun w3 hc3 => ?_)
    refine h_p 0 hc3 ?_
    refine h_one 1 ?_
    refine s_call1 (wn rfl) rfl rfl (size_any _ _ _ shv3) ?_
    rintro _ _ ⟨rfl, rfl⟩
    refine w_nil ?_
    refine h_on ⟨hc3, ?_⟩
    refine h_one 2 ?_
    refine s_call1 (wn rfl) rfl rfl (flags_any _ _ _ _ (cell_below hbx hc3) (hv.below hc3) h1) ?_
    rintro _ _ ⟨rfl, rfl⟩
    refine w_nil ?_
    refine h_on ⟨hc3, ?_⟩
    refine h_p 3 hc3 ?_
    refine h_p 4 hc3 ?_
    refine h_no 5 hc3 ?_
    refine h_no 6 hc3 ?_
    refine h_no 7 hc3 ?_
    refine h_no 8 hc3 ?_
    refine h_p 9 hc3 ?_
    refine h_p 10 hc3 ?_
    refine h_no 11 hc3 ?_
    refine h_no 12 hc3 ?_
    refine h_no 13 hc3 ?_
    refine h_no 14 hc3 ?_
    refine h_no 15 hc3 ?_
    refine h_no 16 hc3 ?_
    refine h_no 17 hc3 ?_
    refine h_no 18 hc3 ?_
    refine h_p 19 hc3 ?_
    refine h_p 20 hc3 ?_
    refine h_nil ?_
    replace hv := hv.below hc3
    replace hv2 := hv2.below hc3
    replace hv3 := hv3.below hc3
    replace hbx := cell_below hbx hc3
    replace hbx2 := cell_below hbx2 hc3
    replace hb := hb.trans (hc3.mono hb.size)
    refine go ?_
    exact end_one Try.results88 rfl ⟨by rw [isCov_1 (by omega)], hb⟩
  refine splitb (decide (0 ≤ gi xs 0 ∧ gi xs 0 < nf ks)) (fun hf => ?_) (fun hf => ?_)
  rotate_left
  · have hf'' := of_decide_eq_false hf
    refine region_h mixed (fun w4 hc4 => ?_)
    refine h_p 0 hc4 ?_
    refine h_one 1 ?_
    refine s_call1 (wn rfl) rfl rfl (size_any _ _ _ shv3) ?_
    rintro _ _ ⟨rfl, rfl⟩
    refine w_nil ?_
    refine h_on ⟨hc4, ?_⟩
    refine h_one 2 ?_
    refine s_call1 (wn rfl) rfl rfl (flags_any _ _ _ _ (cell_below hbx hc4) (hv.below hc4) h1) ?_
    rintro _ _ ⟨rfl, rfl⟩
    refine w_nil ?_
    refine h_on ⟨hc4, ?_⟩
    refine h_p 3 hc4 ?_
    refine h_p 4 hc4 ?_
    refine h_p 5 hc4 ?_
    refine h_p 6 hc4 ?_
    refine h_p 7 hc4 ?_
    refine h_one 8 ?_
    refine s_call2 (wy rfl rfl rfl rfl rfl known) rfl rfl rfl (hasFlag_any _ _ _ (gi xs 0) _ (hv2.below hc4) (cell_below hbx2 hc4) k1 k4) ?_
    rintro _ _ ⟨rfl, rfl⟩
    refine w_nil ?_
    refine h_on ⟨hc4, ?_⟩
    refine h_p 9 hc4 ?_
    refine h_p 10 hc4 ?_
    refine h_no 11 hc4 ?_
    refine h_no 12 hc4 ?_
    refine h_no 13 hc4 ?_
    refine h_no 14 hc4 ?_
    refine h_no 15 hc4 ?_
    refine h_no 16 hc4 ?_
    refine h_no 17 hc4 ?_
    refine h_no 18 hc4 ?_
    refine h_p 19 hc4 ?_
    refine h_p 20 hc4 ?_
    refine h_nil ?_
    replace hv := hv.below hc4
    replace hv2 := hv2.below hc4
    replace hv3 := hv3.below hc4
    replace hbx := cell_below hbx hc4
    replace hbx2 := cell_below hbx2 hc4
    replace hb := hb.trans (hc4.mono hb.size)
    refine go ?_
    exact end_one Try.results88 rfl ⟨by rw [isCov_2 (of_decide_eq_false hf)], hb⟩
  have hf' := of_decide_eq_true hf
  have e := isCov_4 (ms := ms) (ks := ks) (xs := xs) (by omega) hf' h2
  refine region_h mixed (fun w5 hc5 => ?_)
  refine h_p 0 hc5 ?_
  refine h_one 1 ?_
  refine s_call1 (wn rfl) rfl rfl (size_any _ _ _ shv3) ?_
  rintro _ _ ⟨rfl, rfl⟩
  refine w_nil ?_
  refine h_on ⟨hc5, ?_⟩
  refine h_one 2 ?_
  refine s_call1 (wn rfl) rfl rfl (flags_any _ _ _ _ (cell_below hbx hc5) (hv.below hc5) h1) ?_
  rintro _ _ ⟨rfl, rfl⟩
  refine w_nil ?_
  refine h_on ⟨hc5, ?_⟩
  refine h_p 3 hc5 ?_
  refine h_p 4 hc5 ?_
  refine h_p 5 hc5 ?_
  refine h_p 6 hc5 ?_
  refine h_p 7 hc5 ?_
  refine h_one 8 ?_
  refine s_call2 (wy rfl rfl rfl rfl rfl known) rfl rfl rfl (hasFlag_any _ _ _ (gi xs 0) _ (hv2.below hc5) (cell_below hbx2 hc5) k1 k4) ?_
  rintro _ _ ⟨rfl, rfl⟩
  refine w_nil ?_
  refine h_on ⟨hc5, ?_⟩
  refine h_p 9 hc5 ?_
  refine h_p 10 hc5 ?_
  refine h_p 11 hc5 ?_
  refine h_p 12 hc5 ?_
  refine h_p 13 hc5 ?_
  refine h_p 14 hc5 ?_
  refine h_p 15 hc5 ?_
  refine h_p 17 hc5 ?_
  refine h_one 16 ?_
  refine s_call3 (wy rfl rfl rfl rfl rfl known) rfl rfl rfl rfl (coveringTo_any _ _ _ _ (gi xs 0) _ (hv.below hc5) (hv2.below hc5) hm hk hf') ?_
  rintro x w6 ⟨hx, hb6⟩
  have hc6 := hc5.trans (hb6.mono hc5.size)
  refine w_nil ?_
  refine h_on ⟨hc6, ?_⟩
  have hx := hx.oi
  refine h_one 18 ?_
  refine s_call2 (wy rfl rfl rfl rfl rfl known) rfl rfl rfl (Equal_any _ _ _ _ _ hx.il (hv3.below hc6)) ?_
  rintro _ w7 ⟨rfl, hb7⟩
  have hc7 := hc6.trans (hb7.mono hc6.size)
  replace hx := hx.below hb7
  refine w_nil ?_
  refine h_on ⟨hc7, ?_⟩
  refine h_p 19 hc7 ?_
  refine h_p 20 hc7 ?_
  refine h_nil ?_
  replace hv := hv.below hc7
  replace hv2 := hv2.below hc7
  replace hv3 := hv3.below hc7
  replace hbx := cell_below hbx hc7
  replace hbx2 := cell_below hbx2 hc7
  replace hb := hb.trans (hc7.mono hb.size)
  refine go ?_
  exact end_one Try.results88 rfl ⟨by rw [e], hb⟩

set_option maxRecDepth 100000 in
theorem implIsCovering_any (v : Value) (v2 : Value) (v3 : Value) (ms : List (List Int)) (ks : List (List Int)) (xs : List Int) (w : World) (hv : RL w v ms) (hv2 : RL w v2 ks) (hv3 : IL w v3 xs) :
    Ret Try.prog 23 #[.agg #[v], .agg #[v2], v3] w fun r w' => r = .tuple #[.bool (isCovB ms ks xs), .int .i64 (manC2 ms ks)] ∧ Below w.heap.size w w' := by
  have shv := hv.sv
  have shv2 := hv2.sv
  have shv3 := hv3.sv
  have hb := Below.refl w.heap.size w
  refine enter3 20 Try.func23 rfl Try.ntmps23 rfl (fun fr => ?_)
  refine go ?_
  refine s_box (wn rfl) rfl rfl (agg_cells shv) (fun w1 hbx _ hp hg => ?_)
  have hb1 := below_of_grownBy hg
  replace hv := hv.below hb1
  replace hv2 := hv2.below hb1
  replace hv3 := hv3.below hb1
  replace hb := hb.trans (hb1.mono hb.size)
  clear hg hp hb1
  generalize (⟨w.heap.size, 0, none⟩ : Addr) = p at *
  refine go ?_
  refine s_box (wn rfl) rfl rfl (agg_cells shv2) (fun w2 hbx2 _ hp hg => ?_)
  have hb2 := below_of_grownBy hg
  replace hv := hv.below hb2
  replace hv2 := hv2.below hb2
  replace hv3 := hv3.below hb2
  replace hbx := cell_below hbx hb2
  replace hb := hb.trans (hb2.mono hb.size)
  clear hg hp hb2
  generalize (⟨w1.heap.size, 0, none⟩ : Addr) = p2 at *
  refine go ?_
  refine s_call1 (wn rfl) rfl rfl (isManiplex_any _ _ _ hv) ?_
  rintro _ w3 ⟨rfl, hb3⟩
  replace hv := hv.below hb3
  replace hv2 := hv2.below hb3
  replace hv3 := hv3.below hb3
  replace hbx := cell_below hbx hb3
  replace hbx2 := cell_below hbx2 hb3
  replace hb := hb.trans (hb3.mono hb.size)
  refine splitb (decide (IsMan ms)) (fun hm => ?_) (fun hm => ?_)
  rotate_left
  · have hm := of_decide_eq_false hm
    have e := isCovB_1 (ms := ms) (ks := ks) (xs := xs) (fun h => hm h.1)
    refine go ?_
    exact end_two Try.results23 rfl rfl ⟨by rw [e.1, e.2], hb⟩
  have hm' := of_decide_eq_true hm
  refine go ?_
  refine s_call1 (wy rfl rfl rfl rfl rfl known) rfl rfl (isManiplex_any _ _ _ hv2) ?_
  rintro _ w4 ⟨rfl, hb4⟩
  replace hv := hv.below hb4
  replace hv2 := hv2.below hb4
  replace hv3 := hv3.below hb4
  replace hbx := cell_below hbx hb4
  replace hbx2 := cell_below hbx2 hb4
  replace hb := hb.trans (hb4.mono hb.size)
  refine splitb (decide (IsMan ks)) (fun hk => ?_) (fun hk => ?_)
  rotate_left
  · have hk := of_decide_eq_false hk
    have e := isCovB_1 (ms := ms) (ks := ks) (xs := xs) (fun h => hk h.2)
    refine go ?_
    exact end_two Try.results23 rfl rfl ⟨by rw [e.1, e.2], hb⟩
  have hk' := of_decide_eq_true hk
  refine go ?_
  refine s_call3 (wn rfl) rfl rfl rfl rfl (isCovering_any _ _ _ _ _ _ _ hv hv2 hv3 hm' hk') ?_
  rintro _ w5 ⟨rfl, hb5⟩
  replace hv := hv.below hb5
  replace hv2 := hv2.below hb5
  replace hv3 := hv3.below hb5
  replace hbx := cell_below hbx hb5
  replace hbx2 := cell_below hbx2 hb5
  replace hb := hb.trans (hb5.mono hb.size)
  have e := isCovB_2 (xs := xs) hm' hk'
  refine go ?_
  exact end_two Try.results23 rfl rfl ⟨by rw [e.1, e.2], hb⟩

end Go.Proofs.Ytmdimdbfgibflaa

/- Contracts: words, and what they do; DoesNothing, on both sides. -/
namespace Go.Proofs.Ytmdimdbfgibflaa
open Go.Mem Go.RowKit
set_option linter.unusedVariables false


set_option maxRecDepth 100000 in
theorem l02Word_any (v : Value) (v2 : Value) (ms : List (List Int)) (wd : List Int) (w : World) (hv : RL w v ms) (hv2 : IL w v2 wd) (h1 : 1 ≤ ms.length) (h5 : ms.length ≤ 5) :
    Ret Try.prog 75 #[.agg #[v], v2] w fun r w' => r = .bool (decide (IsWord ms wd)) ∧ Below w.heap.size w w' := by
  have shv := hv.sv
  have shv2 := hv2.sv
  have hb := Below.refl w.heap.size w
  refine enter2 25 Try.func75 rfl Try.ntmps75 rfl (fun fr => ?_)
  have scap := shv2.le
  refine go ?_
  refine s_box (wn rfl) rfl rfl (agg_cells shv) (fun w1 hbx _ hp hg => ?_)
  have hb1 := below_of_grownBy hg
  replace hv := hv.below hb1
  replace hv2 := hv2.below hb1
  replace hb := hb.trans (hb1.mono hb.size)
  clear hg hp hb1
  generalize (⟨w.heap.size, 0, none⟩ : Addr) = p at *
  refine go ?_
  refine w_loop (fun k fr w' => ∃ (i : Nat), k = wd.length - i ∧ i ≤ wd.length ∧ fr 1 = v2 ∧ fr 2 = .pointer (some p) ∧ fr 5 = .int .i64 i ∧ (∀ j : Nat, j < i → 0 ≤ gi wd j ∧ gi wd j < ms.length) ∧ Below w1.heap.size w1 w') (wd.length)
    ⟨0, rfl, Nat.zero_le _, rfl, rfl, rfl, fun j hj => by omega, Below.refl _ _⟩ ?_
  rintro k fr w2 ⟨i, rfl, hi, f1, f2, f5, hall, hbL1⟩
  have hv := hv.below hbL1
  have hv2 := hv2.below hbL1
  have hbx := cell_below hbx hbL1
  refine know (t := 1) f1 ?_; refine know (t := 2) f2 ?_; refine know (t := 5) f5 ?_
  refine go ?_
  refine cond_dec rfl (fun hlt => ?_) (fun hge => ?_)
  · refine go ?_
    refine region_h mixed (fun w3 hc3 => ?_)
    refine h_p 0 hc3 ?_
    refine h_p 1 hc3 ?_
    refine h_p 2 hc3 ?_
    refine h_p 3 hc3 ?_
    refine h_p 4 hc3 ?_
    refine h_p 5 hc3 ?_
    refine h_p 6 hc3 ?_
    refine h_p 7 hc3 ?_
    refine h_one 8 ?_
    refine s_call3 (wn rfl) rfl rfl rfl rfl (l01In_any _ _ _ _) ?_
    rintro _ _ ⟨rfl, rfl⟩
    refine w_nil ?_
    refine h_on ⟨hc3, ?_⟩
    refine h_p 9 hc3 ?_
    refine h_nil ?_
    replace hv := hv.below hc3
    replace hv2 := hv2.below hc3
    replace hbx := cell_below hbx hc3
    replace hbL1 := hbL1.trans (hc3.mono hbL1.size)
    have e := inB_flag (n := gi wd i) (m := ms.length)
    rw [e]
    refine splitb (decide (0 ≤ gi wd i ∧ gi wd i < ms.length)) (fun hin => ?_) (fun hin => ?_)
    · have hin' := of_decide_eq_true hin
      refine go ?_
      refine ⟨wd.length - (i + 1), by omega, i + 1, rfl, by omega, rfl, rfl, rfl, fun j hj => by by_cases hji : j = i; (subst hji; exact hin'); exact hall j (by omega), hbL1⟩
    have hin' := of_decide_eq_false hin
    refine go ?_
    exact end_one Try.results75 rfl ⟨by rw [decide_eq_false (fun e : IsWord ms wd => hin' (e.2 _ (gi_in (by omega))))], (hb.trans (hbL1.mono hb.size))⟩
  obtain rfl : i = wd.length := by omega
  have hw : IsWord ms wd ↔ (wd.length : Int) ≤ 64 := ⟨fun h => by have := h.1; omega, fun h => ⟨by omega, fun x hx => by obtain ⟨j, hj, rfl⟩ := in_gi hx; exact hall j hj⟩⟩
  refine go ?_
  exact end_one Try.results75 rfl ⟨by rw [decide_eq_decide.2 hw], (hb.trans (hbL1.mono hb.size))⟩

set_option maxRecDepth 100000 in
theorem l02Run_any (v : Value) (v2 : Value) (ms : List (List Int)) (fl : Int) (wd : List Int) (w : World) (hv : RL w v ms) (hv2 : IL w v2 wd) (hm : IsMan ms) (hw : IsWord ms wd) (hf : 0 ≤ fl ∧ fl < nf ms) :
    Ret Try.prog 164 #[.agg #[v], .int .i64 fl, v2] w fun r w' => r = .int .i64 (run ms wd fl) ∧ Below w.heap.size w w' := by
  have shv := hv.sv
  have shv2 := hv2.sv
  have hb := Below.refl w.heap.size w
  refine enter3 26 Try.func164 rfl Try.ntmps164 rfl (fun fr => ?_)
  have h1 := hm.m0.r1
  have h4 := hm.m0.f400
  have hw1 := hw.1
  have hw2 := hw.2
  refine go ?_
  refine s_box (wn rfl) rfl rfl (agg_cells shv) (fun w1 hbx _ hp hg => ?_)
  have hb1 := below_of_grownBy hg
  replace hv := hv.below hb1
  replace hv2 := hv2.below hb1
  replace hb := hb.trans (hb1.mono hb.size)
  clear hg hp hb1
  generalize (⟨w.heap.size, 0, none⟩ : Addr) = p at *
  refine go ?_
  refine w_loop (fun k fr w' => ∃ (i : Nat), k = wd.length - i ∧ i ≤ wd.length ∧ fr 1 = .int .i64 (run ms (wd.take i) fl) ∧ fr 2 = v2 ∧ fr 3 = .pointer (some p) ∧ fr 7 = .int .i64 i ∧ Below w1.heap.size w1 w') (wd.length)
    ⟨0, rfl, Nat.zero_le _, rfl, rfl, rfl, rfl, Below.refl _ _⟩ ?_
  rintro k fr w2 ⟨i, rfl, hi, f1, f2, f3, f7, hbL1⟩
  have hv := hv.below hbL1
  have hv2 := hv2.below hbL1
  have hbx := cell_below hbx hbL1
  refine know (t := 1) f1 ?_; refine know (t := 2) f2 ?_; refine know (t := 3) f3 ?_; refine know (t := 7) f7 ?_
  refine go ?_
  refine cond_dec rfl (fun hlt => ?_) (fun hge => ?_)
  · have hx := hw2 _ (gi_in (xs := wd) (j := i) (by omega))
    have hr := run_rng hm.syst (wd.take i) (fun x h => hw2 x (List.mem_of_mem_take h)) fl hf
    have hrow := hm.syst.row hx.1 hx.2
    have hrl := hrow.1
    obtain ⟨u, hu, hcu⟩ := hv.row hx.1 hx.2
    have su := hu.sv
    refine go ?_
    refine region_q mixed (by kernel_rfl) ?_; refine qo ?_; refine q_nil ?_
    intro w3 hbq
    replace hv := hv.below hbq
    replace hv2 := hv2.below hbq
    replace hbx := cell_below hbx hbq
    replace hbL1 := hbL1.trans (hbq.mono hbL1.size)
    refine go ?_
    refine ⟨wd.length - (i + 1), by omega, i + 1, rfl, by omega, by rw [run_take_succ (by omega)]; rfl, rfl, rfl, rfl, hbL1⟩
  obtain rfl : i = wd.length := by omega
  rw [List.take_length]
  refine go ?_
  exact end_one Try.results164 rfl ⟨rfl, (hb.trans (hbL1.mono hb.size))⟩

set_option maxRecDepth 100000 in
theorem l08Nothing_any (v : Value) (v2 : Value) (ms : List (List Int)) (wd : List Int) (w : World) (hv : RL w v ms) (hv2 : IL w v2 wd) (hm : IsMan ms) (hw : IsWord ms wd) :
    Ret Try.prog 157 #[.agg #[v], v2] w fun r w' => r = .bool (decide (Still ms wd)) ∧ Below w.heap.size w w' := by
  have shv := hv.sv
  have shv2 := hv2.sv
  have hb := Below.refl w.heap.size w
  refine enter2 18 Try.func157 rfl Try.ntmps157 rfl (fun fr => ?_)
  have h1 := hm.m0.r1
  have h4 := hm.m0.f400
  refine go ?_
  refine s_box (wn rfl) rfl rfl (agg_cells shv) (fun w1 hbx _ hp hg => ?_)
  have hb1 := below_of_grownBy hg
  replace hv := hv.below hb1
  replace hv2 := hv2.below hb1
  replace hb := hb.trans (hb1.mono hb.size)
  clear hg hp hb1
  generalize (⟨w.heap.size, 0, none⟩ : Addr) = p at *
  refine go ?_
  refine w_loop (fun k fr w' => ∃ (i : Nat), k = nf ms - i ∧ i ≤ nf ms ∧ fr 1 = v2 ∧ fr 2 = .pointer (some p) ∧ fr 5 = .int .i64 i ∧ (∀ j : Nat, j < i → run ms wd j = j) ∧ Below w1.heap.size w1 w') (nf ms)
    ⟨0, rfl, Nat.zero_le _, rfl, rfl, rfl, fun j hj => by omega, Below.refl _ _⟩ ?_
  rintro k fr w2 ⟨i, rfl, hi, f1, f2, f5, hall, hbL1⟩
  have hv := hv.below hbL1
  have hv2 := hv2.below hbL1
  have hbx := cell_below hbx hbL1
  refine know (t := 1) f1 ?_; refine know (t := 2) f2 ?_; refine know (t := 5) f5 ?_
  refine go ?_
  refine s_call1 (wn rfl) rfl rfl (l02Flags_any _ _ _ hv h1) ?_
  rintro _ w3 ⟨rfl, hb3⟩
  replace hv := hv.below hb3
  replace hv2 := hv2.below hb3
  replace hbx := cell_below hbx hb3
  replace hbL1 := hbL1.trans (hb3.mono hbL1.size)
  refine go ?_
  refine cond_dec rfl (fun hlt => ?_) (fun hge => ?_)
  · refine go ?_
    refine s_call3 (wn rfl) rfl rfl rfl rfl (l02Run_any _ _ _ i _ _ hv hv2 hm hw (by omega)) ?_
    rintro _ w4 ⟨rfl, hb4⟩
    replace hv := hv.below hb4
    replace hv2 := hv2.below hb4
    replace hbx := cell_below hbx hb4
    replace hbL1 := hbL1.trans (hb4.mono hbL1.size)
    refine go ?_
    refine cond_dec rfl (fun hne => ?_) (fun hne => ?_)
    · refine go ?_
      exact end_one Try.results157 rfl ⟨by rw [decide_eq_false (fun e : Still ms wd => hne (e i (by omega)))], (hb.trans (hbL1.mono hb.size))⟩
    refine go ?_
    refine ⟨nf ms - (i + 1), by omega, i + 1, rfl, by omega, rfl, rfl, rfl, fun j hj => by by_cases hji : j = i; (subst hji; exact Decidable.not_not.1 hne); exact hall j (by omega), hbL1⟩
  obtain rfl : i = nf ms := by omega
  refine go ?_
  exact end_one Try.results157 rfl ⟨by rw [decide_eq_true (show Still ms wd from fun j hj => hall j hj)], (hb.trans (hbL1.mono hb.size))⟩

set_option maxRecDepth 100000 in
theorem l08Word_any (v : Value) (v2 : Value) (ms : List (List Int)) (wd : List Int) (w : World) (hv : RL w v ms) (hv2 : IL w v2 wd) :
    Ret Try.prog 116 #[.agg #[v], v2] w fun r w' => r = .int .i64 (wordC ms wd) ∧ Below w.heap.size w w' := by
  have shv := hv.sv
  have shv2 := hv2.sv
  have hb := Below.refl w.heap.size w
  refine enter2 12 Try.func116 rfl Try.ntmps116 rfl (fun fr => ?_)
  refine go ?_
  refine s_box (wn rfl) rfl rfl (agg_cells shv) (fun w1 hbx _ hp hg => ?_)
  have hb1 := below_of_grownBy hg
  replace hv := hv.below hb1
  replace hv2 := hv2.below hb1
  replace hb := hb.trans (hb1.mono hb.size)
  clear hg hp hb1
  generalize (⟨w.heap.size, 0, none⟩ : Addr) = p at *
  refine go ?_
  refine s_call1 (wn rfl) rfl rfl (l02Is_any _ _ _ hv) ?_
  rintro _ w2 ⟨rfl, hb2⟩
  replace hv := hv.below hb2
  replace hv2 := hv2.below hb2
  replace hbx := cell_below hbx hb2
  replace hb := hb.trans (hb2.mono hb.size)
  refine splitb (decide (IsMan ms)) (fun hm => ?_) (fun hm => ?_)
  rotate_left
  · have e := (word_1 (wd := wd) (of_decide_eq_false hm)).2
    refine go ?_
    exact end_one Try.results116 rfl ⟨by rw [e], hb⟩
  have hm' := of_decide_eq_true hm
  refine go ?_
  refine s_call2 (wn rfl) rfl rfl rfl (l02Word_any _ _ _ _ _ hv hv2 hm'.m0.r1 hm'.m0.r5) ?_
  rintro _ w3 ⟨rfl, hb3⟩
  replace hv := hv.below hb3
  replace hv2 := hv2.below hb3
  replace hbx := cell_below hbx hb3
  replace hb := hb.trans (hb3.mono hb.size)
  refine splitb (decide (IsWord ms wd)) (fun hw => ?_) (fun hw => ?_)
  rotate_left
  · have e := (word_2 hm' (of_decide_eq_false hw)).2
    refine go ?_
    exact end_one Try.results116 rfl ⟨by rw [e], hb⟩
  have e := (word_3 hm' (of_decide_eq_true hw)).2
  refine go ?_
  exact end_one Try.results116 rfl ⟨by rw [e], hb⟩

theorem areWithin1_any (x lo hi : Int) (p q : Addr) (w : World) (hp : w.cell? p = some (.int .i64 lo)) (hq : w.cell? q = some (.int .i64 hi)) :
    Ret Try.prog 170 #[.int .i64 x, .pointer (some p), .pointer (some q)] w fun r w' => r = .bool (!inB x lo hi) ∧ w = w' := by
  refine enter3 10 Try.func170 rfl Try.ntmps170 rfl (fun fr => ?_)
  refine go ?_
  refine s_call3 (wn rfl) rfl rfl rfl rfl (within_any _ _ _ _) ?_
  rintro _ _ ⟨rfl, rfl⟩
  refine go ?_
  exact end_one Try.results170 rfl ⟨rfl, rfl⟩

theorem IndexFunc_any (fn : FuncId) [FunTy Try.prog fn] (caps : Array Value) (p : Int → Bool) (v : Value) (xs : List Int) (w : World) (hv : IL w v xs)
    (hf : ∀ x, Ret Try.prog fn (#[.int .i64 x] ++ caps) w fun r w' => r = .bool (p x) ∧ w = w') :
    Ret Try.prog 183 #[v, .func (.func fn) #[] caps] w fun r w' => r = .int .i64 (idxF p xs) ∧ w = w' := by
  have sv := hv.sv
  have scap := sv.le
  refine enter2 19 Try.func183 rfl Try.ntmps183 rfl (fun fr => ?_)
  refine go ?_
  refine w_loop (fun k fr w' => ∃ (i : Nat), k = xs.length - i ∧ i ≤ xs.length ∧ fr 0 = v ∧ fr 1 = .func (.func fn) #[] caps ∧ fr 7 = .int .i64 xs.length ∧ fr 8 = .int .i64 i ∧ (∀ j : Nat, j < i → p (gi xs j) = false) ∧ w = w') xs.length
    ⟨0, rfl, Nat.zero_le _, rfl, rfl, rfl, rfl, fun j hj => by omega, rfl⟩ ?_
  rintro k fr _ ⟨i, rfl, hi, f0, f1, f7, f8, hall, rfl⟩
  refine know (t := 0) f0 ?_; refine know (t := 1) f1 ?_; refine know (t := 7) f7 ?_; refine know (t := 8) f8 ?_
  refine go ?_
  refine cond_dec rfl (fun hlt => ?_) (fun hge => ?_)
  · refine go ?_
    refine s_callV1 (wn rfl) rfl rfl rfl (hf (gi xs i)) ?_
    rintro _ _ ⟨rfl, rfl⟩
    refine splitb (p (gi xs i)) (fun hp => ?_) (fun hp => ?_)
    · refine go ?_
      exact end_one Try.results183 rfl ⟨by rw [idxF_some (by omega) hp hall], rfl⟩
    · refine go ?_
      exact ⟨xs.length - (i + 1), by omega, i + 1, rfl, by omega, rfl, rfl, rfl, rfl, fun j hj => by by_cases hji : j = i; (subst hji; exact hp); exact hall j (by omega), rfl⟩
  · obtain rfl : i = xs.length := by omega
    refine go ?_
    exact end_one Try.results183 rfl ⟨by rw [idxF_none hall], rfl⟩

theorem ContainsFunc_any (fn : FuncId) [FunTy Try.prog fn] (caps : Array Value) (p : Int → Bool) (v : Value) (xs : List Int) (w : World) (hv : IL w v xs)
    (hf : ∀ x, Ret Try.prog fn (#[.int .i64 x] ++ caps) w fun r w' => r = .bool (p x) ∧ w = w') :
    Ret Try.prog 169 #[v, .func (.func fn) #[] caps] w fun r w' => r = .bool (xs.any p) ∧ w = w' := by
  refine enter2 9 Try.func169 rfl Try.ntmps169 rfl (fun fr => ?_)
  refine go ?_
  refine s_call2 (wn rfl) rfl rfl rfl (IndexFunc_any fn caps p v xs w hv hf) ?_
  rintro _ _ ⟨rfl, rfl⟩
  refine go ?_
  exact end_one Try.results169 rfl ⟨by rw [idxF_any], rfl⟩

theorem areWithin_any (v : Value) (xs : List Int) (m : Nat) (w : World) (hv : IL w v xs) :
    Ret Try.prog 129 #[v, .int .i64 0, .int .i64 ((m : Int) - 1)] w fun r w' => r = .bool (decide (∀ x ∈ xs, 0 ≤ x ∧ x < m)) ∧ Below w.heap.size w w' := by
  refine enter3 11 Try.func129 rfl Try.ntmps129 rfl (fun fr => ?_)
  refine go ?_
  refine s_box (wn rfl) rfl rfl rfl (fun w1 hbx _ hp1 hg => ?_)
  have hb := below_of_grownBy hg
  have hv := hv.below hb
  generalize (⟨w.heap.size, 0, none⟩ : Addr) = p at *
  refine s_box (wn rfl) rfl rfl rfl (fun w2 hbx2 _ hp2 hg2 => ?_)
  have hb2 := below_of_grownBy hg2
  have hbx := cell_below hbx hb2
  have hv := hv.below hb2
  have hb := hb.trans (hb2.mono hb.size)
  generalize (⟨w1.heap.size, 0, none⟩ : Addr) = p2 at *
  refine go ?_
  refine s_p (wn rfl) rfl (y_fn2 rfl rfl) ?_
  refine s_call2 (wn rfl) rfl rfl rfl (ContainsFunc_any 170 _ (fun x => !inB x 0 ((m : Int) - 1)) _ _ _ hv (fun x => areWithin1_any x _ _ _ _ _ hbx hbx2)) ?_
  rintro _ _ ⟨rfl, rfl⟩
  refine go ?_
  exact end_one Try.results129 rfl ⟨by rw [any_within], hb⟩

set_option maxRecDepth 100000 in
theorem isWord_any (v : Value) (pv : Addr) (v2 : Value) (ms : List (List Int)) (wd : List Int) (w : World) (hv : RL w v ms) (hxv : w.cell? pv = some v) (hv2 : IL w v2 wd) :
    Ret Try.prog 72 #[.pointer (some pv), v2] w fun r w' => r = .bool (decide (IsWord ms wd)) ∧ Below w.heap.size w w' := by
  have shv := hv.sv
  have shv2 := hv2.sv
  have hb := Below.refl w.heap.size w
  refine enter2 15 Try.func72 rfl Try.ntmps72 rfl (fun fr => ?_)
  have scap := shv2.le
  have mcap := shv.le
  refine go ?_
  by_cases hl : (wd.length : Int) ≤ 64
  rotate_left
  · refine go ?_
    exact end_one Try.results72 rfl ⟨by rw [decide_eq_false (fun e : IsWord ms wd => hl (by have := e.1; omega))], hb⟩
  refine go ?_
  refine s_call1 (wy rfl rfl rfl rfl rfl known) rfl rfl (rank_any _ _ _ _ hxv shv) ?_
  rintro _ _ ⟨rfl, rfl⟩
  refine go ?_
  refine s_call3 (wy rfl rfl rfl rfl rfl known) rfl rfl rfl rfl (areWithin_any _ _ ms.length _ hv2) ?_
  rintro _ w1 ⟨rfl, hb1⟩
  replace hv := hv.below hb1
  replace hxv := cell_below hxv hb1
  replace hv2 := hv2.below hb1
  replace hb := hb.trans (hb1.mono hb.size)
  have hw : (∀ x ∈ wd, 0 ≤ x ∧ x < ms.length) ↔ IsWord ms wd := ⟨fun h => ⟨by omega, h⟩, fun h => h.2⟩
  refine go ?_
  exact end_one Try.results72 rfl ⟨by rw [decide_eq_decide.2 hw], hb⟩

set_option maxRecDepth 100000 in
theorem identity_any (w : World) (m : Nat) (hm : m ≤ 1000000) :
    Ret Try.prog 112 #[.int .i64 m] w fun r w' => OI w' w.heap.size 2 r (idl m) ∧ Below w.heap.size w w' := by
  have hb := Below.refl w.heap.size w
  refine enter1 18 Try.func112 rfl Try.ntmps112 rfl (fun fr => ?_)
  refine go ?_
  refine s_makeI (B := w.heap.size) (wn rfl) rfl rfl rfl (by omega) (by omega) (Nat.le_refl _) (fun ob w1 ho so hg _ => ?_)
  have hb1 := below_of_grownBy hg
  have e : ((m : Int)).toNat = m := by omega
  rw [e] at ho so
  refine go ?_
  refine w_loop (fun k fr w' => ∃ (i : Nat) (xs : List Int), k = m - i ∧ i ≤ m ∧ fr 3 = ob ∧ fr 8 = .int .i64 m ∧ fr 9 = .int .i64 i ∧ xs.length = m ∧ (∀ j : Int, 0 ≤ j → j < i → gi xs j = j) ∧ OI w' w.heap.size 2 ob xs ∧ Below w.heap.size w w') m
    ⟨0, _, rfl, Nat.zero_le _, rfl, rfl, rfl, by simp, fun j h0 h1 => by omega, ho, hb1⟩ ?_
  rintro k fr w2 ⟨i, xs, rfl, hi, f3, f8, f9, hl, hall, ho2, hb⟩
  clear ho so
  have so := ho2.sv
  refine know (t := 3) f3 ?_; refine know (t := 8) f8 ?_; refine know (t := 9) f9 ?_
  refine go ?_
  refine cond_dec rfl (fun hlt => ?_) (fun hge => ?_)
  · refine go ?_
    refine s_storeI (wn rfl) rfl rfl ho2 (by omega) (by omega) (fun w3 ho3 hg3 => ?_)
    have hb3 := hb.trans (ho2.below_of hg3 hb.size)
    refine go ?_
    refine ⟨m - (i + 1), by omega, i + 1, _, rfl, by omega, rfl, rfl, rfl, by simp [hl], fun j h0 hj => ?_, ho3, hb3⟩
    rw [gi_seti _ _ _ _ (by omega) (by omega) h0]
    split
    · rename_i e; exact e.symm
    · exact hall j h0 (by omega)
  · obtain rfl : i = m := by omega
    have : xs = idl i := list_ext_gi (by simp [hl]) fun j h0 hj => by rw [hall j h0 (by omega), gi_idl h0 (by omega)]
    rw [this] at ho2
    refine go ?_
    exact end_one Try.results112 rfl ⟨ho2, hb⟩

set_option maxRecDepth 100000 in
theorem then_any (v : Value) (v2 : Value) (ps : List Int) (qs : List Int) (w : World) (hv : IL w v ps) (hv2 : IL w v2 qs) (hp : ∀ x ∈ ps, 0 ≤ x ∧ x < qs.length) (hl : ps.length ≤ 1000000) :
    Ret Try.prog 146 #[v, v2] w fun r w' => OI w' w.heap.size 2 r (aft ps qs) ∧ Below w.heap.size w w' := by
  have shv := hv.sv
  have shv2 := hv2.sv
  have hb := Below.refl w.heap.size w
  refine enter2 27 Try.func146 rfl Try.ntmps146 rfl (fun fr => ?_)
  refine go ?_
  refine s_makeI (B := w.heap.size) (wn rfl) rfl rfl rfl (by omega) (by omega) (Nat.le_refl _) (fun ob w1 ho so hg _ => ?_)
  have hb1 := below_of_grownBy hg
  have e : ((ps.length : Int)).toNat = ps.length := by omega
  rw [e] at ho so
  refine go ?_
  refine w_loop (fun k fr w' => ∃ (i : Nat) (xs : List Int), k = ps.length - i ∧ i ≤ ps.length ∧ fr 1 = v2 ∧ fr 5 = ob ∧ fr 11 = v ∧ fr 12 = .int .i64 ps.length ∧ fr 13 = .int .i64 i ∧ xs.length = ps.length ∧ (∀ j : Int, 0 ≤ j → j < i → gi xs j = gi qs (gi ps j)) ∧ OI w' w.heap.size 2 ob xs ∧ Below w.heap.size w w') ps.length
    ⟨0, _, rfl, Nat.zero_le _, rfl, rfl, rfl, rfl, rfl, by simp, fun j h0 h1 => by omega, ho, hb1⟩ ?_
  rintro k fr w2 ⟨i, xs, rfl, hi, f1, f5, f11, f12, f13, hlx, hall, ho, hb⟩
  have so := ho.sv
  have hv := hv.below hb
  have hv2 := hv2.below hb
  refine know (t := 1) f1 ?_; refine know (t := 5) f5 ?_; refine know (t := 11) f11 ?_; refine know (t := 12) f12 ?_; refine know (t := 13) f13 ?_
  refine go ?_
  refine cond_dec rfl (fun hlt => ?_) (fun hge => ?_)
  · have hx := hp _ (gi_in (xs := ps) (j := i) (by omega))
    refine go ?_
    refine s_storeI (wn rfl) rfl rfl ho (by omega) (by omega) (fun w3 ho3 hg3 => ?_)
    have hb3 := hb.trans (ho.below_of hg3 hb.size)
    refine go ?_
    refine ⟨ps.length - (i + 1), by omega, i + 1, _, rfl, by omega, rfl, rfl, rfl, rfl, rfl, by simp [hlx], fun j h0 hj => ?_, ho3, hb3⟩
    rw [gi_seti _ _ _ _ (by omega) (by omega) h0]
    split
    · rename_i e; rw [e]
    · exact hall j h0 (by omega)
  · obtain rfl : i = ps.length := by omega
    have : xs = aft ps qs := list_ext_gi (by simp [hlx]) fun j h0 hj => by rw [hall j h0 (by omega), gi_aft h0 (by omega)]
    rw [this] at ho
    refine go ?_
    exact end_one Try.results146 rfl ⟨ho, hb⟩

set_option maxRecDepth 100000 in
theorem isIdentity_any (v : Value) (ps : List Int) (w : World) (hv : IL w v ps) :
    Ret Try.prog 109 #[v] w fun r w' => r = .bool (decide (ps = idl ps.length)) ∧ w = w' := by
  have shv := hv.sv
  have hb := Below.refl w.heap.size w
  refine enter1 16 Try.func109 rfl Try.ntmps109 rfl (fun fr => ?_)
  have scap := shv.le
  refine go ?_
  refine w_loop (fun k fr w' => ∃ (i : Nat), k = ps.length - i ∧ i ≤ ps.length ∧ fr 5 = v ∧ fr 6 = .int .i64 ps.length ∧ fr 7 = .int .i64 i ∧ (∀ j : Int, 0 ≤ j → j < i → gi ps j = j) ∧ w = w') ps.length
    ⟨0, rfl, Nat.zero_le _, rfl, rfl, rfl, fun j h0 h1 => by omega, rfl⟩ ?_
  rintro k fr _ ⟨i, rfl, hi, f5, f6, f7, hall, rfl⟩
  refine know (t := 5) f5 ?_; refine know (t := 6) f6 ?_; refine know (t := 7) f7 ?_
  refine go ?_
  refine cond_dec rfl (fun hlt => ?_) (fun hge => ?_)
  · refine go ?_
    refine cond_dec rfl (fun hne => ?_) (fun hne => ?_)
    · refine go ?_
      exact end_one Try.results109 rfl ⟨by rw [decide_eq_false (fun e => hne (by rw [e, gi_idl (by omega) (by omega)]))], rfl⟩
    · refine go ?_
      exact ⟨ps.length - (i + 1), by omega, i + 1, rfl, by omega, rfl, rfl, rfl, fun j h0 hj => by by_cases hji : j = i; (subst hji; exact Decidable.not_not.1 hne); exact hall j h0 (by omega), rfl⟩
  · obtain rfl : i = ps.length := by omega
    refine go ?_
    exact end_one Try.results109 rfl ⟨by rw [decide_eq_true (list_ext_gi (by simp) fun j h0 hj => by rw [hall j h0 hj, gi_idl h0 hj])], rfl⟩

set_option maxRecDepth 100000 in
theorem does_any (v : Value) (pv : Addr) (v2 : Value) (ms : List (List Int)) (wd : List Int) (w : World) (hv : RL w v ms) (hxv : w.cell? pv = some v) (hv2 : IL w v2 wd) (hm : IsMan ms) (hw : IsWord ms wd) :
    Ret Try.prog 110 #[.pointer (some pv), v2] w fun r w' => OI w' w.heap.size 2 r (does ms wd (nf ms)) ∧ Below w.heap.size w w' := by
  have shv := hv.sv
  have shv2 := hv2.sv
  have hb := Below.refl w.heap.size w
  have hv0 := hv
  have hxv0 := hxv
  have hv20 := hv2
  refine enter2 28 Try.func110 rfl Try.ntmps110 rfl (fun fr => ?_)
  have h1 := hm.m0.r1
  have h4 := hm.m0.f400
  have hw1 := hw.1
  have hw2 := hw.2
  refine go ?_
  refine s_call1 (wn rfl) rfl rfl (flags_any _ _ _ _ hxv hv h1) ?_
  rintro _ _ ⟨rfl, rfl⟩
  refine go ?_
  refine s_call1 (wn rfl) rfl rfl (identity_any _ (nf ms) (by omega)) ?_
  rintro pb w1 ⟨hp, hb1⟩
  replace hv := hv.below hb1
  replace hxv := cell_below hxv hb1
  replace hv2 := hv2.below hb1
  replace hb := hb.trans (hb1.mono hb.size)
  refine go ?_
  refine w_loop (fun k fr w' => ∃ (i : Nat) (pb : Value), k = wd.length - i ∧ i ≤ wd.length ∧ fr 0 = .pointer (some pv) ∧ fr 5 = pb ∧ fr 11 = v2 ∧ fr 12 = .int .i64 wd.length ∧ fr 13 = .int .i64 i ∧ OI w' w.heap.size 2 pb (does ms (wd.take i) (nf ms)) ∧ Below w.heap.size w w') wd.length
    ⟨0, pb, rfl, Nat.zero_le _, rfl, rfl, rfl, rfl, rfl, by simpa [does] using hp, hb⟩ ?_
  rintro k fr w2 ⟨i, pb, rfl, hi, f0, f5, f11, f12, f13, hp, hbL⟩
  have sp := hp.sv
  have hv := hv0.below hbL
  have hxv := cell_below hxv0 hbL
  have hv2 := hv20.below hbL
  refine know (t := 0) f0 ?_; refine know (t := 5) f5 ?_; refine know (t := 11) f11 ?_; refine know (t := 12) f12 ?_; refine know (t := 13) f13 ?_
  refine go ?_
  refine cond_dec rfl (fun hlt => ?_) (fun hge => ?_)
  · have hx := hw2 _ (gi_in (xs := wd) (j := i) (by omega))
    have hrow := hm.syst.row hx.1 hx.2
    have hrl := hrow.1
    obtain ⟨u, hu, hcu⟩ := hv.row hx.1 hx.2
    have su := hu.sv
    have hlen := length_does ms (wd.take i) (nf ms)
    refine go ?_
    refine s_call2 (wn rfl) rfl rfl rfl (then_any _ _ _ _ _ hp.il hu (fun x h => ?_) (by omega)) ?_
    · obtain ⟨j, hj, rfl⟩ := in_gi h
      rw [hrl, gi_does (by omega) (by omega)]
      exact run_rng hm.syst _ (fun x h => hw2 x (List.mem_of_mem_take h)) _ (by omega)
    rintro pb2 w3 ⟨hp2, hb3⟩
    have hs := hbL.size
    have hp2 := hp2.mono hs
    rw [← does_take_succ (by omega)] at hp2
    refine go ?_
    exact ⟨wd.length - (i + 1), by omega, i + 1, pb2, rfl, by omega, rfl, rfl, rfl, rfl, rfl, hp2, hbL.trans (hb3.mono hbL.size)⟩
  · obtain rfl : i = wd.length := by omega
    rw [List.take_length] at hp
    refine go ?_
    exact end_one Try.results110 rfl ⟨hp, hbL⟩

set_option maxRecDepth 100000 in
theorem implDoesNothing_any (v : Value) (v2 : Value) (ms : List (List Int)) (wd : List Int) (w : World) (hv : RL w v ms) (hv2 : IL w v2 wd) :
    Ret Try.prog 49 #[.agg #[v], v2] w fun r w' => r = .tuple #[.bool (doesNo ms wd), .int .i64 (wordC ms wd)] ∧ Below w.heap.size w w' := by
  have shv := hv.sv
  have shv2 := hv2.sv
  have hb := Below.refl w.heap.size w
  refine enter2 17 Try.func49 rfl Try.ntmps49 rfl (fun fr => ?_)
  refine go ?_
  refine s_box (wn rfl) rfl rfl (agg_cells shv) (fun w1 hbx _ hp hg => ?_)
  have hb1 := below_of_grownBy hg
  replace hv := hv.below hb1
  replace hv2 := hv2.below hb1
  replace hb := hb.trans (hb1.mono hb.size)
  clear hg hp hb1
  generalize (⟨w.heap.size, 0, none⟩ : Addr) = p at *
  refine go ?_
  refine s_call1 (wn rfl) rfl rfl (isManiplex_any _ _ _ hv) ?_
  rintro _ w2 ⟨rfl, hb2⟩
  replace hv := hv.below hb2
  replace hv2 := hv2.below hb2
  replace hbx := cell_below hbx hb2
  replace hb := hb.trans (hb2.mono hb.size)
  refine splitb (decide (IsMan ms)) (fun hm => ?_) (fun hm => ?_)
  rotate_left
  · have hm := of_decide_eq_false hm
    have e := word_1 (wd := wd) hm
    refine go ?_
    exact end_two Try.results49 rfl rfl ⟨by rw [e.1, e.2], hb⟩
  have hm' := of_decide_eq_true hm
  refine go ?_
  refine s_call2 (wn rfl) rfl rfl rfl (isWord_any _ _ _ _ _ _ hv hbx hv2) ?_
  rintro _ w3 ⟨rfl, hb3⟩
  replace hv := hv.below hb3
  replace hv2 := hv2.below hb3
  replace hbx := cell_below hbx hb3
  replace hb := hb.trans (hb3.mono hb.size)
  refine splitb (decide (IsWord ms wd)) (fun hw => ?_) (fun hw => ?_)
  rotate_left
  · have e := word_2 hm' (of_decide_eq_false hw)
    refine go ?_
    exact end_two Try.results49 rfl rfl ⟨by rw [e.1, e.2], hb⟩
  have hw' := of_decide_eq_true hw
  have e := word_3 hm' hw'
  refine go ?_
  refine s_call2 (wn rfl) rfl rfl rfl (does_any _ _ _ _ _ _ hv hbx hv2 hm' hw') ?_
  rintro x w4 ⟨hx, hb4⟩
  replace hv := hv.below hb4
  replace hv2 := hv2.below hb4
  replace hbx := cell_below hbx hb4
  replace hb := hb.trans (hb4.mono hb.size)
  refine go ?_
  refine s_call1 (wn rfl) rfl rfl (isIdentity_any _ _ _ hx.il) ?_
  rintro _ _ ⟨rfl, rfl⟩
  rw [length_does, ← decide_eq_decide.2 (still_does ms wd)]
  refine go ?_
  exact end_two Try.results49 rfl rfl ⟨by rw [e.1, e.2], hb⟩

end Go.Proofs.Ytmdimdbfgibflaa
