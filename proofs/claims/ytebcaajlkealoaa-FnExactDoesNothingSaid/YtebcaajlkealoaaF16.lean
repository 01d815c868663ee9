/- Contracts: AutomorphismTo, AutomorphismsOf, CoveringOf, IsomorphismOf, FlagOrbits, IsRegular, on both sides. -/
import Derived.Test.YtebcaajlkealoaaF15
import Derived.Test.YtebcaajlkealoaaF14
import Derived.Test.YtebcaajlkealoaaP13
namespace Go.Proofs.Ytebcaajlkealoaa
open Go.Mem Go.RowKit
set_option linter.unusedVariables false


theorem MapR.oi {w : World} {B : Nat} {T : TypeId} {r : Value} {m : Option (List Int)} (h : MapR w B T r m) : OI w B T r (m.getD []) := by
  cases m with
  | none => obtain rfl : r = .slice none 0 0 := h; exact OI.nil w B T
  | some xs => exact h.1
theorem inB_iff {n lo hi : Int} : inB n lo hi = decide (lo ≤ n ∧ n ≤ hi) := by
  unfold inB; by_cases h1 : lo ≤ n <;> by_cases h2 : n ≤ hi <;> simp [h1, h2]
theorem inB_flag {n : Int} {m : Nat} : inB n 0 ((m : Int) - 1) = decide (0 ≤ n ∧ n < m) := by
  rw [inB_iff, decide_eq_decide]; omega

set_option maxRecDepth 100000 in
theorem l02Flag_any (v : Value) (ms : List (List Int)) (f : Int) (w : World) (hv : RL w v ms) (h1 : 1 ≤ ms.length) (h4 : nf ms ≤ 400) :
    Ret Try.prog 67 #[.agg #[v], .int .i64 f] w fun r w' => r = .bool (decide (0 ≤ f ∧ f < nf ms)) ∧ Below w.heap.size w w' := by
  have shv := hv.sv
  have hb := Below.refl w.heap.size w
  refine enter2 10 Try.func67 rfl Try.ntmps67 rfl (fun fr => ?_)
  refine go ?_
  refine s_box (wn rfl) rfl rfl (agg_cells shv) (fun w1 hbx _ hp hg => ?_)
  have hb1 := below_of_grownBy hg
  replace hv := hv.below hb1
  replace hb := hb.trans (hb1.mono hb.size)
  clear hg hp hb1
  generalize (⟨w.heap.size, 0, none⟩ : Addr) = p at *
  refine go ?_
  refine s_call1 (wn rfl) rfl rfl (l02Flags_any _ _ _ hv h1) ?_
  rintro _ w2 ⟨rfl, hb2⟩
  replace hv := hv.below hb2
  replace hbx := cell_below hbx hb2
  replace hb := hb.trans (hb2.mono hb.size)
  refine go ?_
  refine s_call3 (wn rfl) rfl rfl rfl rfl (l01In_any _ _ _ _) ?_
  rintro _ _ ⟨rfl, rfl⟩
  refine go ?_
  exact end_one Try.results67 rfl ⟨by rw [inB_flag], hb⟩

set_option maxRecDepth 100000 in
theorem hasFlag_any (v : Value) (pv : Addr) (ms : List (List Int)) (f : Int) (w : World) (hv : RL w v ms) (hxv : w.cell? pv = some v) (h1 : 1 ≤ ms.length) (h4 : nf ms ≤ 400) :
    Ret Try.prog 69 #[.pointer (some pv), .int .i64 f] w fun r w' => r = .bool (decide (0 ≤ f ∧ f < nf ms)) ∧ w = w' := by
  have shv := hv.sv
  have hb := Below.refl w.heap.size w
  refine enter2 10 Try.func69 rfl Try.ntmps69 rfl (fun fr => ?_)
  refine go ?_
  refine s_call1 (wn rfl) rfl rfl (flags_any _ _ _ _ hxv hv h1) ?_
  rintro _ _ ⟨rfl, rfl⟩
  refine go ?_
  refine s_call3 (wn rfl) rfl rfl rfl rfl (within_any _ _ _ _) ?_
  rintro _ _ ⟨rfl, rfl⟩
  refine go ?_
  exact end_one Try.results69 rfl ⟨by rw [inB_flag], rfl⟩

set_option maxRecDepth 100000 in
theorem specAutomorphismTo_any (v : Value) (ms : List (List Int)) (f : Int) (w : World) (hv : RL w v ms) :
    Ret Try.prog 30 #[.agg #[v], .int .i64 f] w fun r w' => ∃ x, r = .tuple #[x, .int .i64 (autToC ms f)] ∧ OI w' w.heap.size 2 x (autTo ms f) ∧ Below w.heap.size w w' := by
  have shv := hv.sv
  have hb := Below.refl w.heap.size w
  refine enter2 25 Try.func30 rfl Try.ntmps30 rfl (fun fr => ?_)
  refine go ?_
  refine s_box (wn rfl) rfl rfl (agg_cells shv) (fun w1 hbx _ hp hg => ?_)
  have hb1 := below_of_grownBy hg
  replace hv := hv.below hb1
  replace hb := hb.trans (hb1.mono hb.size)
  clear hg hp hb1
  generalize (⟨w.heap.size, 0, none⟩ : Addr) = p at *
  refine go ?_
  refine s_call1 (wn rfl) rfl rfl (l02Is_any _ _ _ hv) ?_
  rintro _ w2 ⟨rfl, hb2⟩
  replace hv := hv.below hb2
  replace hbx := cell_below hbx hb2
  replace hb := hb.trans (hb2.mono hb.size)
  refine splitb (decide (IsMan ms)) (fun hm => ?_) (fun hm => ?_)
  rotate_left
  · have hm := of_decide_eq_false hm
    have e := autTo_1 (f := f) hm
    refine go ?_
    exact end_two Try.results30 rfl rfl ⟨.slice none 0 0, by rw [e.2], by rw [e.1]; exact OI.nil _ _ _, hb⟩
  have hm' := of_decide_eq_true hm
  have h1 := hm'.m0.r1
  have h4 := hm'.m0.f400
  refine go ?_
  refine s_call2 (wn rfl) rfl rfl rfl (l02Flag_any _ _ f _ hv h1 h4) ?_
  rintro _ w3 ⟨rfl, hb3⟩
  replace hv := hv.below hb3
  replace hbx := cell_below hbx hb3
  replace hb := hb.trans (hb3.mono hb.size)
  refine splitb (decide (0 ≤ f ∧ f < nf ms)) (fun hf => ?_) (fun hf => ?_)
  rotate_left
  · have hf := of_decide_eq_false hf
    have e := autTo_2 hm' hf
    refine go ?_
    exact end_two Try.results30 rfl rfl ⟨.slice none 0 0, by rw [e.2], by rw [e.1]; exact OI.nil _ _ _, hb⟩
  have hf' := of_decide_eq_true hf
  have hs0 := hb.size
  refine go ?_
  refine s_call3 (wn rfl) rfl rfl rfl rfl (l06Map_any _ _ _ _ f _ hv hv hm' hm' rfl hf') ?_
  rintro _ w4 ⟨x, rfl, hx, hb4⟩
  replace hv := hv.below hb4
  replace hbx := cell_below hbx hb4
  replace hb := hb.trans (hb4.mono hb.size)
  refine splitb ((mapTo ms ms f).isSome) (fun ho => ?_) (fun ho => ?_)
  rotate_left
  · have e := autTo_3 hm' hf' ho
    refine go ?_
    exact end_two Try.results30 rfl rfl ⟨.slice none 0 0, by rw [e.2], by rw [e.1]; exact OI.nil _ _ _, hb⟩
  have e := autTo_4 hm' hf' ho
  refine go ?_
  exact end_two Try.results30 rfl rfl ⟨x, by rw [e.2], by rw [e.1]; exact hx.oi.mono hs0, hb⟩

set_option maxRecDepth 100000 in
theorem implAutomorphismTo_any (v : Value) (ms : List (List Int)) (f : Int) (w : World) (hv : RL w v ms) :
    Ret Try.prog 31 #[.agg #[v], .int .i64 f] w fun r w' => ∃ x, r = .tuple #[x, .int .i64 (autToC ms f)] ∧ OI w' w.heap.size 2 x (autTo ms f) ∧ Below w.heap.size w w' := by
  have shv := hv.sv
  have hb := Below.refl w.heap.size w
  refine enter2 22 Try.func31 rfl Try.ntmps31 rfl (fun fr => ?_)
  refine go ?_
  refine s_box (wn rfl) rfl rfl (agg_cells shv) (fun w1 hbx _ hp hg => ?_)
  have hb1 := below_of_grownBy hg
  replace hv := hv.below hb1
  replace hb := hb.trans (hb1.mono hb.size)
  clear hg hp hb1
  generalize (⟨w.heap.size, 0, none⟩ : Addr) = p at *
  refine go ?_
  refine s_call1 (wn rfl) rfl rfl (isManiplex_any _ _ _ hv) ?_
  rintro _ w2 ⟨rfl, hb2⟩
  replace hv := hv.below hb2
  replace hbx := cell_below hbx hb2
  replace hb := hb.trans (hb2.mono hb.size)
  refine splitb (decide (IsMan ms)) (fun hm => ?_) (fun hm => ?_)
  rotate_left
  · have hm := of_decide_eq_false hm
    have e := autTo_1 (f := f) hm
    refine go ?_
    exact end_two Try.results31 rfl rfl ⟨.slice none 0 0, by rw [e.2], by rw [e.1]; exact OI.nil _ _ _, hb⟩
  have hm' := of_decide_eq_true hm
  have h1 := hm'.m0.r1
  have h4 := hm'.m0.f400
  refine go ?_
  refine s_call2 (wn rfl) rfl rfl rfl (hasFlag_any _ _ _ f _ hv hbx h1 h4) ?_
  rintro _ _ ⟨rfl, rfl⟩
  refine splitb (decide (0 ≤ f ∧ f < nf ms)) (fun hf => ?_) (fun hf => ?_)
  rotate_left
  · have hf := of_decide_eq_false hf
    have e := autTo_2 hm' hf
    refine go ?_
    exact end_two Try.results31 rfl rfl ⟨.slice none 0 0, by rw [e.2], by rw [e.1]; exact OI.nil _ _ _, hb⟩
  have hf' := of_decide_eq_true hf
  have hs0 := hb.size
  refine go ?_
  refine s_call3 (wn rfl) rfl rfl rfl rfl (coveringTo_any _ _ _ _ f _ hv hv hm' hm' hf') ?_
  rintro x w3 ⟨hx, hb3⟩
  replace hv := hv.below hb3
  replace hbx := cell_below hbx hb3
  replace hb := hb.trans (hb3.mono hb.size)
  rw [mapT_self] at hx
  have sx := hx.sv
  have hn := hx.nilV
  cases ho : mapTo ms ms f with
  | none =>
    rw [ho] at hn
    have hn : nilV x = true := hn
    have e := autTo_3 hm' hf' (by rw [ho]; rfl)
    refine go ?_
    exact end_two Try.results31 rfl rfl ⟨.slice none 0 0, by rw [e.2], by rw [e.1]; exact OI.nil _ _ _, hb⟩
  | some q =>
    rw [ho] at hn
    have hn : nilV x = false := hn
    have e := autTo_4 hm' hf' (by rw [ho]; rfl)
    refine go ?_
    exact end_two Try.results31 rfl rfl ⟨x, by rw [e.2], by rw [e.1]; exact hx.oi.mono hs0, hb⟩

set_option maxRecDepth 100000 in
theorem specAutomorphismsOf_any (v : Value) (ms : List (List Int)) (w : World) (hv : RL w v ms) :
    Ret Try.prog 37 #[.agg #[v]] w fun r w' => ∃ x, r = .tuple #[x, .int .i64 (manC ms)] ∧ OM w' w.heap.size w'.heap.size 36 2 x (autAll ms) ∧ Below w.heap.size w w' := by
  have shv := hv.sv
  have hb := Below.refl w.heap.size w
  refine enter1 9 Try.func37 rfl Try.ntmps37 rfl (fun fr => ?_)
  refine go ?_
  refine s_box (wn rfl) rfl rfl (agg_cells shv) (fun w1 hbx _ hp hg => ?_)
  have hb1 := below_of_grownBy hg
  replace hv := hv.below hb1
  replace hb := hb.trans (hb1.mono hb.size)
  clear hg hp hb1
  generalize (⟨w.heap.size, 0, none⟩ : Addr) = p at *
  refine go ?_
  refine s_call1 (wn rfl) rfl rfl (l02Is_any _ _ _ hv) ?_
  rintro _ w2 ⟨rfl, hb2⟩
  replace hv := hv.below hb2
  replace hbx := cell_below hbx hb2
  replace hb := hb.trans (hb2.mono hb.size)
  refine splitb (decide (IsMan ms)) (fun hm => ?_) (fun hm => ?_)
  rotate_left
  · have hm := of_decide_eq_false hm
    have e := And.intro (autAll_no hm) (manC_no hm)
    refine go ?_
    exact end_two Try.results37 rfl rfl ⟨.slice none 0 0, by rw [e.2], by rw [e.1]; exact OM.nil _ _ _ _ _, hb⟩
  have hm' := of_decide_eq_true hm
  have hs0 := hb.size
  refine go ?_
  refine s_call1 (wn rfl) rfl rfl (l06All_any _ _ _ hv hm') ?_
  rintro x w3 ⟨hx, hb3⟩
  replace hv := hv.below hb3
  replace hbx := cell_below hbx hb3
  replace hb := hb.trans (hb3.mono hb.size)
  refine go ?_
  exact end_two Try.results37 rfl rfl ⟨x, by rw [manC_yes hm'], by rw [autAll_yes hm']; exact hx.mono hs0, hb⟩

set_option maxRecDepth 100000 in
theorem implAutomorphismsOf_any (v : Value) (ms : List (List Int)) (w : World) (hv : RL w v ms) :
    Ret Try.prog 38 #[.agg #[v]] w fun r w' => ∃ x, r = .tuple #[x, .int .i64 (manC ms)] ∧ OM w' w.heap.size w'.heap.size 36 2 x (autAll ms) ∧ Below w.heap.size w w' := by
  have shv := hv.sv
  have hb := Below.refl w.heap.size w
  refine enter1 10 Try.func38 rfl Try.ntmps38 rfl (fun fr => ?_)
  refine go ?_
  refine s_box (wn rfl) rfl rfl (agg_cells shv) (fun w1 hbx _ hp hg => ?_)
  have hb1 := below_of_grownBy hg
  replace hv := hv.below hb1
  replace hb := hb.trans (hb1.mono hb.size)
  clear hg hp hb1
  generalize (⟨w.heap.size, 0, none⟩ : Addr) = p at *
  refine go ?_
  refine s_call1 (wn rfl) rfl rfl (isManiplex_any _ _ _ hv) ?_
  rintro _ w2 ⟨rfl, hb2⟩
  replace hv := hv.below hb2
  replace hbx := cell_below hbx hb2
  replace hb := hb.trans (hb2.mono hb.size)
  refine splitb (decide (IsMan ms)) (fun hm => ?_) (fun hm => ?_)
  rotate_left
  · have hm := of_decide_eq_false hm
    have e := And.intro (autAll_no hm) (manC_no hm)
    refine go ?_
    exact end_two Try.results38 rfl rfl ⟨.slice none 0 0, by rw [e.2], by rw [e.1]; exact OM.nil _ _ _ _ _, hb⟩
  have hm' := of_decide_eq_true hm
  have hs0 := hb.size
  refine go ?_
  refine s_call2 (wn rfl) rfl rfl rfl (coveringsOf_any _ _ _ _ _ hv hv hm' hm') ?_
  rintro x w3 ⟨hx, hb3⟩
  replace hv := hv.below hb3
  replace hbx := cell_below hbx hb3
  replace hb := hb.trans (hb3.mono hb.size)
  refine go ?_
  exact end_two Try.results38 rfl rfl ⟨x, by rw [manC_yes hm'], by rw [autAll_yes hm']; exact hx.mono hs0, hb⟩

set_option maxRecDepth 100000 in
theorem specCoveringOf_any (v : Value) (v2 : Value) (ms : List (List Int)) (ks : List (List Int)) (w : World) (hv : RL w v ms) (hv2 : RL w v2 ks) :
    Ret Try.prog 42 #[.agg #[v], .agg #[v2]] w fun r w' => ∃ x, r = .tuple #[x, .int .i64 (covOfC ms ks)] ∧ OI w' w.heap.size 2 x (covOf ms ks) ∧ Below w.heap.size w w' := by
  have shv := hv.sv
  have shv2 := hv2.sv
  have hb := Below.refl w.heap.size w
  refine enter2 24 Try.func42 rfl Try.ntmps42 rfl (fun fr => ?_)
  refine go ?_
  refine s_box (wn rfl) rfl rfl (agg_cells shv) (fun w1 hbx _ hp hg => ?_)
  have hb1 := below_of_grownBy hg
  replace hv := hv.below hb1
  replace hv2 := hv2.below hb1
  replace hb := hb.trans (hb1.mono hb.size)
  clear hg hp hb1
  generalize (⟨w.heap.size, 0, none⟩ : Addr) = p at *
  refine go ?_
  refine s_box (wn rfl) rfl rfl (agg_cells shv2) (fun w2 hbx2 _ hp hg => ?_)
  have hb2 := below_of_grownBy hg
  replace hv := hv.below hb2
  replace hv2 := hv2.below hb2
  replace hbx := cell_below hbx hb2
  replace hb := hb.trans (hb2.mono hb.size)
  clear hg hp hb2
  generalize (⟨w1.heap.size, 0, none⟩ : Addr) = p2 at *
  refine go ?_
  refine s_call1 (wn rfl) rfl rfl (l02Is_any _ _ _ hv) ?_
  rintro _ w3 ⟨rfl, hb3⟩
  replace hv := hv.below hb3
  replace hv2 := hv2.below hb3
  replace hbx := cell_below hbx hb3
  replace hbx2 := cell_below hbx2 hb3
  replace hb := hb.trans (hb3.mono hb.size)
  refine splitb (decide (IsMan ms)) (fun hm => ?_) (fun hm => ?_)
  rotate_left
  · have hm := of_decide_eq_false hm
    have e := covOf_1 (ms := ms) (ks := ks) (fun h => hm h.1)
    refine go ?_
    exact end_two Try.results42 rfl rfl ⟨.slice none 0 0, by rw [e.2], by rw [e.1]; exact OI.nil _ _ _, hb⟩
  have hm' := of_decide_eq_true hm
  refine go ?_
  refine s_call1 (wy rfl rfl rfl rfl rfl known) rfl rfl (l02Is_any _ _ _ hv2) ?_
  rintro _ w4 ⟨rfl, hb4⟩
  replace hv := hv.below hb4
  replace hv2 := hv2.below hb4
  replace hbx := cell_below hbx hb4
  replace hbx2 := cell_below hbx2 hb4
  replace hb := hb.trans (hb4.mono hb.size)
  refine splitb (decide (IsMan ks)) (fun hk => ?_) (fun hk => ?_)
  rotate_left
  · have hk := of_decide_eq_false hk
    have e := covOf_1 (ms := ms) (ks := ks) (fun h => hk h.2)
    refine go ?_
    exact end_two Try.results42 rfl rfl ⟨.slice none 0 0, by rw [e.2], by rw [e.1]; exact OI.nil _ _ _, hb⟩
  have hk' := of_decide_eq_true hk
  have hs0 := hb.size
  refine go ?_
  refine s_call2 (wn rfl) rfl rfl rfl (l07Covers_any _ _ _ _ _ hv hv2 hm' hk') ?_
  rintro x w5 ⟨hx, hb5⟩
  replace hv := hv.below hb5
  replace hv2 := hv2.below hb5
  replace hbx := cell_below hbx hb5
  replace hbx2 := cell_below hbx2 hb5
  replace hb := hb.trans (hb5.mono hb.size)
  have sx := hx.sv
  refine go ?_
  refine cond_dec rfl (fun h => ?_) (fun h => ?_)
  · have e := covOf_2 hm' hk' (by omega)
    refine go ?_
    exact end_two Try.results42 rfl rfl ⟨.slice none 0 0, by rw [e.2], by rw [e.1]; exact OI.nil _ _ _, hb⟩
  have e := covOf_3 hm' hk' (by omega)
  obtain ⟨u, hu, hc⟩ := hx.row (j := 0) (by omega) (by omega)
  refine go ?_
  have hc : _ := hc
  refine go ?_
  exact end_two Try.results42 rfl rfl ⟨u, by rw [e.2], by rw [e.1]; exact hu.mono hs0, hb⟩

set_option maxRecDepth 100000 in
theorem implCoveringOf_any (v : Value) (v2 : Value) (ms : List (List Int)) (ks : List (List Int)) (w : World) (hv : RL w v ms) (hv2 : RL w v2 ks) :
    Ret Try.prog 43 #[.agg #[v], .agg #[v2]] w fun r w' => ∃ x, r = .tuple #[x, .int .i64 (covOfC ms ks)] ∧ OI w' w.heap.size 2 x (covOf ms ks) ∧ Below w.heap.size w w' := by
  have shv := hv.sv
  have shv2 := hv2.sv
  have hb := Below.refl w.heap.size w
  refine enter2 24 Try.func43 rfl Try.ntmps43 rfl (fun fr => ?_)
  refine go ?_
  refine s_box (wn rfl) rfl rfl (agg_cells shv) (fun w1 hbx _ hp hg => ?_)
  have hb1 := below_of_grownBy hg
  replace hv := hv.below hb1
  replace hv2 := hv2.below hb1
  replace hb := hb.trans (hb1.mono hb.size)
  clear hg hp hb1
  generalize (⟨w.heap.size, 0, none⟩ : Addr) = p at *
  refine go ?_
  refine s_box (wn rfl) rfl rfl (agg_cells shv2) (fun w2 hbx2 _ hp hg => ?_)
  have hb2 := below_of_grownBy hg
  replace hv := hv.below hb2
  replace hv2 := hv2.below hb2
  replace hbx := cell_below hbx hb2
  replace hb := hb.trans (hb2.mono hb.size)
  clear hg hp hb2
  generalize (⟨w1.heap.size, 0, none⟩ : Addr) = p2 at *
  refine go ?_
  refine s_call1 (wn rfl) rfl rfl (isManiplex_any _ _ _ hv) ?_
  rintro _ w3 ⟨rfl, hb3⟩
  replace hv := hv.below hb3
  replace hv2 := hv2.below hb3
  replace hbx := cell_below hbx hb3
  replace hbx2 := cell_below hbx2 hb3
  replace hb := hb.trans (hb3.mono hb.size)
  refine splitb (decide (IsMan ms)) (fun hm => ?_) (fun hm => ?_)
  rotate_left
  · have hm := of_decide_eq_false hm
    have e := covOf_1 (ms := ms) (ks := ks) (fun h => hm h.1)
    refine go ?_
    exact end_two Try.results43 rfl rfl ⟨.slice none 0 0, by rw [e.2], by rw [e.1]; exact OI.nil _ _ _, hb⟩
  have hm' := of_decide_eq_true hm
  refine go ?_
  refine s_call1 (wy rfl rfl rfl rfl rfl known) rfl rfl (isManiplex_any _ _ _ hv2) ?_
  rintro _ w4 ⟨rfl, hb4⟩
  replace hv := hv.below hb4
  replace hv2 := hv2.below hb4
  replace hbx := cell_below hbx hb4
  replace hbx2 := cell_below hbx2 hb4
  replace hb := hb.trans (hb4.mono hb.size)
  refine splitb (decide (IsMan ks)) (fun hk => ?_) (fun hk => ?_)
  rotate_left
  · have hk := of_decide_eq_false hk
    have e := covOf_1 (ms := ms) (ks := ks) (fun h => hk h.2)
    refine go ?_
    exact end_two Try.results43 rfl rfl ⟨.slice none 0 0, by rw [e.2], by rw [e.1]; exact OI.nil _ _ _, hb⟩
  have hk' := of_decide_eq_true hk
  have hs0 := hb.size
  refine go ?_
  refine s_call2 (wn rfl) rfl rfl rfl (coveringsOf_any _ _ _ _ _ hv hv2 hm' hk') ?_
  rintro x w5 ⟨hx, hb5⟩
  replace hv := hv.below hb5
  replace hv2 := hv2.below hb5
  replace hbx := cell_below hbx hb5
  replace hbx2 := cell_below hbx2 hb5
  replace hb := hb.trans (hb5.mono hb.size)
  have sx := hx.sv
  refine go ?_
  refine cond_dec rfl (fun h => ?_) (fun h => ?_)
  · have e := covOf_2 hm' hk' (by omega)
    refine go ?_
    exact end_two Try.results43 rfl rfl ⟨.slice none 0 0, by rw [e.2], by rw [e.1]; exact OI.nil _ _ _, hb⟩
  have e := covOf_3 hm' hk' (by omega)
  obtain ⟨u, hu, hc⟩ := hx.row (j := 0) (by omega) (by omega)
  refine go ?_
  have hc : _ := hc
  refine go ?_
  exact end_two Try.results43 rfl rfl ⟨u, by rw [e.2], by rw [e.1]; exact hu.mono hs0, hb⟩

set_option maxRecDepth 100000 in
theorem specIsomorphismOf_any (v : Value) (v2 : Value) (ms : List (List Int)) (ks : List (List Int)) (w : World) (hv : RL w v ms) (hv2 : RL w v2 ks) :
    Ret Try.prog 48 #[.agg #[v], .agg #[v2]] w fun r w' => ∃ x, r = .tuple #[x, .int .i64 (isoToC ms ks)] ∧ OI w' w.heap.size 2 x (isoTo ms ks) ∧ Below w.heap.size w w' := by
  have shv := hv.sv
  have shv2 := hv2.sv
  have hb := Below.refl w.heap.size w
  refine enter2 25 Try.func48 rfl Try.ntmps48 rfl (fun fr => ?_)
  refine go ?_
  refine s_box (wn rfl) rfl rfl (agg_cells shv) (fun w1 hbx _ hp hg => ?_)
  have hb1 := below_of_grownBy hg
  replace hv := hv.below hb1
  replace hv2 := hv2.below hb1
  replace hb := hb.trans (hb1.mono hb.size)
  clear hg hp hb1
  generalize (⟨w.heap.size, 0, none⟩ : Addr) = p at *
  refine go ?_
  refine s_box (wn rfl) rfl rfl (agg_cells shv2) (fun w2 hbx2 _ hp hg => ?_)
  have hb2 := below_of_grownBy hg
  replace hv := hv.below hb2
  replace hv2 := hv2.below hb2
  replace hbx := cell_below hbx hb2
  replace hb := hb.trans (hb2.mono hb.size)
  clear hg hp hb2
  generalize (⟨w1.heap.size, 0, none⟩ : Addr) = p2 at *
  refine go ?_
  refine s_call1 (wn rfl) rfl rfl (l02Is_any _ _ _ hv) ?_
  rintro _ w3 ⟨rfl, hb3⟩
  replace hv := hv.below hb3
  replace hv2 := hv2.below hb3
  replace hbx := cell_below hbx hb3
  replace hbx2 := cell_below hbx2 hb3
  replace hb := hb.trans (hb3.mono hb.size)
  refine splitb (decide (IsMan ms)) (fun hm => ?_) (fun hm => ?_)
  rotate_left
  · have hm := of_decide_eq_false hm
    have e := isoTo_1 (ms := ms) (ks := ks) (fun h => hm h.1)
    refine go ?_
    exact end_two Try.results48 rfl rfl ⟨.slice none 0 0, by rw [e.2], by rw [e.1]; exact OI.nil _ _ _, hb⟩
  have hm' := of_decide_eq_true hm
  refine go ?_
  refine s_call1 (wy rfl rfl rfl rfl rfl known) rfl rfl (l02Is_any _ _ _ hv2) ?_
  rintro _ w4 ⟨rfl, hb4⟩
  replace hv := hv.below hb4
  replace hv2 := hv2.below hb4
  replace hbx := cell_below hbx hb4
  replace hbx2 := cell_below hbx2 hb4
  replace hb := hb.trans (hb4.mono hb.size)
  refine splitb (decide (IsMan ks)) (fun hk => ?_) (fun hk => ?_)
  rotate_left
  · have hk := of_decide_eq_false hk
    have e := isoTo_1 (ms := ms) (ks := ks) (fun h => hk h.2)
    refine go ?_
    exact end_two Try.results48 rfl rfl ⟨.slice none 0 0, by rw [e.2], by rw [e.1]; exact OI.nil _ _ _, hb⟩
  have hk' := of_decide_eq_true hk
  have hs0 := hb.size
  refine go ?_
  refine s_call2 (wn rfl) rfl rfl rfl (l06First_any _ _ _ _ _ hv hv2 hm' hk') ?_
  rintro _ w5 ⟨x, rfl, hx, hb5⟩
  replace hv := hv.below hb5
  replace hv2 := hv2.below hb5
  replace hbx := cell_below hbx hb5
  replace hbx2 := cell_below hbx2 hb5
  replace hb := hb.trans (hb5.mono hb.size)
  refine splitb ((isoOf ms ks).isSome) (fun ho => ?_) (fun ho => ?_)
  rotate_left
  · have e := isoTo_2 hm' hk' ho
    refine go ?_
    exact end_two Try.results48 rfl rfl ⟨.slice none 0 0, by rw [e.2], by rw [e.1]; exact OI.nil _ _ _, hb⟩
  have e := isoTo_3 hm' hk' ho
  refine go ?_
  exact end_two Try.results48 rfl rfl ⟨x, by rw [e.2], by rw [e.1]; exact hx.oi.mono hs0, hb⟩

set_option maxRecDepth 100000 in
theorem implIsomorphismOf_any (v : Value) (v2 : Value) (ms : List (List Int)) (ks : List (List Int)) (w : World) (hv : RL w v ms) (hv2 : RL w v2 ks) :
    Ret Try.prog 49 #[.agg #[v], .agg #[v2]] w fun r w' => ∃ x, r = .tuple #[x, .int .i64 (isoToC ms ks)] ∧ OI w' w.heap.size 2 x (isoTo ms ks) ∧ Below w.heap.size w w' := by
  have shv := hv.sv
  have shv2 := hv2.sv
  have hb := Below.refl w.heap.size w
  refine enter2 21 Try.func49 rfl Try.ntmps49 rfl (fun fr => ?_)
  refine go ?_
  refine s_box (wn rfl) rfl rfl (agg_cells shv) (fun w1 hbx _ hp hg => ?_)
  have hb1 := below_of_grownBy hg
  replace hv := hv.below hb1
  replace hv2 := hv2.below hb1
  replace hb := hb.trans (hb1.mono hb.size)
  clear hg hp hb1
  generalize (⟨w.heap.size, 0, none⟩ : Addr) = p at *
  refine go ?_
  refine s_box (wn rfl) rfl rfl (agg_cells shv2) (fun w2 hbx2 _ hp hg => ?_)
  have hb2 := below_of_grownBy hg
  replace hv := hv.below hb2
  replace hv2 := hv2.below hb2
  replace hbx := cell_below hbx hb2
  replace hb := hb.trans (hb2.mono hb.size)
  clear hg hp hb2
  generalize (⟨w1.heap.size, 0, none⟩ : Addr) = p2 at *
  refine go ?_
  refine s_call1 (wn rfl) rfl rfl (isManiplex_any _ _ _ hv) ?_
  rintro _ w3 ⟨rfl, hb3⟩
  replace hv := hv.below hb3
  replace hv2 := hv2.below hb3
  replace hbx := cell_below hbx hb3
  replace hbx2 := cell_below hbx2 hb3
  replace hb := hb.trans (hb3.mono hb.size)
  refine splitb (decide (IsMan ms)) (fun hm => ?_) (fun hm => ?_)
  rotate_left
  · have hm := of_decide_eq_false hm
    have e := isoTo_1 (ms := ms) (ks := ks) (fun h => hm h.1)
    refine go ?_
    exact end_two Try.results49 rfl rfl ⟨.slice none 0 0, by rw [e.2], by rw [e.1]; exact OI.nil _ _ _, hb⟩
  have hm' := of_decide_eq_true hm
  refine go ?_
  refine s_call1 (wy rfl rfl rfl rfl rfl known) rfl rfl (isManiplex_any _ _ _ hv2) ?_
  rintro _ w4 ⟨rfl, hb4⟩
  replace hv := hv.below hb4
  replace hv2 := hv2.below hb4
  replace hbx := cell_below hbx hb4
  replace hbx2 := cell_below hbx2 hb4
  replace hb := hb.trans (hb4.mono hb.size)
  refine splitb (decide (IsMan ks)) (fun hk => ?_) (fun hk => ?_)
  rotate_left
  · have hk := of_decide_eq_false hk
    have e := isoTo_1 (ms := ms) (ks := ks) (fun h => hk h.2)
    refine go ?_
    exact end_two Try.results49 rfl rfl ⟨.slice none 0 0, by rw [e.2], by rw [e.1]; exact OI.nil _ _ _, hb⟩
  have hk' := of_decide_eq_true hk
  have hs0 := hb.size
  refine go ?_
  refine s_call2 (wn rfl) rfl rfl rfl (isomorphismOf_any _ _ _ _ _ hv hv2 hm' hk' (covers_ne hm')) ?_
  rintro x w5 ⟨hx, hb5⟩
  replace hv := hv.below hb5
  replace hv2 := hv2.below hb5
  replace hbx := cell_below hbx hb5
  replace hbx2 := cell_below hbx2 hb5
  replace hb := hb.trans (hb5.mono hb.size)
  have sx := hx.sv
  have hn := hx.nilV
  cases ho : isoOf ms ks with
  | none =>
    rw [ho] at hn
    have hn : nilV x = true := hn
    have e := isoTo_2 hm' hk' (by rw [ho]; rfl)
    refine go ?_
    exact end_two Try.results49 rfl rfl ⟨.slice none 0 0, by rw [e.2], by rw [e.1]; exact OI.nil _ _ _, hb⟩
  | some q =>
    rw [ho] at hn
    have hn : nilV x = false := hn
    have e := isoTo_3 hm' hk' (by rw [ho]; rfl)
    refine go ?_
    exact end_two Try.results49 rfl rfl ⟨x, by rw [e.2], by rw [e.1]; exact hx.oi.mono hs0, hb⟩

end Go.Proofs.Ytebcaajlkealoaa
