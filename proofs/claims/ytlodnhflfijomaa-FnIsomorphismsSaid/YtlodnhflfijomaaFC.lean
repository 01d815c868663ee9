/- Texts laid together: F13 F15 F16. -/
import Derived.Test.YtlodnhflfijomaaFB
import Derived.Test.YtlodnhflfijomaaPA
import Derived.Test.YtlodnhflfijomaaPB
/- Contracts: the first isomorphism. -/
namespace Go.Proofs.Ytlodnhflfijomaa
open Go.Mem Go.RowKit

theorem l06Fits_any (v v2 : Value) (ms ks : List (List Int)) (w : World) (hv : RL w v ms) (hv2 : RL w v2 ks) (h1 : 1 ≤ ms.length) (h2 : 1 ≤ ks.length) :
    Ret Try.prog 167 #[.agg #[v], .agg #[v2]] w fun r w' => r = .bool (decide (ms.length = ks.length ∧ nf ms = nf ks)) ∧ Below w.heap.size w w' := by
  have sv := hv.sv
  have sv2 := hv2.sv
  refine enter2 19 Try.func167 rfl Try.ntmps167 rfl (fun fr => ?_)
  refine go ?_
  refine s_box (wn rfl) rfl rfl (agg_cells sv) (fun w1 hbx _ hp1 hg => ?_)
  have hb := below_of_grownBy hg
  have hv := hv.below hb
  have hv2 := hv2.below hb
  generalize hpe : (⟨w.heap.size, 0, none⟩ : Addr) = p at *
  refine s_box (wn rfl) rfl rfl (agg_cells sv2) (fun w2 hbx2 _ hp2 hg2 => ?_)
  have hb2 := below_of_grownBy hg2
  have hbx := cell_below hbx hb2
  have hv := hv.below hb2
  have hv2 := hv2.below hb2
  have hb := hb.trans (hb2.mono hb.size)
  clear hb2 hg hg2 hp1 hp2
  generalize (⟨w1.heap.size, 0, none⟩ : Addr) = p2 at *
  refine split (p := (ms.length : Int) = ks.length) (fun hl => ?_) (fun hl => ?_)
  · refine split (p := (nf ms : Int) = nf ks) (fun hn => ?_) (fun hn => ?_)
    all_goals
      refine go ?_
      refine region_q mixed (by kernel_rfl) ?_
      refine qo ?_
      refine q_call1 (wy rfl rfl rfl rfl rfl known) rfl rfl (fun w hw => l02Flags_any _ _ _ (hv.below hw) h1) ?_
      refine qo ?_
      refine q_call1 (wy rfl rfl rfl rfl rfl known) rfl rfl (fun w hw => l02Flags_any _ _ _ (hv2.below hw) h2) ?_
      refine qo ?_
      refine q_nil ?_
      intro w3 hb3
      refine go ?_
      refine end_one Try.results167 rfl ⟨?_, hb.trans (hb3.mono hb.size)⟩
      refine congrArg Value.bool ?_
      exact decide_eq_decide.2 (by omega)
  · refine go ?_
    refine region_q mixed (by kernel_rfl) ?_; refine qo ?_; refine q_nil ?_
    intro w3 hb3
    refine go ?_
    refine end_one Try.results167 rfl ⟨?_, hb.trans (hb3.mono hb.size)⟩
    refine congrArg Value.bool ?_
    exact (decide_eq_false (by omega)).symm

set_option maxRecDepth 100000 in
set_option maxHeartbeats 8000000 in
theorem l06First_any (v v2 : Value) (ms ks : List (List Int)) (w : World) (hv : RL w v ms) (hv2 : RL w v2 ks) (hm : IsMan ms) (hk : IsMan ks) :
    Ret Try.prog 110 #[.agg #[v], .agg #[v2]] w fun r w' => ∃ x, r = .tuple #[x, .bool (isoOf ms ks).isSome] ∧ MapR w' w.heap.size 2 x (isoOf ms ks) ∧ Below w.heap.size w w' := by
  have sv := hv.sv
  have sv2 := hv2.sv
  have hr1 := hm.m0.r1
  have hk1 := hk.m0.r1
  have hf4 := hk.m0.f400
  refine enter2 28 Try.func110 rfl Try.ntmps110 rfl (fun fr => ?_)
  refine go ?_
  refine s_box (wn rfl) rfl rfl (agg_cells sv) (fun w1 hbx _ hp1 hg => ?_)
  have hb := below_of_grownBy hg
  have hv := hv.below hb
  have hv2 := hv2.below hb
  generalize hpe : (⟨w.heap.size, 0, none⟩ : Addr) = p at *
  refine s_box (wn rfl) rfl rfl (agg_cells sv2) (fun w2 hbx2 _ hp2 hg2 => ?_)
  have hb2 := below_of_grownBy hg2
  have hbx := cell_below hbx hb2
  have hv := hv.below hb2
  have hv2 := hv2.below hb2
  have hb := hb.trans (hb2.mono hb.size)
  clear hb2 hg hg2 hp1 hp2
  generalize (⟨w1.heap.size, 0, none⟩ : Addr) = p2 at *
  refine go ?_
  refine s_call2 (wn rfl) rfl rfl rfl (l06Fits_any _ _ _ _ _ hv hv2 hr1 hk1) ?_
  rintro _ w3 ⟨rfl, hb3⟩
  refine splitb (decide (ms.length = ks.length ∧ nf ms = nf ks)) (fun hfit => ?_) (fun hfit => ?_)
  rotate_left
  · have hfit' := of_decide_eq_false hfit
    have e := isoOf_far hfit'
    refine go ?_
    exact end_two Try.results110 rfl rfl ⟨_, by rw [e]; rfl, by rw [e]; rfl, hb.trans (hb3.mono hb.size)⟩
  obtain ⟨hl, hn⟩ := of_decide_eq_true hfit
  refine go ?_
  refine w_loop (fun k fr w' => ∃ (i : Nat), k = nf ks - i ∧ i ≤ nf ks ∧ fr 2 = .pointer (some p) ∧ fr 3 = .pointer (some p2) ∧ fr 6 = .int .i64 i ∧ covers ms ks i = [] ∧ Below w2.heap.size w2 w') (nf ks)
    ⟨0, rfl, Nat.zero_le _, rfl, rfl, rfl, covers_zero _ _, hb3⟩ ?_
  rintro k fr w4 ⟨i, rfl, hi, f2, f3, f6, hc0, hb4⟩
  have hbx4 := cell_below hbx2 hb4
  refine know (t := 2) f2 ?_; refine know (t := 3) f3 ?_; refine know (t := 6) f6 ?_
  refine go ?_
  refine s_call1 (wn rfl) rfl rfl (l02Flags_any _ _ _ (hv2.below hb4) hk1) ?_
  rintro _ w5 ⟨rfl, hb5⟩
  have hb25 := hb4.trans (hb5.mono hb4.size)
  have hbx5 := cell_below hbx hb25
  have hbx25 := cell_below hbx2 hb25
  refine go ?_
  refine cond_dec rfl (fun hlt => ?_) (fun hge => ?_)
  · refine go ?_
    refine s_call3 (wn rfl) rfl rfl rfl rfl (l06Map_any _ _ _ _ _ _ (hv.below hb25) (hv2.below hb25) hm hk hl (by omega)) ?_
    rintro _ w6 ⟨r, rfl, hr, hb6⟩
    have hb26 := hb25.trans (hb6.mono hb25.size)
    have hmT : mapT ms ks i = mapTo ms ks i := by unfold mapT; rw [if_pos hl]
    cases hmt : mapTo ms ks i with
    | none =>
      rw [hmt] at hmT
      have hs : (none : Option (List Int)).isSome = false := rfl
      refine go ?_
      exact ⟨nf ks - (i + 1), by omega, i + 1, rfl, by omega, rfl, rfl, rfl, by rw [covers_none hmT]; exact hc0, hb26⟩
    | some xs =>
      rw [hmt] at hr hmT
      have hs : (some xs : Option (List Int)).isSome = true := rfl
      have e := isoOf_hit hn (by omega) hc0 hmT
      refine go ?_
      exact end_two Try.results110 rfl rfl ⟨r, by rw [e]; rfl, by rw [e]; exact ⟨hr.1.mono (by have := hb25.size; have := hb.size; omega), hr.2⟩, hb.trans (hb26.mono hb.size)⟩
  · obtain rfl : i = nf ks := by omega
    have e := isoOf_miss hc0
    refine go ?_
    exact end_two Try.results110 rfl rfl ⟨_, by rw [e]; rfl, by rw [e]; rfl, hb.trans (hb25.mono hb.size)⟩

theorem isoOf_cov {ms ks : List (List Int)} (hn : nf ms = nf ks) : isoOf ms ks = (covers ms ks (nf ks)).head? := by unfold isoOf; rw [if_pos hn]

set_option maxRecDepth 100000 in
theorem isomorphismOf_any (v v2 : Value) (ms ks : List (List Int)) (w : World) (hv : RL w v ms) (hv2 : RL w v2 ks) (hm : IsMan ms) (hk : IsMan ks) (hne : ∀ xs ∈ covers ms ks (nf ks), xs ≠ []) :
    Ret Try.prog 109 #[.agg #[v], .agg #[v2]] w fun r w' => MapR w' w.heap.size 2 r (isoOf ms ks) ∧ Below w.heap.size w w' := by
  have sv := hv.sv
  have sv2 := hv2.sv
  have hr1 := hm.m0.r1
  have hk1 := hk.m0.r1
  refine enter2 18 Try.func109 rfl Try.ntmps109 rfl (fun fr => ?_)
  refine go ?_
  refine s_box (wn rfl) rfl rfl (agg_cells sv) (fun w1 hbx _ hp1 hg => ?_)
  have hb := below_of_grownBy hg
  have hv := hv.below hb
  have hv2 := hv2.below hb
  generalize hpe : (⟨w.heap.size, 0, none⟩ : Addr) = p at *
  refine s_box (wn rfl) rfl rfl (agg_cells sv2) (fun w2 hbx2 _ hp2 hg2 => ?_)
  have hb2 := below_of_grownBy hg2
  have hbx := cell_below hbx hb2
  have hv := hv.below hb2
  have hv2 := hv2.below hb2
  have hb := hb.trans (hb2.mono hb.size)
  clear hb2 hg hg2 hp1 hp2
  generalize (⟨w1.heap.size, 0, none⟩ : Addr) = p2 at *
  refine go ?_
  refine s_call1 (wn rfl) rfl rfl (flags_any _ _ _ _ hbx hv hr1) ?_
  rintro _ _ ⟨rfl, rfl⟩
  refine s_call1 (wn rfl) rfl rfl (flags_any _ _ _ _ hbx2 hv2 hk1) ?_
  rintro _ _ ⟨rfl, rfl⟩
  refine split (p := (nf ms : Int) ≠ nf ks) (fun hn => ?_) (fun hn => ?_)
  · have e : isoOf ms ks = none := isoOf_far (by omega)
    refine go ?_
    exact end_one Try.results109 rfl ⟨by rw [e]; rfl, hb⟩
  have e := isoOf_cov (ms := ms) (ks := ks) (by omega)
  refine go ?_
  refine s_call2 (wn rfl) rfl rfl rfl (coveringsOf_any _ _ _ _ _ hv hv2 hm hk) ?_
  rintro r w3 ⟨hr, hb3⟩
  have sr := hr.sv
  have hbw := hb.trans (hb3.mono hb.size)
  rw [e]
  refine split (p := ((covers ms ks (nf ks)).length : Int) = 0) (fun h0 => ?_) (fun h0 => ?_)
  · refine go ?_
    have e0 : covers ms ks (nf ks) = [] := List.length_eq_zero_iff.1 (by omega)
    exact end_one Try.results109 rfl ⟨by rw [e0]; rfl, hbw⟩
  · obtain ⟨u, hu, hc⟩ := hr.row (j := 0) (by omega) (by omega)
    refine go ?_
    have eh : (covers ms ks (nf ks)).head? = some (gr (covers ms ks (nf ks)) 0) := by
      cases hcv : covers ms ks (nf ks) with
      | nil => rw [hcv] at h0; simp at h0
      | cons a l => rfl
    refine end_one Try.results109 rfl ⟨?_, hbw⟩
    rw [eh]
    exact ⟨hu.mono hb.size, hne _ (by
      have : 0 < (covers ms ks (nf ks)).length := by omega
      simp [gr, List.getD, this])⟩
end Go.Proofs.Ytlodnhflfijomaa

/- Contracts: CountCoverings, AreCovered, AreIsomorphic, on both sides. -/
namespace Go.Proofs.Ytlodnhflfijomaa
open Go.Mem Go.RowKit

/-- the code of two maniplexes -/
noncomputable def manCode2 (ms ks : List (List Int)) : Int := if IsMan ms ∧ IsMan ks then 0 else 1
noncomputable def cntCov (ms ks : List (List Int)) : Int := if IsMan ms ∧ IsMan ks then ((covers ms ks (nf ks)).length : Nat) else 0
noncomputable def areCov (ms ks : List (List Int)) : Bool := if IsMan ms ∧ IsMan ks then decide (0 < ((covers ms ks (nf ks)).length : Int)) else false
noncomputable def areIso (ms ks : List (List Int)) : Bool := if IsMan ms ∧ IsMan ks then (isoOf ms ks).isSome else false

theorem implAreIsomorphic_any (v v2 : Value) (ms ks : List (List Int)) (w : World) (hv : RL w v ms) (hv2 : RL w v2 ks) :
    Ret Try.prog 49 #[.agg #[v], .agg #[v2]] w fun r w' => r = .tuple #[.bool (areIso ms ks), .int .i64 (manCode2 ms ks)] ∧ Below w.heap.size w w' := by
  have sv := hv.sv
  have sv2 := hv2.sv
  refine enter2 18 Try.func49 rfl Try.ntmps49 rfl (fun fr => ?_)
  refine go ?_
  refine s_box (wn rfl) rfl rfl (agg_cells sv) (fun w1 hbx _ hp1 hg => ?_)
  have hb := below_of_grownBy hg
  have hv := hv.below hb
  have hv2 := hv2.below hb
  generalize hpe : (⟨w.heap.size, 0, none⟩ : Addr) = p at *
  refine s_box (wn rfl) rfl rfl (agg_cells sv2) (fun w2 hbx2 _ hp2 hg2 => ?_)
  have hb2 := below_of_grownBy hg2
  have hbx := cell_below hbx hb2
  have hv := hv.below hb2
  have hv2 := hv2.below hb2
  have hb := hb.trans (hb2.mono hb.size)
  clear hb2 hg hg2 hp1 hp2
  generalize (⟨w1.heap.size, 0, none⟩ : Addr) = p2 at *
  refine go ?_
  refine s_call1 (wn rfl) rfl rfl (isManiplex_any _ _ _ hv) ?_
  rintro _ w3 ⟨rfl, hb3⟩
  have hv := hv.below hb3
  have hv2 := hv2.below hb3
  have hbx := cell_below hbx hb3
  have hbx2 := cell_below hbx2 hb3
  have hb := hb.trans (hb3.mono hb.size)
  refine splitb (decide (IsMan ms)) (fun hm => ?_) (fun hm => ?_)
  rotate_left
  · have hm' := of_decide_eq_false hm
    refine go ?_
    exact end_two Try.results49 rfl rfl ⟨by unfold areIso manCode2; rw [if_neg (fun h => hm' h.1), if_neg (fun h => hm' h.1)], hb⟩
  have hm' := of_decide_eq_true hm
  refine go ?_
  refine s_call1 (wy rfl rfl rfl rfl rfl known) rfl rfl (isManiplex_any _ _ _ hv2) ?_
  rintro _ w4 ⟨rfl, hb4⟩
  have hv := hv.below hb4
  have hv2 := hv2.below hb4
  have hbx := cell_below hbx hb4
  have hbx2 := cell_below hbx2 hb4
  have hb := hb.trans (hb4.mono hb.size)
  refine splitb (decide (IsMan ks)) (fun hk => ?_) (fun hk => ?_)
  rotate_left
  · have hk' := of_decide_eq_false hk
    refine go ?_
    exact end_two Try.results49 rfl rfl ⟨by unfold areIso manCode2; rw [if_neg (fun h => hk' h.2), if_neg (fun h => hk' h.2)], hb⟩
  have hk' := of_decide_eq_true hk
  refine go ?_
  refine s_call2 (wn rfl) rfl rfl rfl (isomorphismOf_any _ _ _ _ _ hv hv2 hm' hk' (covers_ne hm')) ?_
  rintro r w5 ⟨hr, hb5⟩
  have sr := hr.sv
  have hb := hb.trans (hb5.mono hb.size)
  have hnil := hr.nilV
  have hsome : (!nilV r) = (isoOf ms ks).isSome := by rw [hnil]; cases isoOf ms ks <;> rfl
  refine go ?_
  rw [hsome]
  exact end_two Try.results49 rfl rfl ⟨by unfold areIso manCode2; rw [if_pos ⟨hm', hk'⟩, if_pos ⟨hm', hk'⟩], hb⟩
end Go.Proofs.Ytlodnhflfijomaa

/- Contracts: AutomorphismTo, AutomorphismsOf, CoveringOf, IsomorphismOf, FlagOrbits, IsRegular, on both sides. -/
namespace Go.Proofs.Ytlodnhflfijomaa
open Go.Mem Go.RowKit
set_option linter.unusedVariables false


theorem MapR.oi {w : World} {B : Nat} {T : TypeId} {r : Value} {m : Option (List Int)} (h : MapR w B T r m) : OI w B T r (m.getD []) := by
  cases m with
  | none => obtain rfl : r = .slice none 0 0 := h; exact OI.nil w B T
  | some xs => exact h.1
theorem inB_iff {n lo hi : Int} : inB n lo hi = decide (lo ≤ n ∧ n ≤ hi) := by
  unfold inB; by_cases h1 : lo ≤ n <;> by_cases h2 : n ≤ hi <;> simp [h1, h2]
theorem inB_flag {n : Int} {m : Nat} : inB n 0 ((m : Int) - 1) = decide (0 ≤ n ∧ n < m) := by
  rw [inB_iff, decide_eq_decide]; omega

set_option maxRecDepth 100000 in
theorem l02Flag_any (v : Value) (ms : List (List Int)) (f : Int) (w : World) (hv : RL w v ms) (h1 : 1 ≤ ms.length) (h4 : nf ms ≤ 400) :
    Ret Try.prog 147 #[.agg #[v], .int .i64 f] w fun r w' => r = .bool (decide (0 ≤ f ∧ f < nf ms)) ∧ Below w.heap.size w w' := by
  have shv := hv.sv
  have hb := Below.refl w.heap.size w
  refine enter2 10 Try.func147 rfl Try.ntmps147 rfl (fun fr => ?_)
  refine go ?_
  refine s_box (wn rfl) rfl rfl (agg_cells shv) (fun w1 hbx _ hp hg => ?_)
  have hb1 := below_of_grownBy hg
  replace hv := hv.below hb1
  replace hb := hb.trans (hb1.mono hb.size)
  clear hg hp hb1
  generalize (⟨w.heap.size, 0, none⟩ : Addr) = p at *
  refine go ?_
  refine s_call1 (wn rfl) rfl rfl (l02Flags_any _ _ _ hv h1) ?_
  rintro _ w2 ⟨rfl, hb2⟩
  replace hv := hv.below hb2
  replace hbx := cell_below hbx hb2
  replace hb := hb.trans (hb2.mono hb.size)
  refine go ?_
  refine s_call3 (wn rfl) rfl rfl rfl rfl (l01In_any _ _ _ _) ?_
  rintro _ _ ⟨rfl, rfl⟩
  refine go ?_
  exact end_one Try.results147 rfl ⟨by rw [inB_flag], hb⟩

set_option maxRecDepth 100000 in
theorem hasFlag_any (v : Value) (pv : Addr) (ms : List (List Int)) (f : Int) (w : World) (hv : RL w v ms) (hxv : w.cell? pv = some v) (h1 : 1 ≤ ms.length) (h4 : nf ms ≤ 400) :
    Ret Try.prog 95 #[.pointer (some pv), .int .i64 f] w fun r w' => r = .bool (decide (0 ≤ f ∧ f < nf ms)) ∧ w = w' := by
  have shv := hv.sv
  have hb := Below.refl w.heap.size w
  refine enter2 10 Try.func95 rfl Try.ntmps95 rfl (fun fr => ?_)
  refine go ?_
  refine s_call1 (wn rfl) rfl rfl (flags_any _ _ _ _ hxv hv h1) ?_
  rintro _ _ ⟨rfl, rfl⟩
  refine go ?_
  refine s_call3 (wn rfl) rfl rfl rfl rfl (within_any _ _ _ _) ?_
  rintro _ _ ⟨rfl, rfl⟩
  refine go ?_
  exact end_one Try.results95 rfl ⟨by rw [inB_flag], rfl⟩

set_option maxRecDepth 100000 in
theorem implAutomorphismTo_any (v : Value) (ms : List (List Int)) (f : Int) (w : World) (hv : RL w v ms) :
    Ret Try.prog 45 #[.agg #[v], .int .i64 f] w fun r w' => ∃ x, r = .tuple #[x, .int .i64 (autToC ms f)] ∧ OI w' w.heap.size 2 x (autTo ms f) ∧ Below w.heap.size w w' := by
  have shv := hv.sv
  have hb := Below.refl w.heap.size w
  refine enter2 22 Try.func45 rfl Try.ntmps45 rfl (fun fr => ?_)
  refine go ?_
  refine s_box (wn rfl) rfl rfl (agg_cells shv) (fun w1 hbx _ hp hg => ?_)
  have hb1 := below_of_grownBy hg
  replace hv := hv.below hb1
  replace hb := hb.trans (hb1.mono hb.size)
  clear hg hp hb1
  generalize (⟨w.heap.size, 0, none⟩ : Addr) = p at *
  refine go ?_
  refine s_call1 (wn rfl) rfl rfl (isManiplex_any _ _ _ hv) ?_
  rintro _ w2 ⟨rfl, hb2⟩
  replace hv := hv.below hb2
  replace hbx := cell_below hbx hb2
  replace hb := hb.trans (hb2.mono hb.size)
  refine splitb (decide (IsMan ms)) (fun hm => ?_) (fun hm => ?_)
  rotate_left
  · have hm := of_decide_eq_false hm
    have e := autTo_1 (f := f) hm
    refine go ?_
    exact end_two Try.results45 rfl rfl ⟨.slice none 0 0, by rw [e.2], by rw [e.1]; exact OI.nil _ _ _, hb⟩
  have hm' := of_decide_eq_true hm
  have h1 := hm'.m0.r1
  have h4 := hm'.m0.f400
  refine go ?_
  refine s_call2 (wn rfl) rfl rfl rfl (hasFlag_any _ _ _ f _ hv hbx h1 h4) ?_
  rintro _ _ ⟨rfl, rfl⟩
  refine splitb (decide (0 ≤ f ∧ f < nf ms)) (fun hf => ?_) (fun hf => ?_)
  rotate_left
  · have hf := of_decide_eq_false hf
    have e := autTo_2 hm' hf
    refine go ?_
    exact end_two Try.results45 rfl rfl ⟨.slice none 0 0, by rw [e.2], by rw [e.1]; exact OI.nil _ _ _, hb⟩
  have hf' := of_decide_eq_true hf
  have hs0 := hb.size
  refine go ?_
  refine s_call3 (wn rfl) rfl rfl rfl rfl (coveringTo_any _ _ _ _ f _ hv hv hm' hm' hf') ?_
  rintro x w3 ⟨hx, hb3⟩
  replace hv := hv.below hb3
  replace hbx := cell_below hbx hb3
  replace hb := hb.trans (hb3.mono hb.size)
  rw [mapT_self] at hx
  have sx := hx.sv
  have hn := hx.nilV
  cases ho : mapTo ms ms f with
  | none =>
    rw [ho] at hn
    have hn : nilV x = true := hn
    have e := autTo_3 hm' hf' (by rw [ho]; rfl)
    refine go ?_
    exact end_two Try.results45 rfl rfl ⟨.slice none 0 0, by rw [e.2], by rw [e.1]; exact OI.nil _ _ _, hb⟩
  | some q =>
    rw [ho] at hn
    have hn : nilV x = false := hn
    have e := autTo_4 hm' hf' (by rw [ho]; rfl)
    refine go ?_
    exact end_two Try.results45 rfl rfl ⟨x, by rw [e.2], by rw [e.1]; exact hx.oi.mono hs0, hb⟩

set_option maxRecDepth 100000 in
theorem specAutomorphismsOf_any (v : Value) (ms : List (List Int)) (w : World) (hv : RL w v ms) :
    Ret Try.prog 37 #[.agg #[v]] w fun r w' => ∃ x, r = .tuple #[x, .int .i64 (manC ms)] ∧ OM w' w.heap.size w'.heap.size 40 2 x (autAll ms) ∧ Below w.heap.size w w' := by
  have shv := hv.sv
  have hb := Below.refl w.heap.size w
  refine enter1 9 Try.func37 rfl Try.ntmps37 rfl (fun fr => ?_)
  refine go ?_
  refine s_box (wn rfl) rfl rfl (agg_cells shv) (fun w1 hbx _ hp hg => ?_)
  have hb1 := below_of_grownBy hg
  replace hv := hv.below hb1
  replace hb := hb.trans (hb1.mono hb.size)
  clear hg hp hb1
  generalize (⟨w.heap.size, 0, none⟩ : Addr) = p at *
  refine go ?_
  refine s_call1 (wn rfl) rfl rfl (l02Is_any _ _ _ hv) ?_
  rintro _ w2 ⟨rfl, hb2⟩
  replace hv := hv.below hb2
  replace hbx := cell_below hbx hb2
  replace hb := hb.trans (hb2.mono hb.size)
  refine splitb (decide (IsMan ms)) (fun hm => ?_) (fun hm => ?_)
  rotate_left
  · have hm := of_decide_eq_false hm
    have e := And.intro (autAll_no hm) (manC_no hm)
    refine go ?_
    exact end_two Try.results37 rfl rfl ⟨.slice none 0 0, by rw [e.2], by rw [e.1]; exact OM.nil _ _ _ _ _, hb⟩
  have hm' := of_decide_eq_true hm
  have hs0 := hb.size
  refine go ?_
  refine s_call1 (wn rfl) rfl rfl (l06All_any _ _ _ hv hm') ?_
  rintro x w3 ⟨hx, hb3⟩
  replace hv := hv.below hb3
  replace hbx := cell_below hbx hb3
  replace hb := hb.trans (hb3.mono hb.size)
  refine go ?_
  exact end_two Try.results37 rfl rfl ⟨x, by rw [manC_yes hm'], by rw [autAll_yes hm']; exact hx.mono hs0, hb⟩

set_option maxRecDepth 100000 in
theorem implAutomorphismsOf_any (v : Value) (ms : List (List Int)) (w : World) (hv : RL w v ms) :
    Ret Try.prog 36 #[.agg #[v]] w fun r w' => ∃ x, r = .tuple #[x, .int .i64 (manC ms)] ∧ OM w' w.heap.size w'.heap.size 40 2 x (autAll ms) ∧ Below w.heap.size w w' := by
  have shv := hv.sv
  have hb := Below.refl w.heap.size w
  refine enter1 10 Try.func36 rfl Try.ntmps36 rfl (fun fr => ?_)
  refine go ?_
  refine s_box (wn rfl) rfl rfl (agg_cells shv) (fun w1 hbx _ hp hg => ?_)
  have hb1 := below_of_grownBy hg
  replace hv := hv.below hb1
  replace hb := hb.trans (hb1.mono hb.size)
  clear hg hp hb1
  generalize (⟨w.heap.size, 0, none⟩ : Addr) = p at *
  refine go ?_
  refine s_call1 (wn rfl) rfl rfl (isManiplex_any _ _ _ hv) ?_
  rintro _ w2 ⟨rfl, hb2⟩
  replace hv := hv.below hb2
  replace hbx := cell_below hbx hb2
  replace hb := hb.trans (hb2.mono hb.size)
  refine splitb (decide (IsMan ms)) (fun hm => ?_) (fun hm => ?_)
  rotate_left
  · have hm := of_decide_eq_false hm
    have e := And.intro (autAll_no hm) (manC_no hm)
    refine go ?_
    exact end_two Try.results36 rfl rfl ⟨.slice none 0 0, by rw [e.2], by rw [e.1]; exact OM.nil _ _ _ _ _, hb⟩
  have hm' := of_decide_eq_true hm
  have hs0 := hb.size
  refine go ?_
  refine s_call2 (wn rfl) rfl rfl rfl (coveringsOf_any _ _ _ _ _ hv hv hm' hm') ?_
  rintro x w3 ⟨hx, hb3⟩
  replace hv := hv.below hb3
  replace hbx := cell_below hbx hb3
  replace hb := hb.trans (hb3.mono hb.size)
  refine go ?_
  exact end_two Try.results36 rfl rfl ⟨x, by rw [manC_yes hm'], by rw [autAll_yes hm']; exact hx.mono hs0, hb⟩

set_option maxRecDepth 100000 in
theorem specIsomorphismOf_any (v : Value) (v2 : Value) (ms : List (List Int)) (ks : List (List Int)) (w : World) (hv : RL w v ms) (hv2 : RL w v2 ks) :
    Ret Try.prog 48 #[.agg #[v], .agg #[v2]] w fun r w' => ∃ x, r = .tuple #[x, .int .i64 (isoToC ms ks)] ∧ OI w' w.heap.size 2 x (isoTo ms ks) ∧ Below w.heap.size w w' := by
  have shv := hv.sv
  have shv2 := hv2.sv
  have hb := Below.refl w.heap.size w
  refine enter2 25 Try.func48 rfl Try.ntmps48 rfl (fun fr => ?_)
  refine go ?_
  refine s_box (wn rfl) rfl rfl (agg_cells shv) (fun w1 hbx _ hp hg => ?_)
  have hb1 := below_of_grownBy hg
  replace hv := hv.below hb1
  replace hv2 := hv2.below hb1
  replace hb := hb.trans (hb1.mono hb.size)
  clear hg hp hb1
  generalize (⟨w.heap.size, 0, none⟩ : Addr) = p at *
  refine go ?_
  refine s_box (wn rfl) rfl rfl (agg_cells shv2) (fun w2 hbx2 _ hp hg => ?_)
  have hb2 := below_of_grownBy hg
  replace hv := hv.below hb2
  replace hv2 := hv2.below hb2
  replace hbx := cell_below hbx hb2
  replace hb := hb.trans (hb2.mono hb.size)
  clear hg hp hb2
  generalize (⟨w1.heap.size, 0, none⟩ : Addr) = p2 at *
  refine go ?_
  refine s_call1 (wn rfl) rfl rfl (l02Is_any _ _ _ hv) ?_
  rintro _ w3 ⟨rfl, hb3⟩
  replace hv := hv.below hb3
  replace hv2 := hv2.below hb3
  replace hbx := cell_below hbx hb3
  replace hbx2 := cell_below hbx2 hb3
  replace hb := hb.trans (hb3.mono hb.size)
  refine splitb (decide (IsMan ms)) (fun hm => ?_) (fun hm => ?_)
  rotate_left
  · have hm := of_decide_eq_false hm
    have e := isoTo_1 (ms := ms) (ks := ks) (fun h => hm h.1)
    refine go ?_
    exact end_two Try.results48 rfl rfl ⟨.slice none 0 0, by rw [e.2], by rw [e.1]; exact OI.nil _ _ _, hb⟩
  have hm' := of_decide_eq_true hm
  refine go ?_
  refine s_call1 (wy rfl rfl rfl rfl rfl known) rfl rfl (l02Is_any _ _ _ hv2) ?_
  rintro _ w4 ⟨rfl, hb4⟩
  replace hv := hv.below hb4
  replace hv2 := hv2.below hb4
  replace hbx := cell_below hbx hb4
  replace hbx2 := cell_below hbx2 hb4
  replace hb := hb.trans (hb4.mono hb.size)
  refine splitb (decide (IsMan ks)) (fun hk => ?_) (fun hk => ?_)
  rotate_left
  · have hk := of_decide_eq_false hk
    have e := isoTo_1 (ms := ms) (ks := ks) (fun h => hk h.2)
    refine go ?_
    exact end_two Try.results48 rfl rfl ⟨.slice none 0 0, by rw [e.2], by rw [e.1]; exact OI.nil _ _ _, hb⟩
  have hk' := of_decide_eq_true hk
  have hs0 := hb.size
  refine go ?_
  refine s_call2 (wn rfl) rfl rfl rfl (l06First_any _ _ _ _ _ hv hv2 hm' hk') ?_
  rintro _ w5 ⟨x, rfl, hx, hb5⟩
  replace hv := hv.below hb5
  replace hv2 := hv2.below hb5
  replace hbx := cell_below hbx hb5
  replace hbx2 := cell_below hbx2 hb5
  replace hb := hb.trans (hb5.mono hb.size)
  refine splitb ((isoOf ms ks).isSome) (fun ho => ?_) (fun ho => ?_)
  rotate_left
  · have e := isoTo_2 hm' hk' ho
    refine go ?_
    exact end_two Try.results48 rfl rfl ⟨.slice none 0 0, by rw [e.2], by rw [e.1]; exact OI.nil _ _ _, hb⟩
  have e := isoTo_3 hm' hk' ho
  refine go ?_
  exact end_two Try.results48 rfl rfl ⟨x, by rw [e.2], by rw [e.1]; exact hx.oi.mono hs0, hb⟩

set_option maxRecDepth 100000 in
theorem implIsomorphismOf_any (v : Value) (v2 : Value) (ms : List (List Int)) (ks : List (List Int)) (w : World) (hv : RL w v ms) (hv2 : RL w v2 ks) :
    Ret Try.prog 47 #[.agg #[v], .agg #[v2]] w fun r w' => ∃ x, r = .tuple #[x, .int .i64 (isoToC ms ks)] ∧ OI w' w.heap.size 2 x (isoTo ms ks) ∧ Below w.heap.size w w' := by
  have shv := hv.sv
  have shv2 := hv2.sv
  have hb := Below.refl w.heap.size w
  refine enter2 21 Try.func47 rfl Try.ntmps47 rfl (fun fr => ?_)
  refine go ?_
  refine s_box (wn rfl) rfl rfl (agg_cells shv) (fun w1 hbx _ hp hg => ?_)
  have hb1 := below_of_grownBy hg
  replace hv := hv.below hb1
  replace hv2 := hv2.below hb1
  replace hb := hb.trans (hb1.mono hb.size)
  clear hg hp hb1
  generalize (⟨w.heap.size, 0, none⟩ : Addr) = p at *
  refine go ?_
  refine s_box (wn rfl) rfl rfl (agg_cells shv2) (fun w2 hbx2 _ hp hg => ?_)
  have hb2 := below_of_grownBy hg
  replace hv := hv.below hb2
  replace hv2 := hv2.below hb2
  replace hbx := cell_below hbx hb2
  replace hb := hb.trans (hb2.mono hb.size)
  clear hg hp hb2
  generalize (⟨w1.heap.size, 0, none⟩ : Addr) = p2 at *
  refine go ?_
  refine s_call1 (wn rfl) rfl rfl (isManiplex_any _ _ _ hv) ?_
  rintro _ w3 ⟨rfl, hb3⟩
  replace hv := hv.below hb3
  replace hv2 := hv2.below hb3
  replace hbx := cell_below hbx hb3
  replace hbx2 := cell_below hbx2 hb3
  replace hb := hb.trans (hb3.mono hb.size)
  refine splitb (decide (IsMan ms)) (fun hm => ?_) (fun hm => ?_)
  rotate_left
  · have hm := of_decide_eq_false hm
    have e := isoTo_1 (ms := ms) (ks := ks) (fun h => hm h.1)
    refine go ?_
    exact end_two Try.results47 rfl rfl ⟨.slice none 0 0, by rw [e.2], by rw [e.1]; exact OI.nil _ _ _, hb⟩
  have hm' := of_decide_eq_true hm
  refine go ?_
  refine s_call1 (wy rfl rfl rfl rfl rfl known) rfl rfl (isManiplex_any _ _ _ hv2) ?_
  rintro _ w4 ⟨rfl, hb4⟩
  replace hv := hv.below hb4
  replace hv2 := hv2.below hb4
  replace hbx := cell_below hbx hb4
  replace hbx2 := cell_below hbx2 hb4
  replace hb := hb.trans (hb4.mono hb.size)
  refine splitb (decide (IsMan ks)) (fun hk => ?_) (fun hk => ?_)
  rotate_left
  · have hk := of_decide_eq_false hk
    have e := isoTo_1 (ms := ms) (ks := ks) (fun h => hk h.2)
    refine go ?_
    exact end_two Try.results47 rfl rfl ⟨.slice none 0 0, by rw [e.2], by rw [e.1]; exact OI.nil _ _ _, hb⟩
  have hk' := of_decide_eq_true hk
  have hs0 := hb.size
  refine go ?_
  refine s_call2 (wn rfl) rfl rfl rfl (isomorphismOf_any _ _ _ _ _ hv hv2 hm' hk' (covers_ne hm')) ?_
  rintro x w5 ⟨hx, hb5⟩
  replace hv := hv.below hb5
  replace hv2 := hv2.below hb5
  replace hbx := cell_below hbx hb5
  replace hbx2 := cell_below hbx2 hb5
  replace hb := hb.trans (hb5.mono hb.size)
  have sx := hx.sv
  have hn := hx.nilV
  cases ho : isoOf ms ks with
  | none =>
    rw [ho] at hn
    have hn : nilV x = true := hn
    have e := isoTo_2 hm' hk' (by rw [ho]; rfl)
    refine go ?_
    exact end_two Try.results47 rfl rfl ⟨.slice none 0 0, by rw [e.2], by rw [e.1]; exact OI.nil _ _ _, hb⟩
  | some q =>
    rw [ho] at hn
    have hn : nilV x = false := hn
    have e := isoTo_3 hm' hk' (by rw [ho]; rfl)
    refine go ?_
    exact end_two Try.results47 rfl rfl ⟨x, by rw [e.2], by rw [e.1]; exact hx.oi.mono hs0, hb⟩

end Go.Proofs.Ytlodnhflfijomaa
