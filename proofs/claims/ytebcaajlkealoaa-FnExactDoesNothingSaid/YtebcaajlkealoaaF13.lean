/- Contracts: the first isomorphism. -/
import Derived.Test.YtebcaajlkealoaaF12
namespace Go.Proofs.Ytebcaajlkealoaa
open Go.Mem Go.RowKit

theorem l06Fits_any (v v2 : Value) (ms ks : List (List Int)) (w : World) (hv : RL w v ms) (hv2 : RL w v2 ks) (h1 : 1 ≤ ms.length) (h2 : 1 ≤ ks.length) :
    Ret Try.prog 86 #[.agg #[v], .agg #[v2]] w fun r w' => r = .bool (decide (ms.length = ks.length ∧ nf ms = nf ks)) ∧ Below w.heap.size w w' := by
  have sv := hv.sv
  have sv2 := hv2.sv
  refine enter2 19 Try.func86 rfl Try.ntmps86 rfl (fun fr => ?_)
  refine go ?_
  refine s_box (wn rfl) rfl rfl (agg_cells sv) (fun w1 hbx _ hp1 hg => ?_)
  have hb := below_of_grownBy hg
  have hv := hv.below hb
  have hv2 := hv2.below hb
  generalize hpe : (⟨w.heap.size, 0, none⟩ : Addr) = p at *
  refine s_box (wn rfl) rfl rfl (agg_cells sv2) (fun w2 hbx2 _ hp2 hg2 => ?_)
  have hb2 := below_of_grownBy hg2
  have hbx := cell_below hbx hb2
  have hv := hv.below hb2
  have hv2 := hv2.below hb2
  have hb := hb.trans (hb2.mono hb.size)
  clear hb2 hg hg2 hp1 hp2
  generalize (⟨w1.heap.size, 0, none⟩ : Addr) = p2 at *
  refine split (p := (ms.length : Int) = ks.length) (fun hl => ?_) (fun hl => ?_)
  · refine split (p := (nf ms : Int) = nf ks) (fun hn => ?_) (fun hn => ?_)
    all_goals
      refine go ?_
      refine region_q mixed (by kernel_rfl) ?_
      refine qo ?_
      refine q_call1 (wy rfl rfl rfl rfl rfl known) rfl rfl (fun w hw => l02Flags_any _ _ _ (hv.below hw) h1) ?_
      refine qo ?_
      refine q_call1 (wy rfl rfl rfl rfl rfl known) rfl rfl (fun w hw => l02Flags_any _ _ _ (hv2.below hw) h2) ?_
      refine qo ?_
      refine q_nil ?_
      intro w3 hb3
      refine go ?_
      refine end_one Try.results86 rfl ⟨?_, hb.trans (hb3.mono hb.size)⟩
      refine congrArg Value.bool ?_
      exact decide_eq_decide.2 (by omega)
  · refine go ?_
    refine region_q mixed (by kernel_rfl) ?_; refine qo ?_; refine q_nil ?_
    intro w3 hb3
    refine go ?_
    refine end_one Try.results86 rfl ⟨?_, hb.trans (hb3.mono hb.size)⟩
    refine congrArg Value.bool ?_
    exact (decide_eq_false (by omega)).symm

set_option maxRecDepth 100000 in
set_option maxHeartbeats 8000000 in
theorem l06First_any (v v2 : Value) (ms ks : List (List Int)) (w : World) (hv : RL w v ms) (hv2 : RL w v2 ks) (hm : IsMan ms) (hk : IsMan ks) :
    Ret Try.prog 60 #[.agg #[v], .agg #[v2]] w fun r w' => ∃ x, r = .tuple #[x, .bool (isoOf ms ks).isSome] ∧ MapR w' w.heap.size 2 x (isoOf ms ks) ∧ Below w.heap.size w w' := by
  have sv := hv.sv
  have sv2 := hv2.sv
  have hr1 := hm.m0.r1
  have hk1 := hk.m0.r1
  have hf4 := hk.m0.f400
  refine enter2 28 Try.func60 rfl Try.ntmps60 rfl (fun fr => ?_)
  refine go ?_
  refine s_box (wn rfl) rfl rfl (agg_cells sv) (fun w1 hbx _ hp1 hg => ?_)
  have hb := below_of_grownBy hg
  have hv := hv.below hb
  have hv2 := hv2.below hb
  generalize hpe : (⟨w.heap.size, 0, none⟩ : Addr) = p at *
  refine s_box (wn rfl) rfl rfl (agg_cells sv2) (fun w2 hbx2 _ hp2 hg2 => ?_)
  have hb2 := below_of_grownBy hg2
  have hbx := cell_below hbx hb2
  have hv := hv.below hb2
  have hv2 := hv2.below hb2
  have hb := hb.trans (hb2.mono hb.size)
  clear hb2 hg hg2 hp1 hp2
  generalize (⟨w1.heap.size, 0, none⟩ : Addr) = p2 at *
  refine go ?_
  refine s_call2 (wn rfl) rfl rfl rfl (l06Fits_any _ _ _ _ _ hv hv2 hr1 hk1) ?_
  rintro _ w3 ⟨rfl, hb3⟩
  refine splitb (decide (ms.length = ks.length ∧ nf ms = nf ks)) (fun hfit => ?_) (fun hfit => ?_)
  rotate_left
  · have hfit' := of_decide_eq_false hfit
    have e := isoOf_far hfit'
    refine go ?_
    exact end_two Try.results60 rfl rfl ⟨_, by rw [e]; rfl, by rw [e]; rfl, hb.trans (hb3.mono hb.size)⟩
  obtain ⟨hl, hn⟩ := of_decide_eq_true hfit
  refine go ?_
  refine w_loop (fun k fr w' => ∃ (i : Nat), k = nf ks - i ∧ i ≤ nf ks ∧ fr 2 = .pointer (some p) ∧ fr 3 = .pointer (some p2) ∧ fr 6 = .int .i64 i ∧ covers ms ks i = [] ∧ Below w2.heap.size w2 w') (nf ks)
    ⟨0, rfl, Nat.zero_le _, rfl, rfl, rfl, covers_zero _ _, hb3⟩ ?_
  rintro k fr w4 ⟨i, rfl, hi, f2, f3, f6, hc0, hb4⟩
  have hbx4 := cell_below hbx2 hb4
  refine know (t := 2) f2 ?_; refine know (t := 3) f3 ?_; refine know (t := 6) f6 ?_
  refine go ?_
  refine s_call1 (wn rfl) rfl rfl (l02Flags_any _ _ _ (hv2.below hb4) hk1) ?_
  rintro _ w5 ⟨rfl, hb5⟩
  have hb25 := hb4.trans (hb5.mono hb4.size)
  have hbx5 := cell_below hbx hb25
  have hbx25 := cell_below hbx2 hb25
  refine go ?_
  refine cond_dec rfl (fun hlt => ?_) (fun hge => ?_)
  · refine go ?_
    refine s_call3 (wn rfl) rfl rfl rfl rfl (l06Map_any _ _ _ _ _ _ (hv.below hb25) (hv2.below hb25) hm hk hl (by omega)) ?_
    rintro _ w6 ⟨r, rfl, hr, hb6⟩
    have hb26 := hb25.trans (hb6.mono hb25.size)
    have hmT : mapT ms ks i = mapTo ms ks i := by unfold mapT; rw [if_pos hl]
    cases hmt : mapTo ms ks i with
    | none =>
      rw [hmt] at hmT
      have hs : (none : Option (List Int)).isSome = false := rfl
      refine go ?_
      exact ⟨nf ks - (i + 1), by omega, i + 1, rfl, by omega, rfl, rfl, rfl, by rw [covers_none hmT]; exact hc0, hb26⟩
    | some xs =>
      rw [hmt] at hr hmT
      have hs : (some xs : Option (List Int)).isSome = true := rfl
      have e := isoOf_hit hn (by omega) hc0 hmT
      refine go ?_
      exact end_two Try.results60 rfl rfl ⟨r, by rw [e]; rfl, by rw [e]; exact ⟨hr.1.mono (by have := hb25.size; have := hb.size; omega), hr.2⟩, hb.trans (hb26.mono hb.size)⟩
  · obtain rfl : i = nf ks := by omega
    have e := isoOf_miss hc0
    refine go ?_
    exact end_two Try.results60 rfl rfl ⟨_, by rw [e]; rfl, by rw [e]; rfl, hb.trans (hb25.mono hb.size)⟩

theorem isoOf_cov {ms ks : List (List Int)} (hn : nf ms = nf ks) : isoOf ms ks = (covers ms ks (nf ks)).head? := by unfold isoOf; rw [if_pos hn]

set_option maxRecDepth 100000 in
theorem isomorphismOf_any (v v2 : Value) (ms ks : List (List Int)) (w : World) (hv : RL w v ms) (hv2 : RL w v2 ks) (hm : IsMan ms) (hk : IsMan ks) (hne : ∀ xs ∈ covers ms ks (nf ks), xs ≠ []) :
    Ret Try.prog 61 #[.agg #[v], .agg #[v2]] w fun r w' => MapR w' w.heap.size 2 r (isoOf ms ks) ∧ Below w.heap.size w w' := by
  have sv := hv.sv
  have sv2 := hv2.sv
  have hr1 := hm.m0.r1
  have hk1 := hk.m0.r1
  refine enter2 18 Try.func61 rfl Try.ntmps61 rfl (fun fr => ?_)
  refine go ?_
  refine s_box (wn rfl) rfl rfl (agg_cells sv) (fun w1 hbx _ hp1 hg => ?_)
  have hb := below_of_grownBy hg
  have hv := hv.below hb
  have hv2 := hv2.below hb
  generalize hpe : (⟨w.heap.size, 0, none⟩ : Addr) = p at *
  refine s_box (wn rfl) rfl rfl (agg_cells sv2) (fun w2 hbx2 _ hp2 hg2 => ?_)
  have hb2 := below_of_grownBy hg2
  have hbx := cell_below hbx hb2
  have hv := hv.below hb2
  have hv2 := hv2.below hb2
  have hb := hb.trans (hb2.mono hb.size)
  clear hb2 hg hg2 hp1 hp2
  generalize (⟨w1.heap.size, 0, none⟩ : Addr) = p2 at *
  refine go ?_
  refine s_call1 (wn rfl) rfl rfl (flags_any _ _ _ _ hbx hv hr1) ?_
  rintro _ _ ⟨rfl, rfl⟩
  refine s_call1 (wn rfl) rfl rfl (flags_any _ _ _ _ hbx2 hv2 hk1) ?_
  rintro _ _ ⟨rfl, rfl⟩
  refine split (p := (nf ms : Int) ≠ nf ks) (fun hn => ?_) (fun hn => ?_)
  · have e : isoOf ms ks = none := isoOf_far (by omega)
    refine go ?_
    exact end_one Try.results61 rfl ⟨by rw [e]; rfl, hb⟩
  have e := isoOf_cov (ms := ms) (ks := ks) (by omega)
  refine go ?_
  refine s_call2 (wn rfl) rfl rfl rfl (coveringsOf_any _ _ _ _ _ hv hv2 hm hk) ?_
  rintro r w3 ⟨hr, hb3⟩
  have sr := hr.sv
  have hbw := hb.trans (hb3.mono hb.size)
  rw [e]
  refine split (p := ((covers ms ks (nf ks)).length : Int) = 0) (fun h0 => ?_) (fun h0 => ?_)
  · refine go ?_
    have e0 : covers ms ks (nf ks) = [] := List.length_eq_zero_iff.1 (by omega)
    exact end_one Try.results61 rfl ⟨by rw [e0]; rfl, hbw⟩
  · obtain ⟨u, hu, hc⟩ := hr.row (j := 0) (by omega) (by omega)
    refine go ?_
    have eh : (covers ms ks (nf ks)).head? = some (gr (covers ms ks (nf ks)) 0) := by
      cases hcv : covers ms ks (nf ks) with
      | nil => rw [hcv] at h0; simp at h0
      | cons a l => rfl
    refine end_one Try.results61 rfl ⟨?_, hbw⟩
    rw [eh]
    exact ⟨hu.mono hb.size, hne _ (by
      have : 0 < (covers ms ks (nf ks)).length := by omega
      simp [gr, List.getD, this])⟩
end Go.Proofs.Ytebcaajlkealoaa
