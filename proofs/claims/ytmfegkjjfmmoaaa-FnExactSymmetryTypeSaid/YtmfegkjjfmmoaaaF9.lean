/- Contracts: lists of coverings. -/
import Derived.Test.YtmfegkjjfmmoaaaF8
namespace Go.Proofs.Ytmfegkjjfmmoaaa
open Go.Mem Go.RowKit

theorem MapR.sv {w : World} {B : Nat} {T : TypeId} {r : Value} {m : Option (List Int)} (h : MapR w B T r m) : SV r ((m.getD []).length) := by
  cases m with
  | none => obtain rfl : r = .slice none 0 0 := h; exact ⟨none, 0, rfl, fun h => absurd rfl h, by simp [maxLen]⟩
  | some xs => exact h.1.sv
theorem MapR.nilV {w : World} {B : Nat} {T : TypeId} {r : Value} {m : Option (List Int)} (h : MapR w B T r m) : Mem.nilV r = m.isNone := by
  cases m with
  | none => obtain rfl : r = .slice none 0 0 := h; rfl
  | some xs => exact nilV_of h.1.sv (by have := h.2; intro e; exact this (List.length_eq_zero_iff.1 e))

set_option maxHeartbeats 8000000 in
theorem coveringsOf_any (v v2 : Value) (ms ks : List (List Int)) (w : World) (hv : RL w v ms) (hv2 : RL w v2 ks) (hm : IsMan ms) (hk : IsMan ks) :
    Ret Try.prog 100 #[.agg #[v], .agg #[v2]] w fun r w' => OM w' w.heap.size w'.heap.size 26 2 r (covers ms ks (nf ks)) ∧ Below w.heap.size w w' := by
  have sv := hv.sv
  have sv2 := hv2.sv
  have hr1 := hk.m0.r1
  have hf4 := hk.m0.f400
  refine enter2 24 Try.func100 rfl Try.ntmps100 rfl (fun fr => ?_)
  refine go ?_
  refine s_box (wn rfl) rfl rfl (agg_cells sv) (fun w1 hbx _ hp1 hg => ?_)
  have hb := below_of_grownBy hg
  have hv := hv.below hb
  have hv2 := hv2.below hb
  generalize hpe : (⟨w.heap.size, 0, none⟩ : Addr) = p at *
  refine s_box (wn rfl) rfl rfl (agg_cells sv2) (fun w2 hbx2 _ hp2 hg2 => ?_)
  have hb2 := below_of_grownBy hg2
  have hbx := cell_below hbx hb2
  have hv := hv.below hb2
  have hv2 := hv2.below hb2
  have hb := hb.trans (hb2.mono hb.size)
  clear hb2 hg hg2 hp1 hp2
  generalize (⟨w1.heap.size, 0, none⟩ : Addr) = p2 at *
  refine go ?_
  refine s_call1 (wn rfl) rfl rfl (flags_any _ _ _ _ hbx2 hv2 hr1) ?_
  rintro _ _ ⟨rfl, rfl⟩
  refine go ?_
  refine w_loop (fun k fr w' => ∃ (i : Nat) (ob : Value), k = nf ks - i ∧ i ≤ nf ks ∧ fr 2 = .pointer (some p) ∧ fr 3 = .pointer (some p2) ∧ fr 5 = ob ∧ fr 8 = .int .i64 (nf ks) ∧ fr 9 = .int .i64 i ∧
      OM w' w2.heap.size w'.heap.size 26 2 ob (covers ms ks i) ∧ Below w2.heap.size w2 w') (nf ks)
    ⟨0, _, rfl, Nat.zero_le _, rfl, rfl, rfl, rfl, rfl, OM.nil _ _ _ _ _, Below.refl _ _⟩ ?_
  rintro k fr w3 ⟨i, ob, rfl, hi, f2, f3, f5, f8, f9, ho, hb3⟩
  have hbx3 := cell_below hbx hb3
  have hbx23 := cell_below hbx2 hb3
  have hcl := covers_le ms ks i
  refine know (t := 2) f2 ?_; refine know (t := 3) f3 ?_; refine know (t := 5) f5 ?_; refine know (t := 8) f8 ?_; refine know (t := 9) f9 ?_
  refine go ?_
  refine cond_dec rfl (fun hlt => ?_) (fun hge => ?_)
  · refine go ?_
    refine s_call3 (wn rfl) rfl rfl rfl rfl (coveringTo_any _ _ _ _ _ _ (hv.below hb3) (hv2.below hb3) hm hk (by omega)) ?_
    rintro r w4 ⟨hr, hb4⟩
    have ho4 := ho.below hb4
    have hb24 := hb3.trans (hb4.mono hb3.size)
    have sr := hr.sv
    have hnil := hr.nilV
    refine go ?_
    cases hmt : mapT ms ks i with
    | none =>
      rw [hmt] at hr hnil
      have hnil : nilV r = true := hnil
      refine go ?_
      exact ⟨nf ks - (i + 1), by omega, i + 1, ob, rfl, by omega, rfl, rfl, rfl, rfl, rfl, by rw [covers_none hmt]; exact ho4.top, hb24⟩
    | some xs =>
      rw [hmt] at hr hnil
      have hnil : nilV r = false := hnil
      refine go ?_
      refine s_build1V (B := w2.heap.size) (wn rfl) rfl rfl sr.one hb24.size (fun tb w5 ht st hg5 _ => ?_)
      have hb5 := below_of_grownBy hg5
      have hb25 := hb24.trans (hb5.mono hb24.size)
      refine s_appendM (wn rfl) rfl rfl rfl (ho4.below hb5) ht.rd (hr.1.below hb5) hb3.size (by decide) (by omega) hb25.size (fun ob' w6 ho6 so6 hg6 => ?_)
      have hb26 := hb25.trans ((ho4.below hb5).below_of hg6 hb25.size)
      refine go ?_
      exact ⟨nf ks - (i + 1), by omega, i + 1, ob', rfl, by omega, rfl, rfl, rfl, rfl, rfl, by rw [covers_some hmt]; exact ho6, hb26⟩
  · obtain rfl : i = nf ks := by omega
    refine go ?_
    exact end_one Try.results100 rfl ⟨ho.mono hb.size, hb.trans (hb3.mono hb.size)⟩

set_option maxRecDepth 100000 in
set_option maxHeartbeats 8000000 in
theorem l06All_any (v : Value) (ms : List (List Int)) (w : World) (hv : RL w v ms) (hm : IsMan ms) :
    Ret Try.prog 62 #[.agg #[v]] w fun r w' => OM w' w.heap.size w'.heap.size 26 2 r (covers ms ms (nf ms)) ∧ Below w.heap.size w w' := by
  have sv := hv.sv
  have hr1 := hm.m0.r1
  have hf4 := hm.m0.f400
  refine enter1 27 Try.func62 rfl Try.ntmps62 rfl (fun fr => ?_)
  refine go ?_
  refine s_box (wn rfl) rfl rfl (agg_cells sv) (fun w2 hbx _ hp1 hg => ?_)
  have hb := below_of_grownBy hg
  have hv := hv.below hb
  generalize hpe : (⟨w.heap.size, 0, none⟩ : Addr) = p at *
  refine go ?_
  refine s_build (B := w2.heap.size) [] (wn rfl) rfl (by simp) (by decide) rfl (by simp) (Nat.le_refl _) (fun ob w3 ho hg3 _ => ?_)
  have hb3 := below_of_grownBy hg3
  refine go ?_
  refine w_loop (fun k fr w' => ∃ (i : Nat) (ob : Value), k = nf ms - i ∧ i ≤ nf ms ∧ fr 1 = .pointer (some p) ∧ fr 3 = ob ∧ fr 4 = .int .i64 i ∧
      OM w' w2.heap.size w'.heap.size 26 2 ob (covers ms ms i) ∧ Below w2.heap.size w2 w') (nf ms)
    ⟨0, _, rfl, Nat.zero_le _, rfl, rfl, rfl, OM.empty ho, hb3⟩ ?_
  rintro k fr w4 ⟨i, ob, rfl, hi, f1, f3, f4, ho, hb4⟩
  have hbx4 := cell_below hbx hb4
  have hcl := covers_le ms ms i
  refine know (t := 1) f1 ?_; refine know (t := 3) f3 ?_; refine know (t := 4) f4 ?_
  refine go ?_
  refine s_call1 (wn rfl) rfl rfl (l02Flags_any _ _ _ (hv.below hb4) hr1) ?_
  rintro _ w5 ⟨rfl, hb5⟩
  have ho := ho.below hb5
  have hb25 := hb4.trans (hb5.mono hb4.size)
  have hbx5 := cell_below hbx hb25
  refine go ?_
  refine cond_dec rfl (fun hlt => ?_) (fun hge => ?_)
  · refine go ?_
    refine s_call3 (wn rfl) rfl rfl rfl rfl (l06Map_any _ _ _ _ _ _ (hv.below hb25) (hv.below hb25) hm hm rfl (by omega)) ?_
    rintro _ w6 ⟨r, rfl, hr, hb6⟩
    have ho6 := ho.below hb6
    have hb26 := hb25.trans (hb6.mono hb25.size)
    have sr := hr.sv
    have hmT : mapT ms ms i = mapTo ms ms i := by unfold mapT; rw [if_pos rfl]
    cases hmt : mapTo ms ms i with
    | none =>
      rw [hmt] at hr hmT
      have hs : (none : Option (List Int)).isSome = false := rfl
      refine go ?_
      exact ⟨nf ms - (i + 1), by omega, i + 1, ob, rfl, by omega, rfl, rfl, rfl, by rw [covers_none hmT]; exact ho6.top, hb26⟩
    | some xs =>
      rw [hmt] at hr hmT
      have hs : (some xs : Option (List Int)).isSome = true := rfl
      refine go ?_
      refine s_build1V (B := w2.heap.size) (wn rfl) rfl rfl sr.one hb26.size (fun tb w7 ht st hg7 _ => ?_)
      have hb7 := below_of_grownBy hg7
      have hb27 := hb26.trans (hb7.mono hb26.size)
      refine s_appendM (wn rfl) rfl rfl rfl ((ho6.below hb7).wide hb5.size) ht.rd (hr.1.below hb7) (by have := hb25.size; omega) (by decide) (by omega) hb27.size (fun ob' w8 ho8 so8 hg8 => ?_)
      have hb28 := hb27.trans ((ho6.below hb7).below_of hg8 hb27.size)
      refine go ?_
      exact ⟨nf ms - (i + 1), by omega, i + 1, ob', rfl, by omega, rfl, rfl, rfl, by rw [covers_some hmT]; exact ho8, hb28⟩
  · obtain rfl : i = nf ms := by omega
    refine go ?_
    exact end_one Try.results62 rfl ⟨(ho.mono hb.size).top, hb.trans (hb25.mono hb.size)⟩
end Go.Proofs.Ytmfegkjjfmmoaaa
