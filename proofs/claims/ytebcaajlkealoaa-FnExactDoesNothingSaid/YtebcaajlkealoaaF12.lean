/- Contracts: coverings and isomorphisms of two maniplexes. -/
import Derived.Test.YtebcaajlkealoaaF10
namespace Go.Proofs.Ytebcaajlkealoaa
open Go.Mem Go.RowKit

set_option maxRecDepth 100000 in
theorem l07Cover_any (v v2 : Value) (ms ks : List (List Int)) (flag : Int) (w : World) (hv : RL w v ms) (hv2 : RL w v2 ks) (hm : IsMan ms) (hk : IsMan ks) (hf : 0 ≤ flag ∧ flag < nf ks) :
    Ret Try.prog 85 #[.agg #[v], .agg #[v2], .int .i64 flag] w fun r w' => ∃ x, r = .tuple #[x, .bool (mapT ms ks flag).isSome] ∧ MapR w' w.heap.size 2 x (mapT ms ks flag) ∧ Below w.heap.size w w' := by
  have sv := hv.sv
  have sv2 := hv2.sv
  refine enter3 26 Try.func85 rfl Try.ntmps85 rfl (fun fr => ?_)
  refine go ?_
  refine s_box (wn rfl) rfl rfl (agg_cells sv) (fun w1 hbx _ hp1 hg => ?_)
  have hb := below_of_grownBy hg
  have hv := hv.below hb
  have hv2 := hv2.below hb
  generalize hpe : (⟨w.heap.size, 0, none⟩ : Addr) = p at *
  refine s_box (wn rfl) rfl rfl (agg_cells sv2) (fun w2 hbx2 _ hp2 hg2 => ?_)
  have hb2 := below_of_grownBy hg2
  have hbx := cell_below hbx hb2
  have hv := hv.below hb2
  have hv2 := hv2.below hb2
  have hb := hb.trans (hb2.mono hb.size)
  clear hb2 hg hg2 hp1 hp2
  generalize (⟨w1.heap.size, 0, none⟩ : Addr) = p2 at *
  refine split (p := (ms.length : Int) ≠ ks.length) (fun hne => ?_) (fun hl => ?_)
  · refine go ?_
    have e : mapT ms ks flag = none := by unfold mapT; rw [if_neg (by omega)]
    exact end_two Try.results85 rfl rfl ⟨_, by rw [e]; rfl, by rw [e]; rfl, hb⟩
  · have e : mapT ms ks flag = mapTo ms ks flag := by unfold mapT; rw [if_pos (by omega)]
    rw [e]
    refine go ?_
    refine s_call3 (wn rfl) rfl rfl rfl rfl (l06Map_any _ _ _ _ _ _ hv hv2 hm hk (by omega) hf) ?_
    rintro _ w3 ⟨x, rfl, hx, hb3⟩
    refine go ?_
    refine end_two Try.results85 rfl rfl ⟨x, rfl, ?_, hb.trans (hb3.mono hb.size)⟩
    cases h : mapTo ms ks flag with
    | none => rw [h] at hx; exact hx
    | some xs => rw [h] at hx; exact ⟨hx.1.mono hb.size, hx.2⟩

set_option maxRecDepth 100000 in
set_option maxHeartbeats 8000000 in
theorem l07Covers_any (v v2 : Value) (ms ks : List (List Int)) (w : World) (hv : RL w v ms) (hv2 : RL w v2 ks) (hm : IsMan ms) (hk : IsMan ks) :
    Ret Try.prog 57 #[.agg #[v], .agg #[v2]] w fun r w' => OM w' w.heap.size w'.heap.size 36 2 r (covers ms ks (nf ks)) ∧ Below w.heap.size w w' := by
  have sv := hv.sv
  have sv2 := hv2.sv
  have hr1 := hk.m0.r1
  have hf4 := hk.m0.f400
  refine enter2 29 Try.func57 rfl Try.ntmps57 rfl (fun fr => ?_)
  refine go ?_
  refine s_box (wn rfl) rfl rfl (agg_cells sv) (fun w1 hbx _ hp1 hg => ?_)
  have hb := below_of_grownBy hg
  have hv := hv.below hb
  have hv2 := hv2.below hb
  generalize hpe : (⟨w.heap.size, 0, none⟩ : Addr) = p at *
  refine s_box (wn rfl) rfl rfl (agg_cells sv2) (fun w2 hbx2 _ hp2 hg2 => ?_)
  have hb2 := below_of_grownBy hg2
  have hbx := cell_below hbx hb2
  have hv := hv.below hb2
  have hv2 := hv2.below hb2
  have hb := hb.trans (hb2.mono hb.size)
  clear hb2 hg hg2 hp1 hp2
  generalize (⟨w1.heap.size, 0, none⟩ : Addr) = p2 at *
  refine go ?_
  refine s_build (B := w2.heap.size) [] (wn rfl) rfl (by simp) (by decide) rfl (by simp) (Nat.le_refl _) (fun ob w3 ho hg3 _ => ?_)
  have hb3 := below_of_grownBy hg3
  refine go ?_
  refine w_loop (fun k fr w' => ∃ (i : Nat) (ob : Value), k = nf ks - i ∧ i ≤ nf ks ∧ fr 2 = .pointer (some p) ∧ fr 3 = .pointer (some p2) ∧ fr 5 = ob ∧ fr 6 = .int .i64 i ∧
      OM w' w2.heap.size w'.heap.size 36 2 ob (covers ms ks i) ∧ Below w2.heap.size w2 w') (nf ks)
    ⟨0, _, rfl, Nat.zero_le _, rfl, rfl, rfl, rfl, OM.empty ho, hb3⟩ ?_
  rintro k fr w4 ⟨i, ob, rfl, hi, f2, f3, f5, f6, ho, hb4⟩
  have hbx4 := cell_below hbx2 hb4
  have hcl := covers_le ms ks i
  refine know (t := 2) f2 ?_; refine know (t := 3) f3 ?_; refine know (t := 5) f5 ?_; refine know (t := 6) f6 ?_
  refine go ?_
  refine s_call1 (wn rfl) rfl rfl (l02Flags_any _ _ _ (hv2.below hb4) hr1) ?_
  rintro _ w5 ⟨rfl, hb5⟩
  have ho := ho.below hb5
  have hb25 := hb4.trans (hb5.mono hb4.size)
  have hbx5 := cell_below hbx hb25
  have hbx25 := cell_below hbx2 hb25
  refine go ?_
  refine cond_dec rfl (fun hlt => ?_) (fun hge => ?_)
  · refine go ?_
    refine s_call3 (wn rfl) rfl rfl rfl rfl (l07Cover_any _ _ _ _ _ _ (hv.below hb25) (hv2.below hb25) hm hk (by omega)) ?_
    rintro _ w6 ⟨r, rfl, hr, hb6⟩
    have ho6 := ho.below hb6
    have hb26 := hb25.trans (hb6.mono hb25.size)
    have sr := hr.sv
    cases hmt : mapT ms ks i with
    | none =>
      rw [hmt] at hr
      have hs : (none : Option (List Int)).isSome = false := rfl
      refine go ?_
      exact ⟨nf ks - (i + 1), by omega, i + 1, ob, rfl, by omega, rfl, rfl, rfl, rfl, by rw [covers_none hmt]; exact ho6.top, hb26⟩
    | some xs =>
      rw [hmt] at hr
      have hs : (some xs : Option (List Int)).isSome = true := rfl
      refine go ?_
      refine s_build1V (B := w2.heap.size) (wn rfl) rfl rfl sr.one hb26.size (fun tb w7 ht st hg7 _ => ?_)
      have hb7 := below_of_grownBy hg7
      have hb27 := hb26.trans (hb7.mono hb26.size)
      refine s_appendM (wn rfl) rfl rfl rfl ((ho6.below hb7).wide hb5.size) ht.rd (hr.1.below hb7) (by have := hb25.size; omega) (by decide) (by omega) hb27.size (fun ob' w8 ho8 so8 hg8 => ?_)
      have hb28 := hb27.trans ((ho6.below hb7).below_of hg8 hb27.size)
      refine go ?_
      exact ⟨nf ks - (i + 1), by omega, i + 1, ob', rfl, by omega, rfl, rfl, rfl, rfl, by rw [covers_some hmt]; exact ho8, hb28⟩
  · obtain rfl : i = nf ks := by omega
    refine go ?_
    exact end_one Try.results57 rfl ⟨(ho.mono hb.size).top, hb.trans (hb25.mono hb.size)⟩
end Go.Proofs.Ytebcaajlkealoaa
