/- Contracts: DoubleCover, on both sides. -/
import Derived.Test.YtmdimdbfgibflaaF33
import Derived.Test.YtmdimdbfgibflaaF39
namespace Go.Mem
set_option linter.unusedVariables false
/-- a move of the double cover; up to the flag k -/
def dcvTo (m : List Int) (k : Nat) : List Int := (List.range k).map fun f : Nat => 2 * gi m ((f / 2 : Nat) : Int) + 1 - ((f % 2 : Nat) : Int)
def dcv (m : List Int) : List Int := dcvTo m (2 * m.length)
theorem dcvTo_succ (m : List Int) (k : Nat) : dcvTo m (k + 1) = dcvTo m k ++ [2 * gi m ((k / 2 : Nat) : Int) + 1 - ((k % 2 : Nat) : Int)] := by
  unfold dcvTo; rw [List.range_succ, List.map_append]; rfl
theorem dcvTo_len (m : List Int) (k : Nat) : (dcvTo m k).length = k := by simp [dcvTo]
theorem dcvTo_two (m : List Int) (k : Nat) : dcvTo m (2 * (k + 1)) = dcvTo m (2 * k) ++ [2 * gi m k + 1, 2 * gi m k] := by
  rw [show 2 * (k + 1) = 2 * k + 1 + 1 by omega, dcvTo_succ, dcvTo_succ, show 2 * k / 2 = k by omega, show 2 * k % 2 = 0 by omega, show (2 * k + 1) / 2 = k by omega, show (2 * k + 1) % 2 = 1 by omega]
  simp
section
variable {ms : List (List Int)}
noncomputable def dcC (ms : List (List Int)) : Int := if IsMan ms then (if Ori ms then 5 else if 200 < nf ms then 3 else 0) else 1
noncomputable def dcL (ms : List (List Int)) : List (List Int) := if dcC ms = 0 then ms.map dcv else []
theorem dc_1 (h : ¬ IsMan ms) : dcL ms = [] ∧ dcC ms = 1 := by
  have e : dcC ms = 1 := if_neg h
  exact ⟨if_neg (by rw [e]; decide), e⟩
theorem dc_2 (hm : IsMan ms) (h : Ori ms) : dcL ms = [] ∧ dcC ms = 5 := by
  have e : dcC ms = 5 := by unfold dcC; rw [if_pos hm, if_pos h]
  exact ⟨if_neg (by rw [e]; decide), e⟩
theorem dc_3 (hm : IsMan ms) (h : ¬ Ori ms) (h2 : 200 < nf ms) : dcL ms = [] ∧ dcC ms = 3 := by
  have e : dcC ms = 3 := by unfold dcC; rw [if_pos hm, if_neg h, if_pos h2]
  exact ⟨if_neg (by rw [e]; decide), e⟩
theorem dc_4 (hm : IsMan ms) (h : ¬ Ori ms) (h2 : ¬ 200 < nf ms) : dcL ms = ms.map dcv ∧ dcC ms = 0 := by
  have e : dcC ms = 0 := by unfold dcC; rw [if_pos hm, if_neg h, if_neg h2]
  exact ⟨if_pos e, e⟩
theorem dcL_len (ms : List (List Int)) : 1 + tot (dcL ms) ≤ 4000000000000000000 := by
  by_cases hm : IsMan ms
  · unfold dcL
    split
    · have r5 := hm.m0.r5
      have f4 := hm.m0.f400
      refine rows_tot (n := 1000) (by simp; omega) (fun xs hx => ?_) (by omega)
      obtain ⟨m, hm', rfl⟩ := List.mem_map.1 hx
      have := (hm.syst m hm').1
      simp [dcv, dcvTo_len]; omega
    · simp [tot]
  · rw [(dc_1 hm).1]; simp [tot]
end
end Go.Mem
namespace Go.Proofs.Ytmdimdbfgibflaa
open Go.Mem Go.RowKit
set_option linter.unusedVariables false
set_option linter.unusedSimpArgs false

set_option maxHeartbeats 8000000 in
set_option maxRecDepth 100000 in
theorem l02Colours_any (v : Value) (ms : List (List Int)) (w : World) (hv : RL w v ms) (hm : IsMan ms) :
    Ret Try.prog 86 #[.agg #[v]] w fun r w' => ∃ x L, r = .tuple #[x, .bool (decide (Ori ms))] ∧ OI w' w.heap.size 2 x L ∧ Below w.heap.size w w' := by
  have shv := hv.sv
  have hb := Below.refl w.heap.size w
  refine enter1 54 Try.func86 rfl Try.ntmps86 rfl (fun fr => ?_)
  have r5 := hm.m0.r5
  have r1 := hm.m0.r1
  have f4 := hm.m0.f400
  have f2 := hm.m0.f2
  refine go ?_
  refine s_box (wn rfl) rfl rfl (agg_cells shv) (fun w1 hbx _ hp hg => ?_)
  have hb1 := below_of_grownBy hg
  have sw1 := hb1.size
  replace hv := hv.below hb1
  replace hb := hb.trans (hb1.mono hb.size)
  clear hg hp hb1
  generalize (⟨w.heap.size, 0, none⟩ : Addr) = p at *
  have sbs1 := hb.size
  have hv_b1 := hv
  have hbx_b1 := hbx
  have hbB1 := Below.refl w1.heap.size w1
  refine go ?_
  refine s_call2 (wn rfl) rfl rfl rfl (l02Distances_any _ _ _ hv hm) ?_
  rintro ob w2 ⟨D, ho, hDl, hD1, hD0, hDv, hb2⟩
  have sw2 := hb2.size
  replace hv := hv.below hb2
  replace hbx := cell_below hbx hb2
  replace hbB1 := hbB1.trans (hb2.mono hbB1.size)
  have hinit := ho
  rw [← upTo_0 (fun a => a % 2) D] at hinit
  refine go ?_
  refine w_loop (fun kk fr w' => ∃ (i : Nat), kk = nf ms - i ∧ i ≤ nf ms ∧ fr 1 = .pointer (some p) ∧ fr 4 = ob ∧ fr 5 = .int .i64 i ∧ (OI w' w1.heap.size 2 ob (upTo (fun a => a % 2) D i)) ∧ Below w1.heap.size w1 w') (nf ms)
    ⟨0, rfl, Nat.zero_le _, rfl, rfl, rfl, hinit, hbB1⟩ ?_
  rintro kk fr w3 ⟨i, rfl, hi, f1, f4, f5, ho, hbB1⟩
  have sw3 := hbB1.size
  have hv := hv_b1.below hbB1
  have hbx := cell_below hbx_b1 hbB1
  have sho := ho.sv
  refine know (t := 1) f1 ?_; refine know (t := 4) f4 ?_; refine know (t := 5) f5 ?_
  refine go ?_
  have hul := upTo_len (fun a => a % 2) D i
  refine cond_dec rfl (fun hlt => ?_) (fun hge => ?_)
  · have hgi : gi (upTo (fun a => a % 2) D i) i = gi D i := by rw [gi_upTo (by omega) (by omega), if_neg (by omega)]
    have hd1 := hD1 i (by omega) (by omega)
    rw [← hgi] at hd1
    have hst := upTo_step (g := fun a => a % 2) (L := D) (i := i) (by omega)
    refine go ?_
    have szq4 := hbB1.size
    refine s_storeI (wn rfl) rfl rfl ho (by omega) (by omega) (fun w4 hoN hgN => ?_)
    replace hbB1 := hbB1.trans (ho.below_of hgN szq4)
    have sw4 := hgN.size
    replace ho := hoN
    clear hoN
    replace hv := hv_b1.below hbB1
    replace hbx := cell_below hbx_b1 hbB1
    rw [hgi, hst] at ho
    refine go ?_
    refine ⟨nf ms - (i + 1), by omega, i + 1, rfl, by omega, rfl, rfl, rfl, ho, hbB1⟩
  obtain rfl : i = nf ms := by omega
  have hC : ∀ x : Int, 0 ≤ x → x < nf ms → gi (upTo (fun a => a % 2) D (nf ms)) x = gi D x % 2 := fun x h0 hx => by rw [gi_upTo h0 (by omega), if_pos hx]
  generalize upTo (fun a => a % 2) D (nf ms) = C at *
  have hbB2 := Below.refl w3.heap.size w3
  replace hb := hb.trans (hbB1.mono hb.size)
  clear hbB1 hbB2
  have sbs1 := hb.size
  have hv_b1 := hv
  have hbx_b1 := hbx
  have ho_b1 := ho
  have hbB1 := Below.refl w3.heap.size w3
  refine go ?_
  refine w_loop (fun kk fr w' => ∃ (i : Nat), kk = nf ms - i ∧ i ≤ nf ms ∧ fr 1 = .pointer (some p) ∧ fr 4 = ob ∧ fr 6 = .int .i64 i ∧ (∀ f' : Nat, f' < i → ∀ q : Nat, q < ms.length → gi C (gi (gr ms q) f') ≠ gi C f') ∧ Below w3.heap.size w3 w') (nf ms)
    ⟨0, rfl, Nat.zero_le _, rfl, rfl, rfl, fun f' hf => by omega, hbB1⟩ ?_
  rintro kk fr w5 ⟨i, rfl, hi, f1, f4, f6, hall, hbB1⟩
  have sw5 := hbB1.size
  have hv := hv_b1.below hbB1
  have hbx := cell_below hbx_b1 hbB1
  have ho := ho_b1.below hbB1
  refine know (t := 1) f1 ?_; refine know (t := 4) f4 ?_; refine know (t := 6) f6 ?_
  refine go ?_
  refine cond_dec rfl (fun hlt => ?_) (fun hge => ?_)
  · refine go ?_
    refine w_loop (fun kk fr w' => ∃ (j : Nat), kk = ms.length - j ∧ j ≤ ms.length ∧ fr 1 = .pointer (some p) ∧ fr 4 = ob ∧ fr 6 = .int .i64 i ∧ fr 7 = .int .i64 j ∧ (∀ q : Nat, q < j → gi C (gi (gr ms q) i) ≠ gi C i) ∧ Below w3.heap.size w3 w') (ms.length)
      ⟨0, rfl, Nat.zero_le _, rfl, rfl, rfl, rfl, fun q hq => by omega, hbB1⟩ ?_
    rintro kk fr w6 ⟨j, rfl, hj, f1, f4, f6, f7, hnow, hbB1⟩
    have sw6 := hbB1.size
    have hv := hv_b1.below hbB1
    have hbx := cell_below hbx_b1 hbB1
    have ho := ho_b1.below hbB1
    refine know (t := 1) f1 ?_; refine know (t := 4) f4 ?_; refine know (t := 6) f6 ?_; refine know (t := 7) f7 ?_
    refine go ?_
    refine cond_dec rfl (fun hlt2 => ?_) (fun hge2 => ?_)
    · obtain ⟨u, hu, hcu⟩ := hv.row (j := (j : Int)) (by omega) hlt2
      have su := hu.sv
      have hrow := (hm.syst.row (j := (j : Int)) (by omega) hlt2).1
      have hy := hm.syst.at (j := (j : Int)) (x := (i : Int)) (by omega) hlt2 ⟨by omega, by omega⟩
      refine go ?_
      refine region_q mixed (by kernel_rfl) ?_; refine qo ?_; refine q_nil ?_
      intro wq hbq
      have sw6 := hbq.size
      replace hv := hv.below hbq
      replace hbx := cell_below hbx hbq
      replace ho := ho.below hbq
      replace hbB1 := hbB1.trans (hbq.mono hbB1.size)
      refine go ?_
      refine cond_dec rfl (fun he => ?_) (fun he => ?_)
      · have hno : decide (Ori ms) = false := decide_eq_false fun ⟨c, hc⟩ => by
          have h1 := hDv c hc _ hy.1 hy.2
          have h2 := hDv c hc (i : Int) (by omega) (by omega)
          rw [← hC _ hy.1 hy.2] at h1
          rw [← hC _ (by omega) (by omega)] at h2
          have h3 := hc.turn j (by omega) (i : Int) (by omega) (by omega)
          have h4 := hc.rng (i : Int) (by omega) (by omega)
          omega
        have hbf := (hb.trans (hbB1.mono hb.size))
        refine go ?_
        exact end_two Try.results86 rfl rfl ⟨_, _, by rw [hno], OI.nil _ _ _, hbf⟩
      refine go ?_
      refine ⟨ms.length - (j + 1), by omega, j + 1, rfl, by omega, rfl, rfl, rfl, rfl, fun q hq => by by_cases hqj : q = j; (subst hqj; exact he); exact hnow q (by omega), hbB1⟩
    obtain rfl : j = ms.length := by omega
    refine go ?_
    refine ⟨nf ms - (i + 1), by omega, i + 1, rfl, by omega, rfl, rfl, rfl, fun f' hf => by by_cases hfi : f' = i; (subst hfi; exact hnow); exact hall f' (by omega), hbB1⟩
  obtain rfl : i = nf ms := by omega
  have hyes : decide (Ori ms) = true := decide_eq_true ⟨C, fun x h0 hx => by rw [hC x h0 hx]; omega, by rw [hC 0 (by omega) (by omega), hD0]; rfl, fun q hq x h0 hx => by
    have hy := hm.syst.at (j := (q : Int)) (by omega) (by omega) ⟨h0, hx⟩
    have h1 := hall x.toNat (by omega) q hq
    rw [show ((x.toNat : Nat) : Int) = x by omega] at h1
    have h2 := hC _ hy.1 hy.2
    have h3 := hC _ h0 hx
    omega⟩
  have hbf := (hb.trans (hbB1.mono hb.size))
  refine go ?_
  exact end_two Try.results86 rfl rfl ⟨_, C, by rw [hyes], ho.mono (by omega), hbf⟩

set_option maxHeartbeats 8000000 in
set_option maxRecDepth 100000 in
theorem specDoubleCover_any (v : Value) (ms : List (List Int)) (w : World) (hv : RL w v ms) :
    Ret Try.prog 22 #[.agg #[v]] w fun r w' => ∃ x, r = .tuple #[.agg #[x], .int .i64 (dcC ms)] ∧ OM w' w.heap.size w'.heap.size 34 2 x (dcL ms) ∧ Below w.heap.size w w' := by
  have shv := hv.sv
  have hb := Below.refl w.heap.size w
  refine enter1 65 Try.func22 rfl Try.ntmps22 rfl (fun fr => ?_)
  refine go ?_
  refine s_box (wn rfl) rfl rfl (agg_cells shv) (fun w1 hbx _ hp hg => ?_)
  have hb1 := below_of_grownBy hg
  have sw1 := hb1.size
  replace hv := hv.below hb1
  replace hb := hb.trans (hb1.mono hb.size)
  clear hg hp hb1
  generalize (⟨w.heap.size, 0, none⟩ : Addr) = p at *
  have sz0 := hb.size
  refine go ?_
  refine s_alloc (B := w.heap.size) (wn rfl) rfl (by first | exact Nat.le_refl _ | omega) (fun w2 p4 hx4 hg2 hpp4 => ?_)
  have hb2 := below_of_grownBy hg2
  have sw2 := hb2.size
  replace hv := hv.below hb2
  replace hbx := cell_below hbx hb2
  replace hb := hb.trans (hb2.mono hb.size)
  have hlt_hx4 := hx4.lt
  have sz1 := hb.size
  refine go ?_
  refine s_call1 (wn rfl) rfl rfl (l02Is_any _ _ _ hv) ?_
  rintro _ w3 ⟨rfl, hb3⟩
  have sw3 := hb3.size
  replace hv := hv.below hb3
  replace hbx := cell_below hbx hb3
  replace hx4 := hx4.below hb3
  replace hb := hb.trans (hb3.mono hb.size)
  refine splitb (decide (IsMan ms)) (fun hm => ?_) (fun hm => ?_)
  rotate_left
  · have hm' := of_decide_eq_false hm
    have e := dc_1 hm'
    have hbY := hb
    refine go ?_
    refine s_p (wn rfl) rfl y_bld0 ?_
    refine s_storeBox (wn rfl) rfl rfl rfl hx4 (fun w4 hxz hgz => ?_)
    have hbz := hbY.trans (hx4.below_of hgz hbY.size)
    refine go ?_
    exact end_cellT Try.results22 rfl rfl hxz.cell ⟨_, by rw [e.2], by rw [e.1]; exact OM.nil _ _ _ _ _, hbz⟩
  have hm' := of_decide_eq_true hm
  have r5 := hm'.m0.r5
  have r1 := hm'.m0.r1
  have f4 := hm'.m0.f400
  have f2 := hm'.m0.f2
  refine go ?_
  refine s_call1 (wn rfl) rfl rfl (l02Colours_any _ _ _ hv hm') ?_
  rintro _ w5 ⟨cb, L, rfl, hcol, hb5⟩
  have sw5 := hb5.size
  replace hv := hv.below hb5
  replace hbx := cell_below hbx hb5
  replace hx4 := hx4.below hb5
  replace hb := hb.trans (hb5.mono hb.size)
  refine splitb (decide (Ori ms)) (fun hor => ?_) (fun hor => ?_)
  · have hor' := of_decide_eq_true hor
    have e := dc_2 hm' hor'
    have hbY := hb
    refine go ?_
    refine s_p (wn rfl) rfl y_bld0 ?_
    refine s_storeBox (wn rfl) rfl rfl rfl hx4 (fun w6 hxz hgz => ?_)
    have hbz := hbY.trans (hx4.below_of hgz hbY.size)
    refine go ?_
    exact end_cellT Try.results22 rfl rfl hxz.cell ⟨_, by rw [e.2], by rw [e.1]; exact OM.nil _ _ _ _ _, hbz⟩
  have hor' := of_decide_eq_false hor
  refine go ?_
  refine s_call1 (wn rfl) rfl rfl (l02Flags_any _ _ _ hv r1) ?_
  rintro _ w7 ⟨rfl, hb7⟩
  have sw7 := hb7.size
  replace hv := hv.below hb7
  replace hbx := cell_below hbx hb7
  replace hx4 := hx4.below hb7
  replace hb := hb.trans (hb7.mono hb.size)
  by_cases h2 : 200 < nf ms
  · have e := dc_3 hm' hor' h2
    have h2' : (200 : Int) < nf ms := by omega
    have hbY := hb
    refine go ?_
    refine s_p (wn rfl) rfl y_bld0 ?_
    refine s_storeBox (wn rfl) rfl rfl rfl hx4 (fun w8 hxz hgz => ?_)
    have hbz := hbY.trans (hx4.below_of hgz hbY.size)
    refine go ?_
    exact end_cellT Try.results22 rfl rfl hxz.cell ⟨_, by rw [e.2], by rw [e.1]; exact OM.nil _ _ _ _ _, hbz⟩
  have h2' : ¬ (200 : Int) < nf ms := by omega
  have e := dc_4 hm' hor' h2
  have sbs1 := hb.size
  have hv_b1 := hv
  have hbx_b1 := hbx
  have hx4_b1 := hx4
  have hbB1 := Below.refl w7.heap.size w7
  refine go ?_
  refine s_p (wn rfl) rfl y_bld0 ?_
  refine go ?_
  refine s_alloc (B := w7.heap.size) (wn rfl) rfl (by first | exact Nat.le_refl _ | omega) (fun w9 p6 hx6 hg9 hpp6 => ?_)
  have hb9 := below_of_grownBy hg9
  have sw9 := hb9.size
  replace hv := hv.below hb9
  replace hbx := cell_below hbx hb9
  replace hx4 := hx4.below hb9
  replace hbB1 := hbB1.trans (hb9.mono hbB1.size)
  have hlt_hx6 := hx6.lt
  refine go ?_
  refine s_storeBox (wn rfl) rfl rfl rfl hx6 (fun w10 hxN hgN => ?_)
  replace hbB1 := hbB1.trans (hx6.below_of hgN hbB1.size)
  have sw10 := hgN.size
  replace hx6 := hxN
  replace hv := hv_b1.below hbB1
  replace hbx := cell_below hbx_b1 hbB1
  replace hx4 := hx4_b1.below hbB1
  refine go ?_
  refine w_loop (fun kk fr w' => ∃ (i : Nat) (ob : Value), kk = ms.length - i ∧ i ≤ ms.length ∧ fr 1 = .pointer (some p) ∧ fr 2 = .pointer (some p4) ∧ fr 6 = .pointer (some p6) ∧ fr 7 = .int .i64 i ∧ (Bx w' w7.heap.size p6 26 ob) ∧ (OM w' w10.heap.size w'.heap.size 34 2 ob ((ms.take i).map dcv)) ∧ (w10.heap.size ≤ w'.heap.size) ∧ Below w7.heap.size w7 w') (ms.length)
    ⟨0, _, rfl, Nat.zero_le _, rfl, rfl, rfl, rfl, hx6, OM.nil _ _ _ _ _, Nat.le_refl _, hbB1⟩ ?_
  rintro kk fr w11 ⟨i, ob, rfl, hi, f1, f2, f6, f7, hx6, ho, hge6, hbB1⟩
  have sw11 := hbB1.size
  have hv := hv_b1.below hbB1
  have hbx := cell_below hbx_b1 hbB1
  have hx4 := hx4_b1.below hbB1
  have sho := ho.sv
  refine know (t := 1) f1 ?_; refine know (t := 2) f2 ?_; refine know (t := 6) f6 ?_; refine know (t := 7) f7 ?_
  refine go ?_
  refine cond_dec rfl (fun hlt => ?_) (fun hge => ?_)
  · have hrow := (hm'.syst.row (j := (i : Int)) (by omega) (by omega)).1
    have sbs2 := hbB1.size
    have hv_b2 := hv
    have hbx_b2 := hbx
    have hx4_b2 := hx4
    have ho_b2 := ho
    have hx6_b2 := hx6
    have hbB2 := Below.refl w11.heap.size w11
    obtain ⟨u, hu_b2, hcu_b2⟩ := hv_b2.row (j := (i : Int)) (by omega) hlt
    have su := hu_b2.sv
    have hu := hu_b2.below hbB2
    have hcu := cell_below hcu_b2 hbB2
    refine go ?_
    have szq12 := hbB2.size
    refine s_build0 (B := w11.heap.size) (wn rfl) rfl szq12 (fun rb w12 hr so hg12 _ => ?_)
    have hb12 := below_of_grownBy hg12
    have sw12 := hb12.size
    replace hv := hv.below hb12
    replace hbx := cell_below hbx hb12
    replace hx4 := hx4.below hb12
    replace ho := ho.below hb12
    replace hx6 := hx6.below hb12
    replace hu := hu.below hb12
    replace hcu := cell_below hcu hb12
    replace hbB2 := hbB2.trans (hb12.mono hbB2.size)
    refine go ?_
    refine w_loop (fun kk fr w' => ∃ (q : Nat) (rb : Value), kk = 2 * nf ms - q ∧ q ≤ 2 * nf ms ∧ fr 1 = .pointer (some p) ∧ fr 2 = .pointer (some p4) ∧ fr 6 = .pointer (some p6) ∧ fr 7 = .int .i64 i ∧ fr 8 = rb ∧ fr 9 = .int .i64 q ∧ (OI w' w11.heap.size 2 rb (dcvTo (gr ms i) q)) ∧ Below w11.heap.size w11 w') (2 * nf ms)
      ⟨0, rb, rfl, Nat.zero_le _, rfl, rfl, rfl, rfl, rfl, rfl, hr, hbB2⟩ ?_
    rintro kk fr w13 ⟨q, rb, rfl, hq, f1, f2, f6, f7, f8, f9, hr, hbB2⟩
    have sw13 := hbB2.size
    have hv := hv_b2.below hbB2
    have hbx := cell_below hbx_b2 hbB2
    have hx4 := hx4_b2.below hbB2
    have ho := ho_b2.below hbB2
    have hx6 := hx6_b2.below hbB2
    have hu := hu_b2.below hbB2
    have hcu := cell_below hcu_b2 hbB2
    have shr := hr.sv
    refine know (t := 1) f1 ?_; refine know (t := 2) f2 ?_; refine know (t := 6) f6 ?_; refine know (t := 7) f7 ?_; refine know (t := 8) f8 ?_; refine know (t := 9) f9 ?_
    refine go ?_
    have hdl := dcvTo_len (gr ms i) q
    refine s_call1 (wn rfl) rfl rfl (l02Flags_any _ _ _ hv r1) ?_
    rintro _ w14 ⟨rfl, hb14⟩
    have sw14 := hb14.size
    replace hv := hv.below hb14
    replace hbx := cell_below hbx hb14
    replace hx4 := hx4.below hb14
    replace ho := ho.below hb14
    replace hx6 := hx6.below hb14
    replace hu := hu.below hb14
    replace hcu := cell_below hcu hb14
    replace hr := hr.below hb14
    replace hbB2 := hbB2.trans (hb14.mono hbB2.size)
    refine go ?_
    refine s_p (wn rfl) rfl (y_mul rfl rfl (by omega)) ?_
    refine go ?_
    refine cond_dec rfl (fun hlt2 => ?_) (fun hge2 => ?_)
    · have hgq := hm'.syst.at (j := (i : Int)) (x := (q : Int) / 2) (by omega) (by omega) ⟨by omega, by omega⟩
      have e1 : ((q / 2 : Nat) : Int) = (q : Int) / 2 := by omega
      have e2 : ((q % 2 : Nat) : Int) = (q : Int) % 2 := by omega
      refine go ?_
      refine s_p (wn rfl) rfl (y_mul rfl rfl (by omega)) ?_
      refine go ?_
      have szq15 := hbB2.size
      refine s_build1 (B := w11.heap.size) (wn rfl) rfl rfl szq15 (fun tb w15 ht st hg15 _ => ?_)
      have hb15 := below_of_grownBy hg15
      have sw15 := hb15.size
      replace hv := hv.below hb15
      replace hbx := cell_below hbx hb15
      replace hx4 := hx4.below hb15
      replace ho := ho.below hb15
      replace hx6 := hx6.below hb15
      replace hu := hu.below hb15
      replace hcu := cell_below hcu hb15
      replace hr := hr.below hb15
      replace hbB2 := hbB2.trans (hb15.mono hbB2.size)
      have szq16 := hbB2.size
      refine s_appendI (wn rfl) rfl rfl rfl hr ht.il (by simp [hdl]; omega) szq16 (fun rb' w16 hoN so hgN _ => ?_)
      replace hbB2 := hbB2.trans (hr.below_of hgN szq16)
      have sw16 := hgN.size
      replace hr := hoN
      clear hoN
      replace hv := hv_b2.below hbB2
      replace hbx := cell_below hbx_b2 hbB2
      replace hx4 := hx4_b2.below hbB2
      replace ho := ho_b2.below hbB2
      replace hx6 := hx6_b2.below hbB2
      replace hu := hu_b2.below hbB2
      replace hcu := cell_below hcu_b2 hbB2
      refine go ?_
      refine ⟨2 * nf ms - (q + 1), by omega, q + 1, rb', rfl, by omega, rfl, rfl, rfl, rfl, rfl, rfl, by rw [dcvTo_succ, e1, e2]; exact hr, hbB2⟩
    obtain rfl : q = 2 * nf ms := by omega
    replace hbB1 := hbB1.trans (hbB2.mono hbB1.size)
    have hdd : dcvTo (gr ms i) (2 * nf ms) = dcv (gr ms i) := by unfold dcv; rw [hrow]
    rw [hdd] at hr
    have hc_hx6 := hx6.cell
    refine go ?_
    have szq17 := hbB1.size
    refine s_build1V (B := w7.heap.size) (wn rfl) rfl rfl hr.sv.one szq17 (fun tb w17 ht st hg17 _ => ?_)
    have hb17 := below_of_grownBy hg17
    have sw17 := hb17.size
    replace hv := hv.below hb17
    replace hbx := cell_below hbx hb17
    replace hx4 := hx4.below hb17
    replace ho := ho.below hb17
    replace hx6 := hx6.below hb17
    replace hu := hu.below hb17
    replace hcu := cell_below hcu hb17
    replace hr := hr.below hb17
    replace hc_hx6 := cell_below hc_hx6 hb17
    replace hbB1 := hbB1.trans (hb17.mono hbB1.size)
    have szq18 := hbB1.size
    refine s_appendM (wn rfl) rfl rfl rfl ho ht.rd hr (by omega) (by decide) (by simp; omega) (by omega) (fun ob' w18 hoN so hgN => ?_)
    have sw18 := hgN.size
    replace hbB1 := hbB1.trans ((ho.below_of hgN (by omega)).mono (by omega))
    replace hx6 := hx6.kept hgN (by intro e; have := (ho.ownlt _ e).1; omega)
    replace ho := hoN
    clear hoN
    replace hv := hv_b1.below hbB1
    replace hbx := cell_below hbx_b1 hbB1
    replace hx4 := hx4_b1.below hbB1
    refine go ?_
    refine s_storeFld (wn rfl) rfl rfl so.one hx6 (fun w19 hxN hgN => ?_)
    have sw19 := hgN.size
    replace hbB1 := hbB1.trans (hx6.below_of hgN (by omega))
    replace ho := (ho.kept hgN (by omega)).top
    replace hx6 := hxN
    clear hxN
    replace hv := hv_b1.below hbB1
    replace hbx := cell_below hbx_b1 hbB1
    replace hx4 := hx4_b1.below hbB1
    refine go ?_
    refine ⟨ms.length - (i + 1), by omega, i + 1, ob', rfl, by omega, rfl, rfl, rfl, rfl, hx6, by rw [frm_take (by omega)]; exact ho, by omega, hbB1⟩
  obtain rfl : i = ms.length := by omega
  rw [List.take_length] at ho
  have hcx := hx6.cell
  have hx := ho
  refine go ?_
  have hbY := (hb.trans (hbB1.mono hb.size))
  refine go ?_
  refine s_storeBox (wn rfl) rfl rfl hx.sv.one hx4 (fun w20 hxz hgz => ?_)
  have hbz := hbY.trans (hx4.below_of hgz hbY.size)
  have hxN := hx.kept hgz (by omega)
  refine go ?_
  exact end_cellT Try.results22 rfl rfl hxz.cell ⟨ob, by rw [e.2], by rw [e.1]; exact (hxN.mono (by omega)).top, hbz⟩

set_option maxHeartbeats 8000000 in
set_option maxRecDepth 100000 in
theorem implDoubleCover_any (v : Value) (ms : List (List Int)) (w : World) (hv : RL w v ms) :
    Ret Try.prog 21 #[.agg #[v]] w fun r w' => ∃ x, r = .tuple #[.agg #[x], .int .i64 (dcC ms)] ∧ OM w' w.heap.size w'.heap.size 34 2 x (dcL ms) ∧ Below w.heap.size w w' := by
  have shv := hv.sv
  have hb := Below.refl w.heap.size w
  refine enter1 55 Try.func21 rfl Try.ntmps21 rfl (fun fr => ?_)
  refine go ?_
  refine s_box (wn rfl) rfl rfl (agg_cells shv) (fun w1 hbx _ hp hg => ?_)
  have hb1 := below_of_grownBy hg
  have sw1 := hb1.size
  replace hv := hv.below hb1
  replace hb := hb.trans (hb1.mono hb.size)
  clear hg hp hb1
  generalize (⟨w.heap.size, 0, none⟩ : Addr) = p at *
  have sz0 := hb.size
  refine go ?_
  refine s_alloc (B := w.heap.size) (wn rfl) rfl (by first | exact Nat.le_refl _ | omega) (fun w2 p4 hx4 hg2 hpp4 => ?_)
  have hb2 := below_of_grownBy hg2
  have sw2 := hb2.size
  replace hv := hv.below hb2
  replace hbx := cell_below hbx hb2
  replace hb := hb.trans (hb2.mono hb.size)
  have hlt_hx4 := hx4.lt
  have sz1 := hb.size
  refine go ?_
  refine s_call1 (wn rfl) rfl rfl (isManiplex_any _ _ _ hv) ?_
  rintro _ w3 ⟨rfl, hb3⟩
  have sw3 := hb3.size
  replace hv := hv.below hb3
  replace hbx := cell_below hbx hb3
  replace hx4 := hx4.below hb3
  replace hb := hb.trans (hb3.mono hb.size)
  refine splitb (decide (IsMan ms)) (fun hm => ?_) (fun hm => ?_)
  rotate_left
  · have hm' := of_decide_eq_false hm
    have e := dc_1 hm'
    have hbY := hb
    refine go ?_
    refine s_p (wn rfl) rfl y_bld0 ?_
    refine s_storeBox (wn rfl) rfl rfl rfl hx4 (fun w4 hxz hgz => ?_)
    have hbz := hbY.trans (hx4.below_of hgz hbY.size)
    refine go ?_
    exact end_cellT Try.results21 rfl rfl hxz.cell ⟨_, by rw [e.2], by rw [e.1]; exact OM.nil _ _ _ _ _, hbz⟩
  have hm' := of_decide_eq_true hm
  have r5 := hm'.m0.r5
  have r1 := hm'.m0.r1
  have f4 := hm'.m0.f400
  have f2 := hm'.m0.f2
  refine go ?_
  refine s_call1 (wn rfl) rfl rfl (colouring_any _ _ _ _ hv hbx hm') ?_
  rintro _ w5 ⟨cb, L, rfl, hcol, hb5⟩
  have sw5 := hb5.size
  replace hv := hv.below hb5
  replace hbx := cell_below hbx hb5
  replace hx4 := hx4.below hb5
  replace hb := hb.trans (hb5.mono hb.size)
  refine splitb (decide (Ori ms)) (fun hor => ?_) (fun hor => ?_)
  · have hor' := of_decide_eq_true hor
    have e := dc_2 hm' hor'
    have hbY := hb
    refine go ?_
    refine s_p (wn rfl) rfl y_bld0 ?_
    refine s_storeBox (wn rfl) rfl rfl rfl hx4 (fun w6 hxz hgz => ?_)
    have hbz := hbY.trans (hx4.below_of hgz hbY.size)
    refine go ?_
    exact end_cellT Try.results21 rfl rfl hxz.cell ⟨_, by rw [e.2], by rw [e.1]; exact OM.nil _ _ _ _ _, hbz⟩
  have hor' := of_decide_eq_false hor
  refine go ?_
  refine s_call1 (wn rfl) rfl rfl (flags_any _ _ _ _ hbx hv r1) ?_
  rintro _ _ ⟨rfl, rfl⟩
  by_cases h2 : 200 < nf ms
  · have e := dc_3 hm' hor' h2
    have h2' : (200 : Int) < nf ms := by omega
    have hbY := hb
    refine go ?_
    refine s_p (wn rfl) rfl y_bld0 ?_
    refine s_storeBox (wn rfl) rfl rfl rfl hx4 (fun w7 hxz hgz => ?_)
    have hbz := hbY.trans (hx4.below_of hgz hbY.size)
    refine go ?_
    exact end_cellT Try.results21 rfl rfl hxz.cell ⟨_, by rw [e.2], by rw [e.1]; exact OM.nil _ _ _ _ _, hbz⟩
  have h2' : ¬ (200 : Int) < nf ms := by omega
  have e := dc_4 hm' hor' h2
  have sbs1 := hb.size
  have hv_b1 := hv
  have hbx_b1 := hbx
  have hx4_b1 := hx4
  have hbB1 := Below.refl w5.heap.size w5
  refine go ?_
  refine s_alloc (B := w5.heap.size) (wn rfl) rfl (by first | exact Nat.le_refl _ | omega) (fun w8 p6 hx6 hg8 hpp6 => ?_)
  have hb8 := below_of_grownBy hg8
  have sw8 := hb8.size
  replace hv := hv.below hb8
  replace hbx := cell_below hbx hb8
  replace hx4 := hx4.below hb8
  replace hbB1 := hbB1.trans (hb8.mono hbB1.size)
  have hlt_hx6 := hx6.lt
  refine go ?_
  refine w_loop (fun kk fr w' => ∃ (i : Nat) (ob : Value), kk = ms.length - i ∧ i ≤ ms.length ∧ fr 1 = .pointer (some p) ∧ fr 2 = .pointer (some p4) ∧ fr 6 = .pointer (some p6) ∧ fr 26 = v ∧ fr 27 = .int .i64 ms.length ∧ fr 28 = .int .i64 i ∧ (Bx w' w5.heap.size p6 26 ob) ∧ (OM w' w8.heap.size w'.heap.size 34 2 ob ((ms.take i).map dcv)) ∧ (w8.heap.size ≤ w'.heap.size) ∧ Below w5.heap.size w5 w') (ms.length)
    ⟨0, _, rfl, Nat.zero_le _, rfl, rfl, rfl, rfl, rfl, rfl, hx6, OM.nil _ _ _ _ _, Nat.le_refl _, hbB1⟩ ?_
  rintro kk fr w9 ⟨i, ob, rfl, hi, f1, f2, f6, f26, f27, f28, hx6, ho, hge6, hbB1⟩
  have sw9 := hbB1.size
  have hv := hv_b1.below hbB1
  have hbx := cell_below hbx_b1 hbB1
  have hx4 := hx4_b1.below hbB1
  have sho := ho.sv
  refine know (t := 1) f1 ?_; refine know (t := 2) f2 ?_; refine know (t := 6) f6 ?_; refine know (t := 26) f26 ?_; refine know (t := 27) f27 ?_; refine know (t := 28) f28 ?_
  refine go ?_
  refine cond_dec rfl (fun hlt => ?_) (fun hge => ?_)
  · have hrow := (hm'.syst.row (j := (i : Int)) (by omega) (by omega)).1
    have sbs2 := hbB1.size
    have hv_b2 := hv
    have hbx_b2 := hbx
    have hx4_b2 := hx4
    have ho_b2 := ho
    have hx6_b2 := hx6
    have hbB2 := Below.refl w9.heap.size w9
    obtain ⟨u, hu_b2, hcu_b2⟩ := hv_b2.row (j := (i : Int)) (by omega) hlt
    have su := hu_b2.sv
    have hu := hu_b2.below hbB2
    have hcu := cell_below hcu_b2 hbB2
    refine go ?_
    refine w_loop (fun kk fr w' => ∃ (q : Nat) (rb : Value), kk = nf ms - q ∧ q ≤ nf ms ∧ fr 1 = .pointer (some p) ∧ fr 2 = .pointer (some p4) ∧ fr 6 = .pointer (some p6) ∧ fr 26 = v ∧ fr 27 = .int .i64 ms.length ∧ fr 28 = .int .i64 i ∧ fr 8 = u ∧ fr 9 = rb ∧ fr 32 = u ∧ fr 33 = .int .i64 (nf ms) ∧ fr 34 = .int .i64 q ∧ (OI w' w9.heap.size 2 rb (dcvTo (gr ms i) (2 * q))) ∧ Below w9.heap.size w9 w') (nf ms)
      ⟨0, _, rfl, Nat.zero_le _, rfl, rfl, rfl, rfl, rfl, rfl, rfl, rfl, rfl, by rw [hrow]; rfl, rfl, OI.nil _ _ _, hbB2⟩ ?_
    rintro kk fr w10 ⟨q, rb, rfl, hq, f1, f2, f6, f26, f27, f28, f8, f9, f32, f33, f34, hr, hbB2⟩
    have sw10 := hbB2.size
    have hv := hv_b2.below hbB2
    have hbx := cell_below hbx_b2 hbB2
    have hx4 := hx4_b2.below hbB2
    have ho := ho_b2.below hbB2
    have hx6 := hx6_b2.below hbB2
    have hu := hu_b2.below hbB2
    have hcu := cell_below hcu_b2 hbB2
    have shr := hr.sv
    refine know (t := 1) f1 ?_; refine know (t := 2) f2 ?_; refine know (t := 6) f6 ?_; refine know (t := 26) f26 ?_; refine know (t := 27) f27 ?_; refine know (t := 28) f28 ?_; refine know (t := 8) f8 ?_; refine know (t := 9) f9 ?_; refine know (t := 32) f32 ?_; refine know (t := 33) f33 ?_; refine know (t := 34) f34 ?_
    refine go ?_
    have hdl := dcvTo_len (gr ms i) (2 * q)
    refine cond_dec rfl (fun hlt2 => ?_) (fun hge2 => ?_)
    · have hgq := hm'.syst.at (j := (i : Int)) (x := (q : Int)) (by omega) (by omega) ⟨by omega, by omega⟩
      refine go ?_
      refine s_p (wn rfl) rfl (y_mul rfl rfl (by omega)) ?_
      refine go ?_
      refine s_p (wn rfl) rfl (y_mul rfl rfl (by omega)) ?_
      refine go ?_
      refine s_build2 (B := w10.heap.size) (wn rfl) rfl rfl rfl (Nat.le_refl _) (fun tb w11 ht st hg11 _ => ?_)
      have hb11 := below_of_grownBy hg11
      have sw11 := hb11.size
      replace hv := hv.below hb11
      replace hbx := cell_below hbx hb11
      replace hx4 := hx4.below hb11
      replace ho := ho.below hb11
      replace hx6 := hx6.below hb11
      replace hu := hu.below hb11
      replace hcu := cell_below hcu hb11
      replace hr := hr.below hb11
      replace hbB2 := hbB2.trans (hb11.mono hbB2.size)
      have szq12 := hbB2.size
      refine s_appendI (wn rfl) rfl rfl rfl hr ht.il (by simp [hdl]; omega) (by omega) (fun rb' w12 hoN so hgN _ => ?_)
      replace hbB2 := hbB2.trans (hr.below_of hgN (by omega))
      have sw12 := hgN.size
      replace hr := hoN
      clear hoN
      replace hv := hv_b2.below hbB2
      replace hbx := cell_below hbx_b2 hbB2
      replace hx4 := hx4_b2.below hbB2
      replace ho := ho_b2.below hbB2
      replace hx6 := hx6_b2.below hbB2
      replace hu := hu_b2.below hbB2
      replace hcu := cell_below hcu_b2 hbB2
      refine go ?_
      refine ⟨nf ms - (q + 1), by omega, q + 1, rb', rfl, by omega, rfl, rfl, rfl, rfl, rfl, rfl, rfl, rfl, rfl, rfl, rfl, by rw [dcvTo_two]; exact hr, hbB2⟩
    obtain rfl : q = nf ms := by omega
    replace hbB1 := hbB1.trans (hbB2.mono hbB1.size)
    have hdd : dcvTo (gr ms i) (2 * nf ms) = dcv (gr ms i) := by unfold dcv; rw [hrow]
    rw [hdd] at hr
    have hc_hx6 := hx6.cell
    refine go ?_
    have szq13 := hbB1.size
    refine s_build1V (B := w5.heap.size) (wn rfl) rfl rfl hr.sv.one szq13 (fun tb w13 ht st hg13 _ => ?_)
    have hb13 := below_of_grownBy hg13
    have sw13 := hb13.size
    replace hv := hv.below hb13
    replace hbx := cell_below hbx hb13
    replace hx4 := hx4.below hb13
    replace ho := ho.below hb13
    replace hx6 := hx6.below hb13
    replace hu := hu.below hb13
    replace hcu := cell_below hcu hb13
    replace hr := hr.below hb13
    replace hc_hx6 := cell_below hc_hx6 hb13
    replace hbB1 := hbB1.trans (hb13.mono hbB1.size)
    have szq14 := hbB1.size
    refine s_appendM (wn rfl) rfl rfl rfl ho ht.rd hr (by omega) (by decide) (by simp; omega) (by omega) (fun ob' w14 hoN so hgN => ?_)
    have sw14 := hgN.size
    replace hbB1 := hbB1.trans ((ho.below_of hgN (by omega)).mono (by omega))
    replace hx6 := hx6.kept hgN (by intro e; have := (ho.ownlt _ e).1; omega)
    replace ho := hoN
    clear hoN
    replace hv := hv_b1.below hbB1
    replace hbx := cell_below hbx_b1 hbB1
    replace hx4 := hx4_b1.below hbB1
    refine go ?_
    refine s_storeFld (wn rfl) rfl rfl so.one hx6 (fun w15 hxN hgN => ?_)
    have sw15 := hgN.size
    replace hbB1 := hbB1.trans (hx6.below_of hgN (by omega))
    replace ho := (ho.kept hgN (by omega)).top
    replace hx6 := hxN
    clear hxN
    replace hv := hv_b1.below hbB1
    replace hbx := cell_below hbx_b1 hbB1
    replace hx4 := hx4_b1.below hbB1
    refine go ?_
    refine ⟨ms.length - (i + 1), by omega, i + 1, ob', rfl, by omega, rfl, rfl, rfl, rfl, rfl, rfl, hx6, by rw [frm_take (by omega)]; exact ho, by omega, hbB1⟩
  obtain rfl : i = ms.length := by omega
  rw [List.take_length] at ho
  have hcx := hx6.cell
  have hx := ho
  refine go ?_
  have hbY := (hb.trans (hbB1.mono hb.size))
  refine go ?_
  refine s_storeBox (wn rfl) rfl rfl hx.sv.one hx4 (fun w16 hxz hgz => ?_)
  have hbz := hbY.trans (hx4.below_of hgz hbY.size)
  have hxN := hx.kept hgz (by omega)
  refine go ?_
  exact end_cellT Try.results21 rfl rfl hxz.cell ⟨ob, by rw [e.2], by rw [e.1]; exact (hxN.mono (by omega)).top, hbz⟩

end Go.Proofs.Ytmdimdbfgibflaa
