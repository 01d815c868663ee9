/- Contracts: SectionForms, on both sides. -/
import Derived.Test.YtdpjjgjeodippaaGreatF107
import Derived.Test.YtdpjjgjeodippaaGreatF103
namespace Go.Mem
open Go.RowKit
set_option linter.unusedVariables false
noncomputable def sfL (ms : List (List Int)) (i k : Int) : List (List (List Int)) := if IsMan ms ∧ SecOk ms i k then secF (nf ms) (secA ms i k) else []
section
variable {ms : List (List Int)} {i k : Int}
theorem sf_no (h : ¬ (IsMan ms ∧ SecOk ms i k)) : sfL ms i k = [] := if_neg h
theorem sf_yes (hm : IsMan ms) (h : SecOk ms i k) : sfL ms i k = secF (nf ms) (secA ms i k) := if_pos ⟨hm, h⟩
theorem secA_like (hm : IsMan ms) (h : SecOk ms i k) : Like (nf ms) (secA ms i k) := by
  obtain ⟨h1, h2, h3⟩ := h
  exact (hm.like.take (by omega)).drop (by simp; omega)
theorem secF_ok (hm : IsMan ms) (h : SecOk ms i k) : (secF (nf ms) (secA ms i k)).length ≤ 400 ∧ ∀ m ∈ secF (nf ms) (secA ms i k), IsMan m := by
  have hlk := secA_like hm h
  have h4 := hm.m0.f400
  have f2 := hm.m0.f2
  have hL := (labs_all (hlk.sym fun m h => h) (by omega)).c0
  have hl := secF_le (n := nf ms) (A := secA ms i k)
  exact ⟨by omega, fun m hin => secO_ok hlk (by omega) m (((fmsM_ok _).2 m).1 hin)⟩
theorem sfL_len (ms : List (List Int)) (i k : Int) : 1 + totS (sfL ms i k) ≤ 4000000000000000000 := by
  unfold sfL
  split
  · rename_i hh
    obtain ⟨h1, h0⟩ := secF_ok hh.1 hh.2
    have h2 := totS_le (c := 1000000000) (secF (nf ms) (secA ms i k)) fun m hin => by
      have hk := h0 m hin
      have r5 := hk.m0.r5
      have f4 := hk.m0.f400
      have := tot_le (c := 400) (xss := m) (fun xs hx => by obtain ⟨q, hq, rfl⟩ := mem_gr hx; have := (hk.m0.row q hq).1; omega)
      omega
    omega
  · simp [totS]
end
end Go.Mem
namespace Go.Proofs.YtdpjjgjeodippaaGreat
open Go.Mem Go.RowKit
set_option linter.unusedVariables false
set_option linter.unusedSimpArgs false

set_option maxHeartbeats 8000000 in
set_option maxRecDepth 100000 in
theorem l01Own2_any (v : Value) (xss : List (List Int)) (w : World) (hv : RL w v xss) (hm : xss.length ≤ 1000) (hr : ∀ xs ∈ xss, xs.length ≤ 1000000) :
    Ret Tryz.prog 35 #[v] w fun r w' => OM w' w.heap.size w'.heap.size 38 2 r xss ∧ Below w.heap.size w w' := by
  have shv := hv.sv
  have hb := Below.refl w.heap.size w
  refine enter1 21 Tryz.func35 rfl Tryz.ntmps35 rfl (fun fr => ?_)
  have sbs1 := hb.size
  have hv_b1 := hv
  have hbB1 := Below.refl w.heap.size w
  refine go ?_
  have szq1 := hbB1.size
  refine s_build (B := w.heap.size) [] (wn rfl) rfl (by simp) (by decide) rfl (by simp) szq1 (fun ob w1 ho hg1 _ => ?_)
  have hb1 := below_of_grownBy hg1
  have sw1 := hb1.size
  replace hv := hv.below hb1
  replace hbB1 := hbB1.trans (hb1.mono hbB1.size)
  replace ho := OM.empty (E := w1.heap.size) (U := 2) ho
  refine go ?_
  refine w_loop (fun kk fr w' => ∃ (i : Nat) (ob : Value), kk = xss.length - i ∧ i ≤ xss.length ∧ fr 0 = v ∧ fr 3 = ob ∧ fr 4 = .int .i64 i ∧ (OM w' w.heap.size w'.heap.size 38 2 ob (xss.take i)) ∧ Below w.heap.size w w') (xss.length)
    ⟨0, _, rfl, Nat.zero_le _, rfl, rfl, rfl, ho, hbB1⟩ ?_
  rintro kk fr w2 ⟨i, ob, rfl, hi, f0, f3, f4, ho, hbB1⟩
  have sw2 := hbB1.size
  have hv := hv_b1.below hbB1
  have sho := ho.sv
  refine know (t := 0) f0 ?_; refine know (t := 3) f3 ?_; refine know (t := 4) f4 ?_
  refine go ?_
  refine cond_dec rfl (fun hlt => ?_) (fun hge => ?_)
  · have hil : i < xss.length := by omega
    have hrl := hr _ (gr_in hil)
    obtain ⟨u, hu, hcu⟩ := hv.row (j := (i : Int)) (by omega) hlt
    have su := hu.sv
    refine go ?_
    refine s_call1 (wn rfl) rfl rfl (l01Own_any _ _ _ hu (by omega)) ?_
    rintro rb w3 ⟨hr1, hb3⟩
    have sw3 := hb3.size
    replace hv := hv.below hb3
    replace ho := ho.below hb3
    replace hu := hu.below hb3
    replace hcu := cell_below hcu hb3
    replace hbB1 := hbB1.trans (hb3.mono hbB1.size)
    refine go ?_
    have szq4 := hbB1.size
    refine s_build1V (B := w.heap.size) (wn rfl) rfl rfl hr1.sv.one szq4 (fun tb w4 ht st hg4 _ => ?_)
    have hb4 := below_of_grownBy hg4
    have sw4 := hb4.size
    replace hv := hv.below hb4
    replace ho := ho.below hb4
    replace hu := hu.below hb4
    replace hcu := cell_below hcu hb4
    replace hr1 := hr1.below hb4
    replace hbB1 := hbB1.trans (hb4.mono hbB1.size)
    have szq5 := hbB1.size
    refine s_appendM (wn rfl) rfl rfl rfl ho ht.rd hr1 (by omega) (by decide) (by simp; omega) szq5 (fun ob' w5 hoN so hgN => ?_)
    replace hbB1 := hbB1.trans (ho.below_of hgN szq5)
    have sw5 := hgN.size
    replace ho := hoN
    clear hoN
    replace hv := hv_b1.below hbB1
    replace ho := ho.top
    refine go ?_
    refine ⟨xss.length - (i + 1), by omega, i + 1, ob', rfl, by omega, rfl, rfl, rfl, by rw [take_gr hil]; exact ho, hbB1⟩
  obtain rfl : i = xss.length := by omega
  rw [List.take_length] at ho
  replace ho := ho.mono (B' := w.heap.size) (by omega)
  refine go ?_
  exact end_one Tryz.results35 rfl ⟨ho, (hb.trans (hbB1.mono hb.size))⟩


set_option maxHeartbeats 8000000 in
set_option maxRecDepth 100000 in
theorem l02Own_any (v : Value) (ms : List (List Int)) (w : World) (hv : RL w v ms) (hm : ms.length ≤ 1000) (hr : ∀ xs ∈ ms, xs.length ≤ 1000000) :
    Ret Tryz.prog 16 #[.agg #[v]] w fun r w' => ∃ x, r = .agg #[x] ∧ x.oneCell' = true ∧ RL w' x ms ∧ (∃ B E, OM w' B E 38 2 x ms) ∧ Below w.heap.size w w' := by
  have sv := hv.sv
  refine enter1 7 Tryz.func16 rfl Tryz.ntmps16 rfl (fun fr => ?_)
  refine go ?_
  refine s_box (wn rfl) rfl rfl (agg_cells sv) (fun w1 hbx _ hp1 hg => ?_)
  have hb := below_of_grownBy hg
  have hv := hv.below hb
  generalize hpe : (⟨w.heap.size, 0, none⟩ : Addr) = p at *
  refine go ?_
  refine s_alloc (B := w.heap.size) (wn rfl) rfl hb.size (fun w2 p4 hx4 hg2 _ => ?_)
  have hb2 := hb.trans ((below_of_grownBy hg2).mono hb.size)
  have hv2 := hv.below (below_of_grownBy hg2)
  have hbx2 := cell_below hbx (below_of_grownBy hg2)
  refine go ?_
  refine s_call1 (wn rfl) rfl rfl (l01Own2_any _ _ _ hv2 hm hr) ?_
  rintro x w3 ⟨hx, hb3⟩
  have hx43 := hx4.below hb3
  have hb23 := hb2.trans (hb3.mono hb2.size)
  refine go ?_
  refine s_p (wn rfl) rfl (y_bld1 rfl hx.sv.one) ?_
  refine s_storeBox (wn rfl) rfl rfl hx.sv.one hx43 (fun w4 hxz hgz => ?_)
  have hx5 := hx.boxE hx43 (by decide) (by decide) hgz
  have hbz := hb23.trans (hx43.below_of hgz hb23.size)
  refine go ?_
  exact end_cell Tryz.results16 rfl hxz.cell ⟨_, rfl, hx5.sv.one, hx5.rl, ⟨_, _, hx5⟩, hbz⟩

set_option maxHeartbeats 8000000 in
set_option maxRecDepth 100000 in
theorem implSectionForms_any (v : Value) (ms : List (List Int)) (i k : Int) (w : World) (hv : RL w v ms) :
    Ret Tryz.prog 7 #[.agg #[v], .int .i64 i, .int .i64 k] w fun r w' => ∃ y, r = .tuple #[y, .int .i64 (skC ms i k)] ∧ OS w' w.heap.size w'.heap.size 29 38 2 y (sfL ms i k) ∧ Below w.heap.size w w' := by
  have sv := hv.sv
  refine enter3 26 Tryz.func7 rfl Tryz.ntmps7 rfl (fun fr => ?_)
  refine go ?_
  refine s_box (wn rfl) rfl rfl (agg_cells sv) (fun w1 hbx _ hp1 hg => ?_)
  have hb := below_of_grownBy hg
  have hv := hv.below hb
  generalize hpe : (⟨w.heap.size, 0, none⟩ : Addr) = p at *
  refine go ?_
  refine s_call1 (wn rfl) rfl rfl (isManiplex_any _ _ _ hv) ?_
  rintro _ w2 ⟨rfl, hb2⟩
  have hb := hb.trans (hb2.mono hb.size)
  have hbx := cell_below hbx hb2
  have hv := hv.below hb2
  refine splitb (decide (IsMan ms)) (fun hm => ?_) (fun hm => ?_)
  rotate_left
  · have hm' := of_decide_eq_false hm
    have e := sk_1 (i := i) (k := k) hm'
    have e1 := sf_no (ms := ms) (i := i) (k := k) (fun h => hm' h.1)
    refine go ?_
    exact end_two Tryz.results7 rfl rfl ⟨_, by rw [e.2], by rw [e1]; exact OS.nil _ _ _ _ _ _, hb⟩
  have hm' := of_decide_eq_true hm
  refine go ?_
  refine s_call3 (wn rfl) rfl rfl rfl rfl (areRanks_any _ _ _ _ _ _ hv hbx hm'.m0.r5) ?_
  rintro _ _ ⟨rfl, rfl⟩
  refine splitb (decide (SecOk ms i k)) (fun hs => ?_) (fun hs => ?_)
  rotate_left
  · have hs' := of_decide_eq_false hs
    have e := sk_2 hm' hs'
    have e1 := sf_no (ms := ms) (i := i) (k := k) (fun h => hs' h.2)
    refine go ?_
    exact end_two Tryz.results7 rfl rfl ⟨_, by rw [e.2], by rw [e1]; exact OS.nil _ _ _ _ _ _, hb⟩
  have hs' := of_decide_eq_true hs
  have e := sk_3 hm' hs'
  have e1 := sf_yes hm' hs'
  refine go ?_
  refine s_call3 (wn rfl) rfl rfl rfl rfl (sectionFormsS_any _ _ _ _ _ _ hv hbx hm' hs') ?_
  rintro _ w3 ⟨x, y, rfl, hx, hy, hb3⟩
  have hbz := hb.trans (hb3.mono hb.size)
  refine go ?_
  exact end_two Tryz.results7 rfl rfl ⟨_, by rw [e.2], by rw [e1]; exact hx.mono hb.size, hbz⟩

set_option maxHeartbeats 8000000 in
set_option maxRecDepth 100000 in
theorem specSectionForms_any (v : Value) (ms : List (List Int)) (i k : Int) (w : World) (hv : RL w v ms) :
    Ret Tryz.prog 5 #[.agg #[v], .int .i64 i, .int .i64 k] w fun r w' => ∃ y, r = .tuple #[y, .int .i64 (skC ms i k)] ∧ RS w' y (sfL ms i k) ∧ Below w.heap.size w w' := by
  have sv := hv.sv
  refine enter3 43 Tryz.func5 rfl Tryz.ntmps5 rfl (fun fr => ?_)
  refine go ?_
  refine s_box (wn rfl) rfl rfl (agg_cells sv) (fun w1 hbx _ hp1 hg => ?_)
  have hb := below_of_grownBy hg
  have hv := hv.below hb
  generalize hpe : (⟨w.heap.size, 0, none⟩ : Addr) = p at *
  refine go ?_
  refine s_call4 (wn rfl) rfl rfl rfl rfl rfl (l04Code_any _ _ _ _ _ hv) ?_
  rintro _ w2 ⟨rfl, hb2⟩
  have hb := hb.trans (hb2.mono hb.size)
  have hbx := cell_below hbx hb2
  have hv := hv.below hb2
  have hnil : ∀ W : World, RS W (.slice none 0 0) [] := fun W => (OS.nil W 0 0 29 38 2).rs
  by_cases hm : IsMan ms
  rotate_left
  · have e := sk_1 (i := i) (k := k) hm
    have e1 := sf_no (ms := ms) (i := i) (k := k) (fun h => hm h.1)
    rw [e.2]
    refine go ?_
    exact end_two Tryz.results5 rfl rfl ⟨_, rfl, by rw [e1]; exact hnil _, hb⟩
  by_cases hs : SecOk ms i k
  rotate_left
  · have e := sk_2 hm hs
    have e1 := sf_no (ms := ms) (i := i) (k := k) (fun h => hs h.2)
    rw [e.2]
    refine go ?_
    exact end_two Tryz.results5 rfl rfl ⟨_, rfl, by rw [e1]; exact hnil _, hb⟩
  have e := sk_3 hm hs
  have e1 := sf_yes hm hs
  obtain ⟨hF4, hFm⟩ := secF_ok hm hs
  rw [e.2]
  refine go ?_
  refine s_call3 (wn rfl) rfl rfl rfl rfl (l04Forms_any _ _ _ _ _ hv hm hs) ?_
  rintro _ wA ⟨x, y, us, rfl, hX, hE, hy, hb3⟩
  have hbA := hb.trans (hb3.mono hb.size)
  have sX := hX.sv
  have hul := hE.len
  generalize hFe : secF (nf ms) (secA ms i k) = F at *
  refine go ?_
  refine s_buildE (B := wA.heap.size) [] (wn rfl) rfl rfl (by decide) rfl (by simp) (Nat.le_refl _) (fun ob w4 hob hg4 _ => ?_)
  have hb4 := below_of_grownBy hg4
  refine go ?_
  refine w_loop (fun kk fr w' => ∃ (j : Nat) (ob : Value) (vo : List Value), kk = us.length - j ∧ j ≤ us.length ∧ fr 9 = x ∧ fr 11 = ob ∧ fr 12 = .int .i64 j ∧ Own w' wA.heap.size 29 ob vo ∧ Els w' 38 2 vo (F.take j) ∧ Below wA.heap.size wA w') us.length
    ⟨0, ob, [], rfl, Nat.zero_le _, rfl, rfl, rfl, hob, Els.nil _ _ _, hb4⟩ ?_
  rintro kk fr w5 ⟨j, ob, vo, rfl, hj, f9, f11, f12, hob, hEo, hb5⟩
  have hX5 := hX.below hb5
  have hE5 := hE.below hb5
  have hvo := hEo.len
  rw [List.length_take] at hvo
  have z5 := hb5.size
  refine know (t := 9) f9 ?_; refine know (t := 11) f11 ?_; refine know (t := 12) f12 ?_
  refine go ?_
  refine cond_dec rfl (fun hlt => ?_) (fun hge => ?_)
  · have hju : j < us.length := by omega
    have hjF : j < F.length := by omega
    obtain ⟨_, _, hu⟩ := hE5.row j (us.getD j undef) (F.getD j []) (by simp [List.getD, hju]) (by simp [List.getD, hjF])
    have hcu : w5.cell? (addrOf x ((j : Int)).toNat) = some (us.getD j undef) := by
      rw [show ((j : Int)).toNat = j by omega]
      exact hX5.rd.cell (by simp [List.getD, hju])
    have hmj := hFm (F.getD j []) (by simp [List.getD, hjF])
    refine go ?_
    refine s_p (wn rfl) rfl (y_idxSE rfl rfl sX (by omega) (by omega)) ?_
    refine go ?_
    refine s_call1 (wn rfl) rfl rfl (l02Own_any _ _ _ hu.rl (by have := hmj.m0.r5; omega) (fun xs hxs => by obtain ⟨q, hq, rfl⟩ := mem_gr hxs; have := (hmj.m0.row q hq).1; have := hmj.m0.f400; omega)) ?_
    rintro _ w6 ⟨z, rfl, hz1, hzr, ⟨Bz, Ez, hz⟩, hb6⟩
    refine go ?_
    refine s_buildE (B := w6.heap.size) [z] (wn rfl) rfl rfl (by decide) rfl (by simpa using hz1) (Nat.le_refl _) (fun tb w7 htb hg7 _ => ?_)
    have hb67 := hb6.trans ((below_of_grownBy hg7).mono hb6.size)
    have hob7 := hob.below hb67
    have hEo7 := hEo.below hb67
    have hz7 := hz.below (below_of_grownBy hg7)
    have z7 := hb67.size
    refine go ?_
    refine s_appendE (wn rfl) rfl rfl rfl hob7 htb.rd (by simpa using hz1) (by simp; omega) (by omega) (fun ob' w8 hob8 hg8 _ => ?_)
    have hE8 := (hEo7.kept hob7 (by decide) (by decide) hg8).app (Els.single (hz7.kept_type hob7 (by decide) (by decide) hg8))
    have hb8 := (hb5.trans (hb67.mono z5)).trans (grownBy_below hg8 (by omega) (fun g hg => (hob7.lt g hg).1))
    refine go ?_
    refine ⟨us.length - (j + 1), by omega, j + 1, ob', _, rfl, by omega, rfl, rfl, rfl, hob8, ?_, hb8⟩
    rw [List.take_succ_eq_append_getElem hjF]
    have e3 : F.getD j [] = F[j] := by simp [List.getD, hjF]
    rw [← e3]
    exact hE8
  obtain rfl : j = us.length := by omega
  rw [List.take_of_length_le (by omega)] at hEo
  have hel := hEo.len
  refine go ?_
  exact end_two Tryz.results5 rfl rfl ⟨_, rfl, by rw [e1]; exact ⟨vo, hob.rd, hel, fun a b c h1 h2 => by obtain ⟨_, _, h⟩ := hEo.row a b c h1 h2; exact h.rl⟩, hbA.trans (hb5.mono hbA.size)⟩

end Go.Proofs.YtdpjjgjeodippaaGreat
