/- Contracts: DualOf, on both sides. -/
import Derived.Test.YtmdimdbfgibflaaF33
import Derived.Test.YtmdimdbfgibflaaFG
namespace Go.Mem
theorem revw_take {k i : Nat} (h : i < k) : (revw k).take (i + 1) = (revw k).take i ++ [[(k : Int) - 1 - i]] := by
  rw [List.take_succ_eq_append_getElem (by simpa [revw] using h)]
  simp [revw]
theorem revw_words {ms : List (List Int)} : ∀ w ∈ revw ms.length, IsWord ms w := fun w hw => by
  obtain ⟨i, hi, rfl⟩ := List.mem_map.1 hw
  have := List.mem_range.1 hi
  exact ⟨by simp, fun x hx => by simp at hx; subst hx; omega⟩
theorem revw_len (k : Nat) : (revw k).length = k := by simp [revw]
theorem repl_rev {ms : List (List Int)} (hm : IsMan ms) : repl ms (revw ms.length) = frm (nf ms) ms.reverse 0 := by unfold repl; rw [wds_rev hm]
end Go.Mem
namespace Go.Proofs.Ytmdimdbfgibflaa
open Go.Mem Go.RowKit
set_option linter.unusedVariables false

set_option maxHeartbeats 8000000 in
set_option maxRecDepth 100000 in
theorem l05Dual_any (v : Value) (ms : List (List Int)) (w : World) (hv : RL w v ms) (hm : IsMan ms) :
    Ret Try.prog 119 #[.agg #[v]] w fun r w' => ∃ x, r = .agg #[x] ∧ OM w' w.heap.size w'.heap.size 34 2 x (frm (nf ms) ms.reverse 0) ∧ Below w.heap.size w w' := by
  have shv := hv.sv
  have hb := Below.refl w.heap.size w
  refine enter1 28 Try.func119 rfl Try.ntmps119 rfl (fun fr => ?_)
  have r5 := hm.m0.r5
  have r1 := hm.m0.r1
  have hrl := revw_len ms.length
  refine go ?_
  refine s_box (wn rfl) rfl rfl (agg_cells shv) (fun w1 hbx _ hp hg => ?_)
  have hb1 := below_of_grownBy hg
  have sw1 := hb1.size
  replace hv := hv.below hb1
  replace hb := hb.trans (hb1.mono hb.size)
  clear hg hp hb1
  generalize (⟨w.heap.size, 0, none⟩ : Addr) = p at *
  have sz0 := hb.size
  refine go ?_
  refine s_alloc (B := w.heap.size) (wn rfl) rfl (by first | exact Nat.le_refl _ | omega) (fun w2 p4 hx4 hg2 hpp4 => ?_)
  have hb2 := below_of_grownBy hg2
  have sw2 := hb2.size
  replace hv := hv.below hb2
  replace hbx := cell_below hbx hb2
  replace hb := hb.trans (hb2.mono hb.size)
  have hlt_hx4 := hx4.lt
  have sz1 := hb.size
  have sbs1 := hb.size
  have hv_b1 := hv
  have hbx_b1 := hbx
  have hx4_b1 := hx4
  have hbB1 := Below.refl w2.heap.size w2
  refine go ?_
  have szq3 := hbB1.size
  refine s_build (B := w2.heap.size) [] (wn rfl) rfl (by simp) (by decide) rfl (by simp) szq3 (fun ob w3 ho hg3 _ => ?_)
  have hb3 := below_of_grownBy hg3
  have sw3 := hb3.size
  replace hv := hv.below hb3
  replace hbx := cell_below hbx hb3
  replace hx4 := hx4.below hb3
  replace hbB1 := hbB1.trans (hb3.mono hbB1.size)
  replace ho := OM.empty (E := w3.heap.size) (U := 2) ho
  refine go ?_
  refine w_loop (fun kk fr w' => ∃ (i : Nat) (ob : Value), kk = ms.length - i ∧ i ≤ ms.length ∧ fr 1 = .pointer (some p) ∧ fr 2 = .pointer (some p4) ∧ fr 3 = ob ∧ fr 4 = .int .i64 ((ms.length : Int) - 1 - i) ∧ (OM w' w2.heap.size w'.heap.size 34 2 ob ((revw ms.length).take i)) ∧ Below w2.heap.size w2 w') (ms.length)
    ⟨0, ob, rfl, Nat.zero_le _, rfl, rfl, rfl, by show Value.int _ _ = _; congr 1; omega, ho.top, hbB1⟩ ?_
  rintro kk fr w4 ⟨i, ob, rfl, hi, f1, f2, f3, f4, ho, hbB1⟩
  have sw4 := hbB1.size
  have hv := hv_b1.below hbB1
  have hbx := cell_below hbx_b1 hbB1
  have hx4 := hx4_b1.below hbB1
  have sho := ho.sv
  refine know (t := 1) f1 ?_; refine know (t := 2) f2 ?_; refine know (t := 3) f3 ?_; refine know (t := 4) f4 ?_
  refine go ?_
  refine cond_dec rfl (fun hlt => ?_) (fun hge => ?_)
  · replace ho := ho.top
    refine go ?_
    refine s_build1 (B := w4.heap.size) (wn rfl) rfl rfl (Nat.le_refl _) (fun rb w5 hr sr5 hg5 _ => ?_)
    have hb5 := below_of_grownBy hg5
    have sw5 := hb5.size
    replace hv := hv.below hb5
    replace hbx := cell_below hbx hb5
    replace hx4 := hx4.below hb5
    replace ho := ho.below hb5
    replace hbB1 := hbB1.trans (hb5.mono hbB1.size)
    have szq6 := hbB1.size
    refine s_build1V (B := w2.heap.size) (wn rfl) rfl rfl hr.sv.one szq6 (fun tb w6 ht st hg6 _ => ?_)
    have hb6 := below_of_grownBy hg6
    have sw6 := hb6.size
    replace hv := hv.below hb6
    replace hbx := cell_below hbx hb6
    replace hx4 := hx4.below hb6
    replace ho := ho.below hb6
    replace hr := hr.below hb6
    replace hbB1 := hbB1.trans (hb6.mono hbB1.size)
    have szq7 := hbB1.size
    refine s_appendM (wn rfl) rfl rfl rfl ho ht.rd hr (by omega) (by decide) (by simp; omega) szq7 (fun ob' w7 hoN so hgN => ?_)
    replace hbB1 := hbB1.trans (ho.below_of hgN szq7)
    have sw7 := hgN.size
    replace ho := hoN
    clear hoN
    replace hv := hv_b1.below hbB1
    replace hbx := cell_below hbx_b1 hbB1
    replace hx4 := hx4_b1.below hbB1
    refine go ?_
    refine ⟨ms.length - (i + 1), by omega, i + 1, ob', rfl, by omega, rfl, rfl, rfl, by show Value.int _ _ = _; congr 1; omega, by rw [revw_take (by omega)]; exact ho, hbB1⟩
  obtain rfl : i = ms.length := by omega
  rw [List.take_of_length_le (by omega)] at ho
  refine go ?_
  refine s_call2 (wn rfl) rfl rfl rfl (l05Replace_any _ _ _ _ _ hv ho.rl hm revw_words (by omega) (by omega)) ?_
  rintro _ w8 ⟨x, rfl, hx, hb8⟩
  have sw8 := hb8.size
  replace hv := hv.below hb8
  replace hbx := cell_below hbx hb8
  replace hx4 := hx4.below hb8
  replace ho := ho.below hb8
  replace hbB1 := hbB1.trans (hb8.mono hbB1.size)
  rw [repl_rev hm] at hx
  refine go ?_
  refine s_alloc (B := w8.heap.size) (wn rfl) rfl (Nat.le_refl _) (fun w9 p5 hx5 hg9 hpp5 => ?_)
  have hb9 := below_of_grownBy hg9
  refine go ?_
  refine s_storeBox (wn rfl) rfl rfl hx.sv.one hx5 (fun w10 hx5b hg5 => ?_)
  have hbq5 := hb9.trans (hx5.below_of hg5 hb9.size)
  have sw10 := hbq5.size
  replace hv := hv.below hbq5
  replace hbx := cell_below hbx hbq5
  replace hx4 := hx4.below hbq5
  replace ho := ho.below hbq5
  replace hx := hx.below hbq5
  replace hbB1 := hbB1.trans (hbq5.mono hbB1.size)
  have hc5 := hx5b.cell
  have hbY := (hb.trans (hbB1.mono hb.size))
  refine go ?_
  refine s_storeBox (wn rfl) rfl rfl hx.sv.one hx4 (fun w11 hxz hgz => ?_)
  have hbz := hbY.trans (hx4.below_of hgz hbY.size)
  have hxN := hx.kept hgz (by omega)
  refine go ?_
  exact end_cell Try.results119 rfl hxz.cell ⟨x, rfl, (hxN.mono (by omega)).top, hbz⟩

set_option maxHeartbeats 8000000 in
set_option maxRecDepth 100000 in
theorem specDualOf_any (v : Value) (ms : List (List Int)) (w : World) (hv : RL w v ms) :
    Ret Try.prog 57 #[.agg #[v]] w fun r w' => ∃ x, r = .tuple #[.agg #[x], .int .i64 (manC ms)] ∧ OM w' w.heap.size w'.heap.size 34 2 x (dualL ms) ∧ Below w.heap.size w w' := by
  have shv := hv.sv
  have hb := Below.refl w.heap.size w
  refine enter1 10 Try.func57 rfl Try.ntmps57 rfl (fun fr => ?_)
  refine go ?_
  refine s_box (wn rfl) rfl rfl (agg_cells shv) (fun w1 hbx _ hp hg => ?_)
  have hb1 := below_of_grownBy hg
  have sw1 := hb1.size
  replace hv := hv.below hb1
  replace hb := hb.trans (hb1.mono hb.size)
  clear hg hp hb1
  generalize (⟨w.heap.size, 0, none⟩ : Addr) = p at *
  have sz0 := hb.size
  refine go ?_
  refine s_alloc (B := w.heap.size) (wn rfl) rfl (by first | exact Nat.le_refl _ | omega) (fun w2 p4 hx4 hg2 hpp4 => ?_)
  have hb2 := below_of_grownBy hg2
  have sw2 := hb2.size
  replace hv := hv.below hb2
  replace hbx := cell_below hbx hb2
  replace hb := hb.trans (hb2.mono hb.size)
  have hlt_hx4 := hx4.lt
  have sz1 := hb.size
  refine go ?_
  refine s_call1 (wn rfl) rfl rfl (l02Is_any _ _ _ hv) ?_
  rintro _ w3 ⟨rfl, hb3⟩
  have sw3 := hb3.size
  replace hv := hv.below hb3
  replace hbx := cell_below hbx hb3
  replace hx4 := hx4.below hb3
  replace hb := hb.trans (hb3.mono hb.size)
  refine splitb (decide (IsMan ms)) (fun hm => ?_) (fun hm => ?_)
  rotate_left
  · have hm' := of_decide_eq_false hm
    have e := And.intro (dualL_no hm') (manC_no hm')
    have hbY := hb
    refine go ?_
    refine s_p (wn rfl) rfl y_bld0 ?_
    refine s_storeBox (wn rfl) rfl rfl rfl hx4 (fun w4 hxz hgz => ?_)
    have hbz := hbY.trans (hx4.below_of hgz hbY.size)
    refine go ?_
    exact end_cellT Try.results57 rfl rfl hxz.cell ⟨_, by rw [e.2], by rw [e.1]; exact OM.nil _ _ _ _ _, hbz⟩
  have hm' := of_decide_eq_true hm
  refine go ?_
  refine s_call1 (wn rfl) rfl rfl (l05Dual_any _ _ _ hv hm') ?_
  rintro _ w5 ⟨x, rfl, hx, hb5⟩
  have sw5 := hb5.size
  replace hv := hv.below hb5
  replace hbx := cell_below hbx hb5
  replace hx4 := hx4.below hb5
  replace hb := hb.trans (hb5.mono hb.size)
  have hbY := hb
  refine go ?_
  refine s_storeBox (wn rfl) rfl rfl hx.sv.one hx4 (fun w6 hxz hgz => ?_)
  have hbz := hbY.trans (hx4.below_of hgz hbY.size)
  have hxN := hx.kept hgz (by omega)
  refine go ?_
  exact end_cellT Try.results57 rfl rfl hxz.cell ⟨x, by rw [manC_yes hm'], by rw [dualL_yes hm']; exact (hxN.mono (by omega)).top, hbz⟩

set_option maxRecDepth 100000 in
set_option maxHeartbeats 4000000 in
theorem ReverseR_any (v : Value) (xss : List (List Int)) (w0 w : World) (B : Nat) (hv : OX w0 w B 34 v xss) (hB : B ≤ w.heap.size) (hn : xss.length ≤ 1000000) :
    Ret Try.prog 149 #[v] w fun r w' => OX w0 w' B 34 v xss.reverse ∧ Below B w w' := by
  obtain ⟨vs, h1, hone, h2, h3⟩ := hv
  have sv0 : SV v vs.length := h1.rd.sv
  refine enter1 28 Try.func149 rfl Try.ntmps149 rfl (fun fr => ?_)
  refine go ?_
  refine w_loop (fun kk fr w' => ∃ (i : Nat) (us : List Value), kk = vs.length - i ∧ 2 * i ≤ vs.length ∧ fr 0 = v ∧ fr 2 = .int .i64 i ∧ fr 3 = .int .i64 ((vs.length : Int) - 1 - i) ∧ us.length = vs.length ∧
      (∀ t : Nat, us[t]? = if t < i ∨ vs.length - 1 - t < i then vs.reverse[t]? else vs[t]?) ∧ Own w' B 34 v us ∧ Below B w w') vs.length
    ⟨0, vs, rfl, by omega, rfl, rfl, by show Value.int _ _ = _; congr 1; omega, rfl, fun t => by simp, h1, Below.refl _ _⟩ ?_
  rintro kk fr w2 ⟨i, us, rfl, hi, f0, f2, f3, hul, hus, ho, hb⟩
  have hB2 := hb.size
  refine know (t := 0) f0 ?_; refine know (t := 2) f2 ?_; refine know (t := 3) f3 ?_
  refine go ?_
  refine cond_dec rfl (fun hlt => ?_) (fun hge => ?_)
  · refine go ?_
    have ej : ((vs.length : Int) - 1 - i).toNat = vs.length - 1 - i := by omega
    have ei : ((i : Int)).toNat = i := by omega
    refine region_hS (fun w' => ∃ us', us'.length = vs.length ∧ Own w' B 34 v us') mixed (fun w3 hb3 => ?_)
    have ho3 := ho.below hb3
    have hS : ∃ us', us'.length = vs.length ∧ Own w3 B 34 v us' := ⟨us, hul, ho3⟩
    have hb3B := hb.trans (hb3.mono (by omega))
    have ha : us[((vs.length : Int) - 1 - i).toNat]? = some (us[vs.length - 1 - i]'(by omega)) := by rw [ej]; simp
    have hc : us[((i : Int)).toNat]? = some (us[i]'(by omega)) := by rw [ei]; simp
    have onea : ∀ (t : Nat) (u : Value), us[t]? = some u → u.oneCell' = true := fun t u hu => by
      rw [hus t] at hu
      split at hu
      · exact hone u (List.mem_reverse.1 (List.mem_of_getElem? hu))
      · exact hone u (List.mem_of_getElem? hu)
    have one1 := onea _ _ ha
    have one2 := onea _ _ hc
    generalize hae : us[vs.length - 1 - i]'(by omega) = a at ha one1
    generalize hce : us[i]'(by omega) = c at hc one2
    refine h_p 0 hS ?_ (hrun := fun w hw => yl)
    refine h_p 1 hS ?_ (hrun := fun w hw => yl)
    refine h_p 2 hS ?_ (hrun := fun w hw => yl)
    refine h_p 3 hS ?_ (hrun := fun w hw => yl)
    refine h_p 4 hS ?_ (hrun := fun w hw => yl)
    refine h_p 5 hS ?_ (hrun := fun w hw => yl)
    refine h_p 6 hS ?_ (hrun := fun w hw => yl)
    refine h_p 8 hS ?_ (hrun := fun w hw => yl)
    refine h_p 9 hS ?_ (hrun := fun w hw => yl)
    refine h_p 10 hS ?_ (hrun := fun w hw => yl)
    refine h_two 7 11 ?_ ?_
    · refine s_p (wn rfl) rfl (y_ld rfl ho3.rd ha) ?_
      refine w_nil ?_
      refine h_on ⟨hS, ?_⟩
      refine h_one 11 ?_
      refine s_p (wn rfl) rfl (y_ld rfl ho3.rd hc) ?_
      refine w_nil ?_
      refine h_on ⟨hS, ?_⟩
      refine h_p 12 hS ?_ (hrun := fun w hw => yl)
      refine h_one 13 ?_
      refine s_store (wn rfl) rfl rfl one1 ho3 (by omega) (fun w4 ho4 hg4 => ?_)
      have hb4 := hb3B.trans (grownBy_below hg4 (by have := hb3B.size; omega) (fun k hk => (ho3.lt k hk).1))
      refine w_nil ?_
      refine h_on ⟨⟨_, by simp [hul], ho4⟩, ?_⟩
      refine h_p 14 ⟨_, by simp [hul], ho4⟩ ?_ (hrun := fun w hw => yl)
      refine h_one 15 ?_
      refine s_store (wn rfl) rfl rfl one2 ho4 (by simp; omega) (fun w5 ho5 hg5 => ?_)
      have hb5 := hb4.trans (grownBy_below hg5 (by have := hb4.size; omega) (fun k hk => (ho4.lt k hk).1))
      refine w_nil ?_
      refine h_on ⟨⟨_, by simp [hul], ho5⟩, ?_⟩
      refine h_nil ?_
      refine go ?_
      refine ⟨vs.length - (i + 1), by omega, i + 1, _, rfl, by omega, rfl, rfl, by show Value.int _ _ = _; congr 1; omega, by simp [hul], fun t => ?_, ho5, hb5⟩
      rw [ej, ei, List.getElem?_set, List.getElem?_set]
      rw [ej] at ha
      rw [ei] at hc
      have hua := hus (vs.length - 1 - i)
      have huc := hus i
      rw [if_neg (by omega), ha] at hua
      rw [if_neg (by omega), hc] at huc
      by_cases h1t : vs.length - 1 - i = t
      · subst h1t
        rw [if_pos rfl, if_pos (by simp; omega), if_pos (by omega), List.getElem?_reverse (by omega), show vs.length - 1 - (vs.length - 1 - i) = i by omega]
        exact huc
      · rw [if_neg h1t]
        by_cases h2t : i = t
        · subst h2t
          rw [if_pos rfl, if_pos (by omega), if_pos (by omega), List.getElem?_reverse (by omega)]
          exact hua
        · rw [if_neg h2t, hus t]
          by_cases h3t : t < i ∨ vs.length - 1 - t < i
          · rw [if_pos h3t, if_pos (by omega)]
          · rw [if_neg h3t]
            by_cases h4t : t < vs.length
            · rw [if_neg (by omega)]
            · rw [List.getElem?_eq_none (by omega)]; split
              · rw [List.getElem?_eq_none (by simp; omega)]
              · rfl
    · refine s_p (wn rfl) rfl (y_ld rfl ho3.rd hc) ?_
      refine w_nil ?_
      refine h_on ⟨hS, ?_⟩
      refine h_one 7 ?_
      refine s_p (wn rfl) rfl (y_ld rfl ho3.rd ha) ?_
      refine w_nil ?_
      refine h_on ⟨hS, ?_⟩
      refine h_p 12 hS ?_ (hrun := fun w hw => yl)
      refine h_one 13 ?_
      refine s_store (wn rfl) rfl rfl one1 ho3 (by omega) (fun w4 ho4 hg4 => ?_)
      have hb4 := hb3B.trans (grownBy_below hg4 (by have := hb3B.size; omega) (fun k hk => (ho3.lt k hk).1))
      refine w_nil ?_
      refine h_on ⟨⟨_, by simp [hul], ho4⟩, ?_⟩
      refine h_p 14 ⟨_, by simp [hul], ho4⟩ ?_ (hrun := fun w hw => yl)
      refine h_one 15 ?_
      refine s_store (wn rfl) rfl rfl one2 ho4 (by simp; omega) (fun w5 ho5 hg5 => ?_)
      have hb5 := hb4.trans (grownBy_below hg5 (by have := hb4.size; omega) (fun k hk => (ho4.lt k hk).1))
      refine w_nil ?_
      refine h_on ⟨⟨_, by simp [hul], ho5⟩, ?_⟩
      refine h_nil ?_
      refine go ?_
      refine ⟨vs.length - (i + 1), by omega, i + 1, _, rfl, by omega, rfl, rfl, by show Value.int _ _ = _; congr 1; omega, by simp [hul], fun t => ?_, ho5, hb5⟩
      rw [ej, ei, List.getElem?_set, List.getElem?_set]
      rw [ej] at ha
      rw [ei] at hc
      have hua := hus (vs.length - 1 - i)
      have huc := hus i
      rw [if_neg (by omega), ha] at hua
      rw [if_neg (by omega), hc] at huc
      by_cases h1t : vs.length - 1 - i = t
      · subst h1t
        rw [if_pos rfl, if_pos (by simp; omega), if_pos (by omega), List.getElem?_reverse (by omega), show vs.length - 1 - (vs.length - 1 - i) = i by omega]
        exact huc
      · rw [if_neg h1t]
        by_cases h2t : i = t
        · subst h2t
          rw [if_pos rfl, if_pos (by omega), if_pos (by omega), List.getElem?_reverse (by omega)]
          exact hua
        · rw [if_neg h2t, hus t]
          by_cases h3t : t < i ∨ vs.length - 1 - t < i
          · rw [if_pos h3t, if_pos (by omega)]
          · rw [if_neg h3t]
            by_cases h4t : t < vs.length
            · rw [if_neg (by omega)]
            · rw [List.getElem?_eq_none (by omega)]; split
              · rw [List.getElem?_eq_none (by simp; omega)]
              · rfl
  · refine go ?_
    have hall : us = vs.reverse := by
      refine List.ext_getElem? fun t => ?_
      rw [hus t]
      split
      · rfl
      · rename_i hn
        by_cases ht : t < vs.length
        · rw [List.getElem?_reverse ht, show vs.length - 1 - t = t by omega]
        · rw [List.getElem?_eq_none (by omega), List.getElem?_eq_none (by simp; omega)]
    subst hall
    refine end_zero' Try.results149 ⟨⟨vs.reverse, ho, fun u hu => hone u (List.mem_reverse.1 hu), by simp [h2], fun t u xs hu hx => ?_⟩, hb⟩
    have ht : t < vs.length := by have := (List.getElem?_eq_some_iff.1 hu).1; simpa using this
    rw [List.getElem?_reverse ht] at hu
    rw [List.getElem?_reverse (by omega), ← h2] at hx
    exact h3 _ u xs hu hx

set_option maxHeartbeats 8000000 in
set_option maxRecDepth 100000 in
theorem dualOf_any (v : Value) (ms : List (List Int)) (w : World) (hv : RL w v ms) (hm : IsMan ms) :
    Ret Try.prog 98 #[.agg #[v]] w fun r w' => ∃ x, r = .agg #[x] ∧ OM w' w.heap.size w'.heap.size 34 2 x (frm (nf ms) ms.reverse 0) ∧ Below w.heap.size w w' := by
  have shv := hv.sv
  have hb := Below.refl w.heap.size w
  refine enter1 11 Try.func98 rfl Try.ntmps98 rfl (fun fr => ?_)
  have r5 := hm.m0.r5
  have r1 := hm.m0.r1
  have h2 := hm.m0.f2
  have h4 := hm.m0.f400
  refine go ?_
  refine s_box (wn rfl) rfl rfl (agg_cells shv) (fun w1 hbx _ hp hg => ?_)
  have hb1 := below_of_grownBy hg
  have sw1 := hb1.size
  replace hv := hv.below hb1
  replace hb := hb.trans (hb1.mono hb.size)
  clear hg hp hb1
  generalize (⟨w.heap.size, 0, none⟩ : Addr) = p at *
  have sz0 := hb.size
  refine go ?_
  refine s_alloc (B := w.heap.size) (wn rfl) rfl (by first | exact Nat.le_refl _ | omega) (fun w2 p4 hx4 hg2 hpp4 => ?_)
  have hb2 := below_of_grownBy hg2
  have sw2 := hb2.size
  replace hv := hv.below hb2
  replace hbx := cell_below hbx hb2
  replace hb := hb.trans (hb2.mono hb.size)
  have hlt_hx4 := hx4.lt
  have sz1 := hb.size
  refine go ?_
  refine s_call1 (wn rfl) rfl rfl (CloneR_any _ _ _ hv (by omega)) ?_
  rintro x wB ⟨hxB, hbB⟩
  have szB := hbB.size
  refine go ?_
  refine s_call1 (wn rfl) rfl rfl (ReverseR_any x ms _ wB _ hxB szB (by omega)) ?_
  rintro _ w3 ⟨hxC, hbC⟩
  have hbAC := hbB.trans hbC
  have sw3 := hbAC.size
  replace hv := hv.below hbAC
  replace hbx := cell_below hbx hbAC
  replace hx4 := hx4.below hbAC
  replace hb := hb.trans (hbAC.mono hb.size)
  have hxr := hxC.rl hbAC
  have sxr := hxr.sv
  refine go ?_
  refine s_call2 (wn rfl) rfl rfl rfl (formFrom_any _ _ (nf ms) 0 _ hxr (rev_syst hm) (by omega) (by simp; omega) (by omega) (by simp; omega)) ?_
  rintro _ w4 ⟨x, rfl, hx, hb4⟩
  have sw4 := hb4.size
  replace hv := hv.below hb4
  replace hbx := cell_below hbx hb4
  replace hx4 := hx4.below hb4
  replace hb := hb.trans (hb4.mono hb.size)
  have hbY := hb
  refine go ?_
  refine s_storeBox (wn rfl) rfl rfl hx.sv.one hx4 (fun w5 hxz hgz => ?_)
  have hbz := hbY.trans (hx4.below_of hgz hbY.size)
  have hxN := hx.kept hgz (by omega)
  refine go ?_
  exact end_cell Try.results98 rfl hxz.cell ⟨x, rfl, (hxN.mono (by omega)).top, hbz⟩

set_option maxHeartbeats 8000000 in
set_option maxRecDepth 100000 in
theorem implDualOf_any (v : Value) (ms : List (List Int)) (w : World) (hv : RL w v ms) :
    Ret Try.prog 36 #[.agg #[v]] w fun r w' => ∃ x, r = .tuple #[.agg #[x], .int .i64 (manC ms)] ∧ OM w' w.heap.size w'.heap.size 34 2 x (dualL ms) ∧ Below w.heap.size w w' := by
  have shv := hv.sv
  have hb := Below.refl w.heap.size w
  refine enter1 10 Try.func36 rfl Try.ntmps36 rfl (fun fr => ?_)
  refine go ?_
  refine s_box (wn rfl) rfl rfl (agg_cells shv) (fun w1 hbx _ hp hg => ?_)
  have hb1 := below_of_grownBy hg
  have sw1 := hb1.size
  replace hv := hv.below hb1
  replace hb := hb.trans (hb1.mono hb.size)
  clear hg hp hb1
  generalize (⟨w.heap.size, 0, none⟩ : Addr) = p at *
  have sz0 := hb.size
  refine go ?_
  refine s_alloc (B := w.heap.size) (wn rfl) rfl (by first | exact Nat.le_refl _ | omega) (fun w2 p4 hx4 hg2 hpp4 => ?_)
  have hb2 := below_of_grownBy hg2
  have sw2 := hb2.size
  replace hv := hv.below hb2
  replace hbx := cell_below hbx hb2
  replace hb := hb.trans (hb2.mono hb.size)
  have hlt_hx4 := hx4.lt
  have sz1 := hb.size
  refine go ?_
  refine s_call1 (wn rfl) rfl rfl (isManiplex_any _ _ _ hv) ?_
  rintro _ w3 ⟨rfl, hb3⟩
  have sw3 := hb3.size
  replace hv := hv.below hb3
  replace hbx := cell_below hbx hb3
  replace hx4 := hx4.below hb3
  replace hb := hb.trans (hb3.mono hb.size)
  refine splitb (decide (IsMan ms)) (fun hm => ?_) (fun hm => ?_)
  rotate_left
  · have hm' := of_decide_eq_false hm
    have e := And.intro (dualL_no hm') (manC_no hm')
    have hbY := hb
    refine go ?_
    refine s_p (wn rfl) rfl y_bld0 ?_
    refine s_storeBox (wn rfl) rfl rfl rfl hx4 (fun w4 hxz hgz => ?_)
    have hbz := hbY.trans (hx4.below_of hgz hbY.size)
    refine go ?_
    exact end_cellT Try.results36 rfl rfl hxz.cell ⟨_, by rw [e.2], by rw [e.1]; exact OM.nil _ _ _ _ _, hbz⟩
  have hm' := of_decide_eq_true hm
  refine go ?_
  refine s_call1 (wn rfl) rfl rfl (dualOf_any _ _ _ hv hm') ?_
  rintro _ w5 ⟨x, rfl, hx, hb5⟩
  have sw5 := hb5.size
  replace hv := hv.below hb5
  replace hbx := cell_below hbx hb5
  replace hx4 := hx4.below hb5
  replace hb := hb.trans (hb5.mono hb.size)
  have hbY := hb
  refine go ?_
  refine s_storeBox (wn rfl) rfl rfl hx.sv.one hx4 (fun w6 hxz hgz => ?_)
  have hbz := hbY.trans (hx4.below_of hgz hbY.size)
  have hxN := hx.kept hgz (by omega)
  refine go ?_
  exact end_cellT Try.results36 rfl rfl hxz.cell ⟨x, by rw [manC_yes hm'], by rw [dualL_yes hm']; exact (hxN.mono (by omega)).top, hbz⟩

end Go.Proofs.Ytmdimdbfgibflaa
