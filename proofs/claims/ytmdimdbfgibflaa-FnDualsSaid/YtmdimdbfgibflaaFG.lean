/- Texts laid together: F24 F25. -/
import Derived.Test.YtmdimdbfgibflaaFF
import Derived.Test.YtmdimdbfgibflaaWC
import Derived.Test.YtmdimdbfgibflaaPC
/- Contracts: all moves but one; faces, on both sides. -/
namespace Go.Proofs.Ytmdimdbfgibflaa
open Go.Mem Go.RowKit
set_option linter.unusedVariables false


/-- an owned list of rows that were there at w0 -/
def OX (w0 w : World) (B : Nat) (T : TypeId) (v : Value) (xss : List (List Int)) : Prop :=
  ∃ vs, Own w B T v vs ∧ (∀ u ∈ vs, u.oneCell' = true) ∧ vs.length = xss.length ∧ ∀ (i : Nat) u xs, vs[i]? = some u → xss[i]? = some xs → IL w0 u xs
theorem OX.rl {w0 w : World} {B : Nat} {T : TypeId} {v : Value} {xss : List (List Int)} (h : OX w0 w B T v xss) (hb : Below w0.heap.size w0 w) : RL w v xss := by
  obtain ⟨vs, h1, _, h2, h3⟩ := h
  exact ⟨vs, h1.rd, h2, fun i u xs hu hx => (h3 i u xs hu hx).below hb⟩

set_option maxRecDepth 100000 in
theorem CloneR_any (v : Value) (xss : List (List Int)) (w : World) (hv : RL w v xss) (hl : xss.length ≤ 1000000) :
    Ret Try.prog 148 #[v] w fun r w' => OX w w' w.heap.size 34 r xss ∧ Below w.heap.size w w' := by
  have sv := hv.sv
  refine enter1 8 Try.func148 rfl Try.ntmps148 rfl (fun fr => ?_)
  refine go ?_
  cases hn : nilV v with
  | true =>
    have hx : xss = [] := by
      by_cases h : xss.length = 0
      · exact List.length_eq_zero_iff.1 h
      · rw [nilV_of sv h] at hn; simp at hn
    subst hx
    refine go ?_
    exact end_one Try.results148 rfl ⟨⟨[], Own.nil _ _ _, by simp, rfl, by simp⟩, Below.refl _ _⟩
  | false =>
    obtain ⟨vs, h1, h2, h3⟩ := hv.out
    refine go ?_
    refine s_build (B := w.heap.size) [] (wn rfl) rfl (by simp) (by decide) rfl (by simp) (Nat.le_refl _) (fun ob w1 ho hg1 _ => ?_)
    have hb1 := below_of_grownBy hg1
    have sz1 := hb1.size
    have one : ∀ u ∈ vs, u.oneCell' = true := fun u hu => by
      obtain ⟨i, hi, e⟩ := List.mem_iff_getElem.1 hu
      have := h3 i u (xss[i]'(by omega)) (by simp [hi, e]) (by simp)
      exact this.sv.one
    refine go ?_
    refine s_append (wn rfl) rfl rfl rfl ho (h1.below hb1) one (by simp; omega) sz1 (fun ob' w2 ho2 hg2 _ => ?_)
    have hb2 := hb1.trans (grownBy_below hg2 sz1 (fun k hk => (ho.lt k hk).1))
    refine go ?_
    refine end_one Try.results148 rfl ⟨⟨vs, by simpa using ho2, one, h2, h3⟩, hb2⟩

set_option maxRecDepth 100000 in
set_option maxHeartbeats 4000000 in
theorem Delete_any (v : Value) (xss : List (List Int)) (i : Nat) (w0 w : World) (B : Nat) (hv : OX w0 w B 34 v xss) (hi : i < xss.length) (hB : B ≤ w.heap.size) (hn : xss.length ≤ 1000000) :
    Ret Try.prog 174 #[v, .int .i64 i, .int .i64 ((i : Int) + 1)] w fun r w' => OX w0 w' B 34 r (xss.eraseIdx i) ∧ Below B w w' := by
  obtain ⟨vs, h1, hone, h2, h3⟩ := hv
  have sv : SV v xss.length := by have := h1.rd.sv; rwa [h2] at this
  have hilt : i < vs.length := by omega
  refine enter3 33 Try.func174 rfl Try.ntmps174 rfl (fun fr => ?_)
  refine go ?_
  refine s_cut3 (wn rfl) rfl rfl rfl rfl rfl h1.rd (by omega) (by omega) (by omega) (by omega) (fun uu => ?_)
  have hne : ¬ ((i : Int) = (i : Int) + 1) := by omega
  refine go ?_
  refine region_hS (fun w' => ∃ vs', vs'.length = vs.length ∧ Own w' B 34 v vs') mixed (fun w1 hb1 => ?_)
  have h1a := h1.below hb1
  have hS : ∃ vs', vs'.length = vs.length ∧ Own w1 B 34 v vs' := ⟨vs, rfl, h1a⟩
  have hbB := hb1.mono hB
  refine h_p 0 hS ?_ (hrun := fun w _ => y_pop rfl)
  refine h_p 1 hS ?_ (hrun := fun w _ => y_pop rfl)
  refine h_p 2 hS ?_ (hrun := fun w hw => by obtain ⟨vs', hl', ho'⟩ := hw; exact y_cut_hi rfl rfl ho'.rd (by omega) (by omega))
  refine h_p 3 hS ?_ (hrun := fun w _ => y_pop rfl)
  refine h_p 4 hS ?_ (hrun := fun w _ => y_pop rfl)
  refine h_p 5 (v := cut v ((i : Int) + 1).toNat vs.length) hS ?_ (hrun := fun w hw => by obtain ⟨vs', hl', ho'⟩ := hw; rw [← hl']; exact y_cut_lo rfl rfl ho'.rd (by omega) (by omega))
  have e1 : ((i : Int) + 1).toNat = i + 1 := by omega
  have e2 : ((i : Int)).toNat = i := by omega
  rw [e1, e2]
  have hdrop : ((vs.take vs.length).drop (i + 1)) = vs.drop (i + 1) := by rw [List.take_length]
  have hsrc := h1a.rd.cut (l := i + 1) (r := vs.length) (by omega) (Nat.le_refl _)
  rw [hdrop] at hsrc
  have hlen : i + (vs.drop (i + 1)).length = vs.length - 1 := by simp; omega
  refine h_one 6 ?_
  refine s_appendIn (wn rfl) rfl rfl rfl h1a (by omega) hsrc (fun u hu => hone u (List.mem_of_mem_drop hu)) (fun w2 ho2 hg2 => ?_)
  rw [hlen] at ho2 ⊢
  have sz1 := hb1.size
  have hb2 := hbB.trans (grownBy_below hg2 (by omega) (fun k hk => (h1a.lt k hk).1))
  have hl2 : (vs.take i ++ vs.drop (i + 1) ++ vs.drop (vs.length - 1)).length = vs.length := by simp; omega
  generalize hvs2 : vs.take i ++ vs.drop (i + 1) ++ vs.drop (vs.length - 1) = vs2 at ho2 hl2
  refine w_nil ?_
  refine h_on ⟨⟨vs2, hl2, ho2⟩, ?_⟩
  refine h_p 7 ⟨vs2, hl2, ho2⟩ ?_ (hrun := fun w _ => y_pop rfl)
  refine h_nil ?_
  have scut : SV (cut v 0 (vs.length - 1)) (vs.length - 1) := by
    have := (ho2.cut (l := 0) (r := vs.length - 1) (by omega) (by omega)).rd.sv
    simpa [hl2] using this
  refine go ?_
  refine s_p (wn rfl) rfl (y_room rfl rfl rfl ho2.rd (by omega) (by omega) (by omega)) ?_
  have e3 : ((((vs.length - 1 : Nat) : Int)).toNat) = vs.length - 1 := by omega
  have e4 : (((xss.length : Nat) : Int)).toNat = vs2.length := by omega
  rw [e3, e4]
  refine s_clear (wn rfl) rfl ho2 (by omega) (fun w3 ho3 hg3 => ?_)
  have sz2 := hg2.size
  have hb3 := hb2.trans (grownBy_below hg3 (by omega) (fun k hk => (ho2.lt k hk).1))
  have hfin := ho3.cut (l := 0) (r := vs.length - 1) (by omega) (by simp; omega)
  have hvals : (((vs2.take (vs.length - 1) ++ List.replicate (vs2.length - (vs.length - 1)) (Value.slice none 0 0)).take (vs.length - 1)).drop 0) = vs.eraseIdx i := by
    rw [List.drop_zero, List.take_append_of_le_length (by simp; omega), List.take_take, Nat.min_self, ← hvs2, List.take_append_of_le_length (by simp; omega), List.take_of_length_le (by simp; omega), List.eraseIdx_eq_take_drop_succ]
  rw [hvals] at hfin
  refine go ?_
  have hrows := h3
  refine end_one Try.results174 rfl ⟨⟨_, hfin, fun u hu => hone u (List.mem_of_mem_eraseIdx hu), by rw [List.length_eraseIdx_of_lt hilt, List.length_eraseIdx_of_lt hi]; omega, fun j u xs hu hx => ?_⟩, hb3⟩
  rw [List.getElem?_eraseIdx] at hu hx
  split at hu
  · rename_i hji; rw [if_pos hji] at hx; exact hrows j u xs hu hx
  · rename_i hji; rw [if_neg hji] at hx; exact hrows (j + 1) u xs hu hx

set_option maxRecDepth 100000 in
theorem without_any (v : Value) (pv : Addr) (ms : List (List Int)) (i : Int) (w : World) (hv : RL w v ms) (hxv : w.cell? pv = some v) (hm : IsMan ms) (hi : 0 ≤ i ∧ i < ms.length) :
    Ret Try.prog 147 #[.pointer (some pv), .int .i64 i] w fun r w' => OX w w' w.heap.size 34 r (oth ms i) ∧ Below w.heap.size w w' := by
  have shv := hv.sv
  have hb := Below.refl w.heap.size w
  refine enter2 14 Try.func147 rfl Try.ntmps147 rfl (fun fr => ?_)
  have h1 := hm.m0.r1
  have h5 := hm.m0.r5
  have h4 := hm.m0.f400
  obtain ⟨k, rfl⟩ : ∃ k : Nat, i = k := ⟨i.toNat, by omega⟩
  have hk : k < ms.length := by omega
  have ek : oth ms (k : Int) = ms.eraseIdx k := by unfold oth; rfl
  refine go ?_
  refine s_call1 (wn rfl) rfl rfl (CloneR_any _ _ _ hv (by omega)) ?_
  rintro x w1 ⟨hx, hb1⟩
  have sw1 := hb1.size
  replace hv := hv.below hb1
  replace hxv := cell_below hxv hb1
  replace hb := hb.trans (hb1.mono hb.size)
  have sz1 := hb.size
  refine go ?_
  refine s_call3 (wn rfl) rfl rfl rfl rfl (Delete_any _ _ k _ _ _ hx hk sz1 (by omega)) ?_
  rintro y w2 ⟨hy, hb2⟩
  rw [ek]
  refine go ?_
  exact end_one Try.results147 rfl ⟨hy, hb.trans hb2⟩

theorem oth_len {ms : List (List Int)} {i : Int} (hi : 0 ≤ i ∧ i < ms.length) : (oth ms i).length = ms.length - 1 := by
  unfold oth; rw [List.length_eraseIdx_of_lt (by omega)]

set_option maxRecDepth 100000 in
theorem faces_any (v : Value) (pv : Addr) (ms : List (List Int)) (i : Int) (w : World) (hv : RL w v ms) (hxv : w.cell? pv = some v) (hm : IsMan ms) (hi : 0 ≤ i ∧ i < ms.length) :
    Ret Try.prog 93 #[.pointer (some pv), .int .i64 i] w fun r w' => ∃ lb, r = .tuple #[lb, .int .i64 (facC ms i)] ∧ OI w' w.heap.size 2 lb (facL ms i) ∧ Below w.heap.size w w' := by
  have shv := hv.sv
  have hb := Below.refl w.heap.size w
  refine enter2 14 Try.func93 rfl Try.ntmps93 rfl (fun fr => ?_)
  have h1 := hm.m0.r1
  have h5 := hm.m0.r5
  have h4 := hm.m0.f400
  have hol := oth_len hi
  refine go ?_
  refine s_call1 (wn rfl) rfl rfl (flags_any _ _ _ _ hxv hv h1) ?_
  rintro _ _ ⟨rfl, rfl⟩
  refine go ?_
  refine s_call2 (wn rfl) rfl rfl rfl (without_any _ _ _ i _ hv hxv hm hi) ?_
  rintro x w1 ⟨hx, hb1⟩
  have sw1 := hb1.size
  replace hv := hv.below hb1
  replace hxv := cell_below hxv hb1
  replace hb := hb.trans (hb1.mono hb.size)
  have hx := hx.rl hb
  have sz1 := hb.size
  refine go ?_
  refine s_call2 (wn rfl) rfl rfl rfl (orbitLabels_any _ _ _ _ hx (oth_sym hm i) (by omega) (by omega)) ?_
  rintro _ w2 ⟨lb, rfl, hy, hb2⟩
  have sw2 := hb2.size
  replace hv := hv.below hb2
  replace hxv := cell_below hxv hb2
  replace hb := hb.trans (hb2.mono hb.size)
  refine go ?_
  exact end_two Try.results93 rfl rfl ⟨lb, rfl, hy.mono sz1, hb⟩

set_option maxRecDepth 100000 in
theorem hasRank_any (v : Value) (pv : Addr) (ms : List (List Int)) (i : Int) (w : World) (hv : RL w v ms) (hxv : w.cell? pv = some v) (h5 : ms.length ≤ 5) :
    Ret Try.prog 92 #[.pointer (some pv), .int .i64 i] w fun r w' => r = .bool (decide (0 ≤ i ∧ i < ms.length)) ∧ w = w' := by
  have shv := hv.sv
  have hb := Below.refl w.heap.size w
  refine enter2 10 Try.func92 rfl Try.ntmps92 rfl (fun fr => ?_)
  refine go ?_
  refine s_call1 (wn rfl) rfl rfl (rank_any _ _ _ _ hxv shv) ?_
  rintro _ _ ⟨rfl, rfl⟩
  refine go ?_
  refine s_call3 (wn rfl) rfl rfl rfl rfl (within_any _ _ _ _) ?_
  rintro _ _ ⟨rfl, rfl⟩
  refine go ?_
  exact end_one Try.results92 rfl ⟨by rw [inB_flag], rfl⟩

theorem othTo_hit {ms : List (List Int)} {k i : Nat} (h : i < ms.length) (e : i = k) : (ms.take (i + 1)).eraseIdx k = (ms.take i).eraseIdx k := by
  subst e
  rw [List.eraseIdx_eq_take_drop_succ, List.eraseIdx_of_length_le (by simp; omega)]
  simp [List.take_take]
theorem othTo_miss {ms : List (List Int)} {k i : Nat} (h : i < ms.length) (e : i ≠ k) : (ms.take (i + 1)).eraseIdx k = (ms.take i).eraseIdx k ++ [gr ms i] := by
  have ht : ms.take (i + 1) = ms.take i ++ [gr ms i] := by
    rw [List.take_succ_eq_append_getElem h]
    simp [gr, List.getD, h]
  rw [ht]
  by_cases hlt : k < i
  · rw [List.eraseIdx_append_of_lt_length (by simp; omega)]
  · rw [List.eraseIdx_of_length_le (by simp; omega), List.eraseIdx_of_length_le (by simp; omega)]

end Go.Proofs.Ytmdimdbfgibflaa

/- Contracts: FaceMap, FaceOrbits, IsTransitiveOn, on both sides. -/
namespace Go.Proofs.Ytmdimdbfgibflaa
open Go.Mem Go.RowKit
set_option linter.unusedVariables false
set_option maxHeartbeats 8000000 in
set_option maxRecDepth 100000 in
theorem implFaceMap_any (v : Value) (v2 : Value) (v3 : Value) (ms : List (List Int)) (ks : List (List Int)) (xs : List Int) (i : Int) (w : World) (hv : RL w v ms) (hv2 : RL w v2 ks) (hv3 : IL w v3 xs) :
    Ret Try.prog 27 #[.agg #[v], .agg #[v2], v3, .int .i64 i] w fun r w' => ∃ x, r = .tuple #[x, .int .i64 (facMC ms ks xs i)] ∧ OI w' w.heap.size 2 x (facM ms ks xs i) ∧ Below w.heap.size w w' := by
  have shv := hv.sv
  have shv2 := hv2.sv
  have shv3 := hv3.sv
  have hb := Below.refl w.heap.size w
  refine enter4 61 Try.func27 rfl Try.ntmps27 rfl (fun fr => ?_)
  refine go ?_
  refine s_box (wn rfl) rfl rfl (agg_cells shv) (fun w1 hbx _ hp hg => ?_)
  have hb1 := below_of_grownBy hg
  have sw1 := hb1.size
  replace hv := hv.below hb1
  replace hv2 := hv2.below hb1
  replace hv3 := hv3.below hb1
  replace hb := hb.trans (hb1.mono hb.size)
  clear hg hp hb1
  generalize (⟨w.heap.size, 0, none⟩ : Addr) = p at *
  refine go ?_
  refine s_box (wn rfl) rfl rfl (agg_cells shv2) (fun w2 hbx2 _ hp hg => ?_)
  have hb2 := below_of_grownBy hg
  have sw2 := hb2.size
  replace hv := hv.below hb2
  replace hv2 := hv2.below hb2
  replace hv3 := hv3.below hb2
  replace hbx := cell_below hbx hb2
  replace hb := hb.trans (hb2.mono hb.size)
  clear hg hp hb2
  generalize (⟨w1.heap.size, 0, none⟩ : Addr) = p2 at *
  refine go ?_
  refine s_call3 (wn rfl) rfl rfl rfl rfl (coveringCode_any _ _ _ _ _ _ _ hv hv2 hv3) ?_
  rintro _ w3 ⟨rfl, hb3⟩
  have sw3 := hb3.size
  replace hv := hv.below hb3
  replace hv2 := hv2.below hb3
  replace hv3 := hv3.below hb3
  replace hbx := cell_below hbx hb3
  replace hbx2 := cell_below hbx2 hb3
  replace hb := hb.trans (hb3.mono hb.size)
  have h20 : (2 : Int) ≠ 0 := by decide
  by_cases h : covC ms ks xs = 0
  rotate_left
  · have h' : ¬ (covC ms ks xs = 0) := h
    have h2 : covC ms ks xs ≠ 0 := h
    have e := facM_1 (i := i) h
    refine go ?_
    exact end_two Try.results27 rfl rfl ⟨.slice none 0 0, by rw [e.2], by rw [e.1]; exact OI.nil _ _ _, hb⟩
  obtain ⟨hm, hk, hc⟩ := covC_0 h
  have h' : ¬ (covC ms ks xs ≠ 0) := fun h' => h' h
  have r5 := hm.m0.r5
  refine go ?_
  refine s_call2 (wn rfl) rfl rfl rfl (hasRank_any _ _ _ i _ hv hbx r5) ?_
  rintro _ _ ⟨rfl, rfl⟩
  refine splitb (decide (0 ≤ i ∧ i < ms.length)) (fun hf => ?_) (fun hf => ?_)
  rotate_left
  · have e := facM_2 h (of_decide_eq_false hf)
    refine go ?_
    exact end_two Try.results27 rfl rfl ⟨.slice none 0 0, by rw [e.2], by rw [e.1]; exact OI.nil _ _ _, hb⟩
  have hi := of_decide_eq_true hf
  have hi' : 0 ≤ i ∧ i < ks.length := by have := (hc.hom hm hk).1; omega
  have hom := (hc.hom hm hk).2
  have h4 := hm.m0.f400
  have k4 := hk.m0.f400
  have hfc := facC_pos hm i
  have hA := facL_all hm i
  have hAl := hA.len
  have hBl := (facL_all hk i).len
  have hxl := hc.1
  have hs0 := hb.size
  have e := facM_3 h hi
  have hgre : gre (facL ms i) = facC ms i := gre_labs (oth_sym hm i) (by omega)
  refine go ?_
  refine s_call2 (wn rfl) rfl rfl rfl (faces_any _ _ _ i _ hv hbx hm hi) ?_
  rintro _ w4 ⟨ab, rfl, hx, hb4⟩
  have sw4 := hb4.size
  replace hv := hv.below hb4
  replace hv2 := hv2.below hb4
  replace hv3 := hv3.below hb4
  replace hbx := cell_below hbx hb4
  replace hbx2 := cell_below hbx2 hb4
  replace hb := hb.trans (hb4.mono hb.size)
  refine go ?_
  refine s_call2 (wn rfl) rfl rfl rfl (faces_any _ _ _ i _ hv2 hbx2 hk hi') ?_
  rintro _ w5 ⟨bl, rfl, hy, hb5⟩
  have sw5 := hb5.size
  replace hv := hv.below hb5
  replace hv2 := hv2.below hb5
  replace hv3 := hv3.below hb5
  replace hbx := cell_below hbx hb5
  replace hbx2 := cell_below hbx2 hb5
  replace hx := hx.below hb5
  replace hb := hb.trans (hb5.mono hb.size)
  have sx := hx.sv
  have sy := hy.sv
  have sbs1 := hb.size
  have hv_b1 := hv
  have hv2_b1 := hv2
  have hv3_b1 := hv3
  have hbx_b1 := hbx
  have hbx2_b1 := hbx2
  have hx_b1 := hx
  have hy_b1 := hy
  have hbB1 := Below.refl w5.heap.size w5
  refine go ?_
  have szq6 := hbB1.size
  refine s_makeI (B := w5.heap.size) (wn rfl) rfl rfl rfl (by omega) (by omega) szq6 (fun ob w6 hr sohr hg6 _ => ?_)
  have hb6 := below_of_grownBy hg6
  have sw6 := hb6.size
  replace hv := hv.below hb6
  replace hv2 := hv2.below hb6
  replace hv3 := hv3.below hb6
  replace hbx := cell_below hbx hb6
  replace hbx2 := cell_below hbx2 hb6
  replace hx := hx.below hb6
  replace hy := hy.below hb6
  replace hbB1 := hbB1.trans (hb6.mono hbB1.size)
  refine go ?_
  refine w_loop (fun kk fr w' => ∃ (q : Nat), kk = nf ms - q ∧ q ≤ nf ms ∧ fr 2 = v3 ∧ fr 13 = bl ∧ fr 15 = ob ∧ fr 42 = ab ∧ fr 43 = .int .i64 (facL ms i).length ∧ fr 44 = .int .i64 q ∧ (OI w' w5.heap.size 2 ob (laidTo (facC ms i).toNat (facL ms i) (fun f : Nat => gi (facL ks i) (gi xs f)) q)) ∧ Below w5.heap.size w5 w') (nf ms)
    ⟨0, rfl, Nat.zero_le _, rfl, rfl, rfl, rfl, rfl, rfl, hr, hbB1⟩ ?_
  rintro kk fr w7 ⟨q, rfl, hq, f2, f13, f15, f42, f43, f44, hr, hbB1⟩
  have sw7 := hbB1.size
  have hv := hv_b1.below hbB1
  have hv2 := hv2_b1.below hbB1
  have hv3 := hv3_b1.below hbB1
  have hbx := cell_below hbx_b1 hbB1
  have hbx2 := cell_below hbx2_b1 hbB1
  have hx := hx_b1.below hbB1
  have hy := hy_b1.below hbB1
  have shr := hr.sv
  refine know (t := 2) f2 ?_; refine know (t := 13) f13 ?_; refine know (t := 15) f15 ?_; refine know (t := 42) f42 ?_; refine know (t := 43) f43 ?_; refine know (t := 44) f44 ?_
  refine go ?_
  refine cond_dec rfl (fun hlt => ?_) (fun hge => ?_)
  · have hq := facL_rng hm i (x := (q : Int)) (by omega)
    have hx1 := hom.rng q (by omega) (by omega)
    have hq2 := facL_rng hk i (x := gi xs q) hx1
    have hll := length_laidTo (facC ms i).toNat (facL ms i) (fun f : Nat => gi (facL ks i) (gi xs f)) q
    have sx2 := hx.sv
    have sy2 := hy.sv
    refine go ?_
    have szq8 := hbB1.size
    refine s_storeI (wn rfl) rfl rfl hr (by omega) (by omega) (fun w8 hoN hgN => ?_)
    replace hbB1 := hbB1.trans (hr.below_of hgN szq8)
    have sw8 := hgN.size
    replace hr := hoN
    clear hoN
    replace hv := hv_b1.below hbB1
    replace hv2 := hv2_b1.below hbB1
    replace hv3 := hv3_b1.below hbB1
    replace hbx := cell_below hbx_b1 hbB1
    replace hbx2 := cell_below hbx2_b1 hbB1
    replace hx := hx_b1.below hbB1
    replace hy := hy_b1.below hbB1
    refine go ?_
    refine ⟨nf ms - (q + 1), by omega, q + 1, rfl, by omega, rfl, rfl, rfl, rfl, rfl, rfl, hr, hbB1⟩
  obtain rfl : q = nf ms := by omega
  refine go ?_
  exact end_two Try.results27 rfl rfl ⟨ob, by rw [e.2], by rw [e.1]; exact hr.mono (by omega), (hb.trans (hbB1.mono hb.size))⟩

end Go.Proofs.Ytmdimdbfgibflaa
