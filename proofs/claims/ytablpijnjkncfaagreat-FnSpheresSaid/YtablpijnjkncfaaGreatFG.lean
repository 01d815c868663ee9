/- Texts laid together: F24 F25. -/
import Derived.Test.YtablpijnjkncfaaGreatFF
import Derived.Test.YtablpijnjkncfaaGreatWC
import Derived.Test.YtablpijnjkncfaaGreatPC
/- Contracts: all moves but one; faces, on both sides. -/
namespace Go.Proofs.YtablpijnjkncfaaGreat
open Go.Mem Go.RowKit
set_option linter.unusedVariables false


/-- an owned list of rows that were there at w0 -/
def OX (w0 w : World) (B : Nat) (T : TypeId) (v : Value) (xss : List (List Int)) : Prop :=
  ∃ vs, Own w B T v vs ∧ (∀ u ∈ vs, u.oneCell' = true) ∧ vs.length = xss.length ∧ ∀ (i : Nat) u xs, vs[i]? = some u → xss[i]? = some xs → IL w0 u xs
theorem OX.rl {w0 w : World} {B : Nat} {T : TypeId} {v : Value} {xss : List (List Int)} (h : OX w0 w B T v xss) (hb : Below w0.heap.size w0 w) : RL w v xss := by
  obtain ⟨vs, h1, _, h2, h3⟩ := h
  exact ⟨vs, h1.rd, h2, fun i u xs hu hx => (h3 i u xs hu hx).below hb⟩

set_option maxRecDepth 100000 in
theorem CloneR_any (v : Value) (xss : List (List Int)) (w : World) (hv : RL w v xss) (hl : xss.length ≤ 1000000) :
    Ret Tryz.prog 147 #[v] w fun r w' => OX w w' w.heap.size 32 r xss ∧ Below w.heap.size w w' := by
  have sv := hv.sv
  refine enter1 8 Tryz.func147 rfl Tryz.ntmps147 rfl (fun fr => ?_)
  refine go ?_
  cases hn : nilV v with
  | true =>
    have hx : xss = [] := by
      by_cases h : xss.length = 0
      · exact List.length_eq_zero_iff.1 h
      · rw [nilV_of sv h] at hn; simp at hn
    subst hx
    refine go ?_
    exact end_one Tryz.results147 rfl ⟨⟨[], Own.nil _ _ _, by simp, rfl, by simp⟩, Below.refl _ _⟩
  | false =>
    obtain ⟨vs, h1, h2, h3⟩ := hv.out
    refine go ?_
    refine s_build (B := w.heap.size) [] (wn rfl) rfl (by simp) (by decide) rfl (by simp) (Nat.le_refl _) (fun ob w1 ho hg1 _ => ?_)
    have hb1 := below_of_grownBy hg1
    have sz1 := hb1.size
    have one : ∀ u ∈ vs, u.oneCell' = true := fun u hu => by
      obtain ⟨i, hi, e⟩ := List.mem_iff_getElem.1 hu
      have := h3 i u (xss[i]'(by omega)) (by simp [hi, e]) (by simp)
      exact this.sv.one
    refine go ?_
    refine s_append (wn rfl) rfl rfl rfl ho (h1.below hb1) one (by simp; omega) sz1 (fun ob' w2 ho2 hg2 _ => ?_)
    have hb2 := hb1.trans (grownBy_below hg2 sz1 (fun k hk => (ho.lt k hk).1))
    refine go ?_
    refine end_one Tryz.results147 rfl ⟨⟨vs, by simpa using ho2, one, h2, h3⟩, hb2⟩

set_option maxRecDepth 100000 in
set_option maxHeartbeats 4000000 in
theorem Delete_any (v : Value) (xss : List (List Int)) (i : Nat) (w0 w : World) (B : Nat) (hv : OX w0 w B 32 v xss) (hi : i < xss.length) (hB : B ≤ w.heap.size) (hn : xss.length ≤ 1000000) :
    Ret Tryz.prog 146 #[v, .int .i64 i, .int .i64 ((i : Int) + 1)] w fun r w' => OX w0 w' B 32 r (xss.eraseIdx i) ∧ Below B w w' := by
  obtain ⟨vs, h1, hone, h2, h3⟩ := hv
  have sv : SV v xss.length := by have := h1.rd.sv; rwa [h2] at this
  have hilt : i < vs.length := by omega
  refine enter3 33 Tryz.func146 rfl Tryz.ntmps146 rfl (fun fr => ?_)
  refine go ?_
  refine s_cut3 (wn rfl) rfl rfl rfl rfl rfl h1.rd (by omega) (by omega) (by omega) (by omega) (fun uu => ?_)
  have hne : ¬ ((i : Int) = (i : Int) + 1) := by omega
  refine go ?_
  refine region_hS (fun w' => ∃ vs', vs'.length = vs.length ∧ Own w' B 32 v vs') mixed (fun w1 hb1 => ?_)
  have h1a := h1.below hb1
  have hS : ∃ vs', vs'.length = vs.length ∧ Own w1 B 32 v vs' := ⟨vs, rfl, h1a⟩
  have hbB := hb1.mono hB
  refine h_p 0 hS ?_ (hrun := fun w _ => y_pop rfl)
  refine h_p 1 hS ?_ (hrun := fun w _ => y_pop rfl)
  refine h_p 2 hS ?_ (hrun := fun w hw => by obtain ⟨vs', hl', ho'⟩ := hw; exact y_cut_hi rfl rfl ho'.rd (by omega) (by omega))
  refine h_p 3 hS ?_ (hrun := fun w _ => y_pop rfl)
  refine h_p 4 hS ?_ (hrun := fun w _ => y_pop rfl)
  refine h_p 5 (v := cut v ((i : Int) + 1).toNat vs.length) hS ?_ (hrun := fun w hw => by obtain ⟨vs', hl', ho'⟩ := hw; rw [← hl']; exact y_cut_lo rfl rfl ho'.rd (by omega) (by omega))
  have e1 : ((i : Int) + 1).toNat = i + 1 := by omega
  have e2 : ((i : Int)).toNat = i := by omega
  rw [e1, e2]
  have hdrop : ((vs.take vs.length).drop (i + 1)) = vs.drop (i + 1) := by rw [List.take_length]
  have hsrc := h1a.rd.cut (l := i + 1) (r := vs.length) (by omega) (Nat.le_refl _)
  rw [hdrop] at hsrc
  have hlen : i + (vs.drop (i + 1)).length = vs.length - 1 := by simp; omega
  refine h_one 6 ?_
  refine s_appendIn (wn rfl) rfl rfl rfl h1a (by omega) hsrc (fun u hu => hone u (List.mem_of_mem_drop hu)) (fun w2 ho2 hg2 => ?_)
  rw [hlen] at ho2 ⊢
  have sz1 := hb1.size
  have hb2 := hbB.trans (grownBy_below hg2 (by omega) (fun k hk => (h1a.lt k hk).1))
  have hl2 : (vs.take i ++ vs.drop (i + 1) ++ vs.drop (vs.length - 1)).length = vs.length := by simp; omega
  generalize hvs2 : vs.take i ++ vs.drop (i + 1) ++ vs.drop (vs.length - 1) = vs2 at ho2 hl2
  refine w_nil ?_
  refine h_on ⟨⟨vs2, hl2, ho2⟩, ?_⟩
  refine h_p 7 ⟨vs2, hl2, ho2⟩ ?_ (hrun := fun w _ => y_pop rfl)
  refine h_nil ?_
  have scut : SV (cut v 0 (vs.length - 1)) (vs.length - 1) := by
    have := (ho2.cut (l := 0) (r := vs.length - 1) (by omega) (by omega)).rd.sv
    simpa [hl2] using this
  refine go ?_
  refine s_p (wn rfl) rfl (y_room rfl rfl rfl ho2.rd (by omega) (by omega) (by omega)) ?_
  have e3 : ((((vs.length - 1 : Nat) : Int)).toNat) = vs.length - 1 := by omega
  have e4 : (((xss.length : Nat) : Int)).toNat = vs2.length := by omega
  rw [e3, e4]
  refine s_clear (wn rfl) rfl ho2 (by omega) (fun w3 ho3 hg3 => ?_)
  have sz2 := hg2.size
  have hb3 := hb2.trans (grownBy_below hg3 (by omega) (fun k hk => (ho2.lt k hk).1))
  have hfin := ho3.cut (l := 0) (r := vs.length - 1) (by omega) (by simp; omega)
  have hvals : (((vs2.take (vs.length - 1) ++ List.replicate (vs2.length - (vs.length - 1)) (Value.slice none 0 0)).take (vs.length - 1)).drop 0) = vs.eraseIdx i := by
    rw [List.drop_zero, List.take_append_of_le_length (by simp; omega), List.take_take, Nat.min_self, ← hvs2, List.take_append_of_le_length (by simp; omega), List.take_of_length_le (by simp; omega), List.eraseIdx_eq_take_drop_succ]
  rw [hvals] at hfin
  refine go ?_
  have hrows := h3
  refine end_one Tryz.results146 rfl ⟨⟨_, hfin, fun u hu => hone u (List.mem_of_mem_eraseIdx hu), by rw [List.length_eraseIdx_of_lt hilt, List.length_eraseIdx_of_lt hi]; omega, fun j u xs hu hx => ?_⟩, hb3⟩
  rw [List.getElem?_eraseIdx] at hu hx
  split at hu
  · rename_i hji; rw [if_pos hji] at hx; exact hrows j u xs hu hx
  · rename_i hji; rw [if_neg hji] at hx; exact hrows (j + 1) u xs hu hx

set_option maxRecDepth 100000 in
theorem without_any (v : Value) (pv : Addr) (ms : List (List Int)) (i : Int) (w : World) (hv : RL w v ms) (hxv : w.cell? pv = some v) (hm : IsMan ms) (hi : 0 ≤ i ∧ i < ms.length) :
    Ret Tryz.prog 129 #[.pointer (some pv), .int .i64 i] w fun r w' => OX w w' w.heap.size 32 r (oth ms i) ∧ Below w.heap.size w w' := by
  have shv := hv.sv
  have hb := Below.refl w.heap.size w
  refine enter2 14 Tryz.func129 rfl Tryz.ntmps129 rfl (fun fr => ?_)
  have h1 := hm.m0.r1
  have h5 := hm.m0.r5
  have h4 := hm.m0.f400
  obtain ⟨k, rfl⟩ : ∃ k : Nat, i = k := ⟨i.toNat, by omega⟩
  have hk : k < ms.length := by omega
  have ek : oth ms (k : Int) = ms.eraseIdx k := by unfold oth; rfl
  refine go ?_
  refine s_call1 (wn rfl) rfl rfl (CloneR_any _ _ _ hv (by omega)) ?_
  rintro x w1 ⟨hx, hb1⟩
  have sw1 := hb1.size
  replace hv := hv.below hb1
  replace hxv := cell_below hxv hb1
  replace hb := hb.trans (hb1.mono hb.size)
  have sz1 := hb.size
  refine go ?_
  refine s_call3 (wn rfl) rfl rfl rfl rfl (Delete_any _ _ k _ _ _ hx hk sz1 (by omega)) ?_
  rintro y w2 ⟨hy, hb2⟩
  rw [ek]
  refine go ?_
  exact end_one Tryz.results129 rfl ⟨hy, hb.trans hb2⟩

theorem oth_len {ms : List (List Int)} {i : Int} (hi : 0 ≤ i ∧ i < ms.length) : (oth ms i).length = ms.length - 1 := by
  unfold oth; rw [List.length_eraseIdx_of_lt (by omega)]

set_option maxRecDepth 100000 in
theorem faces_any (v : Value) (pv : Addr) (ms : List (List Int)) (i : Int) (w : World) (hv : RL w v ms) (hxv : w.cell? pv = some v) (hm : IsMan ms) (hi : 0 ≤ i ∧ i < ms.length) :
    Ret Tryz.prog 108 #[.pointer (some pv), .int .i64 i] w fun r w' => ∃ lb, r = .tuple #[lb, .int .i64 (facC ms i)] ∧ OI w' w.heap.size 2 lb (facL ms i) ∧ Below w.heap.size w w' := by
  have shv := hv.sv
  have hb := Below.refl w.heap.size w
  refine enter2 14 Tryz.func108 rfl Tryz.ntmps108 rfl (fun fr => ?_)
  have h1 := hm.m0.r1
  have h5 := hm.m0.r5
  have h4 := hm.m0.f400
  have hol := oth_len hi
  refine go ?_
  refine s_call1 (wn rfl) rfl rfl (flags_any _ _ _ _ hxv hv h1) ?_
  rintro _ _ ⟨rfl, rfl⟩
  refine go ?_
  refine s_call2 (wn rfl) rfl rfl rfl (without_any _ _ _ i _ hv hxv hm hi) ?_
  rintro x w1 ⟨hx, hb1⟩
  have sw1 := hb1.size
  replace hv := hv.below hb1
  replace hxv := cell_below hxv hb1
  replace hb := hb.trans (hb1.mono hb.size)
  have hx := hx.rl hb
  have sz1 := hb.size
  refine go ?_
  refine s_call2 (wn rfl) rfl rfl rfl (orbitLabels_any _ _ _ _ hx (oth_sym hm i) (by omega) (by omega)) ?_
  rintro _ w2 ⟨lb, rfl, hy, hb2⟩
  have sw2 := hb2.size
  replace hv := hv.below hb2
  replace hxv := cell_below hxv hb2
  replace hb := hb.trans (hb2.mono hb.size)
  refine go ?_
  exact end_two Tryz.results108 rfl rfl ⟨lb, rfl, hy.mono sz1, hb⟩

set_option maxRecDepth 100000 in
theorem hasRank_any (v : Value) (pv : Addr) (ms : List (List Int)) (i : Int) (w : World) (hv : RL w v ms) (hxv : w.cell? pv = some v) (h5 : ms.length ≤ 5) :
    Ret Tryz.prog 113 #[.pointer (some pv), .int .i64 i] w fun r w' => r = .bool (decide (0 ≤ i ∧ i < ms.length)) ∧ w = w' := by
  have shv := hv.sv
  have hb := Below.refl w.heap.size w
  refine enter2 10 Tryz.func113 rfl Tryz.ntmps113 rfl (fun fr => ?_)
  refine go ?_
  refine s_call1 (wn rfl) rfl rfl (rank_any _ _ _ _ hxv shv) ?_
  rintro _ _ ⟨rfl, rfl⟩
  refine go ?_
  refine s_call3 (wn rfl) rfl rfl rfl rfl (within_any _ _ _ _) ?_
  rintro _ _ ⟨rfl, rfl⟩
  refine go ?_
  exact end_one Tryz.results113 rfl ⟨by rw [inB_flag], rfl⟩

set_option maxRecDepth 100000 in
theorem l01Has_any (v : Value) (xs : List Int) (a : Int) (w : World) (hv : IL w v xs) :
    Ret Tryz.prog 148 #[v, .int .i64 a] w fun r w' => r = .bool (decide (a ∈ xs)) ∧ w = w' := by
  have shv := hv.sv
  have hb := Below.refl w.heap.size w
  refine enter2 9 Tryz.func148 rfl Tryz.ntmps148 rfl (fun fr => ?_)
  refine go ?_
  refine s_call2 (wn rfl) rfl rfl rfl (l01Index_any _ _ a _ hv) ?_
  rintro _ _ ⟨rfl, rfl⟩
  have e : decide (0 ≤ idxOf xs a) = decide (a ∈ xs) := by
    rw [decide_eq_decide]
    constructor
    · intro h
      refine Classical.byContradiction fun hn => ?_
      rw [idxOf_none (fun j hj e => hn (by rw [← e]; exact gi_in hj))] at h
      omega
    · intro h; exact (idxOf_mem h).1
  refine go ?_
  exact end_one Tryz.results148 rfl ⟨by rw [← e], rfl⟩

theorem othTo_hit {ms : List (List Int)} {k i : Nat} (h : i < ms.length) (e : i = k) : (ms.take (i + 1)).eraseIdx k = (ms.take i).eraseIdx k := by
  subst e
  rw [List.eraseIdx_eq_take_drop_succ, List.eraseIdx_of_length_le (by simp; omega)]
  simp [List.take_take]
theorem othTo_miss {ms : List (List Int)} {k i : Nat} (h : i < ms.length) (e : i ≠ k) : (ms.take (i + 1)).eraseIdx k = (ms.take i).eraseIdx k ++ [gr ms i] := by
  have ht : ms.take (i + 1) = ms.take i ++ [gr ms i] := by
    rw [List.take_succ_eq_append_getElem h]
    simp [gr, List.getD, h]
  rw [ht]
  by_cases hlt : k < i
  · rw [List.eraseIdx_append_of_lt_length (by simp; omega)]
  · rw [List.eraseIdx_of_length_le (by simp; omega), List.eraseIdx_of_length_le (by simp; omega)]

set_option maxHeartbeats 4000000 in
set_option maxRecDepth 100000 in
theorem l02Others_any (v : Value) (v2 : Value) (ms : List (List Int)) (bs : List Int) (w : World) (hv : RL w v ms) (hv2 : IL w v2 bs) (k0 : Nat) (hbs : bs = [(k0 : Int)]) (h5 : ms.length ≤ 5) :
    Ret Tryz.prog 130 #[.agg #[v], v2] w fun r w' => OX w w' w.heap.size 32 r (ms.eraseIdx k0) ∧ Below w.heap.size w w' := by
  have shv := hv.sv
  have shv2 := hv2.sv
  have hb := Below.refl w.heap.size w
  refine enter2 28 Tryz.func130 rfl Tryz.ntmps130 rfl (fun fr => ?_)
  subst hbs
  have hv0 := hv
  refine go ?_
  refine s_box (wn rfl) rfl rfl (agg_cells shv) (fun w1 hbx _ hp hg => ?_)
  have hb1 := below_of_grownBy hg
  have sw1 := hb1.size
  replace hv := hv.below hb1
  replace hv2 := hv2.below hb1
  replace hb := hb.trans (hb1.mono hb.size)
  clear hg hp hb1
  generalize (⟨w.heap.size, 0, none⟩ : Addr) = p at *
  have sbs1 := hb.size
  have hv_b1 := hv
  have hv2_b1 := hv2
  have hbx_b1 := hbx
  have hbB1 := Below.refl w1.heap.size w1
  refine go ?_
  refine s_build (B := w1.heap.size) [] (wn rfl) rfl (by simp) (by decide) rfl (by simp) (Nat.le_refl _) (fun ob w2 ho hg2 _ => ?_)
  have hb2 := below_of_grownBy hg2
  have sw2 := hb2.size
  replace hv := hv.below hb2
  replace hv2 := hv2.below hb2
  replace hbx := cell_below hbx hb2
  replace hbB1 := hbB1.trans (hb2.mono hbB1.size)
  have hox : OX w w2 w1.heap.size 32 ob ((ms.take 0).eraseIdx k0) := ⟨[], ho, by simp, by simp, by simp⟩
  refine go ?_
  refine w_loop (fun k fr w' => ∃ (i : Nat) (ob : Value), k = ms.length - i ∧ i ≤ ms.length ∧ fr 1 = v2 ∧ fr 2 = .pointer (some p) ∧ fr 5 = ob ∧ fr 6 = .int .i64 i ∧ (OX w w' w1.heap.size 32 ob ((ms.take i).eraseIdx k0)) ∧ Below w1.heap.size w1 w') (ms.length)
    ⟨0, ob, rfl, Nat.zero_le _, rfl, rfl, rfl, rfl, hox, hbB1⟩ ?_
  rintro k fr w3 ⟨i, ob, rfl, hi, f1, f2, f5, f6, ho, hbB1⟩
  have sw3 := hbB1.size
  have hv := hv_b1.below hbB1
  have hv2 := hv2_b1.below hbB1
  have hbx := cell_below hbx_b1 hbB1
  refine know (t := 1) f1 ?_; refine know (t := 2) f2 ?_; refine know (t := 5) f5 ?_; refine know (t := 6) f6 ?_
  refine go ?_
  refine cond_dec rfl (fun hlt => ?_) (fun hge => ?_)
  · refine go ?_
    refine s_call2 (wn rfl) rfl rfl rfl (l01Has_any _ _ (i : Int) _ hv2) ?_
    rintro _ _ ⟨rfl, rfl⟩
    by_cases hik : i = k0
    · have hd : decide ((i : Int) ∈ [(k0 : Int)]) = true := by simp [hik]
      refine go ?_
      refine ⟨ms.length - (i + 1), by omega, i + 1, ob, rfl, by omega, rfl, rfl, rfl, rfl, by rw [othTo_hit (by omega) hik]; exact ho, hbB1⟩
    have hd : decide ((i : Int) ∈ [(k0 : Int)]) = false := by simp; omega
    obtain ⟨u, hu0, hcu0⟩ := hv0.row (j := (i : Int)) (by omega) hlt
    have hbw := (hb.trans (hbB1.mono hb.size))
    have hcu := cell_below hcu0 hbw
    have su := hu0.sv
    have e := othTo_miss (ms := ms) (k := k0) (i := i) (by omega) hik
    obtain ⟨vs, g1, g2, g3, g4⟩ := ho
    have g3' : vs.length ≤ 5 := by rw [g3]; have := List.length_eraseIdx_le (ms.take i) k0; simp at this; omega
    refine go ?_
    have szq4 := hbB1.size
    refine s_build1V (B := w1.heap.size) (wn rfl) rfl rfl su.one szq4 (fun tb w4 ht st hg4 _ => ?_)
    have hb4 := below_of_grownBy hg4
    have sw4 := hb4.size
    replace hv := hv.below hb4
    replace hv2 := hv2.below hb4
    replace hbx := cell_below hbx hb4
    replace hbB1 := hbB1.trans (hb4.mono hbB1.size)
    replace g1 := g1.below hb4
    have szr := hbB1.size
    refine s_append (wn rfl) rfl rfl rfl g1 ht.rd (by intro a ha; simp at ha; subst ha; exact su.one) (by simp; omega) szr (fun ob' w5 ho4 hg4 _ => ?_)
    replace hbB1 := hbB1.trans (grownBy_below hg4 szr (fun k hk => (g1.lt k hk).1))
    have hox2 : OX w w5 w1.heap.size 32 ob' ((ms.take (i + 1)).eraseIdx k0) := by
      rw [e]
      refine ⟨vs ++ [u], ho4, ?_, by simp [g3], ?_⟩
      · intro a ha
        rcases List.mem_append.1 ha with ha | ha
        · exact g2 a ha
        · simp at ha; subst ha; exact su.one
      · intro j a xs ha hx
        rw [List.getElem?_append] at ha hx
        rw [← g3] at hx
        split at ha
        · rename_i hj; rw [if_pos hj] at hx; exact g4 j a xs ha hx
        · rename_i hj
          rw [if_neg hj] at hx
          have h0 : j - vs.length = 0 := by have := (List.getElem?_eq_some_iff.1 ha).1; simpa using this
          rw [h0] at ha hx
          simp at ha hx
          subst ha hx
          exact hu0
    refine go ?_
    refine ⟨ms.length - (i + 1), by omega, i + 1, ob', rfl, by omega, rfl, rfl, rfl, rfl, hox2, hbB1⟩
  obtain rfl : i = ms.length := by omega
  rw [List.take_length] at ho
  obtain ⟨vs, g1, g2, g3, g4⟩ := ho
  refine go ?_
  exact end_one Tryz.results130 rfl ⟨⟨vs, g1.mono (by omega), g2, g3, g4⟩, (hb.trans (hbB1.mono hb.size))⟩

set_option maxHeartbeats 4000000 in
set_option maxRecDepth 100000 in
theorem l02Faces_any (v : Value) (ms : List (List Int)) (i : Int) (w : World) (hv : RL w v ms) (hm : IsMan ms) (hi : 0 ≤ i ∧ i < ms.length) :
    Ret Tryz.prog 109 #[.agg #[v], .int .i64 i] w fun r w' => OI w' w.heap.size 2 r (facL ms i) ∧ Below w.heap.size w w' := by
  have shv := hv.sv
  have hb := Below.refl w.heap.size w
  refine enter2 12 Tryz.func109 rfl Tryz.ntmps109 rfl (fun fr => ?_)
  have h1 := hm.m0.r1
  have h5 := hm.m0.r5
  have h4 := hm.m0.f400
  have hol := oth_len hi
  obtain ⟨k, rfl⟩ : ∃ k : Nat, i = k := ⟨i.toNat, by omega⟩
  have ek : oth ms (k : Int) = ms.eraseIdx k := by unfold oth; rfl
  refine go ?_
  refine s_box (wn rfl) rfl rfl (agg_cells shv) (fun w1 hbx _ hp hg => ?_)
  have hb1 := below_of_grownBy hg
  have sw1 := hb1.size
  replace hv := hv.below hb1
  replace hb := hb.trans (hb1.mono hb.size)
  clear hg hp hb1
  generalize (⟨w.heap.size, 0, none⟩ : Addr) = p at *
  have szw := hb.size
  refine go ?_
  refine region_h mixed (fun w2 hc2 => ?_)
  refine h_p 0 hc2 ?_
  refine h_p 2 hc2 ?_
  refine h_p 3 hc2 ?_
  refine h_two 1 4 ?_ ?_
  · refine s_call1 (wn rfl) rfl rfl (l02Flags_any _ _ _ (hv.below hc2) h1) ?_
    rintro _ wa ⟨rfl, hba⟩
    have hca := hc2.trans (hba.mono hc2.size)
    refine w_nil ?_
    refine h_on ⟨hca, ?_⟩
    refine h_one 4 ?_
    refine s_build1 (B := wa.heap.size) (wn rfl) rfl rfl (Nat.le_refl _) (fun tb wb ht st hgb _ => ?_)
    have hbb := below_of_grownBy hgb
    have hcb := hca.trans (hbb.mono hca.size)
    refine w_nil ?_
    refine h_on ⟨hcb, ?_⟩
    refine h_one 5 ?_
    refine s_call2 (wn rfl) rfl rfl rfl (l02Others_any _ _ _ _ _ (hv.below hcb) ht.il k rfl (by omega)) ?_
    rintro x wc ⟨hx, hbc⟩
    have hcc := hcb.trans (hbc.mono hcb.size)
    have hx := hx.rl hbc
    rw [← ek] at hx
    refine w_nil ?_
    refine h_on ⟨hcc, ?_⟩
    refine h_one 6 ?_
    refine s_call2 (wn rfl) rfl rfl rfl (l01Orbits_any _ _ _ _ hx (oth_sym hm (k : Int)) (by omega) (by omega)) ?_
    rintro y wd ⟨hy, hbd⟩
    have hcd := hcc.trans (hbd.mono hcc.size)
    have s1 := hcc.size
    have s2 := hc2.size
    refine w_nil ?_
    refine h_on ⟨hcd, ?_⟩
    refine h_p 7 hcd ?_
    refine h_nil ?_
    refine go ?_
    exact end_one Tryz.results109 rfl ⟨hy.mono (by omega), hb.trans (hcd.mono hb.size)⟩
  · refine s_build1 (B := w2.heap.size) (wn rfl) rfl rfl (Nat.le_refl _) (fun tb wa ht st hga _ => ?_)
    have hba := below_of_grownBy hga
    have hca := hc2.trans (hba.mono hc2.size)
    refine w_nil ?_
    refine h_on ⟨hca, ?_⟩
    refine h_one 1 ?_
    refine s_call1 (wn rfl) rfl rfl (l02Flags_any _ _ _ (hv.below hca) h1) ?_
    rintro _ wb ⟨rfl, hbb⟩
    have hcb := hca.trans (hbb.mono hca.size)
    replace ht := ht.below hbb
    refine w_nil ?_
    refine h_on ⟨hcb, ?_⟩
    refine h_one 5 ?_
    refine s_call2 (wn rfl) rfl rfl rfl (l02Others_any _ _ _ _ _ (hv.below hcb) ht.il k rfl (by omega)) ?_
    rintro x wc ⟨hx, hbc⟩
    have hcc := hcb.trans (hbc.mono hcb.size)
    have hx := hx.rl hbc
    rw [← ek] at hx
    refine w_nil ?_
    refine h_on ⟨hcc, ?_⟩
    refine h_one 6 ?_
    refine s_call2 (wn rfl) rfl rfl rfl (l01Orbits_any _ _ _ _ hx (oth_sym hm (k : Int)) (by omega) (by omega)) ?_
    rintro y wd ⟨hy, hbd⟩
    have hcd := hcc.trans (hbd.mono hcc.size)
    have s1 := hcc.size
    have s2 := hc2.size
    refine w_nil ?_
    refine h_on ⟨hcd, ?_⟩
    refine h_p 7 hcd ?_
    refine h_nil ?_
    refine go ?_
    exact end_one Tryz.results109 rfl ⟨hy.mono (by omega), hb.trans (hcd.mono hb.size)⟩

end Go.Proofs.YtablpijnjkncfaaGreat

/- Contracts: FaceMap, FaceOrbits, IsTransitiveOn, on both sides. -/
namespace Go.Proofs.YtablpijnjkncfaaGreat
open Go.Mem Go.RowKit
set_option linter.unusedVariables false
theorem Index_any (v : Value) (xs : List Int) (a : Int) (w : World) (hv : IL w v xs) :
    Ret Tryz.prog 103 #[v, .int .i64 a] w fun r w' => r = .int .i64 (idxOf xs a) ∧ w = w' := by
  have sv := hv.sv
  have scap := sv.le
  refine enter2 19 Tryz.func103 rfl Tryz.ntmps103 rfl (fun fr => ?_)
  refine go ?_
  refine w_loop (fun k fr w' => ∃ (i : Nat), k = xs.length - i ∧ i ≤ xs.length ∧ fr 0 = v ∧ fr 1 = .int .i64 a ∧ fr 7 = .int .i64 xs.length ∧ fr 8 = .int .i64 i ∧ (∀ j : Nat, j < i → gi xs j ≠ a) ∧ w = w') xs.length
    ⟨0, rfl, Nat.zero_le _, rfl, rfl, rfl, rfl, fun j hj => by omega, rfl⟩ ?_
  rintro k fr _ ⟨i, rfl, hi, f0, f1, f7, f8, hall, rfl⟩
  refine know (t := 0) f0 ?_; refine know (t := 1) f1 ?_; refine know (t := 7) f7 ?_; refine know (t := 8) f8 ?_
  refine go ?_
  refine cond_dec rfl (fun hlt => ?_) (fun hge => ?_)
  · refine go ?_
    refine cond_dec rfl (fun he => ?_) (fun hne => ?_)
    · refine go ?_
      exact end_one Tryz.results103 rfl ⟨by rw [idxOf_hit (by omega) he.symm hall], rfl⟩
    · refine go ?_
      exact ⟨xs.length - (i + 1), by omega, i + 1, rfl, by omega, rfl, rfl, rfl, rfl, fun j hj => by by_cases hji : j = i; (subst hji; exact fun e => hne e.symm); exact hall j (by omega), rfl⟩
  · obtain rfl : i = xs.length := by omega
    refine go ?_
    exact end_one Tryz.results103 rfl ⟨by rw [idxOf_none hall], rfl⟩

end Go.Proofs.YtablpijnjkncfaaGreat
