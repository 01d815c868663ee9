/- Texts laid together: F24 F25. -/
import Derived.Test.YtlodnhflfijomaaFF
import Derived.Test.YtlodnhflfijomaaWC
import Derived.Test.YtlodnhflfijomaaPC
/- Contracts: all moves but one; faces, on both sides. -/
namespace Go.Proofs.Ytlodnhflfijomaa
open Go.Mem Go.RowKit
set_option linter.unusedVariables false


/-- an owned list of rows that were there at w0 -/
def OX (w0 w : World) (B : Nat) (T : TypeId) (v : Value) (xss : List (List Int)) : Prop :=
  ∃ vs, Own w B T v vs ∧ (∀ u ∈ vs, u.oneCell' = true) ∧ vs.length = xss.length ∧ ∀ (i : Nat) u xs, vs[i]? = some u → xss[i]? = some xs → IL w0 u xs
theorem OX.rl {w0 w : World} {B : Nat} {T : TypeId} {v : Value} {xss : List (List Int)} (h : OX w0 w B T v xss) (hb : Below w0.heap.size w0 w) : RL w v xss := by
  obtain ⟨vs, h1, _, h2, h3⟩ := h
  exact ⟨vs, h1.rd, h2, fun i u xs hu hx => (h3 i u xs hu hx).below hb⟩

set_option maxRecDepth 100000 in
theorem CloneR_any (v : Value) (xss : List (List Int)) (w : World) (hv : RL w v xss) (hl : xss.length ≤ 1000000) :
    Ret Try.prog 196 #[v] w fun r w' => OX w w' w.heap.size 40 r xss ∧ Below w.heap.size w w' := by
  have sv := hv.sv
  refine enter1 8 Try.func196 rfl Try.ntmps196 rfl (fun fr => ?_)
  refine go ?_
  cases hn : nilV v with
  | true =>
    have hx : xss = [] := by
      by_cases h : xss.length = 0
      · exact List.length_eq_zero_iff.1 h
      · rw [nilV_of sv h] at hn; simp at hn
    subst hx
    refine go ?_
    exact end_one Try.results196 rfl ⟨⟨[], Own.nil _ _ _, by simp, rfl, by simp⟩, Below.refl _ _⟩
  | false =>
    obtain ⟨vs, h1, h2, h3⟩ := hv.out
    refine go ?_
    refine s_build (B := w.heap.size) [] (wn rfl) rfl (by simp) (by decide) rfl (by simp) (Nat.le_refl _) (fun ob w1 ho hg1 _ => ?_)
    have hb1 := below_of_grownBy hg1
    have sz1 := hb1.size
    have one : ∀ u ∈ vs, u.oneCell' = true := fun u hu => by
      obtain ⟨i, hi, e⟩ := List.mem_iff_getElem.1 hu
      have := h3 i u (xss[i]'(by omega)) (by simp [hi, e]) (by simp)
      exact this.sv.one
    refine go ?_
    refine s_append (wn rfl) rfl rfl rfl ho (h1.below hb1) one (by simp; omega) sz1 (fun ob' w2 ho2 hg2 _ => ?_)
    have hb2 := hb1.trans (grownBy_below hg2 sz1 (fun k hk => (ho.lt k hk).1))
    refine go ?_
    refine end_one Try.results196 rfl ⟨⟨vs, by simpa using ho2, one, h2, h3⟩, hb2⟩

set_option maxRecDepth 100000 in
set_option maxHeartbeats 4000000 in
theorem Delete_any (v : Value) (xss : List (List Int)) (i : Nat) (w0 w : World) (B : Nat) (hv : OX w0 w B 40 v xss) (hi : i < xss.length) (hB : B ≤ w.heap.size) (hn : xss.length ≤ 1000000) :
    Ret Try.prog 195 #[v, .int .i64 i, .int .i64 ((i : Int) + 1)] w fun r w' => OX w0 w' B 40 r (xss.eraseIdx i) ∧ Below B w w' := by
  obtain ⟨vs, h1, hone, h2, h3⟩ := hv
  have sv : SV v xss.length := by have := h1.rd.sv; rwa [h2] at this
  have hilt : i < vs.length := by omega
  refine enter3 33 Try.func195 rfl Try.ntmps195 rfl (fun fr => ?_)
  refine go ?_
  refine s_cut3 (wn rfl) rfl rfl rfl rfl rfl h1.rd (by omega) (by omega) (by omega) (by omega) (fun uu => ?_)
  have hne : ¬ ((i : Int) = (i : Int) + 1) := by omega
  refine go ?_
  refine region_hS (fun w' => ∃ vs', vs'.length = vs.length ∧ Own w' B 40 v vs') mixed (fun w1 hb1 => ?_)
  have h1a := h1.below hb1
  have hS : ∃ vs', vs'.length = vs.length ∧ Own w1 B 40 v vs' := ⟨vs, rfl, h1a⟩
  have hbB := hb1.mono hB
  refine h_p 0 hS ?_ (hrun := fun w _ => y_pop rfl)
  refine h_p 1 hS ?_ (hrun := fun w _ => y_pop rfl)
  refine h_p 2 hS ?_ (hrun := fun w hw => by obtain ⟨vs', hl', ho'⟩ := hw; exact y_cut_hi rfl rfl ho'.rd (by omega) (by omega))
  refine h_p 3 hS ?_ (hrun := fun w _ => y_pop rfl)
  refine h_p 4 hS ?_ (hrun := fun w _ => y_pop rfl)
  refine h_p 5 (v := cut v ((i : Int) + 1).toNat vs.length) hS ?_ (hrun := fun w hw => by obtain ⟨vs', hl', ho'⟩ := hw; rw [← hl']; exact y_cut_lo rfl rfl ho'.rd (by omega) (by omega))
  have e1 : ((i : Int) + 1).toNat = i + 1 := by omega
  have e2 : ((i : Int)).toNat = i := by omega
  rw [e1, e2]
  have hdrop : ((vs.take vs.length).drop (i + 1)) = vs.drop (i + 1) := by rw [List.take_length]
  have hsrc := h1a.rd.cut (l := i + 1) (r := vs.length) (by omega) (Nat.le_refl _)
  rw [hdrop] at hsrc
  have hlen : i + (vs.drop (i + 1)).length = vs.length - 1 := by simp; omega
  refine h_one 6 ?_
  refine s_appendIn (wn rfl) rfl rfl rfl h1a (by omega) hsrc (fun u hu => hone u (List.mem_of_mem_drop hu)) (fun w2 ho2 hg2 => ?_)
  rw [hlen] at ho2 ⊢
  have sz1 := hb1.size
  have hb2 := hbB.trans (grownBy_below hg2 (by omega) (fun k hk => (h1a.lt k hk).1))
  have hl2 : (vs.take i ++ vs.drop (i + 1) ++ vs.drop (vs.length - 1)).length = vs.length := by simp; omega
  generalize hvs2 : vs.take i ++ vs.drop (i + 1) ++ vs.drop (vs.length - 1) = vs2 at ho2 hl2
  refine w_nil ?_
  refine h_on ⟨⟨vs2, hl2, ho2⟩, ?_⟩
  refine h_p 7 ⟨vs2, hl2, ho2⟩ ?_ (hrun := fun w _ => y_pop rfl)
  refine h_nil ?_
  have scut : SV (cut v 0 (vs.length - 1)) (vs.length - 1) := by
    have := (ho2.cut (l := 0) (r := vs.length - 1) (by omega) (by omega)).rd.sv
    simpa [hl2] using this
  refine go ?_
  refine s_p (wn rfl) rfl (y_room rfl rfl rfl ho2.rd (by omega) (by omega) (by omega)) ?_
  have e3 : ((((vs.length - 1 : Nat) : Int)).toNat) = vs.length - 1 := by omega
  have e4 : (((xss.length : Nat) : Int)).toNat = vs2.length := by omega
  rw [e3, e4]
  refine s_clear (wn rfl) rfl ho2 (by omega) (fun w3 ho3 hg3 => ?_)
  have sz2 := hg2.size
  have hb3 := hb2.trans (grownBy_below hg3 (by omega) (fun k hk => (ho2.lt k hk).1))
  have hfin := ho3.cut (l := 0) (r := vs.length - 1) (by omega) (by simp; omega)
  have hvals : (((vs2.take (vs.length - 1) ++ List.replicate (vs2.length - (vs.length - 1)) (Value.slice none 0 0)).take (vs.length - 1)).drop 0) = vs.eraseIdx i := by
    rw [List.drop_zero, List.take_append_of_le_length (by simp; omega), List.take_take, Nat.min_self, ← hvs2, List.take_append_of_le_length (by simp; omega), List.take_of_length_le (by simp; omega), List.eraseIdx_eq_take_drop_succ]
  rw [hvals] at hfin
  refine go ?_
  have hrows := h3
  refine end_one Try.results195 rfl ⟨⟨_, hfin, fun u hu => hone u (List.mem_of_mem_eraseIdx hu), by rw [List.length_eraseIdx_of_lt hilt, List.length_eraseIdx_of_lt hi]; omega, fun j u xs hu hx => ?_⟩, hb3⟩
  rw [List.getElem?_eraseIdx] at hu hx
  split at hu
  · rename_i hji; rw [if_pos hji] at hx; exact hrows j u xs hu hx
  · rename_i hji; rw [if_neg hji] at hx; exact hrows (j + 1) u xs hu hx

set_option maxRecDepth 100000 in
theorem without_any (v : Value) (pv : Addr) (ms : List (List Int)) (i : Int) (w : World) (hv : RL w v ms) (hxv : w.cell? pv = some v) (hm : IsMan ms) (hi : 0 ≤ i ∧ i < ms.length) :
    Ret Try.prog 170 #[.pointer (some pv), .int .i64 i] w fun r w' => OX w w' w.heap.size 40 r (oth ms i) ∧ Below w.heap.size w w' := by
  have shv := hv.sv
  have hb := Below.refl w.heap.size w
  refine enter2 14 Try.func170 rfl Try.ntmps170 rfl (fun fr => ?_)
  have h1 := hm.m0.r1
  have h5 := hm.m0.r5
  have h4 := hm.m0.f400
  obtain ⟨k, rfl⟩ : ∃ k : Nat, i = k := ⟨i.toNat, by omega⟩
  have hk : k < ms.length := by omega
  have ek : oth ms (k : Int) = ms.eraseIdx k := by unfold oth; rfl
  refine go ?_
  refine s_call1 (wn rfl) rfl rfl (CloneR_any _ _ _ hv (by omega)) ?_
  rintro x w1 ⟨hx, hb1⟩
  have sw1 := hb1.size
  replace hv := hv.below hb1
  replace hxv := cell_below hxv hb1
  replace hb := hb.trans (hb1.mono hb.size)
  have sz1 := hb.size
  refine go ?_
  refine s_call3 (wn rfl) rfl rfl rfl rfl (Delete_any _ _ k _ _ _ hx hk sz1 (by omega)) ?_
  rintro y w2 ⟨hy, hb2⟩
  rw [ek]
  refine go ?_
  exact end_one Try.results170 rfl ⟨hy, hb.trans hb2⟩

theorem oth_len {ms : List (List Int)} {i : Int} (hi : 0 ≤ i ∧ i < ms.length) : (oth ms i).length = ms.length - 1 := by
  unfold oth; rw [List.length_eraseIdx_of_lt (by omega)]

set_option maxRecDepth 100000 in
theorem faces_any (v : Value) (pv : Addr) (ms : List (List Int)) (i : Int) (w : World) (hv : RL w v ms) (hxv : w.cell? pv = some v) (hm : IsMan ms) (hi : 0 ≤ i ∧ i < ms.length) :
    Ret Try.prog 122 #[.pointer (some pv), .int .i64 i] w fun r w' => ∃ lb, r = .tuple #[lb, .int .i64 (facC ms i)] ∧ OI w' w.heap.size 2 lb (facL ms i) ∧ Below w.heap.size w w' := by
  have shv := hv.sv
  have hb := Below.refl w.heap.size w
  refine enter2 14 Try.func122 rfl Try.ntmps122 rfl (fun fr => ?_)
  have h1 := hm.m0.r1
  have h5 := hm.m0.r5
  have h4 := hm.m0.f400
  have hol := oth_len hi
  refine go ?_
  refine s_call1 (wn rfl) rfl rfl (flags_any _ _ _ _ hxv hv h1) ?_
  rintro _ _ ⟨rfl, rfl⟩
  refine go ?_
  refine s_call2 (wn rfl) rfl rfl rfl (without_any _ _ _ i _ hv hxv hm hi) ?_
  rintro x w1 ⟨hx, hb1⟩
  have sw1 := hb1.size
  replace hv := hv.below hb1
  replace hxv := cell_below hxv hb1
  replace hb := hb.trans (hb1.mono hb.size)
  have hx := hx.rl hb
  have sz1 := hb.size
  refine go ?_
  refine s_call2 (wn rfl) rfl rfl rfl (orbitLabels_any _ _ _ _ hx (oth_sym hm i) (by omega) (by omega)) ?_
  rintro _ w2 ⟨lb, rfl, hy, hb2⟩
  have sw2 := hb2.size
  replace hv := hv.below hb2
  replace hxv := cell_below hxv hb2
  replace hb := hb.trans (hb2.mono hb.size)
  refine go ?_
  exact end_two Try.results122 rfl rfl ⟨lb, rfl, hy.mono sz1, hb⟩

set_option maxRecDepth 100000 in
theorem hasRank_any (v : Value) (pv : Addr) (ms : List (List Int)) (i : Int) (w : World) (hv : RL w v ms) (hxv : w.cell? pv = some v) (h5 : ms.length ≤ 5) :
    Ret Try.prog 129 #[.pointer (some pv), .int .i64 i] w fun r w' => r = .bool (decide (0 ≤ i ∧ i < ms.length)) ∧ w = w' := by
  have shv := hv.sv
  have hb := Below.refl w.heap.size w
  refine enter2 10 Try.func129 rfl Try.ntmps129 rfl (fun fr => ?_)
  refine go ?_
  refine s_call1 (wn rfl) rfl rfl (rank_any _ _ _ _ hxv shv) ?_
  rintro _ _ ⟨rfl, rfl⟩
  refine go ?_
  refine s_call3 (wn rfl) rfl rfl rfl rfl (within_any _ _ _ _) ?_
  rintro _ _ ⟨rfl, rfl⟩
  refine go ?_
  exact end_one Try.results129 rfl ⟨by rw [inB_flag], rfl⟩

set_option maxRecDepth 100000 in
theorem l01Has_any (v : Value) (xs : List Int) (a : Int) (w : World) (hv : IL w v xs) :
    Ret Try.prog 126 #[v, .int .i64 a] w fun r w' => r = .bool (decide (a ∈ xs)) ∧ w = w' := by
  have shv := hv.sv
  have hb := Below.refl w.heap.size w
  refine enter2 9 Try.func126 rfl Try.ntmps126 rfl (fun fr => ?_)
  refine go ?_
  refine s_call2 (wn rfl) rfl rfl rfl (l01Index_any _ _ a _ hv) ?_
  rintro _ _ ⟨rfl, rfl⟩
  have e : decide (0 ≤ idxOf xs a) = decide (a ∈ xs) := by
    rw [decide_eq_decide]
    constructor
    · intro h
      refine Classical.byContradiction fun hn => ?_
      rw [idxOf_none (fun j hj e => hn (by rw [← e]; exact gi_in hj))] at h
      omega
    · intro h; exact (idxOf_mem h).1
  refine go ?_
  exact end_one Try.results126 rfl ⟨by rw [← e], rfl⟩

theorem othTo_hit {ms : List (List Int)} {k i : Nat} (h : i < ms.length) (e : i = k) : (ms.take (i + 1)).eraseIdx k = (ms.take i).eraseIdx k := by
  subst e
  rw [List.eraseIdx_eq_take_drop_succ, List.eraseIdx_of_length_le (by simp; omega)]
  simp [List.take_take]
theorem othTo_miss {ms : List (List Int)} {k i : Nat} (h : i < ms.length) (e : i ≠ k) : (ms.take (i + 1)).eraseIdx k = (ms.take i).eraseIdx k ++ [gr ms i] := by
  have ht : ms.take (i + 1) = ms.take i ++ [gr ms i] := by
    rw [List.take_succ_eq_append_getElem h]
    simp [gr, List.getD, h]
  rw [ht]
  by_cases hlt : k < i
  · rw [List.eraseIdx_append_of_lt_length (by simp; omega)]
  · rw [List.eraseIdx_of_length_le (by simp; omega), List.eraseIdx_of_length_le (by simp; omega)]

set_option maxHeartbeats 4000000 in
set_option maxRecDepth 100000 in
theorem l02Others_any (v : Value) (v2 : Value) (ms : List (List Int)) (bs : List Int) (w : World) (hv : RL w v ms) (hv2 : IL w v2 bs) (k0 : Nat) (hbs : bs = [(k0 : Int)]) (h5 : ms.length ≤ 5) :
    Ret Try.prog 173 #[.agg #[v], v2] w fun r w' => OX w w' w.heap.size 40 r (ms.eraseIdx k0) ∧ Below w.heap.size w w' := by
  have shv := hv.sv
  have shv2 := hv2.sv
  have hb := Below.refl w.heap.size w
  refine enter2 28 Try.func173 rfl Try.ntmps173 rfl (fun fr => ?_)
  subst hbs
  have hv0 := hv
  refine go ?_
  refine s_box (wn rfl) rfl rfl (agg_cells shv) (fun w1 hbx _ hp hg => ?_)
  have hb1 := below_of_grownBy hg
  have sw1 := hb1.size
  replace hv := hv.below hb1
  replace hv2 := hv2.below hb1
  replace hb := hb.trans (hb1.mono hb.size)
  clear hg hp hb1
  generalize (⟨w.heap.size, 0, none⟩ : Addr) = p at *
  have sbs1 := hb.size
  have hv_b1 := hv
  have hv2_b1 := hv2
  have hbx_b1 := hbx
  have hbB1 := Below.refl w1.heap.size w1
  refine go ?_
  refine s_build (B := w1.heap.size) [] (wn rfl) rfl (by simp) (by decide) rfl (by simp) (Nat.le_refl _) (fun ob w2 ho hg2 _ => ?_)
  have hb2 := below_of_grownBy hg2
  have sw2 := hb2.size
  replace hv := hv.below hb2
  replace hv2 := hv2.below hb2
  replace hbx := cell_below hbx hb2
  replace hbB1 := hbB1.trans (hb2.mono hbB1.size)
  have hox : OX w w2 w1.heap.size 40 ob ((ms.take 0).eraseIdx k0) := ⟨[], ho, by simp, by simp, by simp⟩
  refine go ?_
  refine w_loop (fun k fr w' => ∃ (i : Nat) (ob : Value), k = ms.length - i ∧ i ≤ ms.length ∧ fr 1 = v2 ∧ fr 2 = .pointer (some p) ∧ fr 5 = ob ∧ fr 6 = .int .i64 i ∧ (OX w w' w1.heap.size 40 ob ((ms.take i).eraseIdx k0)) ∧ Below w1.heap.size w1 w') (ms.length)
    ⟨0, ob, rfl, Nat.zero_le _, rfl, rfl, rfl, rfl, hox, hbB1⟩ ?_
  rintro k fr w3 ⟨i, ob, rfl, hi, f1, f2, f5, f6, ho, hbB1⟩
  have sw3 := hbB1.size
  have hv := hv_b1.below hbB1
  have hv2 := hv2_b1.below hbB1
  have hbx := cell_below hbx_b1 hbB1
  refine know (t := 1) f1 ?_; refine know (t := 2) f2 ?_; refine know (t := 5) f5 ?_; refine know (t := 6) f6 ?_
  refine go ?_
  refine cond_dec rfl (fun hlt => ?_) (fun hge => ?_)
  · refine go ?_
    refine s_call2 (wn rfl) rfl rfl rfl (l01Has_any _ _ (i : Int) _ hv2) ?_
    rintro _ _ ⟨rfl, rfl⟩
    by_cases hik : i = k0
    · have hd : decide ((i : Int) ∈ [(k0 : Int)]) = true := by simp [hik]
      refine go ?_
      refine ⟨ms.length - (i + 1), by omega, i + 1, ob, rfl, by omega, rfl, rfl, rfl, rfl, by rw [othTo_hit (by omega) hik]; exact ho, hbB1⟩
    have hd : decide ((i : Int) ∈ [(k0 : Int)]) = false := by simp; omega
    obtain ⟨u, hu0, hcu0⟩ := hv0.row (j := (i : Int)) (by omega) hlt
    have hbw := (hb.trans (hbB1.mono hb.size))
    have hcu := cell_below hcu0 hbw
    have su := hu0.sv
    have e := othTo_miss (ms := ms) (k := k0) (i := i) (by omega) hik
    obtain ⟨vs, g1, g2, g3, g4⟩ := ho
    have g3' : vs.length ≤ 5 := by rw [g3]; have := List.length_eraseIdx_le (ms.take i) k0; simp at this; omega
    refine go ?_
    have szq4 := hbB1.size
    refine s_build1V (B := w1.heap.size) (wn rfl) rfl rfl su.one szq4 (fun tb w4 ht st hg4 _ => ?_)
    have hb4 := below_of_grownBy hg4
    have sw4 := hb4.size
    replace hv := hv.below hb4
    replace hv2 := hv2.below hb4
    replace hbx := cell_below hbx hb4
    replace hbB1 := hbB1.trans (hb4.mono hbB1.size)
    replace g1 := g1.below hb4
    have szr := hbB1.size
    refine s_append (wn rfl) rfl rfl rfl g1 ht.rd (by intro a ha; simp at ha; subst ha; exact su.one) (by simp; omega) szr (fun ob' w5 ho4 hg4 _ => ?_)
    replace hbB1 := hbB1.trans (grownBy_below hg4 szr (fun k hk => (g1.lt k hk).1))
    have hox2 : OX w w5 w1.heap.size 40 ob' ((ms.take (i + 1)).eraseIdx k0) := by
      rw [e]
      refine ⟨vs ++ [u], ho4, ?_, by simp [g3], ?_⟩
      · intro a ha
        rcases List.mem_append.1 ha with ha | ha
        · exact g2 a ha
        · simp at ha; subst ha; exact su.one
      · intro j a xs ha hx
        rw [List.getElem?_append] at ha hx
        rw [← g3] at hx
        split at ha
        · rename_i hj; rw [if_pos hj] at hx; exact g4 j a xs ha hx
        · rename_i hj
          rw [if_neg hj] at hx
          have h0 : j - vs.length = 0 := by have := (List.getElem?_eq_some_iff.1 ha).1; simpa using this
          rw [h0] at ha hx
          simp at ha hx
          subst ha hx
          exact hu0
    refine go ?_
    refine ⟨ms.length - (i + 1), by omega, i + 1, ob', rfl, by omega, rfl, rfl, rfl, rfl, hox2, hbB1⟩
  obtain rfl : i = ms.length := by omega
  rw [List.take_length] at ho
  obtain ⟨vs, g1, g2, g3, g4⟩ := ho
  refine go ?_
  exact end_one Try.results173 rfl ⟨⟨vs, g1.mono (by omega), g2, g3, g4⟩, (hb.trans (hbB1.mono hb.size))⟩

set_option maxHeartbeats 4000000 in
set_option maxRecDepth 100000 in
theorem l02Faces_any (v : Value) (ms : List (List Int)) (i : Int) (w : World) (hv : RL w v ms) (hm : IsMan ms) (hi : 0 ≤ i ∧ i < ms.length) :
    Ret Try.prog 127 #[.agg #[v], .int .i64 i] w fun r w' => OI w' w.heap.size 2 r (facL ms i) ∧ Below w.heap.size w w' := by
  have shv := hv.sv
  have hb := Below.refl w.heap.size w
  refine enter2 12 Try.func127 rfl Try.ntmps127 rfl (fun fr => ?_)
  have h1 := hm.m0.r1
  have h5 := hm.m0.r5
  have h4 := hm.m0.f400
  have hol := oth_len hi
  obtain ⟨k, rfl⟩ : ∃ k : Nat, i = k := ⟨i.toNat, by omega⟩
  have ek : oth ms (k : Int) = ms.eraseIdx k := by unfold oth; rfl
  refine go ?_
  refine s_box (wn rfl) rfl rfl (agg_cells shv) (fun w1 hbx _ hp hg => ?_)
  have hb1 := below_of_grownBy hg
  have sw1 := hb1.size
  replace hv := hv.below hb1
  replace hb := hb.trans (hb1.mono hb.size)
  clear hg hp hb1
  generalize (⟨w.heap.size, 0, none⟩ : Addr) = p at *
  have szw := hb.size
  refine go ?_
  refine region_h mixed (fun w2 hc2 => ?_)
  refine h_p 0 hc2 ?_
  refine h_p 2 hc2 ?_
  refine h_p 3 hc2 ?_
  refine h_two 1 4 ?_ ?_
  · refine s_call1 (wn rfl) rfl rfl (l02Flags_any _ _ _ (hv.below hc2) h1) ?_
    rintro _ wa ⟨rfl, hba⟩
    have hca := hc2.trans (hba.mono hc2.size)
    refine w_nil ?_
    refine h_on ⟨hca, ?_⟩
    refine h_one 4 ?_
    refine s_build1 (B := wa.heap.size) (wn rfl) rfl rfl (Nat.le_refl _) (fun tb wb ht st hgb _ => ?_)
    have hbb := below_of_grownBy hgb
    have hcb := hca.trans (hbb.mono hca.size)
    refine w_nil ?_
    refine h_on ⟨hcb, ?_⟩
    refine h_one 5 ?_
    refine s_call2 (wn rfl) rfl rfl rfl (l02Others_any _ _ _ _ _ (hv.below hcb) ht.il k rfl (by omega)) ?_
    rintro x wc ⟨hx, hbc⟩
    have hcc := hcb.trans (hbc.mono hcb.size)
    have hx := hx.rl hbc
    rw [← ek] at hx
    refine w_nil ?_
    refine h_on ⟨hcc, ?_⟩
    refine h_one 6 ?_
    refine s_call2 (wn rfl) rfl rfl rfl (l01Orbits_any _ _ _ _ hx (oth_sym hm (k : Int)) (by omega) (by omega)) ?_
    rintro y wd ⟨hy, hbd⟩
    have hcd := hcc.trans (hbd.mono hcc.size)
    have s1 := hcc.size
    have s2 := hc2.size
    refine w_nil ?_
    refine h_on ⟨hcd, ?_⟩
    refine h_p 7 hcd ?_
    refine h_nil ?_
    refine go ?_
    exact end_one Try.results127 rfl ⟨hy.mono (by omega), hb.trans (hcd.mono hb.size)⟩
  · refine s_build1 (B := w2.heap.size) (wn rfl) rfl rfl (Nat.le_refl _) (fun tb wa ht st hga _ => ?_)
    have hba := below_of_grownBy hga
    have hca := hc2.trans (hba.mono hc2.size)
    refine w_nil ?_
    refine h_on ⟨hca, ?_⟩
    refine h_one 1 ?_
    refine s_call1 (wn rfl) rfl rfl (l02Flags_any _ _ _ (hv.below hca) h1) ?_
    rintro _ wb ⟨rfl, hbb⟩
    have hcb := hca.trans (hbb.mono hca.size)
    replace ht := ht.below hbb
    refine w_nil ?_
    refine h_on ⟨hcb, ?_⟩
    refine h_one 5 ?_
    refine s_call2 (wn rfl) rfl rfl rfl (l02Others_any _ _ _ _ _ (hv.below hcb) ht.il k rfl (by omega)) ?_
    rintro x wc ⟨hx, hbc⟩
    have hcc := hcb.trans (hbc.mono hcb.size)
    have hx := hx.rl hbc
    rw [← ek] at hx
    refine w_nil ?_
    refine h_on ⟨hcc, ?_⟩
    refine h_one 6 ?_
    refine s_call2 (wn rfl) rfl rfl rfl (l01Orbits_any _ _ _ _ hx (oth_sym hm (k : Int)) (by omega) (by omega)) ?_
    rintro y wd ⟨hy, hbd⟩
    have hcd := hcc.trans (hbd.mono hcc.size)
    have s1 := hcc.size
    have s2 := hc2.size
    refine w_nil ?_
    refine h_on ⟨hcd, ?_⟩
    refine h_p 7 hcd ?_
    refine h_nil ?_
    refine go ?_
    exact end_one Try.results127 rfl ⟨hy.mono (by omega), hb.trans (hcd.mono hb.size)⟩

end Go.Proofs.Ytlodnhflfijomaa

/- Contracts: FaceMap, FaceOrbits, IsTransitiveOn, on both sides. -/
namespace Go.Proofs.Ytlodnhflfijomaa
open Go.Mem Go.RowKit
set_option linter.unusedVariables false
set_option maxRecDepth 100000 in
theorem l06Code_any (v : Value) (ms : List (List Int)) (i : Int) (w : World) (hv : RL w v ms) :
    Ret Try.prog 125 #[.agg #[v], .int .i64 i] w fun r w' => r = .int .i64 (rkC ms i) ∧ Below w.heap.size w w' := by
  have shv := hv.sv
  have hb := Below.refl w.heap.size w
  refine enter2 15 Try.func125 rfl Try.ntmps125 rfl (fun fr => ?_)
  refine go ?_
  refine s_box (wn rfl) rfl rfl (agg_cells shv) (fun w1 hbx _ hp hg => ?_)
  have hb1 := below_of_grownBy hg
  have sw1 := hb1.size
  replace hv := hv.below hb1
  replace hb := hb.trans (hb1.mono hb.size)
  clear hg hp hb1
  generalize (⟨w.heap.size, 0, none⟩ : Addr) = p at *
  refine go ?_
  refine s_call1 (wn rfl) rfl rfl (l02Is_any _ _ _ hv) ?_
  rintro _ w2 ⟨rfl, hb2⟩
  have sw2 := hb2.size
  replace hv := hv.below hb2
  replace hbx := cell_below hbx hb2
  replace hb := hb.trans (hb2.mono hb.size)
  refine splitb (decide (IsMan ms)) (fun hm => ?_) (fun hm => ?_)
  rotate_left
  · have e := rkC_1 (i := i) (of_decide_eq_false hm)
    refine go ?_
    exact end_one Try.results125 rfl ⟨by rw [e], hb⟩
  have hm' := of_decide_eq_true hm
  have r5 := hm'.m0.r5
  refine go ?_
  refine s_call3 (wn rfl) rfl rfl rfl rfl (l01In_any _ _ _ _) ?_
  rintro _ _ ⟨rfl, rfl⟩
  have eb := inB_flag (n := i) (m := ms.length)
  rw [eb]
  refine splitb (decide (0 ≤ i ∧ i < ms.length)) (fun hf => ?_) (fun hf => ?_)
  rotate_left
  · have e := rkC_2 hm' (of_decide_eq_false hf)
    refine go ?_
    exact end_one Try.results125 rfl ⟨by rw [e], hb⟩
  have e := rkC_3 hm' (of_decide_eq_true hf)
  refine go ?_
  exact end_one Try.results125 rfl ⟨by rw [e], hb⟩

set_option maxHeartbeats 8000000 in
set_option maxRecDepth 100000 in
theorem l06Faces_any (v : Value) (v2 : Value) (ms : List (List Int)) (i : Int) (al : List (List Int)) (w : World) (hv : RL w v ms) (hv2 : RL w v2 al) (hm : IsMan ms) (hi : 0 ≤ i ∧ i < ms.length) (ha : al = auts ms) :
    Ret Try.prog 128 #[.agg #[v], .int .i64 i, v2] w fun r w' => OM w' w.heap.size w'.heap.size 40 2 r (facA ms i) ∧ Below w.heap.size w w' := by
  have shv := hv.sv
  have shv2 := hv2.sv
  have hb := Below.refl w.heap.size w
  refine enter3 52 Try.func128 rfl Try.ntmps128 rfl (fun fr => ?_)
  subst ha
  have h4 := hm.m0.f400
  have hal := auts_le hm
  have hfc := facC_pos hm i
  have hA := facL_all hm i
  have hAl := hA.len
  have hgre : gre (facL ms i) = facC ms i := gre_labs (oth_sym hm i) (by omega)
  refine go ?_
  refine s_box (wn rfl) rfl rfl (agg_cells shv) (fun w1 hbx _ hp hg => ?_)
  have hb1 := below_of_grownBy hg
  have sw1 := hb1.size
  replace hv := hv.below hb1
  replace hv2 := hv2.below hb1
  replace hb := hb.trans (hb1.mono hb.size)
  clear hg hp hb1
  generalize (⟨w.heap.size, 0, none⟩ : Addr) = p at *
  refine go ?_
  refine s_call2 (wn rfl) rfl rfl rfl (l02Faces_any _ _ i _ hv hm hi) ?_
  rintro lb w2 ⟨hx, hb2⟩
  have sw2 := hb2.size
  replace hv := hv.below hb2
  replace hv2 := hv2.below hb2
  replace hbx := cell_below hbx hb2
  replace hb := hb.trans (hb2.mono hb.size)
  have sbs1 := hb.size
  have hv_b1 := hv
  have hv2_b1 := hv2
  have hbx_b1 := hbx
  have hx_b1 := hx
  have hbB1 := Below.refl w2.heap.size w2
  refine go ?_
  have szq3 := hbB1.size
  refine s_build (B := w2.heap.size) [] (wn rfl) rfl (by simp) (by decide) rfl (by simp) szq3 (fun ob w3 ho hg3 _ => ?_)
  have hb3 := below_of_grownBy hg3
  have sw3 := hb3.size
  replace hv := hv.below hb3
  replace hv2 := hv2.below hb3
  replace hbx := cell_below hbx hb3
  replace hx := hx.below hb3
  replace hbB1 := hbB1.trans (hb3.mono hbB1.size)
  replace ho := OM.empty (E := w3.heap.size) (U := 2) ho
  refine go ?_
  refine w_loop (fun kk fr w' => ∃ (k : Nat) (ob : Value), kk = (auts ms).length - k ∧ k ≤ (auts ms).length ∧ fr 2 = v2 ∧ fr 7 = lb ∧ fr 8 = ob ∧ fr 9 = .int .i64 k ∧ (OM w' w2.heap.size w'.heap.size 40 2 ob (((auts ms).take k).map (symRow (facL ms i) (facC ms i).toNat))) ∧ Below w2.heap.size w2 w') ((auts ms).length)
    ⟨0, ob, rfl, Nat.zero_le _, rfl, rfl, rfl, rfl, ho.top, hbB1⟩ ?_
  rintro kk fr w4 ⟨k, ob, rfl, hk, f2, f7, f8, f9, ho, hbB1⟩
  have sw4 := hbB1.size
  have hv := hv_b1.below hbB1
  have hv2 := hv2_b1.below hbB1
  have hbx := cell_below hbx_b1 hbB1
  have hx := hx_b1.below hbB1
  have sho := ho.sv
  refine know (t := 2) f2 ?_; refine know (t := 7) f7 ?_; refine know (t := 8) f8 ?_; refine know (t := 9) f9 ?_
  refine go ?_
  refine cond_dec rfl (fun hlt => ?_) (fun hge => ?_)
  · replace ho := ho.top
    have hp := auts_gr hm (k := k) (by omega)
    have hpl := hp.len
    refine go ?_
    refine s_call1 (wn rfl) rfl rfl (l02Greatest_any _ _ _ hx.il (fun x hx => by have := (hA.mem x hx).2; unfold facC at *; omega)) ?_
    rintro _ _ ⟨rfl, rfl⟩
    rw [hgre]
    have sbs2 := hbB1.size
    have hv_b2 := hv
    have hv2_b2 := hv2
    have hbx_b2 := hbx
    have hx_b2 := hx
    have ho_b2 := ho
    have hbB2 := Below.refl w4.heap.size w4
    obtain ⟨u, hu_b2, hcu_b2⟩ := hv2_b2.row (j := (k : Int)) (by omega) hlt
    have su := hu_b2.sv
    have hu := hu_b2.below hbB2
    have hcu := cell_below hcu_b2 hbB2
    refine go ?_
    have szq5 := hbB2.size
    refine s_makeI (B := w4.heap.size) (wn rfl) rfl rfl rfl (by omega) (by omega) szq5 (fun rb w5 hr sohr hg5 _ => ?_)
    have hb5 := below_of_grownBy hg5
    have sw5 := hb5.size
    replace hv := hv.below hb5
    replace hv2 := hv2.below hb5
    replace hbx := cell_below hbx hb5
    replace hx := hx.below hb5
    replace ho := ho.below hb5
    replace hu := hu.below hb5
    replace hcu := cell_below hcu hb5
    replace hbB2 := hbB2.trans (hb5.mono hbB2.size)
    refine go ?_
    refine w_loop (fun kk fr w' => ∃ (q : Nat), kk = nf ms - q ∧ q ≤ nf ms ∧ fr 2 = v2 ∧ fr 7 = lb ∧ fr 8 = ob ∧ fr 9 = .int .i64 k ∧ fr 10 = rb ∧ fr 11 = .int .i64 q ∧ (OI w' w4.heap.size 2 rb (laidTo (facC ms i).toNat (facL ms i) (fun f : Nat => gi (facL ms i) (gi (gr (auts ms) k) f)) q)) ∧ Below w4.heap.size w4 w') (nf ms)
      ⟨0, rfl, Nat.zero_le _, rfl, rfl, rfl, rfl, rfl, rfl, hr, hbB2⟩ ?_
    rintro kk fr w6 ⟨q, rfl, hq, f2, f7, f8, f9, f10, f11, hr, hbB2⟩
    have sw6 := hbB2.size
    have hv := hv_b2.below hbB2
    have hv2 := hv2_b2.below hbB2
    have hbx := cell_below hbx_b2 hbB2
    have hx := hx_b2.below hbB2
    have ho := ho_b2.below hbB2
    have hu := hu_b2.below hbB2
    have hcu := cell_below hcu_b2 hbB2
    have shr := hr.sv
    have sx := hx.sv
    refine know (t := 2) f2 ?_; refine know (t := 7) f7 ?_; refine know (t := 8) f8 ?_; refine know (t := 9) f9 ?_; refine know (t := 10) f10 ?_; refine know (t := 11) f11 ?_
    refine go ?_
    refine cond_dec rfl (fun hlt2 => ?_) (fun hge2 => ?_)
    · have hq := facL_rng hm i (x := (q : Int)) (by omega)
      have hx1 := hp.rng q (by omega) (by omega)
      have hq2 := facL_rng hm i hx1
      have hll := length_laidTo (facC ms i).toNat (facL ms i) (fun f : Nat => gi (facL ms i) (gi (gr (auts ms) k) f)) q
      refine go ?_
      refine region_hS (fun w' => Below w4.heap.size w4 w') mixed (fun w7 hb7 => ?_)
      have sw7 := hb7.size
      replace hv := hv.below hb7
      replace hv2 := hv2.below hb7
      replace hbx := cell_below hbx hb7
      replace hx := hx.below hb7
      replace ho := ho.below hb7
      replace hu := hu.below hb7
      replace hcu := cell_below hcu hb7
      replace hr := hr.below hb7
      replace hbB2 := hbB2.trans (hb7.mono hbB2.size)
      refine h_p 0 hbB2 ?_
      refine h_p 1 hbB2 ?_
      refine h_p 2 hbB2 ?_
      refine h_p 3 hbB2 ?_
      refine h_p 4 hbB2 ?_
      refine h_p 5 hbB2 ?_
      refine h_p 6 hbB2 ?_
      refine h_p 7 hbB2 ?_
      refine h_p 8 hbB2 ?_
      refine h_p 9 hbB2 ?_
      refine h_p 10 hbB2 ?_
      refine h_p 11 hbB2 ?_
      refine h_p 12 hbB2 ?_
      refine h_p 13 hbB2 ?_
      refine h_p 14 hbB2 ?_
      refine h_p 15 hbB2 ?_
      refine h_one 16 ?_
      have szq8 := hbB2.size
      refine s_storeI (wn rfl) rfl rfl hr (by omega) (by omega) (fun w8 hoN hgN => ?_)
      replace hbB2 := hbB2.trans (hr.below_of hgN szq8)
      have sw8 := hgN.size
      replace hr := hoN
      clear hoN
      replace hv := hv_b2.below hbB2
      replace hv2 := hv2_b2.below hbB2
      replace hbx := cell_below hbx_b2 hbB2
      replace hx := hx_b2.below hbB2
      replace ho := ho_b2.below hbB2
      replace hu := hu_b2.below hbB2
      replace hcu := cell_below hcu_b2 hbB2
      refine w_nil ?_
      refine h_on ⟨hbB2, ?_⟩
      refine h_nil ?_
      refine go ?_
      refine ⟨nf ms - (q + 1), by omega, q + 1, rfl, by omega, rfl, rfl, rfl, rfl, rfl, rfl, hr, hbB2⟩
    obtain rfl : q = nf ms := by omega
    replace hbB1 := hbB1.trans (hbB2.mono hbB1.size)
    have hsl : laidTo (facC ms i).toNat (facL ms i) (fun f : Nat => gi (facL ms i) (gi (gr (auts ms) k) f)) (nf ms) = symRow (facL ms i) (facC ms i).toNat (gr (auts ms) k) := symRow_laid (aut_comm hm hp i) (oth_sym hm i) (by omega)
    rw [hsl] at hr
    refine go ?_
    have szq9 := hbB1.size
    refine s_build1V (B := w2.heap.size) (wn rfl) rfl rfl hr.sv.one szq9 (fun tb w9 ht st hg9 _ => ?_)
    have hb9 := below_of_grownBy hg9
    have sw9 := hb9.size
    replace hv := hv.below hb9
    replace hv2 := hv2.below hb9
    replace hbx := cell_below hbx hb9
    replace hx := hx.below hb9
    replace ho := ho.below hb9
    replace hu := hu.below hb9
    replace hcu := cell_below hcu hb9
    replace hr := hr.below hb9
    replace hbB1 := hbB1.trans (hb9.mono hbB1.size)
    have szq10 := hbB1.size
    refine s_appendM (wn rfl) rfl rfl rfl ho ht.rd hr (by omega) (by decide) (by simp; omega) szq10 (fun ob' w10 hoN so hgN => ?_)
    replace hbB1 := hbB1.trans (ho.below_of hgN szq10)
    have sw10 := hgN.size
    replace ho := hoN
    clear hoN
    replace hv := hv_b1.below hbB1
    replace hv2 := hv2_b1.below hbB1
    replace hbx := cell_below hbx_b1 hbB1
    replace hx := hx_b1.below hbB1
    refine go ?_
    refine ⟨(auts ms).length - (k + 1), by omega, k + 1, ob', rfl, by omega, rfl, rfl, rfl, rfl, by rw [facA_take (by omega)]; exact ho, hbB1⟩
  obtain rfl : k = (auts ms).length := by omega
  rw [List.take_length] at ho
  refine go ?_
  exact end_one Try.results128 rfl ⟨(ho.mono (by omega)).top, (hb.trans (hbB1.mono hb.size))⟩

theorem Index_any (v : Value) (xs : List Int) (a : Int) (w : World) (hv : IL w v xs) :
    Ret Try.prog 169 #[v, .int .i64 a] w fun r w' => r = .int .i64 (idxOf xs a) ∧ w = w' := by
  have sv := hv.sv
  have scap := sv.le
  refine enter2 19 Try.func169 rfl Try.ntmps169 rfl (fun fr => ?_)
  refine go ?_
  refine w_loop (fun k fr w' => ∃ (i : Nat), k = xs.length - i ∧ i ≤ xs.length ∧ fr 0 = v ∧ fr 1 = .int .i64 a ∧ fr 7 = .int .i64 xs.length ∧ fr 8 = .int .i64 i ∧ (∀ j : Nat, j < i → gi xs j ≠ a) ∧ w = w') xs.length
    ⟨0, rfl, Nat.zero_le _, rfl, rfl, rfl, rfl, fun j hj => by omega, rfl⟩ ?_
  rintro k fr _ ⟨i, rfl, hi, f0, f1, f7, f8, hall, rfl⟩
  refine know (t := 0) f0 ?_; refine know (t := 1) f1 ?_; refine know (t := 7) f7 ?_; refine know (t := 8) f8 ?_
  refine go ?_
  refine cond_dec rfl (fun hlt => ?_) (fun hge => ?_)
  · refine go ?_
    refine cond_dec rfl (fun he => ?_) (fun hne => ?_)
    · refine go ?_
      exact end_one Try.results169 rfl ⟨by rw [idxOf_hit (by omega) he.symm hall], rfl⟩
    · refine go ?_
      exact ⟨xs.length - (i + 1), by omega, i + 1, rfl, by omega, rfl, rfl, rfl, rfl, fun j hj => by by_cases hji : j = i; (subst hji; exact fun e => hne e.symm); exact hall j (by omega), rfl⟩
  · obtain rfl : i = xs.length := by omega
    refine go ?_
    exact end_one Try.results169 rfl ⟨by rw [idxOf_none hall], rfl⟩

set_option maxHeartbeats 8000000 in
set_option maxRecDepth 100000 in
theorem faceOrbits_any (v : Value) (pv : Addr) (ms : List (List Int)) (i : Int) (w : World) (hv : RL w v ms) (hxv : w.cell? pv = some v) (hm : IsMan ms) (hi : 0 ≤ i ∧ i < ms.length) :
    Ret Try.prog 130 #[.pointer (some pv), .int .i64 i] w fun r w' => OI w' w.heap.size 2 r (labs (facC ms i).toNat (facA ms i)) ∧ Below w.heap.size w w' := by
  have shv := hv.sv
  have hb := Below.refl w.heap.size w
  refine enter2 63 Try.func130 rfl Try.ntmps130 rfl (fun fr => ?_)
  have h4 := hm.m0.f400
  have hal := auts_le hm
  have hfc := facC_pos hm i
  have hA := facL_all hm i
  have hAl := hA.len
  have hfs := facA_sym hm i
  refine go ?_
  refine s_call2 (wn rfl) rfl rfl rfl (faces_any _ _ _ i _ hv hxv hm hi) ?_
  rintro _ w1 ⟨lb, rfl, hx, hb1⟩
  have sw1 := hb1.size
  replace hv := hv.below hb1
  replace hxv := cell_below hxv hb1
  replace hb := hb.trans (hb1.mono hb.size)
  have sbs1 := hb.size
  have hv_b1 := hv
  have hxv_b1 := hxv
  have hx_b1 := hx
  have hbB1 := Below.refl w1.heap.size w1
  refine go ?_
  refine s_build1 (B := w1.heap.size) (wn rfl) rfl rfl (Nat.le_refl _) (fun tb w2 ht st hg2 _ => ?_)
  have hb2 := below_of_grownBy hg2
  have sw2 := hb2.size
  replace hv := hv.below hb2
  replace hxv := cell_below hxv hb2
  replace hx := hx.below hb2
  replace hbB1 := hbB1.trans (hb2.mono hbB1.size)
  have szt := hbB1.size
  refine go ?_
  refine s_call2 (wn rfl) rfl rfl rfl (Repeat_one _ _ (facC ms i) _ ht.il (by omega)) ?_
  rintro ob w3 ⟨ho, hb3⟩
  have sw3 := hb3.size
  replace hv := hv.below hb3
  replace hxv := cell_below hxv hb3
  replace hx := hx.below hb3
  replace hbB1 := hbB1.trans (hb3.mono hbB1.size)
  replace ho := ho.mono szt
  have holt : ∀ g, ob.ownBlock = some g → g < w3.heap.size := fun g hg => (ho.lt g hg).2
  refine go ?_
  refine region_h mixed (fun w4 hc4 => ?_)
  refine h_p 0 hc4 ?_
  refine h_p 1 hc4 ?_
  refine h_p 2 hc4 ?_
  refine h_p 3 hc4 ?_
  refine h_p 4 hc4 ?_
  refine h_p 5 hc4 ?_
  refine h_one 6 ?_
  refine s_call2 (wn rfl) rfl rfl rfl (coveringsOf_any _ _ _ _ _ (hv.below hc4) (hv.below hc4) hm hm) ?_
  rintro al w5 ⟨ha, hb5⟩
  have hc5 := hc4.trans (hb5.mono hc4.size)
  refine w_nil ?_
  refine h_on ⟨hc5, ?_⟩
  refine h_p 7 hc5 ?_
  refine h_nil ?_
  have sw5 := hc5.size
  replace hv := hv.below hc5
  replace hxv := cell_below hxv hc5
  replace hx := hx.below hc5
  replace ho := ho.below hc5
  replace hbB1 := hbB1.trans (hc5.mono hbB1.size)
  have hswx := hc4.size
  have halt := ha.ownlt
  have sal := ha.sv
  refine go ?_
  refine w_loop (fun kk fr w' => ∃ (j : Nat), kk = (facC ms i).toNat - j ∧ j ≤ (facC ms i).toNat ∧ fr 5 = lb ∧ fr 7 = ob ∧ fr 8 = al ∧ fr 9 = .int .i64 (labsFrom (facC ms i).toNat (facA ms i) j).2 ∧ fr 30 = .int .i64 (facC ms i) ∧ fr 31 = .int .i64 j ∧ (OI w' w1.heap.size 2 ob (labsFrom (facC ms i).toNat (facA ms i) j).1) ∧ (OM w' w4.heap.size w5.heap.size 40 2 al (covers ms ms (nf ms))) ∧ Below w1.heap.size w1 w') ((facC ms i).toNat)
    ⟨0, rfl, Nat.zero_le _, rfl, rfl, rfl, rfl, rfl, rfl, by rw [show (facC ms i).toNat = (facC ms i).toNat from rfl]; simpa [labsFrom] using ho, ha, hbB1⟩ ?_
  rintro kk fr w6 ⟨j, rfl, hj, f5, f7, f8, f9, f30, f31, ho, ha, hbB1⟩
  have sw6 := hbB1.size
  have hv := hv_b1.below hbB1
  have hxv := cell_below hxv_b1 hbB1
  have hx := hx_b1.below hbB1
  have sho := ho.sv
  have sha := ha.sv
  refine know (t := 5) f5 ?_; refine know (t := 7) f7 ?_; refine know (t := 8) f8 ?_; refine know (t := 9) f9 ?_; refine know (t := 30) f30 ?_; refine know (t := 31) f31 ?_
  refine go ?_
  have hL := labs_inv hfs (by omega) j (by omega)
  have hll := hL.len
  have hc0 := hL.c0
  have sx := hx.sv
  refine cond_dec rfl (fun hlt => ?_) (fun hge => ?_)
  · refine go ?_
    refine cond_dec rfl (fun hold => ?_) (fun hnew => ?_)
    · have e : (labsFrom (facC ms i).toNat (facA ms i) (j + 1)) = (labsFrom (facC ms i).toNat (facA ms i) j) := by
        show (if _ then _ else _) = _
        rw [if_neg (by omega)]
      refine go ?_
      refine ⟨(facC ms i).toNat - (j + 1), by omega, j + 1, rfl, by omega, rfl, rfl, rfl, by rw [e]; rfl, rfl, rfl, by rw [e]; exact ho, ha, hbB1⟩
    have hneg : gi (labsFrom (facC ms i).toNat (facA ms i) j).1 j < 0 := by omega
    have e : (labsFrom (facC ms i).toNat (facA ms i) (j + 1)) = (lab1 (facA ms i) (labsFrom (facC ms i).toNat (facA ms i) j).1 (labsFrom (facC ms i).toNat (facA ms i) j).2 j, (labsFrom (facC ms i).toNat (facA ms i) j).2 + 1) := by
      show (if _ then _ else _) = _
      rw [if_pos hneg]
    rw [← setAll_fac hm i (a := (j : Int)) (by omega) (by omega) hll] at e
    have hfl := facL_hit hm i (a := (j : Int)) (by omega) (by omega)
    generalize (labsFrom (facC ms i).toNat (facA ms i) j).1 = O at *
    generalize (labsFrom (facC ms i).toNat (facA ms i) j).2 = c at *
    refine go ?_
    refine s_call2 (wn rfl) rfl rfl rfl (Index_any _ _ (j : Int) _ hx.il) ?_
    rintro _ _ ⟨rfl, rfl⟩
    generalize idxOf (facL ms i) j = fg at *
    have hauts : covers ms ms (nf ms) = auts ms := rfl
    rw [hauts] at ha
    have salx := ha.sv
    generalize hZ : ((auts ms).map fun p => gi (facL ms i) (gi p fg)) = Z at *
    have hZl : Z.length = (auts ms).length := by rw [← hZ]; simp
    refine go ?_
    refine w_loop (fun kk fr w' => ∃ (q : Nat), kk = (auts ms).length - q ∧ q ≤ (auts ms).length ∧ fr 5 = lb ∧ fr 7 = ob ∧ fr 8 = al ∧ fr 9 = .int .i64 c ∧ fr 11 = .int .i64 fg ∧ fr 30 = .int .i64 (facC ms i) ∧ fr 31 = .int .i64 j ∧ fr 42 = al ∧ fr 43 = .int .i64 (auts ms).length ∧ fr 44 = .int .i64 q ∧ (OI w' w1.heap.size 2 ob (setAll O c (Z.take q))) ∧ (OM w' w4.heap.size w5.heap.size 40 2 al (auts ms)) ∧ Below w1.heap.size w1 w') ((auts ms).length)
      ⟨0, rfl, Nat.zero_le _, rfl, rfl, rfl, rfl, rfl, rfl, rfl, rfl, rfl, rfl, by simpa [setAll] using ho, ha, hbB1⟩ ?_
    rintro kk fr w7 ⟨q, rfl, hq, f5, f7, f8, f9, f11, f30, f31, f42, f43, f44, ho, ha, hbB1⟩
    have sw7 := hbB1.size
    have hv := hv_b1.below hbB1
    have hxv := cell_below hxv_b1 hbB1
    have hx := hx_b1.below hbB1
    have sho := ho.sv
    have sha := ha.sv
    refine know (t := 5) f5 ?_; refine know (t := 7) f7 ?_; refine know (t := 8) f8 ?_; refine know (t := 9) f9 ?_; refine know (t := 11) f11 ?_; refine know (t := 30) f30 ?_; refine know (t := 31) f31 ?_; refine know (t := 42) f42 ?_; refine know (t := 43) f43 ?_; refine know (t := 44) f44 ?_
    refine go ?_
    have sx := hx.sv
    refine cond_dec rfl (fun hlt2 => ?_) (fun hge2 => ?_)
    · have hp := auts_gr hm (k := q) (by omega)
      have hpl := hp.len
      have hx1 := hp.rng fg hfl.1 hfl.2.1
      have hq2 := facL_rng hm i hx1
      have hsl := length_setAll c (Z.take q) O
      obtain ⟨u, hu, hcu⟩ := ha.row (j := (q : Int)) (by omega) hlt2
      have su := hu.sv
      have hZq : gi Z q = gi (facL ms i) (gi (gr (auts ms) q) fg) := by
        rw [← hZ]
        have hq : q < (auts ms).length := by omega
        simp [gi, gr, List.getD, hq]
      refine go ?_
      have szq := hbB1.size
      refine s_storeI (wn rfl) rfl rfl ho (by omega) (by omega) (fun w8 hoN hgN => ?_)
      have haN := ha.apart2 (fun g hg => (halt g hg).2) hgN (fun g hg => .inl (by have := holt g hg; omega))
      replace hbB1 := hbB1.trans (ho.below_of hgN szq)
      refine go ?_
      refine ⟨(auts ms).length - (q + 1), by omega, q + 1, rfl, by omega, rfl, rfl, rfl, rfl, rfl, rfl, rfl, rfl, rfl, rfl, by rw [setAll_take_succ (by omega), hZq]; exact hoN, haN, hbB1⟩
    obtain rfl : q = (auts ms).length := by omega
    have hZt : Z.take (auts ms).length = Z := by rw [← hZl, List.take_length]
    rw [hZt] at ho
    refine go ?_
    refine ⟨(facC ms i).toNat - (j + 1), by omega, j + 1, rfl, by omega, rfl, rfl, rfl, by rw [e]; rfl, rfl, rfl, by rw [e]; exact ho, ha, hbB1⟩
  obtain rfl : j = (facC ms i).toNat := by omega
  have hs1 : w.heap.size ≤ w1.heap.size := sbs1
  refine go ?_
  exact end_one Try.results130 rfl ⟨ho.mono hs1, (hb.trans (hbB1.mono hb.size))⟩

set_option maxRecDepth 100000 in
theorem implFaceOrbits_any (v : Value) (ms : List (List Int)) (i : Int) (w : World) (hv : RL w v ms) :
    Ret Try.prog 63 #[.agg #[v], .int .i64 i] w fun r w' => ∃ x, r = .tuple #[x, .int .i64 (rkC ms i)] ∧ OI w' w.heap.size 2 x (facO ms i) ∧ Below w.heap.size w w' := by
  have shv := hv.sv
  have hb := Below.refl w.heap.size w
  refine enter2 16 Try.func63 rfl Try.ntmps63 rfl (fun fr => ?_)
  refine go ?_
  refine s_box (wn rfl) rfl rfl (agg_cells shv) (fun w1 hbx _ hp hg => ?_)
  have hb1 := below_of_grownBy hg
  have sw1 := hb1.size
  replace hv := hv.below hb1
  replace hb := hb.trans (hb1.mono hb.size)
  clear hg hp hb1
  generalize (⟨w.heap.size, 0, none⟩ : Addr) = p at *
  refine go ?_
  refine s_call1 (wn rfl) rfl rfl (isManiplex_any _ _ _ hv) ?_
  rintro _ w2 ⟨rfl, hb2⟩
  have sw2 := hb2.size
  replace hv := hv.below hb2
  replace hbx := cell_below hbx hb2
  replace hb := hb.trans (hb2.mono hb.size)
  refine splitb (decide (IsMan ms)) (fun hm => ?_) (fun hm => ?_)
  rotate_left
  · have e2 := rkC_1 (i := i) (of_decide_eq_false hm)
    have h : rkC ms i ≠ 0 := by rw [e2]; decide
    have e := facO_no h
    refine go ?_
    exact end_two Try.results63 rfl rfl ⟨.slice none 0 0, by rw [e2], by rw [e]; exact OI.nil _ _ _, hb⟩
  have hm' := of_decide_eq_true hm
  have r5 := hm'.m0.r5
  refine go ?_
  refine s_call2 (wn rfl) rfl rfl rfl (hasRank_any _ _ _ i _ hv hbx r5) ?_
  rintro _ _ ⟨rfl, rfl⟩
  refine splitb (decide (0 ≤ i ∧ i < ms.length)) (fun hf => ?_) (fun hf => ?_)
  rotate_left
  · have e2 := rkC_2 hm' (of_decide_eq_false hf)
    have h : rkC ms i ≠ 0 := by rw [e2]; decide
    have e := facO_no h
    refine go ?_
    exact end_two Try.results63 rfl rfl ⟨.slice none 0 0, by rw [e2], by rw [e]; exact OI.nil _ _ _, hb⟩
  have hi := of_decide_eq_true hf
  have h := rkC_3 hm' hi
  have hs0 := hb.size
  have hfc := facC_pos hm' i
  refine go ?_
  refine s_call2 (wn rfl) rfl rfl rfl (faceOrbits_any _ _ _ i _ hv hbx hm' hi) ?_
  rintro x w3 ⟨hx, hb3⟩
  have sw3 := hb3.size
  replace hv := hv.below hb3
  replace hbx := cell_below hbx hb3
  replace hb := hb.trans (hb3.mono hb.size)
  refine go ?_
  exact end_two Try.results63 rfl rfl ⟨x, by rw [h], by rw [facO_yes h]; exact hx.mono hs0, hb⟩

set_option maxHeartbeats 8000000 in
set_option maxRecDepth 100000 in
theorem Max_any (v : Value) (xs : List Int) (w : World) (hv : IL w v xs) (h1 : 1 ≤ xs.length) :
    Ret Try.prog 132 #[v] w fun r w' => r = .int .i64 (mxs xs) ∧ w = w' := by
  have shv := hv.sv
  have hb := Below.refl w.heap.size w
  refine enter1 25 Try.func132 rfl Try.ntmps132 rfl (fun fr => ?_)
  have scap := shv.le
  have h1' : ¬ ((xs.length : Int) < 1) := by omega
  refine go ?_
  refine w_loop (fun k fr w' => ∃ (i : Nat), k = xs.length - i ∧ 1 ≤ i ∧ i ≤ xs.length ∧ fr 0 = v ∧ fr 3 = .int .i64 ((xs.take i).foldl max (gi xs 0)) ∧ fr 4 = .int .i64 i ∧ w = w') (xs.length - 1)
    ⟨1, rfl, Nat.le_refl _, h1, rfl, ?_, ?_, rfl⟩ ?_
  · have e1 : (xs.take 1).foldl max (gi xs 0) = gi xs 0 := by rw [take_gi (i := 0) (by omega)]; simp
    rw [e1]; rfl
  · rfl
  rintro k fr _ ⟨i, rfl, hi1, hi, f0, f3, f4, rfl⟩
  refine know (t := 0) f0 ?_; refine know (t := 3) f3 ?_; refine know (t := 4) f4 ?_
  refine go ?_
  refine cond_dec rfl (fun hlt => ?_) (fun hge => ?_)
  · refine go ?_
    refine s_p (wn rfl) rfl (y_max rfl rfl) ?_
    refine go ?_
    exact ⟨xs.length - (i + 1), by omega, i + 1, rfl, by omega, by omega, rfl, by show Value.int _ _ = _; congr 1; rw [mxs_take (by omega) (by omega)], rfl, rfl⟩
  · obtain rfl : i = xs.length := by omega
    rw [List.take_length]
    refine go ?_
    exact end_one Try.results132 rfl ⟨rfl, rfl⟩

set_option maxRecDepth 100000 in
theorem implIsTransitiveOn_any (v : Value) (ms : List (List Int)) (i : Int) (w : World) (hv : RL w v ms) :
    Ret Try.prog 65 #[.agg #[v], .int .i64 i] w fun r w' => r = .tuple #[.bool (isTr ms i), .int .i64 (rkC ms i)] ∧ Below w.heap.size w w' := by
  have shv := hv.sv
  have hb := Below.refl w.heap.size w
  refine enter2 18 Try.func65 rfl Try.ntmps65 rfl (fun fr => ?_)
  refine go ?_
  refine s_box (wn rfl) rfl rfl (agg_cells shv) (fun w1 hbx _ hp hg => ?_)
  have hb1 := below_of_grownBy hg
  have sw1 := hb1.size
  replace hv := hv.below hb1
  replace hb := hb.trans (hb1.mono hb.size)
  clear hg hp hb1
  generalize (⟨w.heap.size, 0, none⟩ : Addr) = p at *
  refine go ?_
  refine s_call1 (wn rfl) rfl rfl (isManiplex_any _ _ _ hv) ?_
  rintro _ w2 ⟨rfl, hb2⟩
  have sw2 := hb2.size
  replace hv := hv.below hb2
  replace hbx := cell_below hbx hb2
  replace hb := hb.trans (hb2.mono hb.size)
  refine splitb (decide (IsMan ms)) (fun hm => ?_) (fun hm => ?_)
  rotate_left
  · have e2 := rkC_1 (i := i) (of_decide_eq_false hm)
    have h : rkC ms i ≠ 0 := by rw [e2]; decide
    have e := isTr_no h
    refine go ?_
    exact end_two Try.results65 rfl rfl ⟨by rw [e, e2], hb⟩
  have hm' := of_decide_eq_true hm
  have r5 := hm'.m0.r5
  refine go ?_
  refine s_call2 (wn rfl) rfl rfl rfl (hasRank_any _ _ _ i _ hv hbx r5) ?_
  rintro _ _ ⟨rfl, rfl⟩
  refine splitb (decide (0 ≤ i ∧ i < ms.length)) (fun hf => ?_) (fun hf => ?_)
  rotate_left
  · have e2 := rkC_2 hm' (of_decide_eq_false hf)
    have h : rkC ms i ≠ 0 := by rw [e2]; decide
    have e := isTr_no h
    refine go ?_
    exact end_two Try.results65 rfl rfl ⟨by rw [e, e2], hb⟩
  have hi := of_decide_eq_true hf
  have h := rkC_3 hm' hi
  have hs0 := hb.size
  have hfc := facC_pos hm' i
  refine go ?_
  refine s_call2 (wn rfl) rfl rfl rfl (faceOrbits_any _ _ _ i _ hv hbx hm' hi) ?_
  rintro x w3 ⟨hx, hb3⟩
  have sw3 := hb3.size
  replace hv := hv.below hb3
  replace hbx := cell_below hbx hb3
  replace hb := hb.trans (hb3.mono hb.size)
  have hall := labs_all (facA_sym hm' i) (by omega)
  have hll := hall.len
  refine go ?_
  refine s_call1 (wn rfl) rfl rfl (Max_any _ _ _ hx.il (by omega)) ?_
  rintro _ _ ⟨rfl, rfl⟩
  rw [mxs_labs (facA_sym hm' i) (by omega) (by omega)]
  have ee : decide (labc (facC ms i).toNat (facA ms i) - 1 = 0) = decide (labc (facC ms i).toNat (facA ms i) = 1) := by rw [decide_eq_decide]; omega
  refine go ?_
  exact end_two Try.results65 rfl rfl ⟨by rw [isTr_yes h, h, ← ee], hb⟩

end Go.Proofs.Ytlodnhflfijomaa
