/- Contracts: a maniplex drawn that has mostly several automorphisms. -/
import Derived.Test.YtlodnhflfijomaaF60
import Derived.Test.YtlodnhflfijomaaF63
namespace Go.Proofs.Ytlodnhflfijomaa
open Go.Mem Go.RowKit
set_option linter.unusedVariables false
set_option linter.unusedSimpArgs false

set_option maxHeartbeats 8000000 in
set_option maxRecDepth 100000 in
theorem l06Even_any (q B : Nat) (c : Value) (bs : List Int) (w : World) (hs : Sr w B q 140 c bs) :
    Ret Try.prog 99 #[.pointer (some ⟨q, 0, none⟩)] w fun r w' => ∃ x xss, r = .agg #[x] ∧ OM w' w.heap.size w'.heap.size 40 2 x xss ∧ xss.length ≤ 6 ∧ (∀ xs ∈ xss, xs.length ≤ 1001) ∧ Sr w' B q 140 c bs ∧ w.grownBy w' (some q) := by
  have hql := hs.lt
  refine enter1 52 Try.func99 rfl Try.ntmps99 rfl (fun fr => ?_)
  refine go2 ?_
  refine s_alloc (B := w.heap.size) (wn rfl) rfl (by first | exact Nat.le_refl _ | omega) (fun v1 p2 hx2 hga hpp2 => ?_)
  have hba := below_of_grownBy hga
  have zv1 := hba.size
  replace hs := hs.below hba
  have hg := gr_step (grownBy_of_below (Below.refl _ _) (some q)) (grownBy_of_below hba none) (fun k hk => by cases hk)
  clear hba hga
  have hltp2 := hx2.lt
  refine go2 ?_
  refine s_p (wn rfl) rfl y_bld0 ?_
  refine go2 ?_
  refine s_alloc (B := w.heap.size) (wn rfl) rfl (by first | exact Nat.le_refl _ | omega) (fun v2 p3 hx3 hga hpp3 => ?_)
  have hba := below_of_grownBy hga
  have zv2 := hba.size
  replace hs := hs.below hba
  replace hx2 := hx2.below hba
  replace hg := gr_step hg (grownBy_of_below hba none) (fun k hk => by cases hk)
  clear hba hga
  have hltp3 := hx3.lt
  refine go2 ?_
  refine s_storeBox (wn rfl) rfl rfl rfl hx3 (fun v3 hxN hgp => ?_)
  have zv3 := hgp.size
  replace hs := hs.kept hgp (fun k hk => by cases hk; exact ⟨by have := hs.low; omega, by omega⟩)
  replace hx2 := hx2.kept hgp (by intro e; have := Option.some.inj e; omega)
  replace hx3 := hxN
  replace hg := gr_step hg hgp (fun k hk => by cases hk; omega)
  clear hgp
  refine w_nil ?_
  refine then_normal ?_
  refine w_seq ?_
  refine meet (fun r w' => ∃ (x : Value) (xss : List (List Int)) (N : Nat), r 0 = .pointer (some ⟨q, 0, none⟩) ∧ r 2 = .pointer (some p2) ∧ r 3 = .pointer (some p3) ∧ Bx w' w.heap.size p3 28 x ∧ Bx w' w.heap.size p2 28 (.slice none 0 0) ∧ OM w' w.heap.size w'.heap.size 40 2 x xss ∧ (1 ≤ xss.length ∧ xss.length ≤ 5) ∧ (1 ≤ N ∧ N ≤ 400) ∧ Syst N xss ∧ Sr w' B q 140 c bs ∧ w.grownBy w' (some q) ∧ p3.block < w'.heap.size) ?_ ?_
  · refine go2 ?_
    refine s_call2 (wn rfl) rfl rfl rfl (l01Next_any q 5 B c bs _ hs (by omega)) ?_
    rintro _ v4 ⟨k, rfl, _, hk, hs', hgq⟩
    have zv4 := hgq.size
    replace hs := hs'
    replace hx2 := hx2.kept hgq (by intro e; have := Option.some.inj e; omega)
    replace hx3 := hx3.kept hgq (by intro e; have := Option.some.inj e; omega)
    replace hg := grownBy_trans hg hgq
    clear hgq
    have hk' := hk (by omega)
    refine go2 ?_
    refine cond_dec rfl (fun e0 => ?_) (fun e0 => ?_)
    · refine go2 ?_
      refine s_call2 (wn rfl) rfl rfl rfl (l01Next_any q 2 B c bs _ hs (by omega)) ?_
      rintro _ v5 ⟨a, rfl, ha0, ha, hs', hgq⟩
      have zv5 := hgq.size
      replace hs := hs'
      replace hx2 := hx2.kept hgq (by intro e; have := Option.some.inj e; omega)
      replace hx3 := hx3.kept hgq (by intro e; have := Option.some.inj e; omega)
      replace hg := grownBy_trans hg hgq
      clear hgq
      refine go2 ?_
      refine s_call2 (wn rfl) rfl rfl rfl (l01Next_any q 2 B c bs _ hs (by omega)) ?_
      rintro _ v6 ⟨b, rfl, hb20, hb2, hs', hgq⟩
      have zv6 := hgq.size
      replace hs := hs'
      replace hx2 := hx2.kept hgq (by intro e; have := Option.some.inj e; omega)
      replace hx3 := hx3.kept hgq (by intro e; have := Option.some.inj e; omega)
      replace hg := grownBy_trans hg hgq
      clear hgq
      have ha' := ha (by omega)
      have hb2' := hb2 (by omega)
      have hAK := Nat.mul_le_mul (show (1 + a).toNat ≤ 2 by omega) (show (1 + b).toNat ≤ 2 by omega)
      have hAK1 := Nat.mul_le_mul (show 1 ≤ (1 + a).toNat by omega) (show 1 ≤ (1 + b).toNat by omega)
      refine go2 ?_
      refine s_call2 (wn rfl) rfl rfl rfl (l05Grid_any (1 + a) (1 + b) (1 + a).toNat (1 + b).toNat _ (by omega) (by omega) (by omega) (by omega) (by omega) (by omega)) ?_
      rintro _ v7 ⟨x, xss, rfl, hm, hxl, hy, hbq⟩
      have zv7 := hbq.size
      replace hs := hs.below hbq
      replace hx2 := hx2.below hbq
      replace hx3 := hx3.below hbq
      replace hg := gr_step hg (grownBy_of_below hbq none) (fun k hk => by cases hk)
      clear hbq
      replace hm := hm.mono (B' := w.heap.size) (by omega)
      refine go2 ?_
      refine s_storeBox (wn rfl) rfl rfl hm.sv.one hx3 (fun v8 hxN hgp => ?_)
      have zv8 := hgp.size
      replace hs := hs.kept hgp (fun k hk => by cases hk; exact ⟨by have := hs.low; omega, by omega⟩)
      replace hx2 := hx2.kept hgp (by intro e; have := Option.some.inj e; omega)
      replace hm := hm.box hx3 (by decide) (by decide) hgp
      replace hx3 := hxN
      replace hg := gr_step hg hgp (fun k hk => by cases hk; omega)
      clear hgp
      refine go2 ?_
      exact ⟨x, _, 8 * ((1 + a).toNat * (1 + b).toNat), rfl, rfl, rfl, hx3, hx2, hm.top, ⟨by omega, by omega⟩, ⟨by omega, by omega⟩, hy, hs, hg, by omega⟩
    refine go2 ?_
    refine cond_dec rfl (fun e1 => ?_) (fun e1 => ?_)
    · refine go2 ?_
      refine s_call2 (wn rfl) rfl rfl rfl (l01Next_any q 4 B c bs _ hs (by omega)) ?_
      rintro _ v9 ⟨a, rfl, ha0, ha, hs', hgq⟩
      have zv9 := hgq.size
      replace hs := hs'
      replace hx2 := hx2.kept hgq (by intro e; have := Option.some.inj e; omega)
      replace hx3 := hx3.kept hgq (by intro e; have := Option.some.inj e; omega)
      replace hg := grownBy_trans hg hgq
      clear hgq
      have ha' := ha (by omega)
      refine go2 ?_
      refine s_call1 (wn rfl) rfl rfl (l02Polygon_any (1 + a) (1 + a).toNat _ (by omega) (by omega) (by omega)) ?_
      rintro _ v10 ⟨x1, xs1, rfl, hm1, hxl1, hy1, hbq⟩
      have zv10 := hbq.size
      replace hs := hs.below hbq
      replace hx2 := hx2.below hbq
      replace hx3 := hx3.below hbq
      replace hg := gr_step hg (grownBy_of_below hbq none) (fun k hk => by cases hk)
      clear hbq
      replace hm1 := hm1.mono (B' := w.heap.size) (by omega)
      refine go2 ?_
      refine s_call2 (wn rfl) rfl rfl rfl (l01Next_any q 2 B c bs _ hs (by omega)) ?_
      rintro _ v11 ⟨b, rfl, hb20, hb2, hs', hgq⟩
      have zv11 := hgq.size
      replace hs := hs'
      replace hx2 := hx2.kept hgq (by intro e; have := Option.some.inj e; omega)
      replace hx3 := hx3.kept hgq (by intro e; have := Option.some.inj e; omega)
      replace hm1 := hm1.kept hgq (by omega)
      replace hg := grownBy_trans hg hgq
      clear hgq
      have hb2' := hb2 (by omega)
      refine go2 ?_
      refine s_call1 (wn rfl) rfl rfl (l02Polygon_any (1 + b) (1 + b).toNat _ (by omega) (by omega) (by omega)) ?_
      rintro _ v12 ⟨x2, xs2, rfl, hm2, hxl2, hy2, hbq⟩
      have zv12 := hbq.size
      replace hs := hs.below hbq
      replace hx2 := hx2.below hbq
      replace hx3 := hx3.below hbq
      replace hm1 := hm1.below hbq
      replace hg := gr_step hg (grownBy_of_below hbq none) (fun k hk => by cases hk)
      clear hbq
      have hAK := Nat.mul_le_mul (show 2 * (1 + a).toNat ≤ 8 by omega) (show 2 * (1 + b).toNat ≤ 4 by omega)
      have hAK1 := Nat.mul_le_mul (show 1 ≤ 2 * (1 + a).toNat by omega) (show 1 ≤ 2 * (1 + b).toNat by omega)
      refine go2 ?_
      refine s_call2 (wn rfl) rfl rfl rfl (l02Beside_any _ _ _ _ (2 * (1 + a).toNat) (2 * (1 + b).toNat) _ hm1.rl hm2.rl hy1 hy2 (by omega) (by omega) (by omega) (by omega) (by omega) (by omega) (by omega)) ?_
      rintro _ v13 ⟨x, xss, rfl, hm, hxl, hy, hbq⟩
      have zv13 := hbq.size
      replace hs := hs.below hbq
      replace hx2 := hx2.below hbq
      replace hx3 := hx3.below hbq
      replace hm1 := hm1.below hbq
      replace hm2 := hm2.below hbq
      replace hg := gr_step hg (grownBy_of_below hbq none) (fun k hk => by cases hk)
      clear hbq
      replace hm := hm.mono (B' := w.heap.size) (by omega)
      refine go2 ?_
      refine s_storeBox (wn rfl) rfl rfl hm.sv.one hx3 (fun v14 hxN hgp => ?_)
      have zv14 := hgp.size
      replace hs := hs.kept hgp (fun k hk => by cases hk; exact ⟨by have := hs.low; omega, by omega⟩)
      replace hx2 := hx2.kept hgp (by intro e; have := Option.some.inj e; omega)
      replace hm1 := hm1.box hx3 (by decide) (by decide) hgp
      replace hm2 := hm2.box hx3 (by decide) (by decide) hgp
      replace hm := hm.box hx3 (by decide) (by decide) hgp
      replace hx3 := hxN
      replace hg := gr_step hg hgp (fun k hk => by cases hk; omega)
      clear hgp
      refine go2 ?_
      exact ⟨x, _, _, rfl, rfl, rfl, hx3, hx2, hm.top, ⟨by omega, by omega⟩, ⟨by omega, by omega⟩, hy, hs, hg, by omega⟩
    refine go2 ?_
    refine cond_dec rfl (fun e2 => ?_) (fun e2 => ?_)
    · refine go2 ?_
      refine s_call2 (wn rfl) rfl rfl rfl (l01Next_any q 10 B c bs _ hs (by omega)) ?_
      rintro _ v15 ⟨a, rfl, ha0, ha, hs', hgq⟩
      have zv15 := hgq.size
      replace hs := hs'
      replace hx2 := hx2.kept hgq (by intro e; have := Option.some.inj e; omega)
      replace hx3 := hx3.kept hgq (by intro e; have := Option.some.inj e; omega)
      replace hg := grownBy_trans hg hgq
      clear hgq
      have ha' := ha (by omega)
      refine go2 ?_
      refine s_call1 (wn rfl) rfl rfl (l02Polygon_any (1 + a) (1 + a).toNat _ (by omega) (by omega) (by omega)) ?_
      rintro _ v16 ⟨x, xss, rfl, hm, hxl, hy, hbq⟩
      have zv16 := hbq.size
      replace hs := hs.below hbq
      replace hx2 := hx2.below hbq
      replace hx3 := hx3.below hbq
      replace hg := gr_step hg (grownBy_of_below hbq none) (fun k hk => by cases hk)
      clear hbq
      replace hm := hm.mono (B' := w.heap.size) (by omega)
      refine go2 ?_
      refine s_storeBox (wn rfl) rfl rfl hm.sv.one hx3 (fun v17 hxN hgp => ?_)
      have zv17 := hgp.size
      replace hs := hs.kept hgp (fun k hk => by cases hk; exact ⟨by have := hs.low; omega, by omega⟩)
      replace hx2 := hx2.kept hgp (by intro e; have := Option.some.inj e; omega)
      replace hm := hm.box hx3 (by decide) (by decide) hgp
      replace hx3 := hxN
      replace hg := gr_step hg hgp (fun k hk => by cases hk; omega)
      clear hgp
      refine go2 ?_
      exact ⟨x, _, _, rfl, rfl, rfl, hx3, hx2, hm.top, ⟨by omega, by omega⟩, ⟨by omega, by omega⟩, hy, hs, hg, by omega⟩
    refine go2 ?_
    refine cond_dec rfl (fun e3 => ?_) (fun e3 => ?_)
    · refine go2 ?_
      refine s_call2 (wn rfl) rfl rfl rfl (l02Spoil_any q B c bs 40 40 _ rfl (by omega) (by omega) hs) ?_
      rintro _ v18 ⟨x, xss, rfl, hm, hxl, hxr, hs', hgq⟩
      have zv18 := hgq.size
      replace hs := hs'
      replace hx2 := hx2.kept hgq (by intro e; have := Option.some.inj e; omega)
      replace hx3 := hx3.kept hgq (by intro e; have := Option.some.inj e; omega)
      replace hg := grownBy_trans hg hgq
      clear hgq
      replace hm := hm.mono (B' := w.heap.size) (by omega)
      refine go2 ?_
      refine s_storeBox (wn rfl) rfl rfl hm.sv.one hx2 (fun v19 hxz hgz => ?_)
      have hmz := hm.box hx2 (by decide) (by decide) hgz
      have hsz := hs.kept hgz (fun k hk => by cases hk; exact ⟨by have := hs.low; omega, by omega⟩)
      have hgz2 := gr_step hg hgz (fun k hk => by cases hk; omega)
      refine go2 ?_
      exact end_cell Try.results99 rfl hxz.cell ⟨x, _, rfl, hmz.top, hxl, hxr, hsz, hgz2⟩
    refine go2 ?_
    refine s_call2 (wn rfl) rfl rfl rfl (l01Next_any q 5 B c bs _ hs (by omega)) ?_
    rintro _ v20 ⟨a, rfl, ha0, ha, hs', hgq⟩
    have zv20 := hgq.size
    replace hs := hs'
    replace hx2 := hx2.kept hgq (by intro e; have := Option.some.inj e; omega)
    replace hx3 := hx3.kept hgq (by intro e; have := Option.some.inj e; omega)
    replace hg := grownBy_trans hg hgq
    clear hgq
    have ha' := ha (by omega)
    refine go2 ?_
    refine s_call1 (wn rfl) rfl rfl (l02Polygon_any (1 + a) (1 + a).toNat _ (by omega) (by omega) (by omega)) ?_
    rintro _ v21 ⟨x1, xs1, rfl, hm1, hxl1, hy1, hbq⟩
    have zv21 := hbq.size
    replace hs := hs.below hbq
    replace hx2 := hx2.below hbq
    replace hx3 := hx3.below hbq
    replace hg := gr_step hg (grownBy_of_below hbq none) (fun k hk => by cases hk)
    clear hbq
    refine go2 ?_
    refine s_buildI (B := w.heap.size) [1, 0] (wn rfl) rfl rfl rfl rfl (by omega) (fun tb v22 ht st hga _ => ?_)
    have hba := below_of_grownBy hga
    have zv22 := hba.size
    replace hs := hs.below hba
    replace hx2 := hx2.below hba
    replace hx3 := hx3.below hba
    replace hm1 := hm1.below hba
    replace hg := gr_step hg (grownBy_of_below hba none) (fun k hk => by cases hk)
    clear hba hga
    refine s_build1V (B := w.heap.size) (wn rfl) rfl rfl st.one (by omega) (fun eb v23 he se hga _ => ?_)
    have hba := below_of_grownBy hga
    have zv23 := hba.size
    replace hs := hs.below hba
    replace hx2 := hx2.below hba
    replace hx3 := hx3.below hba
    replace hm1 := hm1.below hba
    replace ht := ht.below hba
    replace hg := gr_step hg (grownBy_of_below hba none) (fun k hk => by cases hk)
    clear hba hga
    have hee : RL v23 eb [[1, 0]] := RL.one he ht.il
    have hey : Syst 2 [[1, 0]] := fun m hm => by simp at hm; subst hm; exact ⟨rfl, fun x hx => by simp at hx; omega⟩
    refine go2 ?_
    refine s_p (wn rfl) rfl (y_bld1 rfl se.one) ?_
    refine go2 ?_
    refine s_call2 (wn rfl) rfl rfl rfl (l02Beside_any _ _ _ [[1, 0]] (2 * (1 + a).toNat) 2 _ hm1.rl hee hy1 hey (by omega) (by simp) (by omega) (by omega) (by omega) (by omega) (by simp)) ?_
    rintro _ v24 ⟨x, xss, rfl, hm, hxl, hy, hbq⟩
    have zv24 := hbq.size
    replace hs := hs.below hbq
    replace hx2 := hx2.below hbq
    replace hx3 := hx3.below hbq
    replace hm1 := hm1.below hbq
    replace ht := ht.below hbq
    replace hg := gr_step hg (grownBy_of_below hbq none) (fun k hk => by cases hk)
    clear hbq
    have hxl3 : xss.length = 3 := by rw [hxl, hxl1]; rfl
    obtain ⟨hpm, hpn⟩ := PM.of hy (by omega) (by omega) (by omega) (by omega)
    refine go2 ?_
    refine s_call1 (wn rfl) rfl rfl (l05DualS_any _ _ _ hm.rl hpm) ?_
    rintro _ v25 ⟨y, rfl, hd, hbq⟩
    have zv25 := hbq.size
    replace hs := hs.below hbq
    replace hx2 := hx2.below hbq
    replace hx3 := hx3.below hbq
    replace hm1 := hm1.below hbq
    replace ht := ht.below hbq
    replace hm := hm.below hbq
    replace hg := gr_step hg (grownBy_of_below hbq none) (fun k hk => by cases hk)
    clear hbq
    have hlr := revw_len xss.length
    have hsr : Syst (nf xss) (wds xss (revw xss.length)) := wds_systS hpm (fun w h => revw_words w h)
    obtain ⟨K, hK1, hK2, hKs⟩ := frm_syst (p := 0) hsr (by have := hpm.f1; omega) (by have := hpm.f400; omega)
    have hKs : Syst K (repl xss (revw xss.length)) := hKs
    have hdl : (repl xss (revw xss.length)).length = 3 := by
      unfold repl wds; rw [frm_len, List.length_map, hlr, hxl3]
    have hf4 := hpm.f400
    replace hd := hd.mono (B' := w.heap.size) (by omega)
    refine go2 ?_
    refine s_storeBox (wn rfl) rfl rfl hd.sv.one hx3 (fun v26 hxN hgp => ?_)
    have zv26 := hgp.size
    replace hs := hs.kept hgp (fun k hk => by cases hk; exact ⟨by have := hs.low; omega, by omega⟩)
    replace hx2 := hx2.kept hgp (by intro e; have := Option.some.inj e; omega)
    replace hm1 := hm1.box hx3 (by decide) (by decide) hgp
    replace ht := ht.kept hgp (.inr (ht.own.apart_box hx3 (by decide)))
    replace hm := hm.box hx3 (by decide) (by decide) hgp
    replace hd := hd.box hx3 (by decide) (by decide) hgp
    replace hx3 := hxN
    replace hg := gr_step hg hgp (fun k hk => by cases hk; omega)
    clear hgp
    refine go2 ?_
    exact ⟨y, _, K, rfl, rfl, rfl, hx3, hx2, hd.top, ⟨by omega, by omega⟩, ⟨by omega, by omega⟩, hKs, hs, hg, by omega⟩
  clear hs hg hx2 hx3
  rintro r v27 ⟨x, xss, N, r0, r2, r3, hx3, hx2, hm, hxl, hN, hy, hs, hg, hl3⟩
  have zv27 := hg.size
  have hc3 := hx3.cell
  refine know (t := 0) r0 ?_; refine know (t := 2) r2 ?_; refine know (t := 3) r3 ?_
  refine go2 ?_
  refine region_hS (fun w' => w'.cell? p3 = some x) mixed (fun v28 cr => ?_)
  have zv28 := cr.size
  replace hs := hs.below cr
  replace hx3 := hx3.below cr
  replace hx2 := hx2.below cr
  replace hm := hm.below cr
  replace hc3 := cell_below hc3 cr
  replace hg := gr_step hg (grownBy_of_below cr none) (fun k hk => by cases hk)
  refine h_p 0 hc3 ?_ (hrun := fun w' h => yl)
  refine h_p 1 hc3 ?_ (hrun := fun w' h => yl)
  refine h_p 2 hc3 ?_ (hrun := fun w' h => yl)
  refine h_one 3 ?_
  refine s_call1 (wn rfl) rfl rfl (l02Flags_any _ _ _ hm.rl hxl.1) ?_
  rintro _ v29 ⟨rfl, hbq⟩
  have zv29 := hbq.size
  replace hs := hs.below hbq
  replace hx3 := hx3.below hbq
  replace hx2 := hx2.below hbq
  replace hm := hm.below hbq
  replace hc3 := cell_below hc3 hbq
  replace hg := gr_step hg (grownBy_of_below hbq none) (fun k hk => by cases hk)
  rw [hy.nf hxl.1]
  refine w_nil ?_
  refine h_on ⟨hc3, ?_⟩
  refine h_one 4 ?_
  refine s_call2 (wn rfl) rfl rfl rfl (l01Draw_any q B c bs (N : Int) N _ rfl (by omega) hs) ?_
  rintro pv v30 ⟨ps, hp, hpl, hpr, hs', hgq⟩
  have zv30 := hgq.size
  replace hs := hs'
  replace hx3 := hx3.kept hgq (by intro e; have := Option.some.inj e; omega)
  replace hx2 := hx2.kept hgq (by intro e; have := Option.some.inj e; omega)
  replace hm := hm.kept hgq (by omega)
  replace hc3 := cell_kept hc3 hgq (by intro e; have := Option.some.inj e; omega)
  replace hg := grownBy_trans hg hgq
  refine w_nil ?_
  refine h_on ⟨hc3, ?_⟩
  refine h_one 5 ?_
  refine s_call2 (wn rfl) rfl rfl rfl (l02RenumberS_any _ _ _ _ N _ hm.rl hp.il hy hxl.1 (by omega) (by omega) hpl (fun y h0 h2 => hpr _ (gi_mem h0 (by omega)))) ?_
  rintro _ v31 ⟨y, rfl, hd, hbq2⟩
  have zv31 := hbq2.size
  replace hs := hs.below hbq2
  replace hx3 := hx3.below hbq2
  replace hx2 := hx2.below hbq2
  replace hm := hm.below hbq2
  replace hc3 := cell_below hc3 hbq2
  replace hp := hp.below hbq2
  replace hg := gr_step hg (grownBy_of_below hbq2 none) (fun k hk => by cases hk)
  have hrs := hy.ren hpl hpr
  have hrl : (ren xss ps).length = xss.length := by simp [ren]
  replace hd := hd.mono (B' := w.heap.size) (by omega)
  refine w_nil ?_
  refine h_on ⟨hc3, ?_⟩
  refine h_one 6 ?_
  refine s_storeBox (wn rfl) rfl rfl hd.sv.one hx2 (fun v32 hxz hgz => ?_)
  have hmz := hd.box hx2 (by decide) (by decide) hgz
  have hsz := hs.kept hgz (fun k hk => by cases hk; exact ⟨by have := hs.low; omega, by omega⟩)
  have hgz2 := gr_step hg hgz (fun k hk => by cases hk; omega)
  have hx3z := hx3.kept hgz (by intro e; have := Option.some.inj e; omega)
  refine w_nil ?_
  refine h_on ⟨hx3z.cell, ?_⟩
  refine h_nil ?_
  refine go2 ?_
  exact end_cell Try.results99 rfl hxz.cell ⟨y, _, rfl, hmz.top, by omega, fun xs h => by have := (hrs xs h).1; omega, hsz, hgz2⟩

end Go.Proofs.Ytlodnhflfijomaa
