/- Contracts: draws of a maniplex of rank 3, of a word, of a maniplex with a double cover. -/
import Derived.Test.YtmdimdbfgibflaaFI
import Derived.Test.YtmdimdbfgibflaaF70
namespace Go.Proofs.Ytmdimdbfgibflaa
open Go.Mem Go.RowKit
set_option linter.unusedVariables false
set_option linter.unusedSimpArgs false

set_option maxHeartbeats 8000000 in
set_option maxRecDepth 100000 in
theorem l05Rank3_any (q B : Nat) (c : Value) (bs : List Int) (w : World) (hs : Sr w B q 115 c bs) :
    Ret Try.prog 62 #[.pointer (some ⟨q, 0, none⟩)] w fun r w' => ∃ x xss, r = .agg #[x] ∧ OM w' w.heap.size w'.heap.size 34 2 x xss ∧ xss.length ≤ 6 ∧ (∀ xs ∈ xss, xs.length ≤ 1001) ∧ Sr w' B q 115 c bs ∧ w.grownBy w' (some q) := by
  have hql := hs.lt
  have hq1 := hs.low
  refine enter1 31 Try.func62 rfl Try.ntmps62 rfl (fun fr => ?_)
  refine go2 ?_
  refine s_alloc (B := w.heap.size) (wn rfl) rfl (by first | exact Nat.le_refl _ | omega) (fun v1 p2 hx2 hga hpp2 => ?_)
  have hba := below_of_grownBy hga
  have zv1 := hba.size
  replace hs := hs.below hba
  have hg := gr_step (grownBy_of_below (Below.refl _ _) (some q)) (grownBy_of_below hba none) (fun k hk => by cases hk)
  clear hba hga
  have hltp2 := hx2.lt
  refine go2 ?_
  refine s_call2 (wn rfl) rfl rfl rfl (l01Next_any q 4 B c bs _ hs (by omega)) ?_
  rintro _ v2 ⟨k, rfl, hk0, hk, hs', hgq⟩
  have zv2 := hgq.size
  replace hs := hs'
  replace hx2 := hx2.kept hgq (by intro e; have := Option.some.inj e; omega)
  replace hg := grownBy_trans hg hgq
  clear hgq
  have hk' := hk (by omega)
  refine go2 ?_
  refine cond_dec rfl (fun e0 => ?_) (fun e0 => ?_)
  · refine go2 ?_
    refine s_call2 (wn rfl) rfl rfl rfl (l02Spoil_any q B c bs 32 32 _ rfl (by omega) (by omega) hs) ?_
    rintro _ v3 ⟨x, xss, rfl, hm, hxl, hxr, hs', hgq⟩
    have zv3 := hgq.size
    replace hs := hs'
    replace hx2 := hx2.kept hgq (by intro e; have := Option.some.inj e; omega)
    replace hg := grownBy_trans hg hgq
    clear hgq
    refine go2 ?_
    refine s_storeBox (wn rfl) rfl rfl hm.sv.one hx2 (fun v4 hxz hgz => ?_)
    have hmz := hm.box hx2 (by decide) (by decide) hgz
    have hsz := hs.kept hgz (fun k hk => by cases hk; exact ⟨by have := hs.low; omega, by omega⟩)
    have hgz2 := gr_step hg hgz (fun k hk => by cases hk; omega)
    refine go2 ?_
    exact end_cell Try.results62 rfl hxz.cell ⟨x, _, rfl, (hmz.mono (by omega)).top, hxl, hxr, hsz, hgz2⟩
  refine go2 ?_
  refine s_call2 (wn rfl) rfl rfl rfl (l01Next_any q 10 B c bs _ hs (by omega)) ?_
  rintro _ v5 ⟨k2, rfl, hk20, hk2, hs', hgq⟩
  have zv5 := hgq.size
  replace hs := hs'
  replace hx2 := hx2.kept hgq (by intro e; have := Option.some.inj e; omega)
  replace hg := grownBy_trans hg hgq
  clear hgq
  have hk2' := hk2 (by omega)
  refine go2 ?_
  refine s_call2 (wn rfl) rfl rfl rfl (l02Map_any (1 + k2) q B c bs (1 + k2).toNat _ (by omega) (by omega) (by omega) hs) ?_
  rintro _ v6 ⟨x, xss, N, rfl, hm, hxl, hN, hy, hs', hgq⟩
  have zv6 := hgq.size
  replace hs := hs'
  replace hx2 := hx2.kept hgq (by intro e; have := Option.some.inj e; omega)
  replace hg := grownBy_trans hg hgq
  clear hgq
  replace hm := hm.mono (B' := w.heap.size) (by omega)
  refine go2 ?_
  refine s_alloc (B := w.heap.size) (wn rfl) rfl (by first | exact Nat.le_refl _ | omega) (fun v7 p3 hx3 hga hpp3 => ?_)
  have hba := below_of_grownBy hga
  have zv7 := hba.size
  replace hs := hs.below hba
  replace hx2 := hx2.below hba
  replace hm := hm.below hba
  replace hg := gr_step hg (grownBy_of_below hba none) (fun k hk => by cases hk)
  clear hba hga
  have hltp3 := hx3.lt
  refine go2 ?_
  refine s_storeBox (wn rfl) rfl rfl hm.sv.one hx3 (fun v8 hxN hgp => ?_)
  have zv8 := hgp.size
  replace hs := hs.kept hgp (fun k hk => by cases hk; exact ⟨by have := hs.low; omega, by omega⟩)
  replace hx2 := hx2.kept hgp (by intro e; have := Option.some.inj e; omega)
  replace hm := hm.box hx3 (by decide) (by decide) hgp
  replace hx3 := hxN
  replace hg := gr_step hg hgp (fun k hk => by cases hk; omega)
  clear hgp
  refine w_nil ?_
  refine then_normal ?_
  refine w_seq ?_
  refine meet (fun r w' => ∃ (x : Value) (xss : List (List Int)) (N : Nat), r 0 = .pointer (some ⟨q, 0, none⟩) ∧ r 2 = .pointer (some p2) ∧ r 3 = .pointer (some p3) ∧ Bx w' w.heap.size p3 26 x ∧ Bx w' w.heap.size p2 26 (.slice none 0 0) ∧ OM w' w.heap.size w'.heap.size 34 2 x xss ∧ xss.length = 3 ∧ (1 ≤ N ∧ N ≤ 40) ∧ Syst N xss ∧ Sr w' B q 115 c bs ∧ w.grownBy w' (some q)) ?_ ?_
  · refine go2 ?_
    refine s_call2 (wn rfl) rfl rfl rfl (l01Next_any q 3 B c bs _ hs (by omega)) ?_
    rintro _ v9 ⟨k3, rfl, hk30, hk3, hs', hgq⟩
    have zv9 := hgq.size
    replace hs := hs'
    replace hx2 := hx2.kept hgq (by intro e; have := Option.some.inj e; omega)
    replace hm := hm.kept hgq (by omega)
    replace hx3 := hx3.kept hgq (by intro e; have := Option.some.inj e; omega)
    replace hg := grownBy_trans hg hgq
    clear hgq
    have hk3' := hk3 (by omega)
    refine go2 ?_
    refine cond_dec rfl (fun e1 => ?_) (fun e1 => ?_)
    · refine go2 ?_
      refine s_call2 (wn rfl) rfl rfl rfl (l01Next_any q 6 B c bs _ hs (by omega)) ?_
      rintro _ v10 ⟨k4, rfl, hk40, hk4, hs', hgq⟩
      have zv10 := hgq.size
      replace hs := hs'
      replace hx2 := hx2.kept hgq (by intro e; have := Option.some.inj e; omega)
      replace hm := hm.kept hgq (by omega)
      replace hx3 := hx3.kept hgq (by intro e; have := Option.some.inj e; omega)
      replace hg := grownBy_trans hg hgq
      clear hgq
      have hk4' := hk4 (by omega)
      refine go2 ?_
      refine s_call1 (wn rfl) rfl rfl (l02Polygon_any (1 + k4) (1 + k4).toNat _ (by omega) (by omega) (by omega)) ?_
      rintro _ v11 ⟨px, pss, rfl, hp, hpl, hpy, hbq⟩
      have zv11 := hbq.size
      replace hs := hs.below hbq
      replace hx2 := hx2.below hbq
      replace hm := hm.below hbq
      replace hx3 := hx3.below hbq
      replace hg := gr_step hg (grownBy_of_below hbq none) (fun k hk => by cases hk)
      clear hbq
      refine go2 ?_
      refine s_build2 (B := w.heap.size) (wn rfl) rfl rfl rfl (by omega) (fun rv v12 hr sr hga _ => ?_)
      have hba := below_of_grownBy hga
      have zv12 := hba.size
      replace hs := hs.below hba
      replace hx2 := hx2.below hba
      replace hm := hm.below hba
      replace hx3 := hx3.below hba
      replace hp := hp.below hba
      replace hg := gr_step hg (grownBy_of_below hba none) (fun k hk => by cases hk)
      clear hba hga
      refine go2 ?_
      refine s_build1V (B := w.heap.size) (wn rfl) rfl rfl sr.one (by omega) (fun ev v13 he se hga _ => ?_)
      have hba := below_of_grownBy hga
      have zv13 := hba.size
      replace hs := hs.below hba
      replace hx2 := hx2.below hba
      replace hm := hm.below hba
      replace hx3 := hx3.below hba
      replace hp := hp.below hba
      replace hr := hr.below hba
      replace hg := gr_step hg (grownBy_of_below hba none) (fun k hk => by cases hk)
      clear hba hga
      have hrl := RL.one he hr.il
      have hEs : Syst 2 [[1, 0]] := by
        intro m hm
        simp at hm; subst hm
        exact ⟨rfl, fun x hx => by simp at hx; rcases hx with rfl | rfl <;> omega⟩
      refine go2 ?_
      refine s_p (wn rfl) rfl (y_bld1 rfl se.one) ?_
      refine go2 ?_
      refine s_call2 (wn rfl) rfl rfl rfl (l02Beside_any _ _ _ _ (2 * (1 + k4).toNat) 2 _ hp.rl hrl hpy hEs (by omega) (by decide) (by omega) (by decide) (by omega) (by omega) (by decide)) ?_
      rintro _ v14 ⟨y, yss, rfl, hd, hdl, hdy, hbq⟩
      have zv14 := hbq.size
      replace hs := hs.below hbq
      replace hx2 := hx2.below hbq
      replace hm := hm.below hbq
      replace hx3 := hx3.below hbq
      replace hp := hp.below hbq
      replace hr := hr.below hbq
      replace hg := gr_step hg (grownBy_of_below hbq none) (fun k hk => by cases hk)
      clear hbq
      have hd1 : ([[1, 0]] : List (List Int)).length = 1 := rfl
      replace hd := (hd.mono (B' := w.heap.size) (by omega)).top
      refine go2 ?_
      refine s_storeBox (wn rfl) rfl rfl hd.sv.one hx3 (fun v15 hxN hgp => ?_)
      have zv15 := hgp.size
      replace hs := hs.kept hgp (fun k hk => by cases hk; exact ⟨by have := hs.low; omega, by omega⟩)
      replace hx2 := hx2.kept hgp (by intro e; have := Option.some.inj e; omega)
      replace hm := hm.box hx3 (by decide) (by decide) hgp
      replace hd := hd.box hx3 (by decide) (by decide) hgp
      replace hx3 := hxN
      replace hg := gr_step hg hgp (fun k hk => by cases hk; omega)
      clear hgp
      refine go2 ?_
      exact ⟨y, _, 2 * (1 + k4).toNat * 2, rfl, rfl, rfl, hx3, hx2, hd.top, by omega, by omega, hdy, hs, hg⟩
    refine go2 ?_
    exact ⟨x, _, N, rfl, rfl, rfl, hx3, hx2, hm.top, hxl, by omega, hy, hs, hg⟩
  clear hs hg hx2 hx3 hm hy hN hxl
  rintro r v16 ⟨x, xss, N, r0, r2, r3, hx3, hx2, hm, hxl, hN, hy, hs, hg⟩
  have zv16 := hg.size
  have hc3 := hx3.cell
  have hlt3 := hx3.lt
  have hlow3 := hx3.low
  refine know (t := 0) r0 ?_; refine know (t := 2) r2 ?_; refine know (t := 3) r3 ?_
  refine go2 ?_
  refine region_hS (fun w' => w'.cell? p3 = some x) mixed (fun v17 cr => ?_)
  have zv17 := cr.size
  replace hs := hs.below cr
  replace hx3 := hx3.below cr
  replace hx2 := hx2.below cr
  replace hm := hm.below cr
  replace hc3 := cell_below hc3 cr
  replace hg := gr_step hg (grownBy_of_below cr none) (fun k hk => by cases hk)
  refine h_p 0 hc3 ?_ (hrun := fun w' h => yl)
  refine h_p 1 hc3 ?_ (hrun := fun w' h => yl)
  refine h_p 2 hc3 ?_ (hrun := fun w' h => yl)
  refine h_one 3 ?_
  refine s_call1 (wn rfl) rfl rfl (l02Flags_any _ _ _ hm.rl (by omega)) ?_
  rintro _ v18 ⟨rfl, hbq⟩
  have zv18 := hbq.size
  replace hs := hs.below hbq
  replace hx3 := hx3.below hbq
  replace hx2 := hx2.below hbq
  replace hm := hm.below hbq
  replace hc3 := cell_below hc3 hbq
  replace hg := gr_step hg (grownBy_of_below hbq none) (fun k hk => by cases hk)
  clear hbq
  rw [hy.nf (by omega)]
  refine w_nil ?_
  refine h_on ⟨hc3, ?_⟩
  refine h_one 4 ?_
  refine s_call2 (wn rfl) rfl rfl rfl (l01Draw_any q B c bs (N : Int) N _ rfl (by omega) hs) ?_
  rintro pv v19 ⟨ps, hp, hpl, hpr, hs', hgq⟩
  have zv19 := hgq.size
  replace hs := hs'
  replace hx3 := hx3.kept hgq (by intro e; have := Option.some.inj e; omega)
  replace hx2 := hx2.kept hgq (by intro e; have := Option.some.inj e; omega)
  replace hm := hm.kept hgq (by omega)
  replace hc3 := cell_kept hc3 hgq (by intro e; have := Option.some.inj e; omega)
  replace hg := grownBy_trans hg hgq
  clear hgq
  refine w_nil ?_
  refine h_on ⟨hc3, ?_⟩
  refine h_one 5 ?_
  refine s_call2 (wn rfl) rfl rfl rfl (l02RenumberS_any _ _ _ _ N _ hm.rl hp.il hy (by omega) (by omega) (by omega) hpl (fun y h0 h2 => hpr _ (gi_mem h0 (by omega)))) ?_
  rintro _ v20 ⟨y, rfl, hd, hbq⟩
  have zv20 := hbq.size
  replace hs := hs.below hbq
  replace hx3 := hx3.below hbq
  replace hx2 := hx2.below hbq
  replace hm := hm.below hbq
  replace hc3 := cell_below hc3 hbq
  replace hp := hp.below hbq
  replace hg := gr_step hg (grownBy_of_below hbq none) (fun k hk => by cases hk)
  clear hbq
  have hys := hy.ren hpl hpr
  have hyl : (ren xss ps).length = 3 := by unfold ren; rw [List.length_map, hxl]
  refine w_nil ?_
  refine h_on ⟨hc3, ?_⟩
  refine h_one 6 ?_
  refine s_storeBox (wn rfl) rfl rfl hd.sv.one hx2 (fun v21 hxz hgz => ?_)
  have hmz := hd.box hx2 (by decide) (by decide) hgz
  have hsz := hs.kept hgz (fun k hk => by cases hk; exact ⟨by have := hs.low; omega, by omega⟩)
  have hgz2 := gr_step hg hgz (fun k hk => by cases hk; omega)
  have hc3 := cell_kept hc3 hgz (by intro e; have := Option.some.inj e; omega)
  refine w_nil ?_
  refine h_on ⟨hc3, ?_⟩
  refine h_nil ?_
  refine go2 ?_
  exact end_cell Try.results62 rfl hxz.cell ⟨y, _, rfl, (hmz.mono (by omega)).top, by omega, fun xs hx => by have := (hys xs hx).1; omega, hsz, hgz2⟩

set_option maxHeartbeats 8000000 in
set_option maxRecDepth 100000 in
theorem DrawOppositeOf_any (c : Value) (bs : List Int) (w : World) (hcl : CL w c bs) :
    Ret Try.prog 38 #[c] w fun r w' => ∃ x xss, r = .agg #[x] ∧ RL w' x xss ∧ Below w.heap.size w w' := by
  have sc := hcl.sv
  refine enter1 6 Try.func38 rfl Try.ntmps38 rfl (fun fr => ?_)
  refine go2 ?_
  refine s_alloc (B := w.heap.size) (wn rfl) rfl (Nat.le_refl _) (fun w0 p2 hx2 hg0 hp2 => ?_)
  have hb0 := below_of_grownBy hg0
  have z0 := hb0.size
  have hlt2 := hx2.lt
  refine go2 ?_
  refine s_call1 (wn rfl) rfl rfl (l01From_any c bs _ (hcl.below hb0)) ?_
  rintro _ v0 ⟨q, rfl, hs, hbf⟩
  have zf := hbf.size
  have hql := hs.lt
  have hq1 := hs.low
  replace hx2 := hx2.below hbf
  obtain ⟨B, hBe⟩ : ∃ B, B = w0.heap.size := ⟨_, rfl⟩
  rw [← hBe] at hs
  have hB1 := hb0.trans (hbf.mono z0)
  refine go2 ?_
  refine s_call1 (wn rfl) rfl rfl (l05Rank3_any q B c bs _ hs) ?_
  rintro _ v1 ⟨x, xss, rfl, hm, _, _, hs', hgq⟩
  have zv1 := hgq.size
  replace hs := hs'
  replace hx2 := hx2.kept hgq (by intro e; have := Option.some.inj e; omega)
  have hg := hgq
  clear hgq
  refine go2 ?_
  refine s_storeBox (wn rfl) rfl rfl hm.sv.one hx2 (fun v2 hxz hgz => ?_)
  have hmz := hm.box hx2 (by decide) (by decide) hgz
  have hB2 := hB1.trans (gr_below hg hB1.size (by omega))
  have hB3 := hB2.trans (hx2.below_of hgz hB2.size)
  refine go2 ?_
  exact end_cell Try.results38 rfl hxz.cell ⟨x, _, rfl, hmz.rl, hB3⟩

set_option maxHeartbeats 8000000 in
set_option maxRecDepth 100000 in
theorem DrawDoubleCover_any (c : Value) (bs : List Int) (w : World) (hcl : CL w c bs) :
    Ret Try.prog 20 #[c] w fun r w' => ∃ x xss, r = .agg #[x] ∧ RL w' x xss ∧ Below w.heap.size w w' := by
  have sc := hcl.sv
  refine enter1 19 Try.func20 rfl Try.ntmps20 rfl (fun fr => ?_)
  refine go2 ?_
  refine s_alloc (B := w.heap.size) (wn rfl) rfl (Nat.le_refl _) (fun w0 p2 hx2 hg0 hp2 => ?_)
  have hb0 := below_of_grownBy hg0
  have z0 := hb0.size
  have hlt2 := hx2.lt
  refine go2 ?_
  refine s_call1 (wn rfl) rfl rfl (l01From_any c bs _ (hcl.below hb0)) ?_
  rintro _ v0 ⟨q, rfl, hs, hbf⟩
  have zf := hbf.size
  have hql := hs.lt
  have hq1 := hs.low
  replace hx2 := hx2.below hbf
  obtain ⟨B, hBe⟩ : ∃ B, B = w0.heap.size := ⟨_, rfl⟩
  rw [← hBe] at hs
  have hB1 := hb0.trans (hbf.mono z0)
  refine go2 ?_
  refine s_call2 (wn rfl) rfl rfl rfl (l01Next_any q 2 B c bs _ hs (by omega)) ?_
  rintro _ v1 ⟨k, rfl, hk0, hk, hs', hgq⟩
  have zv1 := hgq.size
  replace hs := hs'
  replace hx2 := hx2.kept hgq (by intro e; have := Option.some.inj e; omega)
  have hg := hgq
  clear hgq
  have hk' := hk (by omega)
  refine go2 ?_
  refine cond_dec rfl (fun e0 => ?_) (fun e0 => ?_)
  · refine go2 ?_
    refine s_call2 (wn rfl) rfl rfl rfl (l01Next_any q 6 B c bs _ hs (by omega)) ?_
    rintro _ v2 ⟨k2, rfl, hk20, hk2, hs', hgq⟩
    have zv2 := hgq.size
    replace hs := hs'
    replace hx2 := hx2.kept hgq (by intro e; have := Option.some.inj e; omega)
    replace hg := grownBy_trans hg hgq
    clear hgq
    have hk2' := hk2 (by omega)
    refine go2 ?_
    refine s_call2 (wn rfl) rfl rfl rfl (l02Map_any (1 + k2) q B c bs (1 + k2).toNat _ (by omega) (by omega) (by omega) hs) ?_
    rintro _ v3 ⟨x, xss, N, rfl, hm, hxl, hN, hy, hs', hgq⟩
    have zv3 := hgq.size
    replace hs := hs'
    replace hx2 := hx2.kept hgq (by intro e; have := Option.some.inj e; omega)
    replace hg := grownBy_trans hg hgq
    clear hgq
    refine go2 ?_
    refine s_storeBox (wn rfl) rfl rfl hm.sv.one hx2 (fun v4 hxz hgz => ?_)
    have hmz := hm.box hx2 (by decide) (by decide) hgz
    have hB2 := hB1.trans (gr_below hg hB1.size (by omega))
    have hB3 := hB2.trans (hx2.below_of hgz hB2.size)
    refine go2 ?_
    exact end_cell Try.results20 rfl hxz.cell ⟨x, _, rfl, hmz.rl, hB3⟩
  refine go2 ?_
  refine s_buildI (B := v0.heap.size) [40, 40, 400] (wn rfl) rfl rfl rfl rfl (by omega) (fun tb v5 ht st hga _ => ?_)
  have hba := below_of_grownBy hga
  have zv5 := hba.size
  replace hs := hs.below hba
  replace hx2 := hx2.below hba
  replace hg := gr_step hg (grownBy_of_below hba none) (fun k hk => by cases hk)
  clear hba hga
  refine go2 ?_
  refine s_call2 (wn rfl) rfl rfl rfl (l01Pick_any q B c bs _ _ v0.heap.size _ ht hql (by simp) (by simp) hs) ?_
  rintro _ v6 ⟨z, hz, rfl, hs', hgq⟩
  have zv6 := hgq.size
  replace hs := hs'
  replace hx2 := hx2.kept hgq (by intro e; have := Option.some.inj e; omega)
  replace ht := ht.kept hgq (ht.apart_blk (by omega))
  replace hg := grownBy_trans hg hgq
  clear hgq
  have hzz : z = 40 ∨ z = 400 := by simp at hz; omega
  refine go2 ?_
  refine s_call2 (wn rfl) rfl rfl rfl (l02Spoil_any q B c bs z z.toNat _ (by omega) (by omega) (by omega) hs) ?_
  rintro _ v7 ⟨x, xss, rfl, hm, _, _, hs', hgq⟩
  have zv7 := hgq.size
  replace hs := hs'
  replace hx2 := hx2.kept hgq (by intro e; have := Option.some.inj e; omega)
  replace ht := ht.kept hgq (ht.apart_blk (by omega))
  replace hg := grownBy_trans hg hgq
  clear hgq
  refine go2 ?_
  refine s_storeBox (wn rfl) rfl rfl hm.sv.one hx2 (fun v8 hxz hgz => ?_)
  have hmz := hm.box hx2 (by decide) (by decide) hgz
  have hB2 := hB1.trans (gr_below hg hB1.size (by omega))
  have hB3 := hB2.trans (hx2.below_of hgz hB2.size)
  refine go2 ?_
  exact end_cell Try.results20 rfl hxz.cell ⟨x, _, rfl, hmz.rl, hB3⟩

end Go.Proofs.Ytmdimdbfgibflaa
