/- The draws of sections. -/
import Derived.Test.YtinbiahmipfibaaGreatF67
import Derived.Test.YtinbiahmipfibaaGreatF72
namespace Go.Proofs.YtinbiahmipfibaaGreat
open Go.Mem Go.RowKit
set_option linter.unusedVariables false
set_option linter.unusedSimpArgs false

set_option maxHeartbeats 8000000 in
set_option maxRecDepth 100000 in
theorem l04Ranks_any (q B : Nat) (c : Value) (bs : List Int) (v : Value) (xss : List (List Int)) (w : World) (hv : RL w v xss) (hl : xss.length ≤ 6) (hs : Sr w B q 66 c bs) :
    Ret Tryz.prog 19 #[.pointer (some ⟨q, 0, none⟩), .agg #[v]] w fun r w' => ∃ z1 z2 : Int, r = .tuple #[.int .i64 z1, .int .i64 z2] ∧ Sr w' B q 66 c bs ∧ w.grownBy w' (some q) := by
  have hql := hs.lt
  have hq1 := hs.low
  have shv := hv.sv
  refine enter2 37 Tryz.func19 rfl Tryz.ntmps19 rfl (fun fr => ?_)
  refine go2 ?_
  refine s_box (wn rfl) rfl rfl (agg_cells shv) (fun v1 hbx _ _ hga => ?_)
  have hba := below_of_grownBy hga
  have zv1 := hba.size
  replace hs := hs.below hba
  have hg := gr_step (grownBy_of_below (Below.refl _ _) (some q)) (grownBy_of_below hba none) (fun k hk => by cases hk)
  clear hba hga
  refine go2 ?_
  refine s_call2 (wn rfl) rfl rfl rfl (l01Next_any q xss.length B c bs _ hs (by omega)) ?_
  rintro _ v2 ⟨z1, rfl, h10, h1, hs', hgq⟩
  have zv2 := hgq.size
  replace hs := hs'
  replace hg := grownBy_trans hg hgq
  clear hgq
  have r1 : 0 ≤ z1 ∧ z1 ≤ 6 := by
    by_cases h : (xss.length : Int) < 1
    · have := h10 h; omega
    · have := h1 (by omega); omega
  refine go2 ?_
  refine s_call2 (wn rfl) rfl rfl rfl (l01Next_any q ((xss.length : Int) - z1) B c bs _ hs (by omega)) ?_
  rintro _ v3 ⟨z2, rfl, h20, h2, hs', hgq⟩
  have zv3 := hgq.size
  replace hs := hs'
  replace hg := grownBy_trans hg hgq
  clear hgq
  have r2 : 0 ≤ z2 ∧ z2 ≤ 6 := by
    by_cases h : (xss.length : Int) - z1 < 1
    · have := h20 h; omega
    · have := h2 (by omega); omega
  refine go2 ?_
  refine s_call2 (wn rfl) rfl rfl rfl (l01Next_any q 20 B c bs _ hs (by omega)) ?_
  rintro _ v4 ⟨z3, rfl, h30, h3, hs', hgq⟩
  have zv4 := hgq.size
  replace hs := hs'
  replace hg := grownBy_trans hg hgq
  clear hgq
  refine go2 ?_
  refine cond_dec rfl (fun e0 => ?_) (fun e0 => ?_)
  · refine go2 ?_
    refine s_buildI (B := w.heap.size) [-1, z1 + z2, z1, 5] (wn rfl) rfl rfl rfl rfl (by omega) (fun tb v5 ht st hga _ => ?_)
    have hba := below_of_grownBy hga
    have zv5 := hba.size
    replace hs := hs.below hba
    replace hg := gr_step hg (grownBy_of_below hba none) (fun k hk => by cases hk)
    clear hba hga
    refine go2 ?_
    refine s_call2 (wn rfl) rfl rfl rfl (l01Pick_any q B c bs _ _ w.heap.size _ ht hql (by simp) (by simp) hs) ?_
    rintro _ v6 ⟨y1, hy1, rfl, hs', hgq⟩
    have zv6 := hgq.size
    replace hs := hs'
    replace hg := grownBy_trans hg hgq
    clear hgq
    refine go2 ?_
    refine s_buildI (B := w.heap.size) [(xss.length : Int), z1, 0] (wn rfl) rfl rfl rfl rfl (by omega) (fun tb2 v7 ht2 st2 hga _ => ?_)
    have hba := below_of_grownBy hga
    have zv7 := hba.size
    replace hs := hs.below hba
    replace hg := gr_step hg (grownBy_of_below hba none) (fun k hk => by cases hk)
    clear hba hga
    refine go2 ?_
    refine s_call2 (wn rfl) rfl rfl rfl (l01Pick_any q B c bs _ _ w.heap.size _ ht2 hql (by simp) (by simp) hs) ?_
    rintro _ v8 ⟨y2, hy2, rfl, hs', hgq⟩
    have zv8 := hgq.size
    replace hs := hs'
    replace hg := grownBy_trans hg hgq
    clear hgq
    refine go2 ?_
    exact end_two Tryz.results19 rfl rfl ⟨y1, y2, rfl, hs, hg⟩
  refine go2 ?_
  exact end_two Tryz.results19 rfl rfl ⟨z1, z1 + z2, rfl, hs, hg⟩

set_option maxHeartbeats 8000000 in
set_option maxRecDepth 100000 in
theorem DrawSectionForms_any (c : Value) (bs : List Int) (w : World) (hcl : CL w c bs) :
    Ret Tryz.prog 5 #[c] w fun r w' => ∃ x xss, ∃ i k : Int, r = .tuple #[.agg #[x], .int .i64 i, .int .i64 k] ∧ RL w' x xss ∧ Below w.heap.size w w' := by
  have sc := hcl.sv
  refine enter1 22 Tryz.func5 rfl Tryz.ntmps5 rfl (fun fr => ?_)
  refine go2 ?_
  refine s_alloc (B := w.heap.size) (wn rfl) rfl (Nat.le_refl _) (fun w0 p2 hx2 hg0 hp2 => ?_)
  have hb0 := below_of_grownBy hg0
  have z0 := hb0.size
  have hlt2 := hx2.lt
  refine go2 ?_
  refine s_call1 (wn rfl) rfl rfl (l01From_any c bs _ (hcl.below hb0)) ?_
  rintro _ v0 ⟨q, rfl, hs, hbf⟩
  have zf := hbf.size
  have hql := hs.lt
  have hq1 := hs.low
  replace hx2 := hx2.below hbf
  obtain ⟨B, hBe⟩ : ∃ B, B = w0.heap.size := ⟨_, rfl⟩
  rw [← hBe] at hs
  have hB1 := hb0.trans (hbf.mono z0)
  refine go2 ?_
  refine s_call2 (wn rfl) rfl rfl rfl (l02Spoil_any q B c bs 40 40 _ rfl (by omega) (by omega) hs) ?_
  rintro _ v1 ⟨x, xss, rfl, hm, hxl, hxr, hs', hgq⟩
  have zv1 := hgq.size
  replace hs := hs'
  replace hx2 := hx2.kept hgq (by intro e; have := Option.some.inj e; omega)
  have hg := hgq
  clear hgq
  refine go2 ?_
  refine s_alloc (B := v0.heap.size) (wn rfl) rfl (by first | exact Nat.le_refl _ | omega) (fun v2 p6 hx6 hga hpp6 => ?_)
  have hba := below_of_grownBy hga
  have zv2 := hba.size
  replace hs := hs.below hba
  replace hx2 := hx2.below hba
  replace hm := hm.below hba
  replace hg := gr_step hg (grownBy_of_below hba none) (fun k hk => by cases hk)
  clear hba hga
  have hltp6 := hx6.lt
  refine go2 ?_
  refine s_storeBox (wn rfl) rfl rfl hm.sv.one hx6 (fun v3 hxN hgp => ?_)
  have zv3 := hgp.size
  replace hs := hs.kept hgp (fun k hk => by cases hk; exact ⟨by have := hs.low; omega, by omega⟩)
  replace hx2 := hx2.kept hgp (by intro e; have := Option.some.inj e; omega)
  replace hm := hm.box hx6 (by decide) (by decide) hgp
  replace hx6 := hxN
  replace hg := gr_step hg hgp (fun k hk => by cases hk; omega)
  clear hgp
  have hc6 := hx6.cell
  have sm := hm.sv
  refine go2 ?_
  refine s_call2 (wn rfl) rfl rfl rfl (l04Ranks_any q B c bs _ _ _ hm.rl hxl hs) ?_
  rintro _ v4 ⟨z1, z2, rfl, hs', hgq⟩
  have zv4 := hgq.size
  replace hs := hs'
  replace hx2 := hx2.kept hgq (by intro e; have := Option.some.inj e; omega)
  replace hm := hm.kept hgq (by omega)
  replace hx6 := hx6.kept hgq (by intro e; have := Option.some.inj e; omega)
  replace hc6 := cell_kept hc6 hgq (by intro e; have := Option.some.inj e; omega)
  replace hg := grownBy_trans hg hgq
  clear hgq
  refine go2 ?_
  refine s_storeBox (wn rfl) rfl rfl sm.one hx2 (fun v5 hxz hgz => ?_)
  have hmz := hm.box hx2 (by decide) (by decide) hgz
  have hB2 := hB1.trans (gr_below hg hB1.size (by omega))
  have hB3 := hB2.trans (hx2.below_of hgz hB2.size)
  refine go2 ?_
  exact end_cell3 Tryz.results5 rfl rfl rfl hxz.cell ⟨x, xss, z1, z2, rfl, hmz.rl, hB3⟩

end Go.Proofs.YtinbiahmipfibaaGreat
