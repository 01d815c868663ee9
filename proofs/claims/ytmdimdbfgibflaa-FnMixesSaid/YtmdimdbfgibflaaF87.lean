/- Contracts: draws for the laws of mixes and of words that do nothing. -/
import Derived.Test.YtmdimdbfgibflaaF86
namespace Go.Proofs.Ytmdimdbfgibflaa
open Go.Mem Go.RowKit
set_option linter.unusedVariables false
set_option linter.unusedSimpArgs false

set_option maxHeartbeats 8000000 in
set_option maxRecDepth 100000 in
theorem DrawMixAt_any (c : Value) (bs : List Int) (w : World) (hcl : CL w c bs) :
    Ret Try.prog 43 #[c] w fun r w' => ∃ (x y : Value) (f g : Int) (xss yss : List (List Int)), r = .tuple #[.agg #[x], .int .i64 f, .agg #[y], .int .i64 g] ∧ RL w' x xss ∧ RL w' y yss ∧ Below w.heap.size w w' := by
  have sc := hcl.sv
  refine enter1 22 Try.func43 rfl Try.ntmps43 rfl (fun fr => ?_)
  refine go2 ?_
  refine s_alloc (B := w.heap.size) (wn rfl) rfl (Nat.le_refl _) (fun w0 p2 hx2 hg0 hp2 => ?_)
  have hb0 := below_of_grownBy hg0
  have z0 := hb0.size
  have hlt2 := hx2.lt
  refine go2 ?_
  refine s_alloc (B := w.heap.size) (wn rfl) rfl z0 (fun w00 p4 hx4 hg00 hp4 => ?_)
  have hb00 := below_of_grownBy hg00
  have z00 := hb00.size
  have hlt4 := hx4.lt
  replace hx2 := hx2.below hb00
  replace hb0 := hb0.trans (hb00.mono z0)
  refine go2 ?_
  refine s_call1 (wn rfl) rfl rfl (l01From_any c bs _ (hcl.below hb0)) ?_
  rintro _ v0 ⟨q, rfl, hs, hbf⟩
  have zf := hbf.size
  have hql := hs.lt
  have hq1 := hs.low
  replace hx2 := hx2.below hbf
  replace hx4 := hx4.below hbf
  obtain ⟨B, hBe⟩ : ∃ B, B = w00.heap.size := ⟨_, rfl⟩
  rw [← hBe] at hs
  have hB1 := hb0.trans (hbf.mono (by omega))
  refine go2 ?_
  refine s_call1 (wn rfl) rfl rfl (l08Two_any q B c bs _ hs) ?_
  rintro _ v1 ⟨x, y, z1, z2, xss, yss, rfl, hm, hk, ⟨hxl, hxr⟩, ⟨hyl, hyr⟩, hs', hgq⟩
  have zv1 := hgq.size
  replace hs := hs'
  replace hx2 := hx2.kept hgq (by intro e; have := Option.some.inj e; omega)
  replace hx4 := hx4.kept hgq (by intro e; have := Option.some.inj e; omega)
  have hg := hgq
  clear hgq
  refine go2 ?_
  refine s_p (wn rfl) rfl (y_x40 rfl) ?_
  refine s_p (wn rfl) rfl (y_x41 rfl) ?_
  refine s_p (wn rfl) rfl (y_x42 rfl) ?_
  refine s_p (wn rfl) rfl (y_x43 rfl) ?_
  refine go2 ?_
  refine s_alloc (B := v0.heap.size) (wn rfl) rfl (by first | exact Nat.le_refl _ | omega) (fun v2 p6 hx6 hga hpp6 => ?_)
  have hba := below_of_grownBy hga
  have zv2 := hba.size
  replace hs := hs.below hba
  replace hx2 := hx2.below hba
  replace hx4 := hx4.below hba
  replace hm := hm.below hba
  replace hk := hk.below hba
  replace hg := gr_step hg (grownBy_of_below hba none) (fun k hk => by cases hk)
  clear hba hga
  have hltp6 := hx6.lt
  refine go2 ?_
  refine s_alloc (B := v0.heap.size) (wn rfl) rfl (by first | exact Nat.le_refl _ | omega) (fun v3 p8 hx8 hga hpp8 => ?_)
  have hba := below_of_grownBy hga
  have zv3 := hba.size
  replace hs := hs.below hba
  replace hx2 := hx2.below hba
  replace hx4 := hx4.below hba
  replace hm := hm.below hba
  replace hk := hk.below hba
  replace hx6 := hx6.below hba
  replace hg := gr_step hg (grownBy_of_below hba none) (fun k hk => by cases hk)
  clear hba hga
  have hltp8 := hx8.lt
  have hlt68 : p6.block < p8.block := by have := hpp8; omega
  refine go2 ?_
  refine s_storeBox (wn rfl) rfl rfl hm.sv.one hx6 (fun v4 hxN hgp => ?_)
  have zv4 := hgp.size
  replace hs := hs.kept hgp (fun k hk => by cases hk; exact ⟨by have := hs.low; omega, by omega⟩)
  replace hx2 := hx2.kept hgp (by intro e; have := Option.some.inj e; omega)
  replace hx4 := hx4.kept hgp (by intro e; have := Option.some.inj e; omega)
  replace hm := hm.box hx6 (by decide) (by decide) hgp
  replace hk := hk.box hx6 (by decide) (by decide) hgp
  replace hx8 := hx8.kept hgp (by intro e; have := Option.some.inj e; omega)
  replace hx6 := hxN
  replace hg := gr_step hg hgp (fun k hk => by cases hk; omega)
  clear hgp
  refine go2 ?_
  refine go2 ?_
  refine s_storeBox (wn rfl) rfl rfl hk.sv.one hx8 (fun v5 hxN hgp => ?_)
  have zv5 := hgp.size
  replace hs := hs.kept hgp (fun k hk => by cases hk; exact ⟨by have := hs.low; omega, by omega⟩)
  replace hx2 := hx2.kept hgp (by intro e; have := Option.some.inj e; omega)
  replace hx4 := hx4.kept hgp (by intro e; have := Option.some.inj e; omega)
  replace hm := hm.box hx8 (by decide) (by decide) hgp
  replace hk := hk.box hx8 (by decide) (by decide) hgp
  replace hx6 := hx6.kept hgp (by intro e; have := Option.some.inj e; omega)
  replace hx8 := hxN
  replace hg := gr_step hg hgp (fun k hk => by cases hk; omega)
  clear hgp
  have hc6 := hx6.cell
  have hc8 := hx8.cell
  have hlow6 := hx6.low
  have hlow8 := hx8.low
  refine go2 ?_
  refine region_hS (fun w' => w'.cell? p6 = some x ∧ w'.cell? p8 = some y) mixed (fun v6 cr => ?_)
  have zv6 := cr.size
  replace hs := hs.below cr
  replace hx2 := hx2.below cr
  replace hx4 := hx4.below cr
  replace hm := hm.below cr
  replace hk := hk.below cr
  replace hx6 := hx6.below cr
  replace hx8 := hx8.below cr
  replace hc6 := cell_below hc6 cr
  replace hc8 := cell_below hc8 cr
  replace hg := gr_step hg (grownBy_of_below cr none) (fun k hk => by cases hk)
  refine h_p 0 ⟨hc6, hc8⟩ ?_ (hrun := fun w' h => by obtain ⟨h1, h2⟩ := h; exact yl)
  refine h_p 1 ⟨hc6, hc8⟩ ?_ (hrun := fun w' h => by obtain ⟨h1, h2⟩ := h; exact yl)
  refine h_p 2 ⟨hc6, hc8⟩ ?_ (hrun := fun w' h => by obtain ⟨h1, h2⟩ := h; exact yl)
  refine h_p 3 ⟨hc6, hc8⟩ ?_ (hrun := fun w' h => by obtain ⟨h1, h2⟩ := h; exact yl)
  have hB2 := hB1.trans (gr_below hg hB1.size (by omega))
  refine h_one 4 ?_
  refine s_storeBox (wn rfl) rfl rfl hm.sv.one hx2 (fun v7 hxz hgz => ?_)
  have zz := hgz.size
  have hm2 := hm.box hx2 (by decide) (by decide) hgz
  have hk2 := hk.box hx2 (by decide) (by decide) hgz
  have hB3 := hB2.trans (hx2.below_of hgz hB2.size)
  have hx4z := hx4.kept hgz (by intro e; have := Option.some.inj e; omega)
  have hc6 := cell_kept hc6 hgz (by intro e; have := Option.some.inj e; omega)
  have hc8 := cell_kept hc8 hgz (by intro e; have := Option.some.inj e; omega)
  refine w_nil ?_
  refine h_on ⟨⟨hc6, hc8⟩, ?_⟩
  refine h_p 5 ⟨hc6, hc8⟩ ?_ (hrun := fun w' h => by obtain ⟨h1, h2⟩ := h; exact yl)
  refine h_one 6 ?_
  refine s_storeBox (wn rfl) rfl rfl hk2.sv.one hx4z (fun v8 hx4n hgz2 => ?_)
  have hm3 := hm2.box hx4z (by decide) (by decide) hgz2
  have hk3 := hk2.box hx4z (by decide) (by decide) hgz2
  have hB4 := hB3.trans (hx4z.below_of hgz2 hB3.size)
  have hx2n := hxz.kept hgz2 (by intro e; have := Option.some.inj e; omega)
  have hc6 := cell_kept hc6 hgz2 (by intro e; have := Option.some.inj e; omega)
  have hc8 := cell_kept hc8 hgz2 (by intro e; have := Option.some.inj e; omega)
  refine w_nil ?_
  refine h_on ⟨⟨hc6, hc8⟩, ?_⟩
  refine h_p 7 ⟨hc6, hc8⟩ ?_ (hrun := fun w' h => by obtain ⟨h1, h2⟩ := h; exact yl)
  refine h_nil ?_
  refine go2 ?_
  exact end_cell4 Try.results43 rfl rfl rfl rfl hx2n.cell hx4n.cell ⟨x, y, z1, z2, _, _, rfl, hm3.rl, hk3.rl, hB4⟩

end Go.Proofs.Ytmdimdbfgibflaa
